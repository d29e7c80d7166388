/- Contracts: cocycles. -/
import Derived.Test.YtanembgijdkagaaQeA12
namespace Go.Proofs.Ytanembgijdkagaa.V
open V.Enc (enc)
open Go.RowKit G D
set_option linter.unusedVariables false
set_option linter.unusedSimpArgs false
set_option maxHeartbeats 400000
set_option maxRecDepth 4000
attribute [local irreducible] AW ARg ARA ARet MRet ASil AC AM
def fitC (a b : Rep) (c : List Mat) (i : Nat) : Bool := isMat a.p (c.getD i default) && decide ((c.getD i default).c = a.d.getD (a.q.fr.getD i default).toNat default) && decide ((c.getD i default).r = b.d.getD (a.q.to.getD i default).toNat default)
def isCoc (a b : Rep) (c : List Mat) : Bool := fitR a b && decide (c.length = a.m.length) && (List.range c.length).all (fitC a b c)
/-- zero matrices for the arrows -/
def cocZ (a b : Rep) : List Mat := (List.range a.q.fr.length).map fun i => zeroM (b.d.getD (a.q.to.getD i default).toNat default) (a.d.getD (a.q.fr.getD i default).toNat default)
theorem cocZ_len (a b : Rep) : (cocZ a b).length = a.q.fr.length := by simp [cocZ]
theorem cocZ_get (a b : Rep) {i : Nat} (h : i < a.q.fr.length) : (cocZ a b).getD i default = zeroM (b.d.getD (a.q.to.getD i default).toNat default) (a.d.getD (a.q.fr.getD i default).toNat default) := by simp [cocZ, h]
theorem cocZ_take {a b : Rep} {k : Nat} (h : k < a.q.fr.length) : (cocZ a b).take (k + 1) = (cocZ a b).take k ++ [zeroM (b.d.getD (a.q.to.getD k default).toNat default) (a.d.getD (a.q.fr.getD k default).toNat default)] := by
  simp only [cocZ, ← List.map_take, range_take h, List.map_append, List.map_cons, List.map_nil]
/-- what is known of a pair that fits -/
structure Fits (a b : Rep) : Prop where
  q : a.q = b.q
  p : a.p = b.p
  f : isF a.p = true
  ok : okQ a.q = true
  da : (a.d.length : Int) = a.q.n
  db : (b.d.length : Int) = a.q.n
  ba : ∀ j, j < a.d.length → 0 ≤ a.d.getD j default ∧ a.d.getD j default ≤ 4
  bb : ∀ j, j < b.d.length → 0 ≤ b.d.getD j default ∧ b.d.getD j default ≤ 4
  ma : a.m.length = a.q.fr.length
  mb : b.m.length = a.q.fr.length
theorem Fits.of {a b : Rep} (h : fitR a b = true) : Fits a b := by
  obtain ⟨h1, h2, h3, h4⟩ := fitR_spec h
  obtain ⟨a1, a2, a3, a4⟩ := isRep_spec h1
  obtain ⟨b1, b2, b3, b4⟩ := isRep_spec h2
  obtain ⟨c1, c2, c3, c4⟩ := areDims_spec a2
  obtain ⟨d1, d2, d3, d4⟩ := areDims_spec b2
  exact ⟨h4, h3, a1, c1, c2, by rw [h4]; exact d2, fun j hj => allIn_spec c3 hj, fun j hj => allIn_spec d3 hj, a3, by rw [h4]; exact b3⟩
theorem cocycleZeros_a (a b : Rep) (h : Fits a b) : AC Try.prog 118 [.agg (enc false a), .agg (enc false b)] [.dt true 3 (E true (cocZ a b))] := by
  refine AC.go Try.func118 Try.ntmps118 rfl rfl fun w0 hw => ?_; simp [WfL, WfA, E_length, Enc.enc, In64] at hw
  have h5 := okQ_spec h.ok
  have hda := h.da
  have hdb := h.db
  repeat' first | refine s1 ?_ | fail
  refine AW.open 5 3 (.inl rfl) ?_
  refine F.loop (σ := Nat) [5, 6, 7, 12, 13, 14, 15, 16, 17, 18, 19, 20, 21, 22, 23, 24, 25, 26, 27, 28, 29, 30, 31, 32, 33, 34, 35, 36] (fun k => [(5, .sl 2 k 0 k), (12, .i k)]) (fun k => [(2, .live false 3 (E true ((cocZ a b).take k)))]) (fun k => k ≤ a.q.fr.length) (fun k => a.q.fr.length - k) 0 ⟨rfl, rfl, trivial⟩ ⟨rfl, trivial⟩ (Nat.zero_le _) ?_
  rintro k h1
  have hzl := cocZ_len a b
  have hp : ((cocZ a b).take k).length = k := by rw [List.length_take]; omega
  by_cases hlt : k < a.q.fr.length
  · have f := okQ_fr h.ok hlt
    have t := okQ_to h.ok hlt
    have f' : 0 ≤ a.q.fr.getD k default ∧ a.q.fr.getD k default < a.q.n := f
    have t' : 0 ≤ a.q.to.getD k default ∧ a.q.to.getD k default < a.q.n := t
    have df := h.ba (a.q.fr.getD k default).toNat (by omega)
    have dt := h.bb (a.q.to.getD k default).toNat (by omega)
    have hZ := zero_a _ _ ⟨dt.1, by omega⟩ ⟨df.1, by omega⟩
    repeat' first | refine s1 ?_ | fail
    refine AW.draw 18 G.mixed (by kernel_rfl) ?_
    refine dP 0 ?_
    refine dP 1 ?_
    refine dL 2 ?_
    refine dP 3 ?_
    refine dP 4 ?_
    refine dL 5 ?_
    refine dP 6 ?_
    refine dP 7 ?_
    refine dL 8 ?_
    refine dP 9 ?_
    refine dL 10 ?_
    refine dP 11 ?_
    refine dL 12 ?_
    refine dP 13 ?_
    refine dP 14 ?_
    refine dL 15 ?_
    refine dO 16 true ?_
    first | refine s1 ?_ | refine F.c (hZ) ?_
    refine ARg.nil (ATh.normal ?_)
    refine dO 17 true ?_
    refine s1 ?_
    refine ARg.nil (ATh.normal ?_)
    refine dO 18 false ?_
    first | refine s1 ?_ | refine F.a1 Mat ?_
    refine ARg.nil (ATh.normal ?_)
    refine dP 19 ?_
    refine dN ?_
    repeat' first | refine s1 ?_ | fail
    exact ⟨k + 1, F.fit ⟨rfl, rfl, trivial⟩ ⟨obE (by rw [cocZ_take hlt]), trivial⟩, by omega, by omega⟩
  · obtain rfl : k = a.q.fr.length := by omega
    rw [← hzl, List.take_length]
    repeat' first | refine s1 ?_ | fail
    (refine kZ ?_; exact F.ret rfl)
theorem implIsCocycle_a (a b : Rep) (c : List Mat) : AC Try.prog 65 [.agg (enc false a), .agg (enc false b), ar false c] [.b (isCoc a b c)] := by
  refine AC.go Try.func65 Try.ntmps65 rfl rfl fun w0 hw => ?_; simp [WfL, WfA, E_length, Enc.enc, In64] at hw
  have hF := fit_a a b
  cases hf : fitR a b with
  | false =>
    rw [hf] at hF
    repeat' first | refine s1 ?_ | (refine kR ?_; first | refine F.c (hF) ?_) | fail
    refine F.ret ?_
    rw [isCoc, hf]; rfl
  | true =>
    rw [hf] at hF
    have hh := Fits.of hf
    have h5 := okQ_spec hh.ok
    have hda := hh.da
    have hdb := hh.db
    have hma := hh.ma
    have hmb := hh.mb
    by_cases hl : c.length = a.m.length
    · have hZ := cocycleZeros_a a b hh
      have hzl := cocZ_len a b
      repeat' first | refine s1 ?_ | (refine kR ?_; first | refine F.c (hF) ?_ | refine F.c (hZ) ?_) | fail
      refine AW.lend (o := 2) rfl ?_
      refine F.loop (σ := Nat) [6, 7, 8, 25, 26, 27, 28, 29, 30, 31, 32, 33, 34, 35, 36, 37, 38, 39, 40, 41, 42, 43, 44, 45, 46, 47, 48, 49, 50, 51, 52, 53, 54, 55, 56, 57, 58] (fun k => [(25, .i k)]) (fun _ => []) (fun k => k ≤ c.length ∧ ∀ j, j < k → fitC a b c j = true) (fun k => c.length - k) 0 ⟨rfl, trivial⟩ trivial ⟨Nat.zero_le _, fun j hj => by omega⟩ ?_
      rintro k ⟨h1, h2⟩
      by_cases hlt : k < c.length
      · have f := okQ_fr hh.ok (k := k) (by omega)
        have t := okQ_to hh.ok (k := k) (by omega)
        have f' : 0 ≤ a.q.fr.getD k default ∧ a.q.fr.getD k default < a.q.n := f
        have t' : 0 ≤ a.q.to.getD k default ∧ a.q.to.getD k default < a.q.n := t
        have hM := implIsMatrix_a a.p (c.getD k default)
        have hfm : fitC a b c k = (isMat a.p (c.getD k default) && decide ((c.getD k default).c = a.d.getD (a.q.fr.getD k default).toNat default) && decide ((c.getD k default).r = b.d.getD (a.q.to.getD k default).toNat default)) := rfl
        have hg := cocZ_get a b (i := k) (by omega)
        have hg1 : ((cocZ a b).getD (0 + k) default).r = b.d.getD (a.q.to.getD k default).toNat default := by rw [Nat.zero_add, hg]
        have hg2 : ((cocZ a b).getD (0 + k) default).c = a.d.getD (a.q.fr.getD k default).toNat default := by rw [Nat.zero_add, hg]
        cases hm : isMat a.p (c.getD k default) with
        | false =>
          rw [hm] at hM
          rw [hm] at hfm
          repeat' first | refine s1 ?_ | fail
          refine AW.draw 28 G.mixed (by kernel_rfl) ?_
          refine dP 0 ?_
          refine dL 1 ?_
          refine dP 2 ?_
          refine dP 3 ?_
          refine dP 4 ?_
          refine dL 5 ?_
          refine dO 6 true ?_
          first | refine s1 ?_ | refine F.c (hM) ?_
          refine ARg.nil (ATh.normal ?_)
          refine dP 7 ?_
          refine dP 8 ?_
          first | refine dT 38 rfl (by first | assumption | rfl | (simp only [decide_eq_true_eq, Bool.not_eq_true', decide_eq_false_iff_not, Bool.and_eq_true, Bool.or_eq_true]; omega)) ?_ | refine dF 38 rfl (by first | assumption | rfl | (simp only [decide_eq_false_iff_not, Bool.not_eq_false', decide_eq_true_eq, Bool.and_eq_false_iff, Bool.or_eq_false_iff]; omega)) ?_ | (refine dD 38 rfl ?_ ?_ <;> intro hc <;> (try simp only [decide_eq_true_eq, decide_eq_false_iff_not, Bool.not_eq_true', Bool.not_eq_false'] at hc)) | skip
          all_goals
            first | refine dK 9 ?_ | refine dP 9 ?_
            first | refine dK 10 ?_ | refine dP 10 ?_
            first | refine dK 11 ?_ | refine dP 11 ?_
            first | refine dK 12 ?_ | refine dP 12 ?_
            first | refine dK 13 ?_ | refine dL 13 ?_
            first | refine dK 14 ?_ | refine dP 14 ?_
            first | refine dK 15 ?_ | refine dL 15 ?_
            first | refine dK 16 ?_ | refine dP 16 ?_
            refine dP 17 ?_
            refine dP 18 ?_
            first | refine dT 48 rfl (by first | assumption | rfl | (simp only [decide_eq_true_eq, Bool.not_eq_true', decide_eq_false_iff_not, Bool.and_eq_true, Bool.or_eq_true]; omega)) ?_ | refine dF 48 rfl (by first | assumption | rfl | (simp only [decide_eq_false_iff_not, Bool.not_eq_false', decide_eq_true_eq, Bool.and_eq_false_iff, Bool.or_eq_false_iff]; omega)) ?_ | (refine dD 48 rfl ?_ ?_ <;> intro hc <;> (try simp only [decide_eq_true_eq, decide_eq_false_iff_not, Bool.not_eq_true', Bool.not_eq_false'] at hc)) | skip
            all_goals
              first | refine dK 19 ?_ | refine dP 19 ?_
              first | refine dK 20 ?_ | refine dP 20 ?_
              first | refine dK 21 ?_ | refine dP 21 ?_
              first | refine dK 22 ?_ | refine dP 22 ?_
              first | refine dK 23 ?_ | refine dL 23 ?_
              first | refine dK 24 ?_ | refine dP 24 ?_
              first | refine dK 25 ?_ | refine dL 25 ?_
              first | refine dK 26 ?_ | refine dP 26 ?_
              refine dP 27 ?_
              refine dN ?_
          repeat' first | refine s1 ?_ | fail
          refine F.ret ?_
          rw [isCoc, all_no hlt hfm, Bool.and_false]
        | true =>
          rw [hm] at hM
          rw [hm] at hfm
          by_cases hc' : (c.getD k default).c = a.d.getD (a.q.fr.getD k default).toNat default
          · by_cases hr' : (c.getD k default).r = b.d.getD (a.q.to.getD k default).toNat default
            · repeat' first | refine s1 ?_ | fail
              refine AW.draw 28 G.mixed (by kernel_rfl) ?_
              refine dP 0 ?_
              refine dL 1 ?_
              refine dP 2 ?_
              refine dP 3 ?_
              refine dP 4 ?_
              refine dL 5 ?_
              refine dO 6 true ?_
              first | refine s1 ?_ | refine F.c (hM) ?_
              refine ARg.nil (ATh.normal ?_)
              refine dP 7 ?_
              refine dP 8 ?_
              first | refine dT 38 rfl (by first | assumption | rfl | (simp only [decide_eq_true_eq, Bool.not_eq_true', decide_eq_false_iff_not, Bool.and_eq_true, Bool.or_eq_true]; omega)) ?_ | refine dF 38 rfl (by first | assumption | rfl | (simp only [decide_eq_false_iff_not, Bool.not_eq_false', decide_eq_true_eq, Bool.and_eq_false_iff, Bool.or_eq_false_iff]; omega)) ?_ | (refine dD 38 rfl ?_ ?_ <;> intro hc <;> (try simp only [decide_eq_true_eq, decide_eq_false_iff_not, Bool.not_eq_true', Bool.not_eq_false'] at hc)) | skip
              all_goals
                first | refine dK 9 ?_ | refine dP 9 ?_
                first | refine dK 10 ?_ | refine dP 10 ?_
                first | refine dK 11 ?_ | refine dP 11 ?_
                first | refine dK 12 ?_ | refine dP 12 ?_
                first | refine dK 13 ?_ | refine dL 13 ?_
                first | refine dK 14 ?_ | refine dP 14 ?_
                first | refine dK 15 ?_ | refine dL 15 ?_
                first | refine dK 16 ?_ | refine dP 16 ?_
                refine dP 17 ?_
                refine dP 18 ?_
                first | refine dT 48 rfl (by first | assumption | rfl | (simp only [decide_eq_true_eq, Bool.not_eq_true', decide_eq_false_iff_not, Bool.and_eq_true, Bool.or_eq_true]; omega)) ?_ | refine dF 48 rfl (by first | assumption | rfl | (simp only [decide_eq_false_iff_not, Bool.not_eq_false', decide_eq_true_eq, Bool.and_eq_false_iff, Bool.or_eq_false_iff]; omega)) ?_ | (refine dD 48 rfl ?_ ?_ <;> intro hc <;> (try simp only [decide_eq_true_eq, decide_eq_false_iff_not, Bool.not_eq_true', Bool.not_eq_false'] at hc)) | skip
                all_goals
                  first | refine dK 19 ?_ | refine dP 19 ?_
                  first | refine dK 20 ?_ | refine dP 20 ?_
                  first | refine dK 21 ?_ | refine dP 21 ?_
                  first | refine dK 22 ?_ | refine dP 22 ?_
                  first | refine dK 23 ?_ | refine dL 23 ?_
                  first | refine dK 24 ?_ | refine dP 24 ?_
                  first | refine dK 25 ?_ | refine dL 25 ?_
                  first | refine dK 26 ?_ | refine dP 26 ?_
                  refine dP 27 ?_
                  refine dN ?_
              repeat' first | refine s1 ?_ | fail
              exact ⟨k + 1, F.fit ⟨rfl, trivial⟩ trivial, ⟨by omega, snocP h2 (by rw [hfm, decide_eq_true hc', decide_eq_true hr']; rfl)⟩, by omega⟩
            · repeat' first | refine s1 ?_ | fail
              refine AW.draw 28 G.mixed (by kernel_rfl) ?_
              refine dP 0 ?_
              refine dL 1 ?_
              refine dP 2 ?_
              refine dP 3 ?_
              refine dP 4 ?_
              refine dL 5 ?_
              refine dO 6 true ?_
              first | refine s1 ?_ | refine F.c (hM) ?_
              refine ARg.nil (ATh.normal ?_)
              refine dP 7 ?_
              refine dP 8 ?_
              first | refine dT 38 rfl (by first | assumption | rfl | (simp only [decide_eq_true_eq, Bool.not_eq_true', decide_eq_false_iff_not, Bool.and_eq_true, Bool.or_eq_true]; omega)) ?_ | refine dF 38 rfl (by first | assumption | rfl | (simp only [decide_eq_false_iff_not, Bool.not_eq_false', decide_eq_true_eq, Bool.and_eq_false_iff, Bool.or_eq_false_iff]; omega)) ?_ | (refine dD 38 rfl ?_ ?_ <;> intro hc <;> (try simp only [decide_eq_true_eq, decide_eq_false_iff_not, Bool.not_eq_true', Bool.not_eq_false'] at hc)) | skip
              all_goals
                first | refine dK 9 ?_ | refine dP 9 ?_
                first | refine dK 10 ?_ | refine dP 10 ?_
                first | refine dK 11 ?_ | refine dP 11 ?_
                first | refine dK 12 ?_ | refine dP 12 ?_
                first | refine dK 13 ?_ | refine dL 13 ?_
                first | refine dK 14 ?_ | refine dP 14 ?_
                first | refine dK 15 ?_ | refine dL 15 ?_
                first | refine dK 16 ?_ | refine dP 16 ?_
                refine dP 17 ?_
                refine dP 18 ?_
                first | refine dT 48 rfl (by first | assumption | rfl | (simp only [decide_eq_true_eq, Bool.not_eq_true', decide_eq_false_iff_not, Bool.and_eq_true, Bool.or_eq_true]; omega)) ?_ | refine dF 48 rfl (by first | assumption | rfl | (simp only [decide_eq_false_iff_not, Bool.not_eq_false', decide_eq_true_eq, Bool.and_eq_false_iff, Bool.or_eq_false_iff]; omega)) ?_ | (refine dD 48 rfl ?_ ?_ <;> intro hc <;> (try simp only [decide_eq_true_eq, decide_eq_false_iff_not, Bool.not_eq_true', Bool.not_eq_false'] at hc)) | skip
                all_goals
                  first | refine dK 19 ?_ | refine dP 19 ?_
                  first | refine dK 20 ?_ | refine dP 20 ?_
                  first | refine dK 21 ?_ | refine dP 21 ?_
                  first | refine dK 22 ?_ | refine dP 22 ?_
                  first | refine dK 23 ?_ | refine dL 23 ?_
                  first | refine dK 24 ?_ | refine dP 24 ?_
                  first | refine dK 25 ?_ | refine dL 25 ?_
                  first | refine dK 26 ?_ | refine dP 26 ?_
                  refine dP 27 ?_
                  refine dN ?_
              repeat' first | refine s1 ?_ | fail
              refine F.ret ?_
              rw [isCoc, all_no hlt (by rw [hfm, decide_eq_false hr', Bool.and_false]), Bool.and_false]
          · by_cases hr' : (c.getD k default).r = b.d.getD (a.q.to.getD k default).toNat default
            · repeat' first | refine s1 ?_ | fail
              refine AW.draw 28 G.mixed (by kernel_rfl) ?_
              refine dP 0 ?_
              refine dL 1 ?_
              refine dP 2 ?_
              refine dP 3 ?_
              refine dP 4 ?_
              refine dL 5 ?_
              refine dO 6 true ?_
              first | refine s1 ?_ | refine F.c (hM) ?_
              refine ARg.nil (ATh.normal ?_)
              refine dP 7 ?_
              refine dP 8 ?_
              first | refine dT 38 rfl (by first | assumption | rfl | (simp only [decide_eq_true_eq, Bool.not_eq_true', decide_eq_false_iff_not, Bool.and_eq_true, Bool.or_eq_true]; omega)) ?_ | refine dF 38 rfl (by first | assumption | rfl | (simp only [decide_eq_false_iff_not, Bool.not_eq_false', decide_eq_true_eq, Bool.and_eq_false_iff, Bool.or_eq_false_iff]; omega)) ?_ | (refine dD 38 rfl ?_ ?_ <;> intro hc <;> (try simp only [decide_eq_true_eq, decide_eq_false_iff_not, Bool.not_eq_true', Bool.not_eq_false'] at hc)) | skip
              all_goals
                first | refine dK 9 ?_ | refine dP 9 ?_
                first | refine dK 10 ?_ | refine dP 10 ?_
                first | refine dK 11 ?_ | refine dP 11 ?_
                first | refine dK 12 ?_ | refine dP 12 ?_
                first | refine dK 13 ?_ | refine dL 13 ?_
                first | refine dK 14 ?_ | refine dP 14 ?_
                first | refine dK 15 ?_ | refine dL 15 ?_
                first | refine dK 16 ?_ | refine dP 16 ?_
                refine dP 17 ?_
                refine dP 18 ?_
                first | refine dT 48 rfl (by first | assumption | rfl | (simp only [decide_eq_true_eq, Bool.not_eq_true', decide_eq_false_iff_not, Bool.and_eq_true, Bool.or_eq_true]; omega)) ?_ | refine dF 48 rfl (by first | assumption | rfl | (simp only [decide_eq_false_iff_not, Bool.not_eq_false', decide_eq_true_eq, Bool.and_eq_false_iff, Bool.or_eq_false_iff]; omega)) ?_ | (refine dD 48 rfl ?_ ?_ <;> intro hc <;> (try simp only [decide_eq_true_eq, decide_eq_false_iff_not, Bool.not_eq_true', Bool.not_eq_false'] at hc)) | skip
                all_goals
                  first | refine dK 19 ?_ | refine dP 19 ?_
                  first | refine dK 20 ?_ | refine dP 20 ?_
                  first | refine dK 21 ?_ | refine dP 21 ?_
                  first | refine dK 22 ?_ | refine dP 22 ?_
                  first | refine dK 23 ?_ | refine dL 23 ?_
                  first | refine dK 24 ?_ | refine dP 24 ?_
                  first | refine dK 25 ?_ | refine dL 25 ?_
                  first | refine dK 26 ?_ | refine dP 26 ?_
                  refine dP 27 ?_
                  refine dN ?_
              repeat' first | refine s1 ?_ | fail
              refine F.ret ?_
              rw [isCoc, all_no hlt (by rw [hfm, decide_eq_false hc', Bool.and_false, Bool.false_and]), Bool.and_false]
            · repeat' first | refine s1 ?_ | fail
              refine AW.draw 28 G.mixed (by kernel_rfl) ?_
              refine dP 0 ?_
              refine dL 1 ?_
              refine dP 2 ?_
              refine dP 3 ?_
              refine dP 4 ?_
              refine dL 5 ?_
              refine dO 6 true ?_
              first | refine s1 ?_ | refine F.c (hM) ?_
              refine ARg.nil (ATh.normal ?_)
              refine dP 7 ?_
              refine dP 8 ?_
              first | refine dT 38 rfl (by first | assumption | rfl | (simp only [decide_eq_true_eq, Bool.not_eq_true', decide_eq_false_iff_not, Bool.and_eq_true, Bool.or_eq_true]; omega)) ?_ | refine dF 38 rfl (by first | assumption | rfl | (simp only [decide_eq_false_iff_not, Bool.not_eq_false', decide_eq_true_eq, Bool.and_eq_false_iff, Bool.or_eq_false_iff]; omega)) ?_ | (refine dD 38 rfl ?_ ?_ <;> intro hc <;> (try simp only [decide_eq_true_eq, decide_eq_false_iff_not, Bool.not_eq_true', Bool.not_eq_false'] at hc)) | skip
              all_goals
                first | refine dK 9 ?_ | refine dP 9 ?_
                first | refine dK 10 ?_ | refine dP 10 ?_
                first | refine dK 11 ?_ | refine dP 11 ?_
                first | refine dK 12 ?_ | refine dP 12 ?_
                first | refine dK 13 ?_ | refine dL 13 ?_
                first | refine dK 14 ?_ | refine dP 14 ?_
                first | refine dK 15 ?_ | refine dL 15 ?_
                first | refine dK 16 ?_ | refine dP 16 ?_
                refine dP 17 ?_
                refine dP 18 ?_
                first | refine dT 48 rfl (by first | assumption | rfl | (simp only [decide_eq_true_eq, Bool.not_eq_true', decide_eq_false_iff_not, Bool.and_eq_true, Bool.or_eq_true]; omega)) ?_ | refine dF 48 rfl (by first | assumption | rfl | (simp only [decide_eq_false_iff_not, Bool.not_eq_false', decide_eq_true_eq, Bool.and_eq_false_iff, Bool.or_eq_false_iff]; omega)) ?_ | (refine dD 48 rfl ?_ ?_ <;> intro hc <;> (try simp only [decide_eq_true_eq, decide_eq_false_iff_not, Bool.not_eq_true', Bool.not_eq_false'] at hc)) | skip
                all_goals
                  first | refine dK 19 ?_ | refine dP 19 ?_
                  first | refine dK 20 ?_ | refine dP 20 ?_
                  first | refine dK 21 ?_ | refine dP 21 ?_
                  first | refine dK 22 ?_ | refine dP 22 ?_
                  first | refine dK 23 ?_ | refine dL 23 ?_
                  first | refine dK 24 ?_ | refine dP 24 ?_
                  first | refine dK 25 ?_ | refine dL 25 ?_
                  first | refine dK 26 ?_ | refine dP 26 ?_
                  refine dP 27 ?_
                  refine dN ?_
              repeat' first | refine s1 ?_ | fail
              refine F.ret ?_
              rw [isCoc, all_no hlt (by rw [hfm, decide_eq_false hc', Bool.and_false, Bool.false_and]), Bool.and_false]
      · obtain rfl : k = c.length := by omega
        repeat' first | refine s1 ?_ | fail
        refine F.ret ?_
        rw [isCoc, hf, decide_eq_true hl, all_yes h2]; rfl
    · repeat' first | refine s1 ?_ | (refine kR ?_; first | refine F.c (hF) ?_) | fail
      refine F.ret ?_
      rw [isCoc, decide_eq_false hl]; simp
theorem specIsCocycle_a (a b : Rep) (c : List Mat) : AC Try.prog 59 [.agg (enc false a), .agg (enc false b), ar false c] [.b (isCoc a b c)] := by
  refine AC.go Try.func59 Try.ntmps59 rfl rfl fun w0 hw => ?_; simp [WfL, WfA, E_length, Enc.enc, In64] at hw
  have hF := l9Fit_a a b
  cases hf : fitR a b with
  | false =>
    rw [hf] at hF
    repeat' first | refine s1 ?_ | (refine kR ?_; first | refine F.c (hF) ?_) | fail
    refine F.ret ?_
    rw [isCoc, hf]; rfl
  | true =>
    rw [hf] at hF
    have hh := Fits.of hf
    have h5 := okQ_spec hh.ok
    have hda := hh.da
    have hdb := hh.db
    have hma := hh.ma
    have hmb := hh.mb
    by_cases hl : c.length = a.m.length
    · repeat' first | refine s1 ?_ | (refine kR ?_; first | refine F.c (hF) ?_) | fail
      refine F.loop (σ := Nat) [6, 7, 20, 21, 22, 23, 24, 25, 26, 27, 28, 29, 30, 31, 32, 33, 34, 35, 36, 37, 38, 39, 40, 41, 42, 43, 44, 45, 46, 47, 48, 49, 50, 51, 52, 53, 54, 55, 56, 57, 58, 59, 60, 61, 62, 63, 64, 65, 66, 67, 68, 69] (fun k => [(7, .i k)]) (fun _ => []) (fun k => k ≤ c.length ∧ ∀ j, j < k → fitC a b c j = true) (fun k => c.length - k) 0 ⟨rfl, trivial⟩ trivial ⟨Nat.zero_le _, fun j hj => by omega⟩ ?_
      rintro k ⟨h1, h2⟩
      by_cases hlt : k < c.length
      · have f := okQ_fr hh.ok (k := k) (by omega)
        have t := okQ_to hh.ok (k := k) (by omega)
        have f' : 0 ≤ a.q.fr.getD k default ∧ a.q.fr.getD k default < a.q.n := f
        have t' : 0 ≤ a.q.to.getD k default ∧ a.q.to.getD k default < a.q.n := t
        have hM := specIsMatrix_a a.p (c.getD k default)
        have hfm : fitC a b c k = (isMat a.p (c.getD k default) && decide ((c.getD k default).c = a.d.getD (a.q.fr.getD k default).toNat default) && decide ((c.getD k default).r = b.d.getD (a.q.to.getD k default).toNat default)) := rfl
        cases hm : isMat a.p (c.getD k default) with
        | false =>
          rw [hm] at hM
          rw [hm] at hfm
          repeat' first | refine s1 ?_ | fail
          refine AW.draw 44 G.mixed (by kernel_rfl) ?_
          refine dP 0 ?_
          refine dL 1 ?_
          refine dP 2 ?_
          refine dP 3 ?_
          refine dP 4 ?_
          refine dL 5 ?_
          refine dO 6 true ?_
          first | refine s1 ?_ | refine F.c (hM) ?_
          refine ARg.nil (ATh.normal ?_)
          refine dP 7 ?_
          refine dP 8 ?_
          first | refine dT 34 rfl (by first | assumption | rfl | (simp only [decide_eq_true_eq, Bool.not_eq_true', decide_eq_false_iff_not, Bool.and_eq_true, Bool.or_eq_true]; omega)) ?_ | refine dF 34 rfl (by first | assumption | rfl | (simp only [decide_eq_false_iff_not, Bool.not_eq_false', decide_eq_true_eq, Bool.and_eq_false_iff, Bool.or_eq_false_iff]; omega)) ?_ | (refine dD 34 rfl ?_ ?_ <;> intro hc <;> (try simp only [decide_eq_true_eq, decide_eq_false_iff_not, Bool.not_eq_true', Bool.not_eq_false'] at hc)) | skip
          all_goals
            first | refine dK 9 ?_ | refine dP 9 ?_
            first | refine dK 10 ?_ | refine dP 10 ?_
            first | refine dK 11 ?_ | refine dP 11 ?_
            first | refine dK 12 ?_ | refine dP 12 ?_
            first | refine dK 13 ?_ | refine dL 13 ?_
            first | refine dK 14 ?_ | refine dP 14 ?_
            first | refine dK 15 ?_ | refine dL 15 ?_
            first | refine dK 16 ?_ | refine dP 16 ?_
            first | refine dK 17 ?_ | refine dP 17 ?_
            first | refine dK 18 ?_ | refine dL 18 ?_
            first | refine dK 19 ?_ | refine dP 19 ?_
            first | refine dK 20 ?_ | refine dP 20 ?_
            first | refine dK 21 ?_ | refine dL 21 ?_
            first | refine dK 22 ?_ | refine dP 22 ?_
            first | refine dK 23 ?_ | refine dL 23 ?_
            first | refine dK 24 ?_ | refine dP 24 ?_
            refine dP 25 ?_
            refine dP 26 ?_
            first | refine dT 52 rfl (by first | assumption | rfl | (simp only [decide_eq_true_eq, Bool.not_eq_true', decide_eq_false_iff_not, Bool.and_eq_true, Bool.or_eq_true]; omega)) ?_ | refine dF 52 rfl (by first | assumption | rfl | (simp only [decide_eq_false_iff_not, Bool.not_eq_false', decide_eq_true_eq, Bool.and_eq_false_iff, Bool.or_eq_false_iff]; omega)) ?_ | (refine dD 52 rfl ?_ ?_ <;> intro hc <;> (try simp only [decide_eq_true_eq, decide_eq_false_iff_not, Bool.not_eq_true', Bool.not_eq_false'] at hc)) | skip
            all_goals
              first | refine dK 27 ?_ | refine dP 27 ?_
              first | refine dK 28 ?_ | refine dP 28 ?_
              first | refine dK 29 ?_ | refine dP 29 ?_
              first | refine dK 30 ?_ | refine dP 30 ?_
              first | refine dK 31 ?_ | refine dL 31 ?_
              first | refine dK 32 ?_ | refine dP 32 ?_
              first | refine dK 33 ?_ | refine dL 33 ?_
              first | refine dK 34 ?_ | refine dP 34 ?_
              first | refine dK 35 ?_ | refine dP 35 ?_
              first | refine dK 36 ?_ | refine dL 36 ?_
              first | refine dK 37 ?_ | refine dP 37 ?_
              first | refine dK 38 ?_ | refine dP 38 ?_
              first | refine dK 39 ?_ | refine dL 39 ?_
              first | refine dK 40 ?_ | refine dP 40 ?_
              first | refine dK 41 ?_ | refine dL 41 ?_
              first | refine dK 42 ?_ | refine dP 42 ?_
              refine dP 43 ?_
              refine dN ?_
          repeat' first | refine s1 ?_ | fail
          refine F.ret ?_
          rw [isCoc, all_no hlt hfm, Bool.and_false]
        | true =>
          rw [hm] at hM
          rw [hm] at hfm
          by_cases hc' : (c.getD k default).c = a.d.getD (a.q.fr.getD k default).toNat default
          · by_cases hr' : (c.getD k default).r = b.d.getD (a.q.to.getD k default).toNat default
            · repeat' first | refine s1 ?_ | fail
              refine AW.draw 44 G.mixed (by kernel_rfl) ?_
              refine dP 0 ?_
              refine dL 1 ?_
              refine dP 2 ?_
              refine dP 3 ?_
              refine dP 4 ?_
              refine dL 5 ?_
              refine dO 6 true ?_
              first | refine s1 ?_ | refine F.c (hM) ?_
              refine ARg.nil (ATh.normal ?_)
              refine dP 7 ?_
              refine dP 8 ?_
              first | refine dT 34 rfl (by first | assumption | rfl | (simp only [decide_eq_true_eq, Bool.not_eq_true', decide_eq_false_iff_not, Bool.and_eq_true, Bool.or_eq_true]; omega)) ?_ | refine dF 34 rfl (by first | assumption | rfl | (simp only [decide_eq_false_iff_not, Bool.not_eq_false', decide_eq_true_eq, Bool.and_eq_false_iff, Bool.or_eq_false_iff]; omega)) ?_ | (refine dD 34 rfl ?_ ?_ <;> intro hc <;> (try simp only [decide_eq_true_eq, decide_eq_false_iff_not, Bool.not_eq_true', Bool.not_eq_false'] at hc)) | skip
              all_goals
                first | refine dK 9 ?_ | refine dP 9 ?_
                first | refine dK 10 ?_ | refine dP 10 ?_
                first | refine dK 11 ?_ | refine dP 11 ?_
                first | refine dK 12 ?_ | refine dP 12 ?_
                first | refine dK 13 ?_ | refine dL 13 ?_
                first | refine dK 14 ?_ | refine dP 14 ?_
                first | refine dK 15 ?_ | refine dL 15 ?_
                first | refine dK 16 ?_ | refine dP 16 ?_
                first | refine dK 17 ?_ | refine dP 17 ?_
                first | refine dK 18 ?_ | refine dL 18 ?_
                first | refine dK 19 ?_ | refine dP 19 ?_
                first | refine dK 20 ?_ | refine dP 20 ?_
                first | refine dK 21 ?_ | refine dL 21 ?_
                first | refine dK 22 ?_ | refine dP 22 ?_
                first | refine dK 23 ?_ | refine dL 23 ?_
                first | refine dK 24 ?_ | refine dP 24 ?_
                refine dP 25 ?_
                refine dP 26 ?_
                first | refine dT 52 rfl (by first | assumption | rfl | (simp only [decide_eq_true_eq, Bool.not_eq_true', decide_eq_false_iff_not, Bool.and_eq_true, Bool.or_eq_true]; omega)) ?_ | refine dF 52 rfl (by first | assumption | rfl | (simp only [decide_eq_false_iff_not, Bool.not_eq_false', decide_eq_true_eq, Bool.and_eq_false_iff, Bool.or_eq_false_iff]; omega)) ?_ | (refine dD 52 rfl ?_ ?_ <;> intro hc <;> (try simp only [decide_eq_true_eq, decide_eq_false_iff_not, Bool.not_eq_true', Bool.not_eq_false'] at hc)) | skip
                all_goals
                  first | refine dK 27 ?_ | refine dP 27 ?_
                  first | refine dK 28 ?_ | refine dP 28 ?_
                  first | refine dK 29 ?_ | refine dP 29 ?_
                  first | refine dK 30 ?_ | refine dP 30 ?_
                  first | refine dK 31 ?_ | refine dL 31 ?_
                  first | refine dK 32 ?_ | refine dP 32 ?_
                  first | refine dK 33 ?_ | refine dL 33 ?_
                  first | refine dK 34 ?_ | refine dP 34 ?_
                  first | refine dK 35 ?_ | refine dP 35 ?_
                  first | refine dK 36 ?_ | refine dL 36 ?_
                  first | refine dK 37 ?_ | refine dP 37 ?_
                  first | refine dK 38 ?_ | refine dP 38 ?_
                  first | refine dK 39 ?_ | refine dL 39 ?_
                  first | refine dK 40 ?_ | refine dP 40 ?_
                  first | refine dK 41 ?_ | refine dL 41 ?_
                  first | refine dK 42 ?_ | refine dP 42 ?_
                  refine dP 43 ?_
                  refine dN ?_
              repeat' first | refine s1 ?_ | fail
              exact ⟨k + 1, F.fit ⟨rfl, trivial⟩ trivial, ⟨by omega, snocP h2 (by rw [hfm, decide_eq_true hc', decide_eq_true hr']; rfl)⟩, by omega⟩
            · repeat' first | refine s1 ?_ | fail
              refine AW.draw 44 G.mixed (by kernel_rfl) ?_
              refine dP 0 ?_
              refine dL 1 ?_
              refine dP 2 ?_
              refine dP 3 ?_
              refine dP 4 ?_
              refine dL 5 ?_
              refine dO 6 true ?_
              first | refine s1 ?_ | refine F.c (hM) ?_
              refine ARg.nil (ATh.normal ?_)
              refine dP 7 ?_
              refine dP 8 ?_
              first | refine dT 34 rfl (by first | assumption | rfl | (simp only [decide_eq_true_eq, Bool.not_eq_true', decide_eq_false_iff_not, Bool.and_eq_true, Bool.or_eq_true]; omega)) ?_ | refine dF 34 rfl (by first | assumption | rfl | (simp only [decide_eq_false_iff_not, Bool.not_eq_false', decide_eq_true_eq, Bool.and_eq_false_iff, Bool.or_eq_false_iff]; omega)) ?_ | (refine dD 34 rfl ?_ ?_ <;> intro hc <;> (try simp only [decide_eq_true_eq, decide_eq_false_iff_not, Bool.not_eq_true', Bool.not_eq_false'] at hc)) | skip
              all_goals
                first | refine dK 9 ?_ | refine dP 9 ?_
                first | refine dK 10 ?_ | refine dP 10 ?_
                first | refine dK 11 ?_ | refine dP 11 ?_
                first | refine dK 12 ?_ | refine dP 12 ?_
                first | refine dK 13 ?_ | refine dL 13 ?_
                first | refine dK 14 ?_ | refine dP 14 ?_
                first | refine dK 15 ?_ | refine dL 15 ?_
                first | refine dK 16 ?_ | refine dP 16 ?_
                first | refine dK 17 ?_ | refine dP 17 ?_
                first | refine dK 18 ?_ | refine dL 18 ?_
                first | refine dK 19 ?_ | refine dP 19 ?_
                first | refine dK 20 ?_ | refine dP 20 ?_
                first | refine dK 21 ?_ | refine dL 21 ?_
                first | refine dK 22 ?_ | refine dP 22 ?_
                first | refine dK 23 ?_ | refine dL 23 ?_
                first | refine dK 24 ?_ | refine dP 24 ?_
                refine dP 25 ?_
                refine dP 26 ?_
                first | refine dT 52 rfl (by first | assumption | rfl | (simp only [decide_eq_true_eq, Bool.not_eq_true', decide_eq_false_iff_not, Bool.and_eq_true, Bool.or_eq_true]; omega)) ?_ | refine dF 52 rfl (by first | assumption | rfl | (simp only [decide_eq_false_iff_not, Bool.not_eq_false', decide_eq_true_eq, Bool.and_eq_false_iff, Bool.or_eq_false_iff]; omega)) ?_ | (refine dD 52 rfl ?_ ?_ <;> intro hc <;> (try simp only [decide_eq_true_eq, decide_eq_false_iff_not, Bool.not_eq_true', Bool.not_eq_false'] at hc)) | skip
                all_goals
                  first | refine dK 27 ?_ | refine dP 27 ?_
                  first | refine dK 28 ?_ | refine dP 28 ?_
                  first | refine dK 29 ?_ | refine dP 29 ?_
                  first | refine dK 30 ?_ | refine dP 30 ?_
                  first | refine dK 31 ?_ | refine dL 31 ?_
                  first | refine dK 32 ?_ | refine dP 32 ?_
                  first | refine dK 33 ?_ | refine dL 33 ?_
                  first | refine dK 34 ?_ | refine dP 34 ?_
                  first | refine dK 35 ?_ | refine dP 35 ?_
                  first | refine dK 36 ?_ | refine dL 36 ?_
                  first | refine dK 37 ?_ | refine dP 37 ?_
                  first | refine dK 38 ?_ | refine dP 38 ?_
                  first | refine dK 39 ?_ | refine dL 39 ?_
                  first | refine dK 40 ?_ | refine dP 40 ?_
                  first | refine dK 41 ?_ | refine dL 41 ?_
                  first | refine dK 42 ?_ | refine dP 42 ?_
                  refine dP 43 ?_
                  refine dN ?_
              repeat' first | refine s1 ?_ | fail
              refine F.ret ?_
              rw [isCoc, all_no hlt (by rw [hfm, decide_eq_false hr', Bool.and_false]), Bool.and_false]
          · repeat' first | refine s1 ?_ | fail
            refine AW.draw 44 G.mixed (by kernel_rfl) ?_
            refine dP 0 ?_
            refine dL 1 ?_
            refine dP 2 ?_
            refine dP 3 ?_
            refine dP 4 ?_
            refine dL 5 ?_
            refine dO 6 true ?_
            first | refine s1 ?_ | refine F.c (hM) ?_
            refine ARg.nil (ATh.normal ?_)
            refine dP 7 ?_
            refine dP 8 ?_
            first | refine dT 34 rfl (by first | assumption | rfl | (simp only [decide_eq_true_eq, Bool.not_eq_true', decide_eq_false_iff_not, Bool.and_eq_true, Bool.or_eq_true]; omega)) ?_ | refine dF 34 rfl (by first | assumption | rfl | (simp only [decide_eq_false_iff_not, Bool.not_eq_false', decide_eq_true_eq, Bool.and_eq_false_iff, Bool.or_eq_false_iff]; omega)) ?_ | (refine dD 34 rfl ?_ ?_ <;> intro hc <;> (try simp only [decide_eq_true_eq, decide_eq_false_iff_not, Bool.not_eq_true', Bool.not_eq_false'] at hc)) | skip
            all_goals
              first | refine dK 9 ?_ | refine dP 9 ?_
              first | refine dK 10 ?_ | refine dP 10 ?_
              first | refine dK 11 ?_ | refine dP 11 ?_
              first | refine dK 12 ?_ | refine dP 12 ?_
              first | refine dK 13 ?_ | refine dL 13 ?_
              first | refine dK 14 ?_ | refine dP 14 ?_
              first | refine dK 15 ?_ | refine dL 15 ?_
              first | refine dK 16 ?_ | refine dP 16 ?_
              first | refine dK 17 ?_ | refine dP 17 ?_
              first | refine dK 18 ?_ | refine dL 18 ?_
              first | refine dK 19 ?_ | refine dP 19 ?_
              first | refine dK 20 ?_ | refine dP 20 ?_
              first | refine dK 21 ?_ | refine dL 21 ?_
              first | refine dK 22 ?_ | refine dP 22 ?_
              first | refine dK 23 ?_ | refine dL 23 ?_
              first | refine dK 24 ?_ | refine dP 24 ?_
              refine dP 25 ?_
              refine dP 26 ?_
              first | refine dT 52 rfl (by first | assumption | rfl | (simp only [decide_eq_true_eq, Bool.not_eq_true', decide_eq_false_iff_not, Bool.and_eq_true, Bool.or_eq_true]; omega)) ?_ | refine dF 52 rfl (by first | assumption | rfl | (simp only [decide_eq_false_iff_not, Bool.not_eq_false', decide_eq_true_eq, Bool.and_eq_false_iff, Bool.or_eq_false_iff]; omega)) ?_ | (refine dD 52 rfl ?_ ?_ <;> intro hc <;> (try simp only [decide_eq_true_eq, decide_eq_false_iff_not, Bool.not_eq_true', Bool.not_eq_false'] at hc)) | skip
              all_goals
                first | refine dK 27 ?_ | refine dP 27 ?_
                first | refine dK 28 ?_ | refine dP 28 ?_
                first | refine dK 29 ?_ | refine dP 29 ?_
                first | refine dK 30 ?_ | refine dP 30 ?_
                first | refine dK 31 ?_ | refine dL 31 ?_
                first | refine dK 32 ?_ | refine dP 32 ?_
                first | refine dK 33 ?_ | refine dL 33 ?_
                first | refine dK 34 ?_ | refine dP 34 ?_
                first | refine dK 35 ?_ | refine dP 35 ?_
                first | refine dK 36 ?_ | refine dL 36 ?_
                first | refine dK 37 ?_ | refine dP 37 ?_
                first | refine dK 38 ?_ | refine dP 38 ?_
                first | refine dK 39 ?_ | refine dL 39 ?_
                first | refine dK 40 ?_ | refine dP 40 ?_
                first | refine dK 41 ?_ | refine dL 41 ?_
                first | refine dK 42 ?_ | refine dP 42 ?_
                refine dP 43 ?_
                refine dN ?_
            repeat' first | refine s1 ?_ | fail
            refine F.ret ?_
            rw [isCoc, all_no hlt (by rw [hfm, decide_eq_false hc', Bool.and_false, Bool.false_and]), Bool.and_false]
      · obtain rfl : k = c.length := by omega
        repeat' first | refine s1 ?_ | fail
        refine F.ret ?_
        rw [isCoc, hf, decide_eq_true hl, all_yes h2]; rfl
    · repeat' first | refine s1 ?_ | (refine kR ?_; first | refine F.c (hF) ?_) | fail
      refine F.ret ?_
      rw [isCoc, decide_eq_false hl]; simp
end Go.Proofs.Ytanembgijdkagaa.V
