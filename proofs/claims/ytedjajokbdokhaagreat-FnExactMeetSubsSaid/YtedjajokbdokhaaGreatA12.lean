/- Contracts: valid representations, and pairs that fit. -/
import Derived.Test.YtedjajokbdokhaaGreatB2
namespace Go.Proofs.YtedjajokbdokhaaGreat.V
open V.Enc (enc)
open Go.RowKit G D
set_option linter.unusedVariables false
set_option linter.unusedSimpArgs false
set_option maxHeartbeats 400000
set_option maxRecDepth 4000
attribute [local irreducible] AW ARg ARA ARet MRet ASil AC AM

def fitM (r : Rep) (i : Nat) : Bool := isMat r.p (r.m.getD i default) && decide ((r.m.getD i default).c = r.d.getD (r.q.fr.getD i default).toNat default) && decide ((r.m.getD i default).r = r.d.getD (r.q.to.getD i default).toNat default)
def isRep (r : Rep) : Bool := isF r.p && areDims r.q r.d && decide (r.m.length = r.q.fr.length) && (List.range r.m.length).all (fitM r)
theorem areDims_spec {q : Quiv} {d : List Int} (h : areDims q d = true) : okQ q = true ∧ (d.length : Int) = q.n ∧ allIn 0 4 d = true ∧ d.sum ≤ 8 := by
  simp only [areDims, Bool.and_eq_true, decide_eq_true_eq] at h
  exact ⟨h.1.1.1, h.1.1.2, h.1.2, h.2⟩
theorem isRep_spec {r : Rep} (h : isRep r = true) : isF r.p = true ∧ areDims r.q r.d = true ∧ r.m.length = r.q.fr.length ∧ ∀ j, j < r.m.length → fitM r j = true := by
  simp only [isRep, Bool.and_eq_true, decide_eq_true_eq, List.all_eq_true] at h
  exact ⟨h.1.1.1, h.1.1.2, h.1.2, fun j hj => h.2 j (by simpa using hj)⟩
theorem implIsRep_a (r : Rep) : AC Tryz.prog 83 [.agg (enc false r)] [.b (isRep r)] := by
  refine AC.go Tryz.func83 Tryz.ntmps83 rfl rfl fun w0 hw => ?_; simp [WfL, WfA, E_length, Enc.enc, In64] at hw
  have hF := implIsField_a r.p
  have hD := implAreDims_a r.q r.d
  cases hf : isF r.p with
  | false =>
    rw [hf] at hF
    repeat' first | refine s1 ?_ | (refine kR ?_; first | refine F.c (hF) ?_) | fail
    refine F.ret ?_
    rw [isRep, hf]; rfl
  | true =>
    rw [hf] at hF
    cases hd : areDims r.q r.d with
    | false =>
      rw [hd] at hD
      repeat' first | refine s1 ?_ | (refine kR ?_; first | refine F.c (hF) ?_ | refine F.c (hD) ?_) | fail
      refine F.ret ?_
      rw [isRep, hf, hd]; rfl
    | true =>
      rw [hd] at hD
      obtain ⟨hq, hdl, hda, _⟩ := areDims_spec hd
      have h5 := okQ_spec hq
      by_cases hl : r.m.length = r.q.fr.length
      · repeat' first | refine s1 ?_ | (refine kR ?_; first | refine F.c (hF) ?_ | refine F.c (hD) ?_) | fail
        refine F.loop (σ := Nat) [2, 3, 4, 30, 31, 32, 33, 34, 35, 36, 37, 38, 39, 40, 41, 42, 43, 44, 45, 46, 47, 48, 49, 50, 51, 52, 53, 54, 55, 56, 57, 58, 59, 60, 61, 62, 63, 64, 65, 66, 67, 68, 69, 70] (fun k => [(30, .i k)]) (fun _ => []) (fun k => k ≤ r.m.length ∧ ∀ j, j < k → fitM r j = true) (fun k => r.m.length - k) 0 ⟨rfl, trivial⟩ trivial ⟨Nat.zero_le _, fun j hj => by omega⟩ ?_
        rintro k ⟨h1, h2⟩
        by_cases hlt : k < r.m.length
        · have f := okQ_fr hq (k := k) (by omega)
          have t := okQ_to hq (k := k) (by omega)
          have f' : 0 ≤ r.q.fr.getD k default ∧ r.q.fr.getD k default < r.q.n := f
          have t' : 0 ≤ r.q.to.getD k default ∧ r.q.to.getD k default < r.q.n := t
          have hM := implIsMatrix_a r.p (r.m.getD k default)
          have hfm : fitM r k = (isMat r.p (r.m.getD k default) && decide ((r.m.getD k default).c = r.d.getD (r.q.fr.getD k default).toNat default) && decide ((r.m.getD k default).r = r.d.getD (r.q.to.getD k default).toNat default)) := rfl
          cases hm : isMat r.p (r.m.getD k default) with
          | false =>
            rw [hm] at hM
            rw [hm] at hfm
            repeat' first | refine s1 ?_ | fail
            refine AW.draw 35 G.mixed (by kernel_rfl) ?_
            refine dP 0 ?_
            refine dL 1 ?_
            refine dL 2 ?_
            refine dO 3 true ?_
            first | refine s1 ?_ | refine F.c (hM) ?_
            refine ARg.nil (ATh.normal ?_)
            refine dP 4 ?_
            refine dP 5 ?_
            first | refine dT 40 rfl (by first | assumption | rfl | (simp only [decide_eq_true_eq, Bool.not_eq_true', decide_eq_false_iff_not, Bool.and_eq_true, Bool.or_eq_true]; omega)) ?_ | refine dF 40 rfl (by first | assumption | rfl | (simp only [decide_eq_false_iff_not, Bool.not_eq_false', decide_eq_true_eq, Bool.and_eq_false_iff, Bool.or_eq_false_iff]; omega)) ?_ | (refine dD 40 rfl ?_ ?_ <;> intro hc <;> (try simp only [decide_eq_true_eq, decide_eq_false_iff_not, Bool.not_eq_true', Bool.not_eq_false'] at hc)) | skip
            all_goals
              first | refine dK 6 ?_ | refine dP 6 ?_
              first | refine dK 7 ?_ | refine dL 7 ?_
              first | refine dK 8 ?_ | refine dP 8 ?_
              first | refine dK 9 ?_ | refine dL 9 ?_
              first | refine dK 10 ?_ | refine dP 10 ?_
              first | refine dK 11 ?_ | refine dP 11 ?_
              first | refine dK 12 ?_ | refine dL 12 ?_
              first | refine dK 13 ?_ | refine dP 13 ?_
              first | refine dK 14 ?_ | refine dP 14 ?_
              first | refine dK 15 ?_ | refine dL 15 ?_
              first | refine dK 16 ?_ | refine dP 16 ?_
              first | refine dK 17 ?_ | refine dL 17 ?_
              first | refine dK 18 ?_ | refine dP 18 ?_
              refine dP 19 ?_
              refine dP 20 ?_
              first | refine dT 55 rfl (by first | assumption | rfl | (simp only [decide_eq_true_eq, Bool.not_eq_true', decide_eq_false_iff_not, Bool.and_eq_true, Bool.or_eq_true]; omega)) ?_ | refine dF 55 rfl (by first | assumption | rfl | (simp only [decide_eq_false_iff_not, Bool.not_eq_false', decide_eq_true_eq, Bool.and_eq_false_iff, Bool.or_eq_false_iff]; omega)) ?_ | (refine dD 55 rfl ?_ ?_ <;> intro hc <;> (try simp only [decide_eq_true_eq, decide_eq_false_iff_not, Bool.not_eq_true', Bool.not_eq_false'] at hc)) | skip
              all_goals
                first | refine dK 21 ?_ | refine dP 21 ?_
                first | refine dK 22 ?_ | refine dL 22 ?_
                first | refine dK 23 ?_ | refine dP 23 ?_
                first | refine dK 24 ?_ | refine dL 24 ?_
                first | refine dK 25 ?_ | refine dP 25 ?_
                first | refine dK 26 ?_ | refine dP 26 ?_
                first | refine dK 27 ?_ | refine dL 27 ?_
                first | refine dK 28 ?_ | refine dP 28 ?_
                first | refine dK 29 ?_ | refine dP 29 ?_
                first | refine dK 30 ?_ | refine dL 30 ?_
                first | refine dK 31 ?_ | refine dP 31 ?_
                first | refine dK 32 ?_ | refine dL 32 ?_
                first | refine dK 33 ?_ | refine dP 33 ?_
                refine dP 34 ?_
                refine dN ?_
            repeat' first | refine s1 ?_ | fail
            refine F.ret ?_
            rw [isRep, all_no hlt hfm, Bool.and_false]
          | true =>
            rw [hm] at hM
            rw [hm] at hfm
            by_cases hc' : (r.m.getD k default).c = r.d.getD (r.q.fr.getD k default).toNat default
            · by_cases hr' : (r.m.getD k default).r = r.d.getD (r.q.to.getD k default).toNat default
              · repeat' first | refine s1 ?_ | fail
                refine AW.draw 35 G.mixed (by kernel_rfl) ?_
                refine dP 0 ?_
                refine dL 1 ?_
                refine dL 2 ?_
                refine dO 3 true ?_
                first | refine s1 ?_ | refine F.c (hM) ?_
                refine ARg.nil (ATh.normal ?_)
                refine dP 4 ?_
                refine dP 5 ?_
                first | refine dT 40 rfl (by first | assumption | rfl | (simp only [decide_eq_true_eq, Bool.not_eq_true', decide_eq_false_iff_not, Bool.and_eq_true, Bool.or_eq_true]; omega)) ?_ | refine dF 40 rfl (by first | assumption | rfl | (simp only [decide_eq_false_iff_not, Bool.not_eq_false', decide_eq_true_eq, Bool.and_eq_false_iff, Bool.or_eq_false_iff]; omega)) ?_ | (refine dD 40 rfl ?_ ?_ <;> intro hc <;> (try simp only [decide_eq_true_eq, decide_eq_false_iff_not, Bool.not_eq_true', Bool.not_eq_false'] at hc)) | skip
                all_goals
                  first | refine dK 6 ?_ | refine dP 6 ?_
                  first | refine dK 7 ?_ | refine dL 7 ?_
                  first | refine dK 8 ?_ | refine dP 8 ?_
                  first | refine dK 9 ?_ | refine dL 9 ?_
                  first | refine dK 10 ?_ | refine dP 10 ?_
                  first | refine dK 11 ?_ | refine dP 11 ?_
                  first | refine dK 12 ?_ | refine dL 12 ?_
                  first | refine dK 13 ?_ | refine dP 13 ?_
                  first | refine dK 14 ?_ | refine dP 14 ?_
                  first | refine dK 15 ?_ | refine dL 15 ?_
                  first | refine dK 16 ?_ | refine dP 16 ?_
                  first | refine dK 17 ?_ | refine dL 17 ?_
                  first | refine dK 18 ?_ | refine dP 18 ?_
                  refine dP 19 ?_
                  refine dP 20 ?_
                  first | refine dT 55 rfl (by first | assumption | rfl | (simp only [decide_eq_true_eq, Bool.not_eq_true', decide_eq_false_iff_not, Bool.and_eq_true, Bool.or_eq_true]; omega)) ?_ | refine dF 55 rfl (by first | assumption | rfl | (simp only [decide_eq_false_iff_not, Bool.not_eq_false', decide_eq_true_eq, Bool.and_eq_false_iff, Bool.or_eq_false_iff]; omega)) ?_ | (refine dD 55 rfl ?_ ?_ <;> intro hc <;> (try simp only [decide_eq_true_eq, decide_eq_false_iff_not, Bool.not_eq_true', Bool.not_eq_false'] at hc)) | skip
                  all_goals
                    first | refine dK 21 ?_ | refine dP 21 ?_
                    first | refine dK 22 ?_ | refine dL 22 ?_
                    first | refine dK 23 ?_ | refine dP 23 ?_
                    first | refine dK 24 ?_ | refine dL 24 ?_
                    first | refine dK 25 ?_ | refine dP 25 ?_
                    first | refine dK 26 ?_ | refine dP 26 ?_
                    first | refine dK 27 ?_ | refine dL 27 ?_
                    first | refine dK 28 ?_ | refine dP 28 ?_
                    first | refine dK 29 ?_ | refine dP 29 ?_
                    first | refine dK 30 ?_ | refine dL 30 ?_
                    first | refine dK 31 ?_ | refine dP 31 ?_
                    first | refine dK 32 ?_ | refine dL 32 ?_
                    first | refine dK 33 ?_ | refine dP 33 ?_
                    refine dP 34 ?_
                    refine dN ?_
                repeat' first | refine s1 ?_ | fail
                exact ⟨k + 1, F.fit ⟨rfl, trivial⟩ trivial, ⟨by omega, snocP h2 (by rw [hfm, decide_eq_true hc', decide_eq_true hr']; rfl)⟩, by omega⟩
              · repeat' first | refine s1 ?_ | fail
                refine AW.draw 35 G.mixed (by kernel_rfl) ?_
                refine dP 0 ?_
                refine dL 1 ?_
                refine dL 2 ?_
                refine dO 3 true ?_
                first | refine s1 ?_ | refine F.c (hM) ?_
                refine ARg.nil (ATh.normal ?_)
                refine dP 4 ?_
                refine dP 5 ?_
                first | refine dT 40 rfl (by first | assumption | rfl | (simp only [decide_eq_true_eq, Bool.not_eq_true', decide_eq_false_iff_not, Bool.and_eq_true, Bool.or_eq_true]; omega)) ?_ | refine dF 40 rfl (by first | assumption | rfl | (simp only [decide_eq_false_iff_not, Bool.not_eq_false', decide_eq_true_eq, Bool.and_eq_false_iff, Bool.or_eq_false_iff]; omega)) ?_ | (refine dD 40 rfl ?_ ?_ <;> intro hc <;> (try simp only [decide_eq_true_eq, decide_eq_false_iff_not, Bool.not_eq_true', Bool.not_eq_false'] at hc)) | skip
                all_goals
                  first | refine dK 6 ?_ | refine dP 6 ?_
                  first | refine dK 7 ?_ | refine dL 7 ?_
                  first | refine dK 8 ?_ | refine dP 8 ?_
                  first | refine dK 9 ?_ | refine dL 9 ?_
                  first | refine dK 10 ?_ | refine dP 10 ?_
                  first | refine dK 11 ?_ | refine dP 11 ?_
                  first | refine dK 12 ?_ | refine dL 12 ?_
                  first | refine dK 13 ?_ | refine dP 13 ?_
                  first | refine dK 14 ?_ | refine dP 14 ?_
                  first | refine dK 15 ?_ | refine dL 15 ?_
                  first | refine dK 16 ?_ | refine dP 16 ?_
                  first | refine dK 17 ?_ | refine dL 17 ?_
                  first | refine dK 18 ?_ | refine dP 18 ?_
                  refine dP 19 ?_
                  refine dP 20 ?_
                  first | refine dT 55 rfl (by first | assumption | rfl | (simp only [decide_eq_true_eq, Bool.not_eq_true', decide_eq_false_iff_not, Bool.and_eq_true, Bool.or_eq_true]; omega)) ?_ | refine dF 55 rfl (by first | assumption | rfl | (simp only [decide_eq_false_iff_not, Bool.not_eq_false', decide_eq_true_eq, Bool.and_eq_false_iff, Bool.or_eq_false_iff]; omega)) ?_ | (refine dD 55 rfl ?_ ?_ <;> intro hc <;> (try simp only [decide_eq_true_eq, decide_eq_false_iff_not, Bool.not_eq_true', Bool.not_eq_false'] at hc)) | skip
                  all_goals
                    first | refine dK 21 ?_ | refine dP 21 ?_
                    first | refine dK 22 ?_ | refine dL 22 ?_
                    first | refine dK 23 ?_ | refine dP 23 ?_
                    first | refine dK 24 ?_ | refine dL 24 ?_
                    first | refine dK 25 ?_ | refine dP 25 ?_
                    first | refine dK 26 ?_ | refine dP 26 ?_
                    first | refine dK 27 ?_ | refine dL 27 ?_
                    first | refine dK 28 ?_ | refine dP 28 ?_
                    first | refine dK 29 ?_ | refine dP 29 ?_
                    first | refine dK 30 ?_ | refine dL 30 ?_
                    first | refine dK 31 ?_ | refine dP 31 ?_
                    first | refine dK 32 ?_ | refine dL 32 ?_
                    first | refine dK 33 ?_ | refine dP 33 ?_
                    refine dP 34 ?_
                    refine dN ?_
                repeat' first | refine s1 ?_ | fail
                refine F.ret ?_
                rw [isRep, all_no hlt (by rw [hfm, decide_eq_false hr', Bool.and_false]), Bool.and_false]
            · repeat' first | refine s1 ?_ | fail
              refine AW.draw 35 G.mixed (by kernel_rfl) ?_
              refine dP 0 ?_
              refine dL 1 ?_
              refine dL 2 ?_
              refine dO 3 true ?_
              first | refine s1 ?_ | refine F.c (hM) ?_
              refine ARg.nil (ATh.normal ?_)
              refine dP 4 ?_
              refine dP 5 ?_
              first | refine dT 40 rfl (by first | assumption | rfl | (simp only [decide_eq_true_eq, Bool.not_eq_true', decide_eq_false_iff_not, Bool.and_eq_true, Bool.or_eq_true]; omega)) ?_ | refine dF 40 rfl (by first | assumption | rfl | (simp only [decide_eq_false_iff_not, Bool.not_eq_false', decide_eq_true_eq, Bool.and_eq_false_iff, Bool.or_eq_false_iff]; omega)) ?_ | (refine dD 40 rfl ?_ ?_ <;> intro hc <;> (try simp only [decide_eq_true_eq, decide_eq_false_iff_not, Bool.not_eq_true', Bool.not_eq_false'] at hc)) | skip
              all_goals
                first | refine dK 6 ?_ | refine dP 6 ?_
                first | refine dK 7 ?_ | refine dL 7 ?_
                first | refine dK 8 ?_ | refine dP 8 ?_
                first | refine dK 9 ?_ | refine dL 9 ?_
                first | refine dK 10 ?_ | refine dP 10 ?_
                first | refine dK 11 ?_ | refine dP 11 ?_
                first | refine dK 12 ?_ | refine dL 12 ?_
                first | refine dK 13 ?_ | refine dP 13 ?_
                first | refine dK 14 ?_ | refine dP 14 ?_
                first | refine dK 15 ?_ | refine dL 15 ?_
                first | refine dK 16 ?_ | refine dP 16 ?_
                first | refine dK 17 ?_ | refine dL 17 ?_
                first | refine dK 18 ?_ | refine dP 18 ?_
                refine dP 19 ?_
                refine dP 20 ?_
                first | refine dT 55 rfl (by first | assumption | rfl | (simp only [decide_eq_true_eq, Bool.not_eq_true', decide_eq_false_iff_not, Bool.and_eq_true, Bool.or_eq_true]; omega)) ?_ | refine dF 55 rfl (by first | assumption | rfl | (simp only [decide_eq_false_iff_not, Bool.not_eq_false', decide_eq_true_eq, Bool.and_eq_false_iff, Bool.or_eq_false_iff]; omega)) ?_ | (refine dD 55 rfl ?_ ?_ <;> intro hc <;> (try simp only [decide_eq_true_eq, decide_eq_false_iff_not, Bool.not_eq_true', Bool.not_eq_false'] at hc)) | skip
                all_goals
                  first | refine dK 21 ?_ | refine dP 21 ?_
                  first | refine dK 22 ?_ | refine dL 22 ?_
                  first | refine dK 23 ?_ | refine dP 23 ?_
                  first | refine dK 24 ?_ | refine dL 24 ?_
                  first | refine dK 25 ?_ | refine dP 25 ?_
                  first | refine dK 26 ?_ | refine dP 26 ?_
                  first | refine dK 27 ?_ | refine dL 27 ?_
                  first | refine dK 28 ?_ | refine dP 28 ?_
                  first | refine dK 29 ?_ | refine dP 29 ?_
                  first | refine dK 30 ?_ | refine dL 30 ?_
                  first | refine dK 31 ?_ | refine dP 31 ?_
                  first | refine dK 32 ?_ | refine dL 32 ?_
                  first | refine dK 33 ?_ | refine dP 33 ?_
                  refine dP 34 ?_
                  refine dN ?_
              repeat' first | refine s1 ?_ | fail
              refine F.ret ?_
              rw [isRep, all_no hlt (by rw [hfm, decide_eq_false hc', Bool.and_false, Bool.false_and]), Bool.and_false]
        · obtain rfl : k = r.m.length := by omega
          repeat' first | refine s1 ?_ | fail
          refine F.ret ?_
          rw [isRep, hf, hd, decide_eq_true hl, all_yes h2]; rfl
      · repeat' first | refine s1 ?_ | (refine kR ?_; first | refine F.c (hF) ?_ | refine F.c (hD) ?_) | fail
        refine F.ret ?_
        rw [isRep, decide_eq_false hl]; simp
theorem specIsRep_a (r : Rep) : AC Tryz.prog 90 [.agg (enc false r)] [.b (isRep r)] := by
  refine AC.go Tryz.func90 Tryz.ntmps90 rfl rfl fun w0 hw => ?_; simp [WfL, WfA, E_length, Enc.enc, In64] at hw
  have hF := specIsField_a r.p
  have hD := specAreDims_a r.q r.d
  cases hf : isF r.p with
  | false =>
    rw [hf] at hF
    repeat' first | refine s1 ?_ | (refine kR ?_; first | refine F.c (hF) ?_) | fail
    refine F.ret ?_
    rw [isRep, hf]; rfl
  | true =>
    rw [hf] at hF
    cases hd : areDims r.q r.d with
    | false =>
      rw [hd] at hD
      repeat' first | refine s1 ?_ | (refine kR ?_; first | refine F.c (hF) ?_ | refine F.c (hD) ?_) | fail
      refine F.ret ?_
      rw [isRep, hf, hd]; rfl
    | true =>
      rw [hd] at hD
      obtain ⟨hq, hdl, hda, _⟩ := areDims_spec hd
      have h5 := okQ_spec hq
      by_cases hl : r.m.length = r.q.fr.length
      · repeat' first | refine s1 ?_ | (refine kR ?_; first | refine F.c (hF) ?_ | refine F.c (hD) ?_) | fail
        refine F.loop (σ := Nat) [2, 3, 26, 27, 28, 29, 30, 31, 32, 33, 34, 35, 36, 37, 38, 39, 40, 41, 42, 43, 44, 45, 46, 47, 48, 49, 50, 51, 52, 53, 54, 55, 56, 57, 58, 59, 60, 61, 62, 63, 64, 65, 66, 67, 68, 69, 70, 71, 72, 73, 74, 75, 76, 77, 78, 79] (fun k => [(3, .i k)]) (fun _ => []) (fun k => k ≤ r.m.length ∧ ∀ j, j < k → fitM r j = true) (fun k => r.m.length - k) 0 ⟨rfl, trivial⟩ trivial ⟨Nat.zero_le _, fun j hj => by omega⟩ ?_
        rintro k ⟨h1, h2⟩
        by_cases hlt : k < r.m.length
        · have f := okQ_fr hq (k := k) (by omega)
          have t := okQ_to hq (k := k) (by omega)
          have f' : 0 ≤ r.q.fr.getD k default ∧ r.q.fr.getD k default < r.q.n := f
          have t' : 0 ≤ r.q.to.getD k default ∧ r.q.to.getD k default < r.q.n := t
          have hM := specIsMatrix_a r.p (r.m.getD k default)
          have hfm : fitM r k = (isMat r.p (r.m.getD k default) && decide ((r.m.getD k default).c = r.d.getD (r.q.fr.getD k default).toNat default) && decide ((r.m.getD k default).r = r.d.getD (r.q.to.getD k default).toNat default)) := rfl
          cases hm : isMat r.p (r.m.getD k default) with
          | false =>
            rw [hm] at hM
            rw [hm] at hfm
            repeat' first | refine s1 ?_ | fail
            refine AW.draw 47 G.mixed (by kernel_rfl) ?_
            refine dP 0 ?_
            refine dL 1 ?_
            refine dP 2 ?_
            refine dL 3 ?_
            refine dP 4 ?_
            refine dP 5 ?_
            refine dL 6 ?_
            refine dO 7 true ?_
            first | refine s1 ?_ | refine F.c (hM) ?_
            refine ARg.nil (ATh.normal ?_)
            refine dP 8 ?_
            refine dP 9 ?_
            first | refine dT 42 rfl (by first | assumption | rfl | (simp only [decide_eq_true_eq, Bool.not_eq_true', decide_eq_false_iff_not, Bool.and_eq_true, Bool.or_eq_true]; omega)) ?_ | refine dF 42 rfl (by first | assumption | rfl | (simp only [decide_eq_false_iff_not, Bool.not_eq_false', decide_eq_true_eq, Bool.and_eq_false_iff, Bool.or_eq_false_iff]; omega)) ?_ | (refine dD 42 rfl ?_ ?_ <;> intro hc <;> (try simp only [decide_eq_true_eq, decide_eq_false_iff_not, Bool.not_eq_true', Bool.not_eq_false'] at hc)) | skip
            all_goals
              first | refine dK 10 ?_ | refine dP 10 ?_
              first | refine dK 11 ?_ | refine dL 11 ?_
              first | refine dK 12 ?_ | refine dP 12 ?_
              first | refine dK 13 ?_ | refine dP 13 ?_
              first | refine dK 14 ?_ | refine dP 14 ?_
              first | refine dK 15 ?_ | refine dL 15 ?_
              first | refine dK 16 ?_ | refine dP 16 ?_
              first | refine dK 17 ?_ | refine dL 17 ?_
              first | refine dK 18 ?_ | refine dP 18 ?_
              first | refine dK 19 ?_ | refine dP 19 ?_
              first | refine dK 20 ?_ | refine dL 20 ?_
              first | refine dK 21 ?_ | refine dP 21 ?_
              first | refine dK 22 ?_ | refine dP 22 ?_
              first | refine dK 23 ?_ | refine dL 23 ?_
              first | refine dK 24 ?_ | refine dP 24 ?_
              first | refine dK 25 ?_ | refine dL 25 ?_
              first | refine dK 26 ?_ | refine dP 26 ?_
              refine dP 27 ?_
              refine dP 28 ?_
              first | refine dT 61 rfl (by first | assumption | rfl | (simp only [decide_eq_true_eq, Bool.not_eq_true', decide_eq_false_iff_not, Bool.and_eq_true, Bool.or_eq_true]; omega)) ?_ | refine dF 61 rfl (by first | assumption | rfl | (simp only [decide_eq_false_iff_not, Bool.not_eq_false', decide_eq_true_eq, Bool.and_eq_false_iff, Bool.or_eq_false_iff]; omega)) ?_ | (refine dD 61 rfl ?_ ?_ <;> intro hc <;> (try simp only [decide_eq_true_eq, decide_eq_false_iff_not, Bool.not_eq_true', Bool.not_eq_false'] at hc)) | skip
              all_goals
                first | refine dK 29 ?_ | refine dP 29 ?_
                first | refine dK 30 ?_ | refine dL 30 ?_
                first | refine dK 31 ?_ | refine dP 31 ?_
                first | refine dK 32 ?_ | refine dP 32 ?_
                first | refine dK 33 ?_ | refine dP 33 ?_
                first | refine dK 34 ?_ | refine dL 34 ?_
                first | refine dK 35 ?_ | refine dP 35 ?_
                first | refine dK 36 ?_ | refine dL 36 ?_
                first | refine dK 37 ?_ | refine dP 37 ?_
                first | refine dK 38 ?_ | refine dP 38 ?_
                first | refine dK 39 ?_ | refine dL 39 ?_
                first | refine dK 40 ?_ | refine dP 40 ?_
                first | refine dK 41 ?_ | refine dP 41 ?_
                first | refine dK 42 ?_ | refine dL 42 ?_
                first | refine dK 43 ?_ | refine dP 43 ?_
                first | refine dK 44 ?_ | refine dL 44 ?_
                first | refine dK 45 ?_ | refine dP 45 ?_
                refine dP 46 ?_
                refine dN ?_
            repeat' first | refine s1 ?_ | fail
            refine F.ret ?_
            rw [isRep, all_no hlt hfm, Bool.and_false]
          | true =>
            rw [hm] at hM
            rw [hm] at hfm
            by_cases hc' : (r.m.getD k default).c = r.d.getD (r.q.fr.getD k default).toNat default
            · by_cases hr' : (r.m.getD k default).r = r.d.getD (r.q.to.getD k default).toNat default
              · repeat' first | refine s1 ?_ | fail
                refine AW.draw 47 G.mixed (by kernel_rfl) ?_
                refine dP 0 ?_
                refine dL 1 ?_
                refine dP 2 ?_
                refine dL 3 ?_
                refine dP 4 ?_
                refine dP 5 ?_
                refine dL 6 ?_
                refine dO 7 true ?_
                first | refine s1 ?_ | refine F.c (hM) ?_
                refine ARg.nil (ATh.normal ?_)
                refine dP 8 ?_
                refine dP 9 ?_
                first | refine dT 42 rfl (by first | assumption | rfl | (simp only [decide_eq_true_eq, Bool.not_eq_true', decide_eq_false_iff_not, Bool.and_eq_true, Bool.or_eq_true]; omega)) ?_ | refine dF 42 rfl (by first | assumption | rfl | (simp only [decide_eq_false_iff_not, Bool.not_eq_false', decide_eq_true_eq, Bool.and_eq_false_iff, Bool.or_eq_false_iff]; omega)) ?_ | (refine dD 42 rfl ?_ ?_ <;> intro hc <;> (try simp only [decide_eq_true_eq, decide_eq_false_iff_not, Bool.not_eq_true', Bool.not_eq_false'] at hc)) | skip
                all_goals
                  first | refine dK 10 ?_ | refine dP 10 ?_
                  first | refine dK 11 ?_ | refine dL 11 ?_
                  first | refine dK 12 ?_ | refine dP 12 ?_
                  first | refine dK 13 ?_ | refine dP 13 ?_
                  first | refine dK 14 ?_ | refine dP 14 ?_
                  first | refine dK 15 ?_ | refine dL 15 ?_
                  first | refine dK 16 ?_ | refine dP 16 ?_
                  first | refine dK 17 ?_ | refine dL 17 ?_
                  first | refine dK 18 ?_ | refine dP 18 ?_
                  first | refine dK 19 ?_ | refine dP 19 ?_
                  first | refine dK 20 ?_ | refine dL 20 ?_
                  first | refine dK 21 ?_ | refine dP 21 ?_
                  first | refine dK 22 ?_ | refine dP 22 ?_
                  first | refine dK 23 ?_ | refine dL 23 ?_
                  first | refine dK 24 ?_ | refine dP 24 ?_
                  first | refine dK 25 ?_ | refine dL 25 ?_
                  first | refine dK 26 ?_ | refine dP 26 ?_
                  refine dP 27 ?_
                  refine dP 28 ?_
                  first | refine dT 61 rfl (by first | assumption | rfl | (simp only [decide_eq_true_eq, Bool.not_eq_true', decide_eq_false_iff_not, Bool.and_eq_true, Bool.or_eq_true]; omega)) ?_ | refine dF 61 rfl (by first | assumption | rfl | (simp only [decide_eq_false_iff_not, Bool.not_eq_false', decide_eq_true_eq, Bool.and_eq_false_iff, Bool.or_eq_false_iff]; omega)) ?_ | (refine dD 61 rfl ?_ ?_ <;> intro hc <;> (try simp only [decide_eq_true_eq, decide_eq_false_iff_not, Bool.not_eq_true', Bool.not_eq_false'] at hc)) | skip
                  all_goals
                    first | refine dK 29 ?_ | refine dP 29 ?_
                    first | refine dK 30 ?_ | refine dL 30 ?_
                    first | refine dK 31 ?_ | refine dP 31 ?_
                    first | refine dK 32 ?_ | refine dP 32 ?_
                    first | refine dK 33 ?_ | refine dP 33 ?_
                    first | refine dK 34 ?_ | refine dL 34 ?_
                    first | refine dK 35 ?_ | refine dP 35 ?_
                    first | refine dK 36 ?_ | refine dL 36 ?_
                    first | refine dK 37 ?_ | refine dP 37 ?_
                    first | refine dK 38 ?_ | refine dP 38 ?_
                    first | refine dK 39 ?_ | refine dL 39 ?_
                    first | refine dK 40 ?_ | refine dP 40 ?_
                    first | refine dK 41 ?_ | refine dP 41 ?_
                    first | refine dK 42 ?_ | refine dL 42 ?_
                    first | refine dK 43 ?_ | refine dP 43 ?_
                    first | refine dK 44 ?_ | refine dL 44 ?_
                    first | refine dK 45 ?_ | refine dP 45 ?_
                    refine dP 46 ?_
                    refine dN ?_
                repeat' first | refine s1 ?_ | fail
                exact ⟨k + 1, F.fit ⟨rfl, trivial⟩ trivial, ⟨by omega, snocP h2 (by rw [hfm, decide_eq_true hc', decide_eq_true hr']; rfl)⟩, by omega⟩
              · repeat' first | refine s1 ?_ | fail
                refine AW.draw 47 G.mixed (by kernel_rfl) ?_
                refine dP 0 ?_
                refine dL 1 ?_
                refine dP 2 ?_
                refine dL 3 ?_
                refine dP 4 ?_
                refine dP 5 ?_
                refine dL 6 ?_
                refine dO 7 true ?_
                first | refine s1 ?_ | refine F.c (hM) ?_
                refine ARg.nil (ATh.normal ?_)
                refine dP 8 ?_
                refine dP 9 ?_
                first | refine dT 42 rfl (by first | assumption | rfl | (simp only [decide_eq_true_eq, Bool.not_eq_true', decide_eq_false_iff_not, Bool.and_eq_true, Bool.or_eq_true]; omega)) ?_ | refine dF 42 rfl (by first | assumption | rfl | (simp only [decide_eq_false_iff_not, Bool.not_eq_false', decide_eq_true_eq, Bool.and_eq_false_iff, Bool.or_eq_false_iff]; omega)) ?_ | (refine dD 42 rfl ?_ ?_ <;> intro hc <;> (try simp only [decide_eq_true_eq, decide_eq_false_iff_not, Bool.not_eq_true', Bool.not_eq_false'] at hc)) | skip
                all_goals
                  first | refine dK 10 ?_ | refine dP 10 ?_
                  first | refine dK 11 ?_ | refine dL 11 ?_
                  first | refine dK 12 ?_ | refine dP 12 ?_
                  first | refine dK 13 ?_ | refine dP 13 ?_
                  first | refine dK 14 ?_ | refine dP 14 ?_
                  first | refine dK 15 ?_ | refine dL 15 ?_
                  first | refine dK 16 ?_ | refine dP 16 ?_
                  first | refine dK 17 ?_ | refine dL 17 ?_
                  first | refine dK 18 ?_ | refine dP 18 ?_
                  first | refine dK 19 ?_ | refine dP 19 ?_
                  first | refine dK 20 ?_ | refine dL 20 ?_
                  first | refine dK 21 ?_ | refine dP 21 ?_
                  first | refine dK 22 ?_ | refine dP 22 ?_
                  first | refine dK 23 ?_ | refine dL 23 ?_
                  first | refine dK 24 ?_ | refine dP 24 ?_
                  first | refine dK 25 ?_ | refine dL 25 ?_
                  first | refine dK 26 ?_ | refine dP 26 ?_
                  refine dP 27 ?_
                  refine dP 28 ?_
                  first | refine dT 61 rfl (by first | assumption | rfl | (simp only [decide_eq_true_eq, Bool.not_eq_true', decide_eq_false_iff_not, Bool.and_eq_true, Bool.or_eq_true]; omega)) ?_ | refine dF 61 rfl (by first | assumption | rfl | (simp only [decide_eq_false_iff_not, Bool.not_eq_false', decide_eq_true_eq, Bool.and_eq_false_iff, Bool.or_eq_false_iff]; omega)) ?_ | (refine dD 61 rfl ?_ ?_ <;> intro hc <;> (try simp only [decide_eq_true_eq, decide_eq_false_iff_not, Bool.not_eq_true', Bool.not_eq_false'] at hc)) | skip
                  all_goals
                    first | refine dK 29 ?_ | refine dP 29 ?_
                    first | refine dK 30 ?_ | refine dL 30 ?_
                    first | refine dK 31 ?_ | refine dP 31 ?_
                    first | refine dK 32 ?_ | refine dP 32 ?_
                    first | refine dK 33 ?_ | refine dP 33 ?_
                    first | refine dK 34 ?_ | refine dL 34 ?_
                    first | refine dK 35 ?_ | refine dP 35 ?_
                    first | refine dK 36 ?_ | refine dL 36 ?_
                    first | refine dK 37 ?_ | refine dP 37 ?_
                    first | refine dK 38 ?_ | refine dP 38 ?_
                    first | refine dK 39 ?_ | refine dL 39 ?_
                    first | refine dK 40 ?_ | refine dP 40 ?_
                    first | refine dK 41 ?_ | refine dP 41 ?_
                    first | refine dK 42 ?_ | refine dL 42 ?_
                    first | refine dK 43 ?_ | refine dP 43 ?_
                    first | refine dK 44 ?_ | refine dL 44 ?_
                    first | refine dK 45 ?_ | refine dP 45 ?_
                    refine dP 46 ?_
                    refine dN ?_
                repeat' first | refine s1 ?_ | fail
                refine F.ret ?_
                rw [isRep, all_no hlt (by rw [hfm, decide_eq_false hr', Bool.and_false]), Bool.and_false]
            · repeat' first | refine s1 ?_ | fail
              refine AW.draw 47 G.mixed (by kernel_rfl) ?_
              refine dP 0 ?_
              refine dL 1 ?_
              refine dP 2 ?_
              refine dL 3 ?_
              refine dP 4 ?_
              refine dP 5 ?_
              refine dL 6 ?_
              refine dO 7 true ?_
              first | refine s1 ?_ | refine F.c (hM) ?_
              refine ARg.nil (ATh.normal ?_)
              refine dP 8 ?_
              refine dP 9 ?_
              first | refine dT 42 rfl (by first | assumption | rfl | (simp only [decide_eq_true_eq, Bool.not_eq_true', decide_eq_false_iff_not, Bool.and_eq_true, Bool.or_eq_true]; omega)) ?_ | refine dF 42 rfl (by first | assumption | rfl | (simp only [decide_eq_false_iff_not, Bool.not_eq_false', decide_eq_true_eq, Bool.and_eq_false_iff, Bool.or_eq_false_iff]; omega)) ?_ | (refine dD 42 rfl ?_ ?_ <;> intro hc <;> (try simp only [decide_eq_true_eq, decide_eq_false_iff_not, Bool.not_eq_true', Bool.not_eq_false'] at hc)) | skip
              all_goals
                first | refine dK 10 ?_ | refine dP 10 ?_
                first | refine dK 11 ?_ | refine dL 11 ?_
                first | refine dK 12 ?_ | refine dP 12 ?_
                first | refine dK 13 ?_ | refine dP 13 ?_
                first | refine dK 14 ?_ | refine dP 14 ?_
                first | refine dK 15 ?_ | refine dL 15 ?_
                first | refine dK 16 ?_ | refine dP 16 ?_
                first | refine dK 17 ?_ | refine dL 17 ?_
                first | refine dK 18 ?_ | refine dP 18 ?_
                first | refine dK 19 ?_ | refine dP 19 ?_
                first | refine dK 20 ?_ | refine dL 20 ?_
                first | refine dK 21 ?_ | refine dP 21 ?_
                first | refine dK 22 ?_ | refine dP 22 ?_
                first | refine dK 23 ?_ | refine dL 23 ?_
                first | refine dK 24 ?_ | refine dP 24 ?_
                first | refine dK 25 ?_ | refine dL 25 ?_
                first | refine dK 26 ?_ | refine dP 26 ?_
                refine dP 27 ?_
                refine dP 28 ?_
                first | refine dT 61 rfl (by first | assumption | rfl | (simp only [decide_eq_true_eq, Bool.not_eq_true', decide_eq_false_iff_not, Bool.and_eq_true, Bool.or_eq_true]; omega)) ?_ | refine dF 61 rfl (by first | assumption | rfl | (simp only [decide_eq_false_iff_not, Bool.not_eq_false', decide_eq_true_eq, Bool.and_eq_false_iff, Bool.or_eq_false_iff]; omega)) ?_ | (refine dD 61 rfl ?_ ?_ <;> intro hc <;> (try simp only [decide_eq_true_eq, decide_eq_false_iff_not, Bool.not_eq_true', Bool.not_eq_false'] at hc)) | skip
                all_goals
                  first | refine dK 29 ?_ | refine dP 29 ?_
                  first | refine dK 30 ?_ | refine dL 30 ?_
                  first | refine dK 31 ?_ | refine dP 31 ?_
                  first | refine dK 32 ?_ | refine dP 32 ?_
                  first | refine dK 33 ?_ | refine dP 33 ?_
                  first | refine dK 34 ?_ | refine dL 34 ?_
                  first | refine dK 35 ?_ | refine dP 35 ?_
                  first | refine dK 36 ?_ | refine dL 36 ?_
                  first | refine dK 37 ?_ | refine dP 37 ?_
                  first | refine dK 38 ?_ | refine dP 38 ?_
                  first | refine dK 39 ?_ | refine dL 39 ?_
                  first | refine dK 40 ?_ | refine dP 40 ?_
                  first | refine dK 41 ?_ | refine dP 41 ?_
                  first | refine dK 42 ?_ | refine dL 42 ?_
                  first | refine dK 43 ?_ | refine dP 43 ?_
                  first | refine dK 44 ?_ | refine dL 44 ?_
                  first | refine dK 45 ?_ | refine dP 45 ?_
                  refine dP 46 ?_
                  refine dN ?_
              repeat' first | refine s1 ?_ | fail
              refine F.ret ?_
              rw [isRep, all_no hlt (by rw [hfm, decide_eq_false hc', Bool.and_false, Bool.false_and]), Bool.and_false]
        · obtain rfl : k = r.m.length := by omega
          repeat' first | refine s1 ?_ | fail
          refine F.ret ?_
          rw [isRep, hf, hd, decide_eq_true hl, all_yes h2]; rfl
      · repeat' first | refine s1 ?_ | (refine kR ?_; first | refine F.c (hF) ?_ | refine F.c (hD) ?_) | fail
        refine F.ret ?_
        rw [isRep, decide_eq_false hl]; simp
def fitR (a b : Rep) : Bool := isRep a && isRep b && decide (a.p = b.p) && sameQ a.q b.q
theorem fitR_spec {a b : Rep} (h : fitR a b = true) : isRep a = true ∧ isRep b = true ∧ a.p = b.p ∧ a.q = b.q := by
  simp only [fitR, sameQ, Bool.and_eq_true, decide_eq_true_eq] at h
  refine ⟨h.1.1.1, h.1.1.2, h.1.2, ?_⟩
  obtain ⟨⟨h1, h2⟩, h3⟩ := h.2
  cases ha : a.q; cases hb : b.q; simp_all
theorem fit_a (a b : Rep) : AC Tryz.prog 158 [.agg (enc false a), .agg (enc false b)] [.b (fitR a b)] := by
  refine AC.go Tryz.func158 Tryz.ntmps158 rfl rfl fun w0 hw => ?_; simp [WfL, WfA, E_length, Enc.enc, In64] at hw
  have hA := implIsRep_a a
  have hB := implIsRep_a b
  have hE := implEqualQuivers_a a.q b.q
  have hf : fitR a b = (isRep a && isRep b && decide (a.p = b.p) && sameQ a.q b.q) := rfl
  generalize fitR a b = X at hf ⊢
  cases ha : isRep a with
  | false =>
    rw [ha] at hA hf
    repeat' first | refine s1 ?_ | (refine kR ?_; first | refine F.c (hA) ?_) | fail
    subst hf
    (refine kZ ?_; exact F.ret rfl)
  | true =>
    rw [ha] at hA hf
    cases hb : isRep b with
    | false =>
      rw [hb] at hB hf
      repeat' first | refine s1 ?_ | (refine kR ?_; first | refine F.c (hA) ?_ | refine F.c (hB) ?_) | fail
      subst hf
      (refine kZ ?_; exact F.ret rfl)
    | true =>
      rw [hb] at hB hf
      generalize sameQ a.q b.q = Y at hE hf
      by_cases hp : a.p = b.p
      · rw [decide_eq_true hp] at hf
        subst hf
        repeat' first | refine s1 ?_ | (refine kR ?_; first | refine F.c (hA) ?_ | refine F.c (hB) ?_ | refine F.c (hE) ?_) | fail
        (refine kZ ?_; exact F.ret rfl)
      · rw [decide_eq_false hp] at hf
        subst hf
        repeat' first | refine s1 ?_ | (refine kR ?_; first | refine F.c (hA) ?_ | refine F.c (hB) ?_) | fail
        refine F.ret ?_
        simp [hp]
theorem l9Fit_a (a b : Rep) : AC Tryz.prog 195 [.agg (enc false a), .agg (enc false b)] [.b (fitR a b)] := by
  refine AC.go Tryz.func195 Tryz.ntmps195 rfl rfl fun w0 hw => ?_; simp [WfL, WfA, E_length, Enc.enc, In64] at hw
  have hA := specIsRep_a a
  have hB := specIsRep_a b
  have hE := specEqualQuivers_a a.q b.q
  have hf : fitR a b = (isRep a && isRep b && decide (a.p = b.p) && sameQ a.q b.q) := rfl
  generalize fitR a b = X at hf ⊢
  cases ha : isRep a with
  | false =>
    rw [ha] at hA hf
    repeat' first | refine s1 ?_ | (refine kR ?_; first | refine F.c (hA) ?_) | fail
    subst hf
    (refine kZ ?_; exact F.ret rfl)
  | true =>
    rw [ha] at hA hf
    cases hb : isRep b with
    | false =>
      rw [hb] at hB hf
      repeat' first | refine s1 ?_ | (refine kR ?_; first | refine F.c (hA) ?_ | refine F.c (hB) ?_) | fail
      subst hf
      (refine kZ ?_; exact F.ret rfl)
    | true =>
      rw [hb] at hB hf
      generalize sameQ a.q b.q = Y at hE hf
      by_cases hp : a.p = b.p
      · rw [decide_eq_true hp] at hf
        subst hf
        repeat' first | refine s1 ?_ | (refine kR ?_; first | refine F.c (hA) ?_ | refine F.c (hB) ?_ | refine F.c (hE) ?_) | fail
        (refine kZ ?_; exact F.ret rfl)
      · rw [decide_eq_false hp] at hf
        subst hf
        repeat' first | refine s1 ?_ | (refine kR ?_; first | refine F.c (hA) ?_ | refine F.c (hB) ?_) | fail
        refine F.ret ?_
        simp [hp]
end Go.Proofs.YtedjajokbdokhaaGreat.V
