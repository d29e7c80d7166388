/- Contracts: morphisms, coboundaries. -/
import Derived.Test.YtedjajokbdokhaaGreatA13
import Derived.Test.YtedjajokbdokhaaGreatA23
namespace Go.Proofs.YtedjajokbdokhaaGreat.V
open V.Enc (enc)
open Go.RowKit G D
set_option linter.unusedVariables false
set_option linter.unusedSimpArgs false
set_option maxHeartbeats 2000000
set_option maxRecDepth 4000
attribute [local irreducible] AW ARg ARA ARet MRet ASil AC AM

def sameM (x y : Mat) : Bool := decide (x.r = y.r) && decide (x.c = y.c) && decide (x.m = y.m)
theorem specEqualMatrices_a (x y : Mat) : AC Tryz.prog 153 [.agg (enc false x), .agg (enc false y)] [.b (sameM x y)] := by
  refine AC.go Tryz.func153 Tryz.ntmps153 rfl rfl fun w0 hw => ?_; simp [WfL, WfA, E_length, Enc.enc, In64] at hw
  by_cases h1 : x.r = y.r
  · by_cases h2 : x.c = y.c
    · by_cases hl : x.m.length = y.m.length
      · repeat' first | refine s1 ?_ | fail
        refine F.loop (σ := Nat) [4, 5, 27, 28, 29, 30, 31, 32, 33, 34, 35, 36, 37, 38, 39, 40, 41, 42, 43, 44] (fun k => [(5, .i k)]) (fun _ => []) (fun k => k ≤ x.m.length ∧ ∀ j, j < k → x.m.getD j default = y.m.getD j default) (fun k => x.m.length - k) 0 ⟨rfl, trivial⟩ trivial ⟨Nat.zero_le _, fun j hj => by omega⟩ ?_
        rintro k ⟨g1, g2⟩
        by_cases hlt : k < x.m.length
        · by_cases he : x.m.getD k default = y.m.getD k default
          · repeat' first | refine s1 ?_ | fail
            refine AW.draw 11 G.mixed (by kernel_rfl) ?_
            refine dP 0 ?_
            refine dL 1 ?_
            refine dP 2 ?_
            refine dP 3 ?_
            refine dL 4 ?_
            refine dP 5 ?_
            refine dL 6 ?_
            refine dP 7 ?_
            refine dP 8 ?_
            refine dL 9 ?_
            refine dP 10 ?_
            refine dN ?_
            repeat' first | refine s1 ?_ | fail
            exact ⟨k + 1, F.fit ⟨rfl, trivial⟩ trivial, ⟨by omega, snocP g2 he⟩, by omega⟩
          · repeat' first | refine s1 ?_ | fail
            refine AW.draw 11 G.mixed (by kernel_rfl) ?_
            refine dP 0 ?_
            refine dL 1 ?_
            refine dP 2 ?_
            refine dP 3 ?_
            refine dL 4 ?_
            refine dP 5 ?_
            refine dL 6 ?_
            refine dP 7 ?_
            refine dP 8 ?_
            refine dL 9 ?_
            refine dP 10 ?_
            refine dN ?_
            repeat' first | refine s1 ?_ | fail
            have hne : x.m ≠ y.m := fun h => he (by rw [h])
            refine F.ret ?_
            rw [sameM, decide_eq_false hne, Bool.and_false]
        · repeat' first | refine s1 ?_ | fail
          refine F.ret ?_
          rw [sameM, decide_eq_true h1, decide_eq_true h2, decide_eq_true (List.ext_getElem hl fun i hi hi' => by have := g2 i (by omega); simpa [hi, hi'] using this)]; rfl
      · repeat' first | refine s1 ?_ | fail
        have hne : x.m ≠ y.m := fun h => hl (by rw [h])
        refine F.ret ?_
        rw [sameM, decide_eq_false hne, Bool.and_false]
    · repeat' first | refine s1 ?_ | fail
      refine F.ret ?_
      rw [sameM, decide_eq_false h2, Bool.and_false, Bool.false_and]
  · repeat' first | refine s1 ?_ | fail
    refine F.ret ?_
    rw [sameM, decide_eq_false h1, Bool.false_and, Bool.false_and]
/-- a matrix that fits at a vertex -/
def fitV (a b : Rep) (f : List Mat) (v : Nat) : Bool := isMat a.p (f.getD v default) && decide ((f.getD v default).c = a.d.getD v default) && decide ((f.getD v default).r = b.d.getD v default)
def areM (a b : Rep) (f : List Mat) : Bool := fitR a b && decide (f.length = a.d.length) && (List.range f.length).all (fitV a b f)
theorem areM_spec {a b : Rep} {f : List Mat} (h : areM a b f = true) : fitR a b = true ∧ f.length = a.d.length ∧ ∀ v, v < f.length → fitV a b f v = true := by
  simp only [areM, Bool.and_eq_true, decide_eq_true_eq, List.all_eq_true] at h
  exact ⟨h.1.1, h.1.2, fun v hv => h.2 v (by simpa using hv)⟩
theorem implAreMatrices_a (a b : Rep) (f : List Mat) : AC Tryz.prog 107 [.agg (enc false a), .agg (enc false b), ar false f] [.b (areM a b f)] := by
  refine AC.go Tryz.func107 Tryz.ntmps107 rfl rfl fun w0 hw => ?_; simp [WfL, WfA, E_length, Enc.enc, In64] at hw
  have hF := fit_a a b
  cases hf : fitR a b with
  | false =>
    rw [hf] at hF
    repeat' first | refine s1 ?_ | (refine kR ?_; first | refine F.c (hF) ?_) | fail
    refine F.ret ?_
    rw [areM, hf]; rfl
  | true =>
    rw [hf] at hF
    have hh := Fits.of hf
    have h5 := okQ_spec hh.ok
    have hda := hh.da
    have hdb := hh.db
    by_cases hl : f.length = a.d.length
    · repeat' first | refine s1 ?_ | (refine kR ?_; first | refine F.c (hF) ?_) | fail
      refine F.loop (σ := Nat) [6, 7, 8, 23, 24, 25, 26, 27, 28, 29, 30, 31, 32, 33, 34, 35, 36, 37, 38, 39, 40, 41, 42, 43, 44, 45, 46, 47, 48, 49, 50, 51, 52, 53] (fun k => [(23, .i k)]) (fun _ => []) (fun k => k ≤ f.length ∧ ∀ j, j < k → fitV a b f j = true) (fun k => f.length - k) 0 ⟨rfl, trivial⟩ trivial ⟨Nat.zero_le _, fun j hj => by omega⟩ ?_
      rintro k ⟨h1, h2⟩
      by_cases hlt : k < f.length
      · have hM := implIsMatrix_a a.p (f.getD k default)
        have hfm : fitV a b f k = (isMat a.p (f.getD k default) && decide ((f.getD k default).c = a.d.getD k default) && decide ((f.getD k default).r = b.d.getD k default)) := rfl
        cases hm : isMat a.p (f.getD k default) with
        | false =>
          rw [hm] at hM
          rw [hm] at hfm
          repeat' first | refine s1 ?_ | fail
          refine AW.draw 25 G.mixed (by kernel_rfl) ?_
          refine dP 0 ?_
          refine dL 1 ?_
          refine dL 2 ?_
          refine dO 3 true ?_
          first | refine s1 ?_ | refine F.c (hM) ?_
          refine ARg.nil (ATh.normal ?_)
          refine dP 4 ?_
          refine dP 5 ?_
          first | refine dT 33 rfl (by first | assumption | rfl | (simp only [decide_eq_true_eq, Bool.not_eq_true', decide_eq_false_iff_not, Bool.and_eq_true, Bool.or_eq_true]; omega)) ?_ | refine dF 33 rfl (by first | assumption | rfl | (simp only [decide_eq_false_iff_not, Bool.not_eq_false', decide_eq_true_eq, Bool.and_eq_false_iff, Bool.or_eq_false_iff]; omega)) ?_ | (refine dD 33 rfl ?_ ?_ <;> intro hc <;> (try simp only [decide_eq_true_eq, decide_eq_false_iff_not, Bool.not_eq_true', Bool.not_eq_false'] at hc)) | skip
          all_goals
            first | refine dK 6 ?_ | refine dP 6 ?_
            first | refine dK 7 ?_ | refine dL 7 ?_
            first | refine dK 8 ?_ | refine dP 8 ?_
            first | refine dK 9 ?_ | refine dL 9 ?_
            first | refine dK 10 ?_ | refine dP 10 ?_
            first | refine dK 11 ?_ | refine dP 11 ?_
            first | refine dK 12 ?_ | refine dL 12 ?_
            first | refine dK 13 ?_ | refine dP 13 ?_
            refine dP 14 ?_
            refine dP 15 ?_
            first | refine dT 43 rfl (by first | assumption | rfl | (simp only [decide_eq_true_eq, Bool.not_eq_true', decide_eq_false_iff_not, Bool.and_eq_true, Bool.or_eq_true]; omega)) ?_ | refine dF 43 rfl (by first | assumption | rfl | (simp only [decide_eq_false_iff_not, Bool.not_eq_false', decide_eq_true_eq, Bool.and_eq_false_iff, Bool.or_eq_false_iff]; omega)) ?_ | (refine dD 43 rfl ?_ ?_ <;> intro hc <;> (try simp only [decide_eq_true_eq, decide_eq_false_iff_not, Bool.not_eq_true', Bool.not_eq_false'] at hc)) | skip
            all_goals
              first | refine dK 16 ?_ | refine dP 16 ?_
              first | refine dK 17 ?_ | refine dL 17 ?_
              first | refine dK 18 ?_ | refine dP 18 ?_
              first | refine dK 19 ?_ | refine dL 19 ?_
              first | refine dK 20 ?_ | refine dP 20 ?_
              first | refine dK 21 ?_ | refine dP 21 ?_
              first | refine dK 22 ?_ | refine dL 22 ?_
              first | refine dK 23 ?_ | refine dP 23 ?_
              refine dP 24 ?_
              refine dN ?_
          repeat' first | refine s1 ?_ | fail
          refine F.ret ?_
          rw [areM, all_no hlt hfm, Bool.and_false]
        | true =>
          rw [hm] at hM
          rw [hm] at hfm
          by_cases hc' : (f.getD k default).c = a.d.getD k default
          · by_cases hr' : (f.getD k default).r = b.d.getD k default
            · repeat' first | refine s1 ?_ | fail
              refine AW.draw 25 G.mixed (by kernel_rfl) ?_
              refine dP 0 ?_
              refine dL 1 ?_
              refine dL 2 ?_
              refine dO 3 true ?_
              first | refine s1 ?_ | refine F.c (hM) ?_
              refine ARg.nil (ATh.normal ?_)
              refine dP 4 ?_
              refine dP 5 ?_
              first | refine dT 33 rfl (by first | assumption | rfl | (simp only [decide_eq_true_eq, Bool.not_eq_true', decide_eq_false_iff_not, Bool.and_eq_true, Bool.or_eq_true]; omega)) ?_ | refine dF 33 rfl (by first | assumption | rfl | (simp only [decide_eq_false_iff_not, Bool.not_eq_false', decide_eq_true_eq, Bool.and_eq_false_iff, Bool.or_eq_false_iff]; omega)) ?_ | (refine dD 33 rfl ?_ ?_ <;> intro hc <;> (try simp only [decide_eq_true_eq, decide_eq_false_iff_not, Bool.not_eq_true', Bool.not_eq_false'] at hc)) | skip
              all_goals
                first | refine dK 6 ?_ | refine dP 6 ?_
                first | refine dK 7 ?_ | refine dL 7 ?_
                first | refine dK 8 ?_ | refine dP 8 ?_
                first | refine dK 9 ?_ | refine dL 9 ?_
                first | refine dK 10 ?_ | refine dP 10 ?_
                first | refine dK 11 ?_ | refine dP 11 ?_
                first | refine dK 12 ?_ | refine dL 12 ?_
                first | refine dK 13 ?_ | refine dP 13 ?_
                refine dP 14 ?_
                refine dP 15 ?_
                first | refine dT 43 rfl (by first | assumption | rfl | (simp only [decide_eq_true_eq, Bool.not_eq_true', decide_eq_false_iff_not, Bool.and_eq_true, Bool.or_eq_true]; omega)) ?_ | refine dF 43 rfl (by first | assumption | rfl | (simp only [decide_eq_false_iff_not, Bool.not_eq_false', decide_eq_true_eq, Bool.and_eq_false_iff, Bool.or_eq_false_iff]; omega)) ?_ | (refine dD 43 rfl ?_ ?_ <;> intro hc <;> (try simp only [decide_eq_true_eq, decide_eq_false_iff_not, Bool.not_eq_true', Bool.not_eq_false'] at hc)) | skip
                all_goals
                  first | refine dK 16 ?_ | refine dP 16 ?_
                  first | refine dK 17 ?_ | refine dL 17 ?_
                  first | refine dK 18 ?_ | refine dP 18 ?_
                  first | refine dK 19 ?_ | refine dL 19 ?_
                  first | refine dK 20 ?_ | refine dP 20 ?_
                  first | refine dK 21 ?_ | refine dP 21 ?_
                  first | refine dK 22 ?_ | refine dL 22 ?_
                  first | refine dK 23 ?_ | refine dP 23 ?_
                  refine dP 24 ?_
                  refine dN ?_
              repeat' first | refine s1 ?_ | fail
              exact ⟨k + 1, F.fit ⟨rfl, trivial⟩ trivial, ⟨by omega, snocP h2 (by rw [hfm, decide_eq_true hc', decide_eq_true hr']; rfl)⟩, by omega⟩
            · repeat' first | refine s1 ?_ | fail
              refine AW.draw 25 G.mixed (by kernel_rfl) ?_
              refine dP 0 ?_
              refine dL 1 ?_
              refine dL 2 ?_
              refine dO 3 true ?_
              first | refine s1 ?_ | refine F.c (hM) ?_
              refine ARg.nil (ATh.normal ?_)
              refine dP 4 ?_
              refine dP 5 ?_
              first | refine dT 33 rfl (by first | assumption | rfl | (simp only [decide_eq_true_eq, Bool.not_eq_true', decide_eq_false_iff_not, Bool.and_eq_true, Bool.or_eq_true]; omega)) ?_ | refine dF 33 rfl (by first | assumption | rfl | (simp only [decide_eq_false_iff_not, Bool.not_eq_false', decide_eq_true_eq, Bool.and_eq_false_iff, Bool.or_eq_false_iff]; omega)) ?_ | (refine dD 33 rfl ?_ ?_ <;> intro hc <;> (try simp only [decide_eq_true_eq, decide_eq_false_iff_not, Bool.not_eq_true', Bool.not_eq_false'] at hc)) | skip
              all_goals
                first | refine dK 6 ?_ | refine dP 6 ?_
                first | refine dK 7 ?_ | refine dL 7 ?_
                first | refine dK 8 ?_ | refine dP 8 ?_
                first | refine dK 9 ?_ | refine dL 9 ?_
                first | refine dK 10 ?_ | refine dP 10 ?_
                first | refine dK 11 ?_ | refine dP 11 ?_
                first | refine dK 12 ?_ | refine dL 12 ?_
                first | refine dK 13 ?_ | refine dP 13 ?_
                refine dP 14 ?_
                refine dP 15 ?_
                first | refine dT 43 rfl (by first | assumption | rfl | (simp only [decide_eq_true_eq, Bool.not_eq_true', decide_eq_false_iff_not, Bool.and_eq_true, Bool.or_eq_true]; omega)) ?_ | refine dF 43 rfl (by first | assumption | rfl | (simp only [decide_eq_false_iff_not, Bool.not_eq_false', decide_eq_true_eq, Bool.and_eq_false_iff, Bool.or_eq_false_iff]; omega)) ?_ | (refine dD 43 rfl ?_ ?_ <;> intro hc <;> (try simp only [decide_eq_true_eq, decide_eq_false_iff_not, Bool.not_eq_true', Bool.not_eq_false'] at hc)) | skip
                all_goals
                  first | refine dK 16 ?_ | refine dP 16 ?_
                  first | refine dK 17 ?_ | refine dL 17 ?_
                  first | refine dK 18 ?_ | refine dP 18 ?_
                  first | refine dK 19 ?_ | refine dL 19 ?_
                  first | refine dK 20 ?_ | refine dP 20 ?_
                  first | refine dK 21 ?_ | refine dP 21 ?_
                  first | refine dK 22 ?_ | refine dL 22 ?_
                  first | refine dK 23 ?_ | refine dP 23 ?_
                  refine dP 24 ?_
                  refine dN ?_
              repeat' first | refine s1 ?_ | fail
              refine F.ret ?_
              rw [areM, all_no hlt (by rw [hfm, decide_eq_false hr', Bool.and_false]), Bool.and_false]
          · repeat' first | refine s1 ?_ | fail
            refine AW.draw 25 G.mixed (by kernel_rfl) ?_
            refine dP 0 ?_
            refine dL 1 ?_
            refine dL 2 ?_
            refine dO 3 true ?_
            first | refine s1 ?_ | refine F.c (hM) ?_
            refine ARg.nil (ATh.normal ?_)
            refine dP 4 ?_
            refine dP 5 ?_
            first | refine dT 33 rfl (by first | assumption | rfl | (simp only [decide_eq_true_eq, Bool.not_eq_true', decide_eq_false_iff_not, Bool.and_eq_true, Bool.or_eq_true]; omega)) ?_ | refine dF 33 rfl (by first | assumption | rfl | (simp only [decide_eq_false_iff_not, Bool.not_eq_false', decide_eq_true_eq, Bool.and_eq_false_iff, Bool.or_eq_false_iff]; omega)) ?_ | (refine dD 33 rfl ?_ ?_ <;> intro hc <;> (try simp only [decide_eq_true_eq, decide_eq_false_iff_not, Bool.not_eq_true', Bool.not_eq_false'] at hc)) | skip
            all_goals
              first | refine dK 6 ?_ | refine dP 6 ?_
              first | refine dK 7 ?_ | refine dL 7 ?_
              first | refine dK 8 ?_ | refine dP 8 ?_
              first | refine dK 9 ?_ | refine dL 9 ?_
              first | refine dK 10 ?_ | refine dP 10 ?_
              first | refine dK 11 ?_ | refine dP 11 ?_
              first | refine dK 12 ?_ | refine dL 12 ?_
              first | refine dK 13 ?_ | refine dP 13 ?_
              refine dP 14 ?_
              refine dP 15 ?_
              first | refine dT 43 rfl (by first | assumption | rfl | (simp only [decide_eq_true_eq, Bool.not_eq_true', decide_eq_false_iff_not, Bool.and_eq_true, Bool.or_eq_true]; omega)) ?_ | refine dF 43 rfl (by first | assumption | rfl | (simp only [decide_eq_false_iff_not, Bool.not_eq_false', decide_eq_true_eq, Bool.and_eq_false_iff, Bool.or_eq_false_iff]; omega)) ?_ | (refine dD 43 rfl ?_ ?_ <;> intro hc <;> (try simp only [decide_eq_true_eq, decide_eq_false_iff_not, Bool.not_eq_true', Bool.not_eq_false'] at hc)) | skip
              all_goals
                first | refine dK 16 ?_ | refine dP 16 ?_
                first | refine dK 17 ?_ | refine dL 17 ?_
                first | refine dK 18 ?_ | refine dP 18 ?_
                first | refine dK 19 ?_ | refine dL 19 ?_
                first | refine dK 20 ?_ | refine dP 20 ?_
                first | refine dK 21 ?_ | refine dP 21 ?_
                first | refine dK 22 ?_ | refine dL 22 ?_
                first | refine dK 23 ?_ | refine dP 23 ?_
                refine dP 24 ?_
                refine dN ?_
            repeat' first | refine s1 ?_ | fail
            refine F.ret ?_
            rw [areM, all_no hlt (by rw [hfm, decide_eq_false hc', Bool.and_false, Bool.false_and]), Bool.and_false]
      · obtain rfl : k = f.length := by omega
        repeat' first | refine s1 ?_ | fail
        refine F.ret ?_
        rw [areM, hf, decide_eq_true hl, all_yes h2]; rfl
    · repeat' first | refine s1 ?_ | (refine kR ?_; first | refine F.c (hF) ?_) | fail
      refine F.ret ?_
      rw [areM, decide_eq_false hl]; simp
theorem specAreMatrices_a (a b : Rep) (f : List Mat) : AC Tryz.prog 152 [.agg (enc false a), .agg (enc false b), ar false f] [.b (areM a b f)] := by
  refine AC.go Tryz.func152 Tryz.ntmps152 rfl rfl fun w0 hw => ?_; simp [WfL, WfA, E_length, Enc.enc, In64] at hw
  have hF := l9Fit_a a b
  cases hf : fitR a b with
  | false =>
    rw [hf] at hF
    repeat' first | refine s1 ?_ | (refine kR ?_; first | refine F.c (hF) ?_) | fail
    refine F.ret ?_
    rw [areM, hf]; rfl
  | true =>
    rw [hf] at hF
    have hh := Fits.of hf
    have h5 := okQ_spec hh.ok
    have hda := hh.da
    have hdb := hh.db
    by_cases hl : f.length = a.d.length
    · repeat' first | refine s1 ?_ | (refine kR ?_; first | refine F.c (hF) ?_) | fail
      refine F.loop (σ := Nat) [6, 7, 20, 21, 22, 23, 24, 25, 26, 27, 28, 29, 30, 31, 32, 33, 34, 35, 36, 37, 38, 39, 40, 41, 42, 43, 44, 45, 46, 47, 48, 49, 50, 51, 52, 53, 54, 55, 56, 57, 58, 59] (fun k => [(7, .i k)]) (fun _ => []) (fun k => k ≤ f.length ∧ ∀ j, j < k → fitV a b f j = true) (fun k => f.length - k) 0 ⟨rfl, trivial⟩ trivial ⟨Nat.zero_le _, fun j hj => by omega⟩ ?_
      rintro k ⟨h1, h2⟩
      by_cases hlt : k < f.length
      · have hM := specIsMatrix_a a.p (f.getD k default)
        have hfm : fitV a b f k = (isMat a.p (f.getD k default) && decide ((f.getD k default).c = a.d.getD k default) && decide ((f.getD k default).r = b.d.getD k default)) := rfl
        cases hm : isMat a.p (f.getD k default) with
        | false =>
          rw [hm] at hM
          rw [hm] at hfm
          repeat' first | refine s1 ?_ | fail
          refine AW.draw 34 G.mixed (by kernel_rfl) ?_
          refine dP 0 ?_
          refine dL 1 ?_
          refine dP 2 ?_
          refine dP 3 ?_
          refine dP 4 ?_
          refine dL 5 ?_
          refine dO 6 true ?_
          first | refine s1 ?_ | refine F.c (hM) ?_
          refine ARg.nil (ATh.normal ?_)
          refine dP 7 ?_
          refine dP 8 ?_
          first | refine dT 34 rfl (by first | assumption | rfl | (simp only [decide_eq_true_eq, Bool.not_eq_true', decide_eq_false_iff_not, Bool.and_eq_true, Bool.or_eq_true]; omega)) ?_ | refine dF 34 rfl (by first | assumption | rfl | (simp only [decide_eq_false_iff_not, Bool.not_eq_false', decide_eq_true_eq, Bool.and_eq_false_iff, Bool.or_eq_false_iff]; omega)) ?_ | (refine dD 34 rfl ?_ ?_ <;> intro hc <;> (try simp only [decide_eq_true_eq, decide_eq_false_iff_not, Bool.not_eq_true', Bool.not_eq_false'] at hc)) | skip
          all_goals
            first | refine dK 9 ?_ | refine dP 9 ?_
            first | refine dK 10 ?_ | refine dP 10 ?_
            first | refine dK 11 ?_ | refine dP 11 ?_
            first | refine dK 12 ?_ | refine dP 12 ?_
            first | refine dK 13 ?_ | refine dL 13 ?_
            first | refine dK 14 ?_ | refine dP 14 ?_
            first | refine dK 15 ?_ | refine dL 15 ?_
            first | refine dK 16 ?_ | refine dP 16 ?_
            first | refine dK 17 ?_ | refine dP 17 ?_
            first | refine dK 18 ?_ | refine dL 18 ?_
            first | refine dK 19 ?_ | refine dP 19 ?_
            refine dP 20 ?_
            refine dP 21 ?_
            first | refine dT 47 rfl (by first | assumption | rfl | (simp only [decide_eq_true_eq, Bool.not_eq_true', decide_eq_false_iff_not, Bool.and_eq_true, Bool.or_eq_true]; omega)) ?_ | refine dF 47 rfl (by first | assumption | rfl | (simp only [decide_eq_false_iff_not, Bool.not_eq_false', decide_eq_true_eq, Bool.and_eq_false_iff, Bool.or_eq_false_iff]; omega)) ?_ | (refine dD 47 rfl ?_ ?_ <;> intro hc <;> (try simp only [decide_eq_true_eq, decide_eq_false_iff_not, Bool.not_eq_true', Bool.not_eq_false'] at hc)) | skip
            all_goals
              first | refine dK 22 ?_ | refine dP 22 ?_
              first | refine dK 23 ?_ | refine dP 23 ?_
              first | refine dK 24 ?_ | refine dP 24 ?_
              first | refine dK 25 ?_ | refine dP 25 ?_
              first | refine dK 26 ?_ | refine dL 26 ?_
              first | refine dK 27 ?_ | refine dP 27 ?_
              first | refine dK 28 ?_ | refine dL 28 ?_
              first | refine dK 29 ?_ | refine dP 29 ?_
              first | refine dK 30 ?_ | refine dP 30 ?_
              first | refine dK 31 ?_ | refine dL 31 ?_
              first | refine dK 32 ?_ | refine dP 32 ?_
              refine dP 33 ?_
              refine dN ?_
          repeat' first | refine s1 ?_ | fail
          refine F.ret ?_
          rw [areM, all_no hlt hfm, Bool.and_false]
        | true =>
          rw [hm] at hM
          rw [hm] at hfm
          by_cases hc' : (f.getD k default).c = a.d.getD k default
          · by_cases hr' : (f.getD k default).r = b.d.getD k default
            · repeat' first | refine s1 ?_ | fail
              refine AW.draw 34 G.mixed (by kernel_rfl) ?_
              refine dP 0 ?_
              refine dL 1 ?_
              refine dP 2 ?_
              refine dP 3 ?_
              refine dP 4 ?_
              refine dL 5 ?_
              refine dO 6 true ?_
              first | refine s1 ?_ | refine F.c (hM) ?_
              refine ARg.nil (ATh.normal ?_)
              refine dP 7 ?_
              refine dP 8 ?_
              first | refine dT 34 rfl (by first | assumption | rfl | (simp only [decide_eq_true_eq, Bool.not_eq_true', decide_eq_false_iff_not, Bool.and_eq_true, Bool.or_eq_true]; omega)) ?_ | refine dF 34 rfl (by first | assumption | rfl | (simp only [decide_eq_false_iff_not, Bool.not_eq_false', decide_eq_true_eq, Bool.and_eq_false_iff, Bool.or_eq_false_iff]; omega)) ?_ | (refine dD 34 rfl ?_ ?_ <;> intro hc <;> (try simp only [decide_eq_true_eq, decide_eq_false_iff_not, Bool.not_eq_true', Bool.not_eq_false'] at hc)) | skip
              all_goals
                first | refine dK 9 ?_ | refine dP 9 ?_
                first | refine dK 10 ?_ | refine dP 10 ?_
                first | refine dK 11 ?_ | refine dP 11 ?_
                first | refine dK 12 ?_ | refine dP 12 ?_
                first | refine dK 13 ?_ | refine dL 13 ?_
                first | refine dK 14 ?_ | refine dP 14 ?_
                first | refine dK 15 ?_ | refine dL 15 ?_
                first | refine dK 16 ?_ | refine dP 16 ?_
                first | refine dK 17 ?_ | refine dP 17 ?_
                first | refine dK 18 ?_ | refine dL 18 ?_
                first | refine dK 19 ?_ | refine dP 19 ?_
                refine dP 20 ?_
                refine dP 21 ?_
                first | refine dT 47 rfl (by first | assumption | rfl | (simp only [decide_eq_true_eq, Bool.not_eq_true', decide_eq_false_iff_not, Bool.and_eq_true, Bool.or_eq_true]; omega)) ?_ | refine dF 47 rfl (by first | assumption | rfl | (simp only [decide_eq_false_iff_not, Bool.not_eq_false', decide_eq_true_eq, Bool.and_eq_false_iff, Bool.or_eq_false_iff]; omega)) ?_ | (refine dD 47 rfl ?_ ?_ <;> intro hc <;> (try simp only [decide_eq_true_eq, decide_eq_false_iff_not, Bool.not_eq_true', Bool.not_eq_false'] at hc)) | skip
                all_goals
                  first | refine dK 22 ?_ | refine dP 22 ?_
                  first | refine dK 23 ?_ | refine dP 23 ?_
                  first | refine dK 24 ?_ | refine dP 24 ?_
                  first | refine dK 25 ?_ | refine dP 25 ?_
                  first | refine dK 26 ?_ | refine dL 26 ?_
                  first | refine dK 27 ?_ | refine dP 27 ?_
                  first | refine dK 28 ?_ | refine dL 28 ?_
                  first | refine dK 29 ?_ | refine dP 29 ?_
                  first | refine dK 30 ?_ | refine dP 30 ?_
                  first | refine dK 31 ?_ | refine dL 31 ?_
                  first | refine dK 32 ?_ | refine dP 32 ?_
                  refine dP 33 ?_
                  refine dN ?_
              repeat' first | refine s1 ?_ | fail
              exact ⟨k + 1, F.fit ⟨rfl, trivial⟩ trivial, ⟨by omega, snocP h2 (by rw [hfm, decide_eq_true hc', decide_eq_true hr']; rfl)⟩, by omega⟩
            · repeat' first | refine s1 ?_ | fail
              refine AW.draw 34 G.mixed (by kernel_rfl) ?_
              refine dP 0 ?_
              refine dL 1 ?_
              refine dP 2 ?_
              refine dP 3 ?_
              refine dP 4 ?_
              refine dL 5 ?_
              refine dO 6 true ?_
              first | refine s1 ?_ | refine F.c (hM) ?_
              refine ARg.nil (ATh.normal ?_)
              refine dP 7 ?_
              refine dP 8 ?_
              first | refine dT 34 rfl (by first | assumption | rfl | (simp only [decide_eq_true_eq, Bool.not_eq_true', decide_eq_false_iff_not, Bool.and_eq_true, Bool.or_eq_true]; omega)) ?_ | refine dF 34 rfl (by first | assumption | rfl | (simp only [decide_eq_false_iff_not, Bool.not_eq_false', decide_eq_true_eq, Bool.and_eq_false_iff, Bool.or_eq_false_iff]; omega)) ?_ | (refine dD 34 rfl ?_ ?_ <;> intro hc <;> (try simp only [decide_eq_true_eq, decide_eq_false_iff_not, Bool.not_eq_true', Bool.not_eq_false'] at hc)) | skip
              all_goals
                first | refine dK 9 ?_ | refine dP 9 ?_
                first | refine dK 10 ?_ | refine dP 10 ?_
                first | refine dK 11 ?_ | refine dP 11 ?_
                first | refine dK 12 ?_ | refine dP 12 ?_
                first | refine dK 13 ?_ | refine dL 13 ?_
                first | refine dK 14 ?_ | refine dP 14 ?_
                first | refine dK 15 ?_ | refine dL 15 ?_
                first | refine dK 16 ?_ | refine dP 16 ?_
                first | refine dK 17 ?_ | refine dP 17 ?_
                first | refine dK 18 ?_ | refine dL 18 ?_
                first | refine dK 19 ?_ | refine dP 19 ?_
                refine dP 20 ?_
                refine dP 21 ?_
                first | refine dT 47 rfl (by first | assumption | rfl | (simp only [decide_eq_true_eq, Bool.not_eq_true', decide_eq_false_iff_not, Bool.and_eq_true, Bool.or_eq_true]; omega)) ?_ | refine dF 47 rfl (by first | assumption | rfl | (simp only [decide_eq_false_iff_not, Bool.not_eq_false', decide_eq_true_eq, Bool.and_eq_false_iff, Bool.or_eq_false_iff]; omega)) ?_ | (refine dD 47 rfl ?_ ?_ <;> intro hc <;> (try simp only [decide_eq_true_eq, decide_eq_false_iff_not, Bool.not_eq_true', Bool.not_eq_false'] at hc)) | skip
                all_goals
                  first | refine dK 22 ?_ | refine dP 22 ?_
                  first | refine dK 23 ?_ | refine dP 23 ?_
                  first | refine dK 24 ?_ | refine dP 24 ?_
                  first | refine dK 25 ?_ | refine dP 25 ?_
                  first | refine dK 26 ?_ | refine dL 26 ?_
                  first | refine dK 27 ?_ | refine dP 27 ?_
                  first | refine dK 28 ?_ | refine dL 28 ?_
                  first | refine dK 29 ?_ | refine dP 29 ?_
                  first | refine dK 30 ?_ | refine dP 30 ?_
                  first | refine dK 31 ?_ | refine dL 31 ?_
                  first | refine dK 32 ?_ | refine dP 32 ?_
                  refine dP 33 ?_
                  refine dN ?_
              repeat' first | refine s1 ?_ | fail
              refine F.ret ?_
              rw [areM, all_no hlt (by rw [hfm, decide_eq_false hr', Bool.and_false]), Bool.and_false]
          · repeat' first | refine s1 ?_ | fail
            refine AW.draw 34 G.mixed (by kernel_rfl) ?_
            refine dP 0 ?_
            refine dL 1 ?_
            refine dP 2 ?_
            refine dP 3 ?_
            refine dP 4 ?_
            refine dL 5 ?_
            refine dO 6 true ?_
            first | refine s1 ?_ | refine F.c (hM) ?_
            refine ARg.nil (ATh.normal ?_)
            refine dP 7 ?_
            refine dP 8 ?_
            first | refine dT 34 rfl (by first | assumption | rfl | (simp only [decide_eq_true_eq, Bool.not_eq_true', decide_eq_false_iff_not, Bool.and_eq_true, Bool.or_eq_true]; omega)) ?_ | refine dF 34 rfl (by first | assumption | rfl | (simp only [decide_eq_false_iff_not, Bool.not_eq_false', decide_eq_true_eq, Bool.and_eq_false_iff, Bool.or_eq_false_iff]; omega)) ?_ | (refine dD 34 rfl ?_ ?_ <;> intro hc <;> (try simp only [decide_eq_true_eq, decide_eq_false_iff_not, Bool.not_eq_true', Bool.not_eq_false'] at hc)) | skip
            all_goals
              first | refine dK 9 ?_ | refine dP 9 ?_
              first | refine dK 10 ?_ | refine dP 10 ?_
              first | refine dK 11 ?_ | refine dP 11 ?_
              first | refine dK 12 ?_ | refine dP 12 ?_
              first | refine dK 13 ?_ | refine dL 13 ?_
              first | refine dK 14 ?_ | refine dP 14 ?_
              first | refine dK 15 ?_ | refine dL 15 ?_
              first | refine dK 16 ?_ | refine dP 16 ?_
              first | refine dK 17 ?_ | refine dP 17 ?_
              first | refine dK 18 ?_ | refine dL 18 ?_
              first | refine dK 19 ?_ | refine dP 19 ?_
              refine dP 20 ?_
              refine dP 21 ?_
              first | refine dT 47 rfl (by first | assumption | rfl | (simp only [decide_eq_true_eq, Bool.not_eq_true', decide_eq_false_iff_not, Bool.and_eq_true, Bool.or_eq_true]; omega)) ?_ | refine dF 47 rfl (by first | assumption | rfl | (simp only [decide_eq_false_iff_not, Bool.not_eq_false', decide_eq_true_eq, Bool.and_eq_false_iff, Bool.or_eq_false_iff]; omega)) ?_ | (refine dD 47 rfl ?_ ?_ <;> intro hc <;> (try simp only [decide_eq_true_eq, decide_eq_false_iff_not, Bool.not_eq_true', Bool.not_eq_false'] at hc)) | skip
              all_goals
                first | refine dK 22 ?_ | refine dP 22 ?_
                first | refine dK 23 ?_ | refine dP 23 ?_
                first | refine dK 24 ?_ | refine dP 24 ?_
                first | refine dK 25 ?_ | refine dP 25 ?_
                first | refine dK 26 ?_ | refine dL 26 ?_
                first | refine dK 27 ?_ | refine dP 27 ?_
                first | refine dK 28 ?_ | refine dL 28 ?_
                first | refine dK 29 ?_ | refine dP 29 ?_
                first | refine dK 30 ?_ | refine dP 30 ?_
                first | refine dK 31 ?_ | refine dL 31 ?_
                first | refine dK 32 ?_ | refine dP 32 ?_
                refine dP 33 ?_
                refine dN ?_
            repeat' first | refine s1 ?_ | fail
            refine F.ret ?_
            rw [areM, all_no hlt (by rw [hfm, decide_eq_false hc', Bool.and_false, Bool.false_and]), Bool.and_false]
      · obtain rfl : k = f.length := by omega
        repeat' first | refine s1 ?_ | fail
        refine F.ret ?_
        rw [areM, hf, decide_eq_true hl, all_yes h2]; rfl
    · repeat' first | refine s1 ?_ | (refine kR ?_; first | refine F.c (hF) ?_) | fail
      refine F.ret ?_
      rw [areM, decide_eq_false hl]; simp
end Go.Proofs.YtedjajokbdokhaaGreat.V
