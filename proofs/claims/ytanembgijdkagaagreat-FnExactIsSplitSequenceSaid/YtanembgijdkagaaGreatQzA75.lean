/- Contracts: exact sequences. -/
import Derived.Test.YtanembgijdkagaaGreatQzA73
import Derived.Test.YtanembgijdkagaaGreatQzA74
import Derived.Test.YtanembgijdkagaaGreatQzB9
namespace Go.Proofs.YtanembgijdkagaaGreat.V
open V.Enc (enc)
open Go.RowKit G D
set_option linter.unusedVariables false
set_option linter.unusedSimpArgs false
set_option maxHeartbeats 4000000
set_option maxRecDepth 4000
attribute [local irreducible] AW ARg ARA ARet MRet ASil AC AM
def rkL (p : Int) (f : List Mat) : List Int := f.map (rankM p)
theorem rankM_eq {p : Int} {m : Mat} (h : isMat p m = true) : rankM p m = ((redK p m.r.toNat (ent m) m.c.toNat).2.length : Nat) := by rw [rankM, if_pos h]; rfl
theorem matRank_a {p : Int} {m : Mat} (h : isMat p m = true) : AC Tryz.prog 152 [.i p, .agg (enc false m)] [.i (rankM p m)] := by
  obtain ⟨h0, h1, h2, h3, h4⟩ := isMat_spec h
  have := rank_a p m.r.toNat m.c.toNat (ent m) h0 (by omega) (by omega) (ent_bd h)
  rw [isMat_tm h, ← rankM_eq h] at this
  exact this
theorem ranks_a (p : Int) (f : List Mat) (hf : ∀ v, v < f.length → isMat p (f.getD v default) = true) (hl : f.length ≤ 1000) : AC Tryz.prog 113 [.i p, ar false f] [.dt true 1 (E true (rkL p f))] := by
  refine AC.go Tryz.func113 Tryz.ntmps113 rfl rfl fun w0 hw => ?_; simp [WfL, WfA, E_length, Enc.enc, In64] at hw
  have hll : (rkL p f).length = f.length := by simp [rkL]
  repeat' first | refine s1 ?_ | fail
  refine AW.open 5 1 (.inl rfl) ?_
  refine F.loop (σ := Nat) [5, 7, 10, 11, 12, 13, 14, 15, 16, 17, 18, 19, 20] (fun k => [(5, .sl 0 k 0 k), (10, .i k)]) (fun k => [(0, .live false 1 (E true ((rkL p f).take k)))]) (fun k => k ≤ f.length) (fun k => f.length - k) 0 ⟨rfl, rfl, trivial⟩ ⟨rfl, trivial⟩ (Nat.zero_le _) ?_
  rintro k k1
  have hp : ((rkL p f).take k).length = k := by rw [List.length_take]; omega
  by_cases hk : k < f.length
  · have hR := matRank_a (hf k hk)
    have hts : (rkL p f).take (k + 1) = (rkL p f).take k ++ [rankM p (f.getD k default)] := map_take _ hk
    generalize rankM p (f.getD k default) = y at hR hts
    repeat' first | refine s1 ?_ | (refine kR ?_; first | refine F.c (hR) ?_ | refine F.a1 Int ?_) | fail
    exact ⟨k + 1, F.fit ⟨rfl, rfl, trivial⟩ ⟨obE (by rw [hts]), trivial⟩, by omega, by omega⟩
  · obtain rfl : k = f.length := by omega
    have e : (rkL p f).take f.length = rkL p f := List.take_of_length_le (by omega)
    rw [e]
    clear hp e
    generalize rkL p f = L at hll ⊢
    rw [← hll]
    repeat' first | refine s1 ?_ | fail
    (refine kZ ?_; exact F.ret rfl)
theorem rankVector_a (a b : Rep) (f : List Mat) (h : isMor a b f = true) : AC Tryz.prog 119 [.agg (enc false a), .agg (enc false b), ar false f] [.dt true 1 (E true (rkL a.p f))] := by
  refine AC.go Tryz.func119 Tryz.ntmps119 rfl rfl fun w0 hw => ?_; simp [WfL, WfA, E_length, Enc.enc, In64] at hw
  have hF := specIsMorphism_a a b f
  rw [h] at hF
  obtain ⟨m1, m2, m3, m4, m5⟩ := mor_ok h
  have hll : (rkL a.p f).length = f.length := by simp [rkL]
  repeat' first | refine s1 ?_ | fail
  refine AW.open 7 1 (.inr rfl) ?_
  refine F.loop (σ := Nat) [7, 8, 10, 11, 12, 13, 14, 15, 16, 17, 18, 19, 20, 21, 22, 23, 24, 25, 26, 27, 28, 29, 30, 31] (fun k => [(7, .sl 2 k 0 k), (8, .i k)]) (fun k => [(2, .live false 1 (E true ((rkL a.p f).take k)))]) (fun k => k ≤ f.length) (fun k => f.length - k) 0 ⟨rfl, rfl, trivial⟩ ⟨rfl, trivial⟩ (Nat.zero_le _) ?_
  rintro k k1
  have hp : ((rkL a.p f).take k).length = k := by rw [List.length_take]; omega
  by_cases hk : k < f.length
  · have hR := specRankOf_a a.p (f.getD k default)
    have hts : (rkL a.p f).take (k + 1) = (rkL a.p f).take k ++ [rankM a.p (f.getD k default)] := map_take _ hk
    generalize rankM a.p (f.getD k default) = y at hR hts
    repeat' first | refine s1 ?_ | (refine kR ?_; first | refine F.c (hF) ?_) | fail
    refine AW.draw 9 G.mixed (by kernel_rfl) ?_
    refine dP 0 ?_
    refine dP 1 ?_
    refine dL 2 ?_
    refine dP 3 ?_
    refine dP 4 ?_
    refine dP 5 ?_
    refine dL 6 ?_
    refine dO 7 true ?_
    first | refine s1 ?_ | refine F.c (hR) ?_
    refine ARg.nil (ATh.normal ?_)
    refine dO 8 true ?_
    refine s1 ?_
    refine ARg.nil (ATh.normal ?_)
    refine dO 9 false ?_
    first | refine s1 ?_ | refine F.a1 Int ?_
    refine ARg.nil (ATh.normal ?_)
    refine dP 10 ?_
    refine dN ?_
    repeat' first | refine s1 ?_ | fail
    exact ⟨k + 1, F.fit ⟨rfl, rfl, trivial⟩ ⟨obE (by rw [hts]), trivial⟩, by omega, by omega⟩
  · obtain rfl : k = f.length := by omega
    have e : (rkL a.p f).take f.length = rkL a.p f := List.take_of_length_le (by omega)
    rw [e]
    clear hp e
    generalize rkL a.p f = L at hll ⊢
    rw [← hll]
    repeat' first | refine s1 ?_ | (refine kR ?_; first | refine F.c (hF) ?_) | fail
    (refine kZ ?_; exact F.ret rfl)
def injB (a b : Rep) (f : List Mat) : Bool := isMor a b f && decide (rkL a.p f = a.d)
def surB (a b : Rep) (f : List Mat) : Bool := isMor a b f && decide (rkL a.p f = b.d)
theorem implIsInjective_a (a b : Rep) (f : List Mat) : AC Tryz.prog 71 [.agg (enc false a), .agg (enc false b), ar false f] [.b (injB a b f)] := by
  refine AC.go Tryz.func71 Tryz.ntmps71 rfl rfl fun w0 hw => ?_; simp [WfL, WfA, E_length, Enc.enc, In64] at hw
  have hF := implIsMorphism_a a b f
  unfold injB
  cases hf : isMor a b f with
  | false =>
    rw [hf] at hF
    repeat' first | refine s1 ?_ | fail
    refine AW.draw 14 G.mixed (by kernel_rfl) ?_
    refine dL 0 ?_
    refine dL 1 ?_
    refine dP 2 ?_
    refine dO 3 true ?_
    first | refine s1 ?_ | refine F.c (hF) ?_
    refine ARg.nil (ATh.normal ?_)
    refine dP 4 ?_
    first | refine dT 11 rfl (by first | assumption | rfl | (simp only [decide_eq_true_eq, Bool.not_eq_true', decide_eq_false_iff_not, Bool.and_eq_true, Bool.or_eq_true]; omega)) ?_ | refine dF 11 rfl (by first | assumption | rfl | (simp only [decide_eq_false_iff_not, Bool.not_eq_false', decide_eq_true_eq, Bool.and_eq_false_iff, Bool.or_eq_false_iff]; omega)) ?_ | (refine dD 11 rfl ?_ ?_ <;> intro hc <;> (try simp only [decide_eq_true_eq, decide_eq_false_iff_not, Bool.not_eq_true', Bool.not_eq_false'] at hc)) | skip
    all_goals
      first | refine dK 5 ?_ | refine dP 5 ?_
      first | refine dK 6 ?_ | refine dL 6 ?_
      first | refine dK 7 ?_ | refine dP 7 ?_
      first | refine dK 9 ?_ | refine dP 9 ?_
      first | refine dK 10 ?_ | refine dL 10 ?_
      refine dO 8 true ?_
      first | refine s1 ?_ | refine F.c (hF) ?_
      refine ARg.nil (ATh.normal ?_)
      refine dO 11 true ?_
      first | refine s1 ?_ | refine F.c (hF) ?_
      refine ARg.nil (ATh.normal ?_)
      refine dP 12 ?_
      refine dP 13 ?_
      refine dN ?_
    repeat' first | refine s1 ?_ | fail
    refine F.ret ?_
    rfl
  | true =>
    rw [hf] at hF
    obtain ⟨m1, m2, m3, m4, m5⟩ := mor_ok hf
    have hR := ranks_a a.p f (fun v hv => (m5 v hv).1) (by omega)
    have hE := equal_a (rkL a.p f) a.d
    generalize rkL a.p f = L at hR hE ⊢
    generalize decide (L = a.d) = Y at hE ⊢
    repeat' first | refine s1 ?_ | fail
    refine AW.draw 14 G.mixed (by kernel_rfl) ?_
    refine dL 0 ?_
    refine dL 1 ?_
    refine dP 2 ?_
    refine dO 3 true ?_
    first | refine s1 ?_ | refine F.c (hF) ?_ | refine F.c (hR) ?_ | refine F.c (hE) ?_
    refine ARg.nil (ATh.normal ?_)
    refine dP 4 ?_
    first | refine dT 11 rfl (by first | assumption | rfl | (simp only [decide_eq_true_eq, Bool.not_eq_true', decide_eq_false_iff_not, Bool.and_eq_true, Bool.or_eq_true]; omega)) ?_ | refine dF 11 rfl (by first | assumption | rfl | (simp only [decide_eq_false_iff_not, Bool.not_eq_false', decide_eq_true_eq, Bool.and_eq_false_iff, Bool.or_eq_false_iff]; omega)) ?_ | (refine dD 11 rfl ?_ ?_ <;> intro hc <;> (try simp only [decide_eq_true_eq, decide_eq_false_iff_not, Bool.not_eq_true', Bool.not_eq_false'] at hc)) | skip
    all_goals
      first | refine dK 5 ?_ | refine dP 5 ?_
      first | refine dK 6 ?_ | refine dL 6 ?_
      first | refine dK 7 ?_ | refine dP 7 ?_
      first | refine dK 9 ?_ | refine dP 9 ?_
      first | refine dK 10 ?_ | refine dL 10 ?_
      refine dO 8 true ?_
      first | refine s1 ?_ | refine F.c (hF) ?_ | refine F.c (hR) ?_ | refine F.c (hE) ?_
      refine ARg.nil (ATh.normal ?_)
      refine dO 11 true ?_
      first | refine s1 ?_ | refine F.c (hF) ?_ | refine F.c (hR) ?_ | refine F.c (hE) ?_
      refine ARg.nil (ATh.normal ?_)
      refine dP 12 ?_
      refine dP 13 ?_
      refine dN ?_
    repeat' first | refine s1 ?_ | fail
    refine F.ret ?_
    simp
theorem specIsInjective_a (a b : Rep) (f : List Mat) : AC Tryz.prog 62 [.agg (enc false a), .agg (enc false b), ar false f] [.b (injB a b f)] := by
  refine AC.go Tryz.func62 Tryz.ntmps62 rfl rfl fun w0 hw => ?_; simp [WfL, WfA, E_length, Enc.enc, In64] at hw
  have hF := specIsMorphism_a a b f
  unfold injB
  cases hf : isMor a b f with
  | false =>
    rw [hf] at hF
    repeat' first | refine s1 ?_ | fail
    refine AW.draw 14 G.mixed (by kernel_rfl) ?_
    refine dL 0 ?_
    refine dL 1 ?_
    refine dP 2 ?_
    refine dO 3 true ?_
    first | refine s1 ?_ | refine F.c (hF) ?_
    refine ARg.nil (ATh.normal ?_)
    refine dP 4 ?_
    first | refine dT 11 rfl (by first | assumption | rfl | (simp only [decide_eq_true_eq, Bool.not_eq_true', decide_eq_false_iff_not, Bool.and_eq_true, Bool.or_eq_true]; omega)) ?_ | refine dF 11 rfl (by first | assumption | rfl | (simp only [decide_eq_false_iff_not, Bool.not_eq_false', decide_eq_true_eq, Bool.and_eq_false_iff, Bool.or_eq_false_iff]; omega)) ?_ | (refine dD 11 rfl ?_ ?_ <;> intro hc <;> (try simp only [decide_eq_true_eq, decide_eq_false_iff_not, Bool.not_eq_true', Bool.not_eq_false'] at hc)) | skip
    all_goals
      first | refine dK 5 ?_ | refine dL 5 ?_
      first | refine dK 6 ?_ | refine dL 6 ?_
      first | refine dK 7 ?_ | refine dP 7 ?_
      first | refine dK 9 ?_ | refine dP 9 ?_
      first | refine dK 10 ?_ | refine dL 10 ?_
      refine dO 8 true ?_
      first | refine s1 ?_ | refine F.c (hF) ?_
      refine ARg.nil (ATh.normal ?_)
      refine dO 11 true ?_
      first | refine s1 ?_ | refine F.c (hF) ?_
      refine ARg.nil (ATh.normal ?_)
      refine dP 12 ?_
      refine dP 13 ?_
      refine dN ?_
    repeat' first | refine s1 ?_ | fail
    refine F.ret ?_
    rfl
  | true =>
    rw [hf] at hF
    have hR := rankVector_a a b f hf
    have hE := l6Same_a (rkL a.p f) a.d
    generalize rkL a.p f = L at hR hE ⊢
    generalize decide (L = a.d) = Y at hE ⊢
    repeat' first | refine s1 ?_ | fail
    refine AW.draw 14 G.mixed (by kernel_rfl) ?_
    refine dL 0 ?_
    refine dL 1 ?_
    refine dP 2 ?_
    refine dO 3 true ?_
    first | refine s1 ?_ | refine F.c (hF) ?_ | refine F.c (hR) ?_ | refine F.c (hE) ?_
    refine ARg.nil (ATh.normal ?_)
    refine dP 4 ?_
    first | refine dT 11 rfl (by first | assumption | rfl | (simp only [decide_eq_true_eq, Bool.not_eq_true', decide_eq_false_iff_not, Bool.and_eq_true, Bool.or_eq_true]; omega)) ?_ | refine dF 11 rfl (by first | assumption | rfl | (simp only [decide_eq_false_iff_not, Bool.not_eq_false', decide_eq_true_eq, Bool.and_eq_false_iff, Bool.or_eq_false_iff]; omega)) ?_ | (refine dD 11 rfl ?_ ?_ <;> intro hc <;> (try simp only [decide_eq_true_eq, decide_eq_false_iff_not, Bool.not_eq_true', Bool.not_eq_false'] at hc)) | skip
    all_goals
      first | refine dK 5 ?_ | refine dL 5 ?_
      first | refine dK 6 ?_ | refine dL 6 ?_
      first | refine dK 7 ?_ | refine dP 7 ?_
      first | refine dK 9 ?_ | refine dP 9 ?_
      first | refine dK 10 ?_ | refine dL 10 ?_
      refine dO 8 true ?_
      first | refine s1 ?_ | refine F.c (hF) ?_ | refine F.c (hR) ?_ | refine F.c (hE) ?_
      refine ARg.nil (ATh.normal ?_)
      refine dO 11 true ?_
      first | refine s1 ?_ | refine F.c (hF) ?_ | refine F.c (hR) ?_ | refine F.c (hE) ?_
      refine ARg.nil (ATh.normal ?_)
      refine dP 12 ?_
      refine dP 13 ?_
      refine dN ?_
    repeat' first | refine s1 ?_ | fail
    refine F.ret ?_
    simp
theorem specIsSurjective_a (a b : Rep) (f : List Mat) : AC Tryz.prog 106 [.agg (enc false a), .agg (enc false b), ar false f] [.b (surB a b f)] := by
  refine AC.go Tryz.func106 Tryz.ntmps106 rfl rfl fun w0 hw => ?_; simp [WfL, WfA, E_length, Enc.enc, In64] at hw
  have hF := specIsMorphism_a a b f
  unfold surB
  cases hf : isMor a b f with
  | false =>
    rw [hf] at hF
    repeat' first | refine s1 ?_ | fail
    refine AW.draw 14 G.mixed (by kernel_rfl) ?_
    refine dL 0 ?_
    refine dL 1 ?_
    refine dP 2 ?_
    refine dO 3 true ?_
    first | refine s1 ?_ | refine F.c (hF) ?_
    refine ARg.nil (ATh.normal ?_)
    refine dP 4 ?_
    first | refine dT 11 rfl (by first | assumption | rfl | (simp only [decide_eq_true_eq, Bool.not_eq_true', decide_eq_false_iff_not, Bool.and_eq_true, Bool.or_eq_true]; omega)) ?_ | refine dF 11 rfl (by first | assumption | rfl | (simp only [decide_eq_false_iff_not, Bool.not_eq_false', decide_eq_true_eq, Bool.and_eq_false_iff, Bool.or_eq_false_iff]; omega)) ?_ | (refine dD 11 rfl ?_ ?_ <;> intro hc <;> (try simp only [decide_eq_true_eq, decide_eq_false_iff_not, Bool.not_eq_true', Bool.not_eq_false'] at hc)) | skip
    all_goals
      first | refine dK 5 ?_ | refine dL 5 ?_
      first | refine dK 6 ?_ | refine dL 6 ?_
      first | refine dK 7 ?_ | refine dP 7 ?_
      first | refine dK 9 ?_ | refine dP 9 ?_
      first | refine dK 10 ?_ | refine dL 10 ?_
      refine dO 8 true ?_
      first | refine s1 ?_ | refine F.c (hF) ?_
      refine ARg.nil (ATh.normal ?_)
      refine dO 11 true ?_
      first | refine s1 ?_ | refine F.c (hF) ?_
      refine ARg.nil (ATh.normal ?_)
      refine dP 12 ?_
      refine dP 13 ?_
      refine dN ?_
    repeat' first | refine s1 ?_ | fail
    refine F.ret ?_
    rfl
  | true =>
    rw [hf] at hF
    have hR := rankVector_a a b f hf
    have hE := l6Same_a (rkL a.p f) b.d
    generalize rkL a.p f = L at hR hE ⊢
    generalize decide (L = b.d) = Y at hE ⊢
    repeat' first | refine s1 ?_ | fail
    refine AW.draw 14 G.mixed (by kernel_rfl) ?_
    refine dL 0 ?_
    refine dL 1 ?_
    refine dP 2 ?_
    refine dO 3 true ?_
    first | refine s1 ?_ | refine F.c (hF) ?_ | refine F.c (hR) ?_ | refine F.c (hE) ?_
    refine ARg.nil (ATh.normal ?_)
    refine dP 4 ?_
    first | refine dT 11 rfl (by first | assumption | rfl | (simp only [decide_eq_true_eq, Bool.not_eq_true', decide_eq_false_iff_not, Bool.and_eq_true, Bool.or_eq_true]; omega)) ?_ | refine dF 11 rfl (by first | assumption | rfl | (simp only [decide_eq_false_iff_not, Bool.not_eq_false', decide_eq_true_eq, Bool.and_eq_false_iff, Bool.or_eq_false_iff]; omega)) ?_ | (refine dD 11 rfl ?_ ?_ <;> intro hc <;> (try simp only [decide_eq_true_eq, decide_eq_false_iff_not, Bool.not_eq_true', Bool.not_eq_false'] at hc)) | skip
    all_goals
      first | refine dK 5 ?_ | refine dL 5 ?_
      first | refine dK 6 ?_ | refine dL 6 ?_
      first | refine dK 7 ?_ | refine dP 7 ?_
      first | refine dK 9 ?_ | refine dP 9 ?_
      first | refine dK 10 ?_ | refine dL 10 ?_
      refine dO 8 true ?_
      first | refine s1 ?_ | refine F.c (hF) ?_ | refine F.c (hR) ?_ | refine F.c (hE) ?_
      refine ARg.nil (ATh.normal ?_)
      refine dO 11 true ?_
      first | refine s1 ?_ | refine F.c (hF) ?_ | refine F.c (hR) ?_ | refine F.c (hE) ?_
      refine ARg.nil (ATh.normal ?_)
      refine dP 12 ?_
      refine dP 13 ?_
      refine dN ?_
    repeat' first | refine s1 ?_ | fail
    refine F.ret ?_
    simp
end Go.Proofs.YtanembgijdkagaaGreat.V
