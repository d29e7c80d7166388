/- Contracts: elements of morphisms from projective representations. -/
import Derived.Test.YtjnhjfgcfclamaaGreatQbA91
import Derived.Test.YtjnhjfgcfclamaaGreatQbA73
import Derived.Test.YtjnhjfgcfclamaaGreatQbA88
namespace Go.Proofs.YtjnhjfgcfclamaaGreat.V
open Go.RowKit G D
set_option linter.unusedVariables false
set_option linter.unusedSimpArgs false
set_option maxHeartbeats 4000000
set_option maxRecDepth 4000
attribute [local irreducible] AW ARg ARA ARet MRet ASil AC AM ARI
theorem projP_true {p : Int} {q : Quiv} {v : Int} (h : (projP p q v).2 = true) : isF p = true ∧ areDims q (projD q v) = true ∧ projP p q v = (projR p q v, true) := by
  unfold projP at h ⊢
  by_cases hh : isF p = true ∧ areDims q (projD q v) = true
  · exact ⟨hh.1, hh.2, if_pos hh⟩
  · rw [if_neg hh] at h; cases h
theorem betw_self {q : Quiv} {v : Int} : 1 ≤ (betw q v v).length := by
  have : (⟨v, []⟩ : Pth) ∈ betw q v v := by
    unfold betw
    exact List.mem_filter.2 ⟨lfQ_all q 5 v [] trivial (by simp), decide_eq_true rfl⟩
  exact List.length_pos_of_mem this
theorem appV_col0 {p : Int} {m : Mat} (h : isMat p m = true) (hc : 0 < m.c.toNat) : appV p m (unitL m.c.toNat 0) = rowL m.r.toNat fun i => ent m i 0 := by
  conv => lhs; unfold appV
  refine rowL_ext fun i hi => ?_
  rw [← appV_get p m _ hi, ← rowL_unit, appV_unit h hi hc]
def elP (r : Rep) (v : Int) (f : List Mat) : List Int × Bool := if isRep r = true ∧ (projP r.p r.q v).2 = true ∧ isMor (projP r.p r.q v).1 r f = true then (rowL (f.getD v.toNat default).r.toNat (fun i => ent (f.getD v.toNat default) i 0), true) else ([], false)
/-- what is known where the answer is yes -/
theorem el_ok {r : Rep} {v : Int} {f : List Mat} (h2 : (projP r.p r.q v).2 = true) (h3 : isMor (projP r.p r.q v).1 r f = true) : isRep r = true ∧ 0 ≤ v ∧ v.toNat < f.length ∧ v.toNat < (projD r.q v).length ∧ isMat r.p (f.getD v.toNat default) = true ∧ (f.getD v.toNat default).c = (projD r.q v).getD v.toNat default ∧ 0 < (f.getD v.toNat default).c := by
  obtain ⟨h1, h4, h5⟩ := projP_true h2
  rw [h5] at h3
  dsimp only at h3
  obtain ⟨m1, m2, m3, m4, m5⟩ := mor_ok h3
  obtain ⟨a1, a2, a3⟩ := areM_spec (isMor_are h3)
  obtain ⟨_, b2, _, _⟩ := fitR_spec a1
  obtain ⟨p1, p2, p3, p4⟩ := projD_yes h4
  obtain ⟨c1, c2, c3, c4⟩ := areDims_spec h4
  have hl : f.length = (projD r.q v).length := m1
  have hv : v.toNat < f.length := by omega
  obtain ⟨n1, n2, n3⟩ := m5 _ hv
  have n2' : (f.getD v.toNat default).c = (projD r.q v).getD v.toNat default := n2
  have hb := betw_self (q := r.q) (v := v)
  have e := p4 v.toNat (by omega)
  rw [Int.toNat_of_nonneg p2] at e
  exact ⟨b2, p2, hv, by omega, n1, n2', by omega⟩
theorem implElementOfMap_a (r : Rep) (v : Int) (f : List Mat) : AC Tryz.prog 38 [.agg (enc false r), .i v, ar false f] [.dt true 1 (E true (elP r v f).1), .b (elP r v f).2] := by
  refine AC.go Tryz.func38 Tryz.ntmps38 rfl rfl fun w0 hw => ?_; simp [WfL, WfA, E_length, Enc.enc, In64] at hw
  have hP := implProjectiveRep_a r.p r.q v
  have hM := implIsMorphism_a (projP r.p r.q v).1 r f
  have hok := fun h2 h3 => el_ok (r := r) (v := v) (f := f) h2 h3
  unfold elP
  cases h2 : (projP r.p r.q v).2 with
  | false =>
    rw [h2] at hP
    rw [if_neg (by simp)]
    generalize (projP r.p r.q v).1 = PR at hP hM
    repeat' first | refine s1 ?_ | refine q1 ?_ | (refine kR ?_; first | refine F.c (hP) ?_) | fail
    (refine kZ ?_; exact F.ret rfl)
  | true =>
    rw [h2] at hP
    cases h3 : isMor (projP r.p r.q v).1 r f with
    | false =>
      rw [h3] at hM
      rw [if_neg (by simp)]
      generalize (projP r.p r.q v).1 = PR at hP hM
      repeat' first | refine s1 ?_ | refine q1 ?_ | (refine kR ?_; first | refine F.c (hP) ?_ | refine F.c (hM) ?_) | fail
      (refine kZ ?_; exact F.ret rfl)
    | true =>
      rw [h3] at hM
      obtain ⟨k1, k2, k3, k4, k5, k6, k7⟩ := hok h2 h3
      rw [if_pos ⟨k1, rfl, rfl⟩]
      obtain ⟨_, g1, g2, _, _⟩ := isMat_spec k5
      have hC := column_a (f.getD v.toNat default).r.toNat (f.getD v.toNat default).c.toNat 0 (ent (f.getD v.toNat default)) (by omega) (by omega) (by omega)
      rw [isMat_tm k5] at hC
      have hC : AC Tryz.prog 83 [.agg (enc false (f.getD v.toNat default)), .i 0] [.dt true 1 (E true (rowL (f.getD v.toNat default).r.toNat fun i => ent (f.getD v.toNat default) i 0))] := hC
      generalize (rowL (f.getD v.toNat default).r.toNat fun i => ent (f.getD v.toNat default) i 0) = CO at hC ⊢
      generalize (projP r.p r.q v).1 = PR at hP hM
      repeat' first | refine s1 ?_ | refine q1 ?_ | (refine kR ?_; first | refine F.c (hP) ?_ | refine F.c (hM) ?_ | refine F.c (hC) ?_) | fail
      (refine kZ ?_; exact F.ret rfl)
theorem specElementOfMap_a (r : Rep) (v : Int) (f : List Mat) : AC Tryz.prog 37 [.agg (enc false r), .i v, ar false f] [.dt true 1 (E true (elP r v f).1), .b (elP r v f).2] := by
  refine AC.go Tryz.func37 Tryz.ntmps37 rfl rfl fun w0 hw => ?_; simp [WfL, WfA, E_length, Enc.enc, In64] at hw
  have hF := specIsRep_a r
  have hP := specProjectiveRep_a r.p r.q v
  have hM := specIsMorphism_a (projP r.p r.q v).1 r f
  have hok := fun h2 h3 => el_ok (r := r) (v := v) (f := f) h2 h3
  unfold elP
  cases h1 : isRep r with
  | false =>
    rw [h1] at hF
    rw [if_neg (by simp)]
    repeat' first | refine s1 ?_ | refine q1 ?_ | (refine kR ?_; first | refine F.c (hF) ?_) | fail
    (refine kZ ?_; exact F.ret rfl)
  | true =>
    rw [h1] at hF
    cases h2 : (projP r.p r.q v).2 with
    | false =>
      rw [h2] at hP
      rw [if_neg (by simp)]
      generalize (projP r.p r.q v).1 = PR at hP hM
      repeat' first | refine s1 ?_ | refine q1 ?_ | (refine kR ?_; first | refine F.c (hF) ?_ | refine F.c (hP) ?_) | fail
      (refine kZ ?_; exact F.ret rfl)
    | true =>
      rw [h2] at hP
      cases h3 : isMor (projP r.p r.q v).1 r f with
      | false =>
        rw [h3] at hM
        rw [if_neg (by simp)]
        generalize (projP r.p r.q v).1 = PR at hP hM
        repeat' first | refine s1 ?_ | refine q1 ?_ | (refine kR ?_; first | refine F.c (hF) ?_ | refine F.c (hP) ?_ | refine F.c (hM) ?_) | fail
        (refine kZ ?_; exact F.ret rfl)
      | true =>
        rw [h3] at hM
        obtain ⟨k1, k2, k3, k4, k5, k6, k7⟩ := hok h2 h3
        rw [if_pos ⟨rfl, rfl, rfl⟩]
        obtain ⟨g0, g1, g2, _, _⟩ := isMat_spec k5
        have hp := isF_pos g0
        have hA := specApply_a k5 (v := unitL (f.getD v.toNat default).c.toNat 0) (unitL_len _ _) (unit_bd (by omega) _ _)
        rw [appV_col0 k5 (by omega)] at hA
        obtain ⟨p1, p2, p3⟩ := projP_true h2
        rw [p3] at hP hM
        dsimp only at hP hM
        have hN : (projD r.q v).getD (0 + v.toNat) default = ((f.getD v.toNat default).c.toNat : Int) := by rw [Nat.zero_add, ← k6]; omega
        rw [show unitL (f.getD v.toNat default).c.toNat 0 = (List.replicate (f.getD v.toNat default).c.toNat 0).set (0 + 0) 1 from rfl] at hA
        generalize hCe : (f.getD v.toNat default).c.toNat = CN at hA hN
        generalize (rowL (f.getD v.toNat default).r.toNat fun i => ent (f.getD v.toNat default) i 0) = CO at hA ⊢
        unfold projR at hP hM
        generalize pjMs r.q v = PM at hP hM
        generalize projD r.q v = DS at hP hM hN k4
        repeat' first | refine s1 ?_ | refine q1 ?_ | (refine kR ?_; first | refine F.c (hF) ?_ | refine F.c (hP) ?_ | refine F.c (hM) ?_ | refine F.mk (m := CN) Int rfl rfl (by omega) (mkB (by omega)) (by omega) rfl rfl ?_) | fail
        refine AW.draw 13 G.mixed (by kernel_rfl) ?_
        refine dP 0 ?_
        first | refine dL 1 ?_ | refine dLQ 1 ?_
        refine dP 2 ?_
        refine dP 3 ?_
        first | refine dP 4 ?_ | refine dQ 4 ?_
        first | refine dL 5 ?_ | refine dLQ 5 ?_
        refine dP 6 ?_
        refine dO 7 true ?_
        first | refine s1 ?_ | refine F.c (hA) ?_
        refine ARg.nil (ATh.normal ?_)
        refine dP 8 ?_
        refine dP 9 ?_
        refine dP 10 ?_
        refine dP 11 ?_
        refine dP 12 ?_
        refine dN ?_
        rotate_left
        all_goals
          repeat' first | refine s1 ?_ | refine q1 ?_ | fail
          (refine kZ ?_; exact F.ret rfl)
theorem elP_ct (r : Rep) (v : Int) (f : List Mat) : (elP r v f).1.length ≤ 1000 := by
  unfold elP
  by_cases h : isRep r = true ∧ (projP r.p r.q v).2 = true ∧ isMor (projP r.p r.q v).1 r f = true
  · rw [if_pos h]
    obtain ⟨k1, k2, k3, k4, k5, k6, k7⟩ := el_ok h.2.1 h.2.2
    obtain ⟨_, g1, g2, _, _⟩ := isMat_spec k5
    simp only [rowL_len]
    omega
  · rw [if_neg h]; simp
end Go.Proofs.YtjnhjfgcfclamaaGreat.V
