/- Texts that the proof needs: A157. -/
import Derived.Test.YtoilkinagffhiaaQffA155
import Derived.Test.YtoilkinagffhiaaQffA154
namespace Go.Proofs.Ytoilkinagffhiaa.V
open Go.RowKit G D
set_option linter.unusedVariables false
set_option linter.unusedSimpArgs false
set_option maxHeartbeats 4000000
set_option maxRecDepth 4000
attribute [local irreducible] AW AWR ARg ARA ARet MRet ASil AC AM
abbrev nvS (q : Quiv) (n c : Nat) (S0 : Nat → AV) (hp0 : Nat → Ob) : St := ⟨upsA [(1, .ip (enc false q)), (4, .pt 1 1 0 0), (14, .sl 5 n 0 n), (5, .sl 5 n 0 n)] S0,
 upsA [(1, .live false 1 [[bestA (nulR q (c - 1)).1]]), (5, .live false 1 (E true (dgD n c))), (4, .live false 1 [[.dt false 1 (E false (List.replicate n (4 : Int)))]])] hp0, 6⟩
theorem nvBody (q : Quiv) (n : Nat) (hq : okQ q = true) (hn : q.n = n) (hn1 : 1 ≤ n) (hn5 : n ≤ 5) : ∃ fn r0 c1 r3 r4 assign body post, Try.prog.funcs[8]? = some fn ∧ fn.body = some (Code.seq r0 (.seq c1 (.seq r3 (.seq (.seq r4 (.block 0 (.rangeFunc (.tmp 13) #[14] assign body))) post)))) ∧
  ∀ (c : Nat), c < 5 ^ n → ∀ S0 hp0 l v0 mp, AWR Try.prog 41 l v0 mp body (fun e st' => ∃ _ : Unit, e = .normal ∧ Fit ((List.range 41).drop 15) [] [(1, .live false 1 [[bestA (nulR q c).1]])] (nvS q n c S0 hp0) st') (nvS q n c S0 hp0) := by
 refine ⟨_, _, _, _, _, _, _, _, Try.func8, rfl, ?_⟩
 intro c hc S0 hp0 l v0 mp
 refine AWR.fitQ ?_
 have hR := nul_round hq hn hn1 hc
 have hxl : (dgD n c).length = n := dgJ_len _ _ _
 have hok := dgD_okX (c := c) hq hn
 have hE := euler_a q (dgD n c) (dgD n c) hok hok
 have hb : ∀ j, j < (dgD n c).length → -1048576 ≤ (dgD n c).getD j default ∧ (dgD n c).getD j default ≤ 1048576 := fun j hj => by
  have := dgJ_bd (n := n) (c := c) (j := n) (v := j) (by omega)
  unfold dgD
  omega
 have hS := sumOf_a (dgD n c) (by omega) hb
 have hC := clone_a (dgD n c) (by omega)
 have hBl := nulR_len q (c - 1)
 have hnn : q.n.toNat = n := by omega
 rw [hnn] at hBl
 have hSb : ∀ l : List Int, l.length = n → (∀ j, j < n → 0 ≤ l.getD j default ∧ l.getD j default ≤ 4) → AC Try.prog 42 [ar false l] [.i l.sum] := fun l h1 h2 => sumOf_a l (by omega) fun j hj => by have := h2 j (by omega); omega
 unfold nvS
 generalize dgD n c = X at hxl hok hE hb hS hC hR ⊢
 generalize eulF q X X = e at hE hR
 generalize hs : X.sum = s at hS hR
 generalize (nulR q (c - 1)).1 = B at hR hBl ⊢
 generalize (nulR q c).1 = B' at hR ⊢
 have hl5 : ∀ l : List Int, (E true l).flatten.all pureB = true := fun l => E_pure true l
 rcases hR with ⟨rfl, rfl, rfl, rfl⟩ | ⟨h0, hR⟩
 ·refine AWR.block (AWR.seq ?_)
  refine AWR.draw 21 G.mixed (by kernel_rfl) (by rfl) ?_
  refine dP 0 ?_
  refine dO 1 true ?_
  first | refine s1 ?_ | refine F.c (hS) ?_
  refine tN ?_
  refine dP 2 ?_
  refine dP 3 ?_
  first | refine dT 18 rfl (by first | assumption | rfl | (simp only [decide_eq_true_eq, Bool.not_eq_true', decide_eq_false_iff_not, Bool.and_eq_true, Bool.or_eq_true]; omega)) ?_ | refine dF 18 rfl (by first | assumption | rfl | (simp only [decide_eq_false_iff_not, Bool.not_eq_false', decide_eq_true_eq, Bool.and_eq_false_iff, Bool.or_eq_false_iff]; omega)) ?_ | (refine dD 18 rfl ?_ ?_ <;> intro hc <;> (try simp only [decide_eq_true_eq, decide_eq_false_iff_not, Bool.not_eq_true', Bool.not_eq_false'] at hc)) | skip
  all_goals
   first | refine dK 4 ?_ | refine dL 4 ?_
   first | refine dK 5 ?_ | refine dP 5 ?_
   first | refine dK 6 ?_ | refine dP 6 ?_
   refine dO 7 true ?_
   first | refine s1 ?_ | refine F.c (hS) ?_
   refine tN ?_
   first | refine dK 8 ?_ | refine dP 8 ?_
   refine dP 9 ?_
   refine dP 10 ?_
   first | refine dT 25 rfl (by first | assumption | rfl | (simp only [decide_eq_true_eq, Bool.not_eq_true', decide_eq_false_iff_not, Bool.and_eq_true, Bool.or_eq_true]; omega)) ?_ | refine dF 25 rfl (by first | assumption | rfl | (simp only [decide_eq_false_iff_not, Bool.not_eq_false', decide_eq_true_eq, Bool.and_eq_false_iff, Bool.or_eq_false_iff]; omega)) ?_ | (refine dD 25 rfl ?_ ?_ <;> intro hc <;> (try simp only [decide_eq_true_eq, decide_eq_false_iff_not, Bool.not_eq_true', Bool.not_eq_false'] at hc)) | skip
   all_goals
    first | refine dK 11 ?_ | refine dL 11 ?_
    first | refine dK 12 ?_ | refine dP 12 ?_
    first | refine dK 13 ?_ | refine dP 13 ?_
    first | refine dT 28 rfl (by first | assumption | rfl | (simp only [decide_eq_true_eq, Bool.not_eq_true', decide_eq_false_iff_not, Bool.and_eq_true, Bool.or_eq_true]; omega)) ?_ | refine dF 28 rfl (by first | assumption | rfl | (simp only [decide_eq_false_iff_not, Bool.not_eq_false', decide_eq_true_eq, Bool.and_eq_false_iff, Bool.or_eq_false_iff]; omega)) ?_ | (refine dD 28 rfl ?_ ?_ <;> intro hc <;> (try simp only [decide_eq_true_eq, decide_eq_false_iff_not, Bool.not_eq_true', Bool.not_eq_false'] at hc)) | skip
    all_goals
     first | refine dK 14 ?_ | refine dP 14 ?_
     first | refine dK 16 ?_ | refine dL 16 ?_
     refine dO 15 true ?_
     first | refine s1 ?_ | refine F.c (hS) ?_
     refine tN ?_
     refine dO 17 true ?_
     first | refine s1 ?_ | refine F.c (hS) ?_
     refine tN ?_
     first | refine dK 18 ?_ | refine dP 18 ?_
     first | refine dK 19 ?_ | refine dP 19 ?_
     refine dP 20 ?_
     refine dN ?_
     rotate_left
  all_goals
   refine ATh.normal (AWR.cond (b := false) rfl (fun h => by cases h) fun _ => AWR.skip (ABk.normal (FitQ.mk (F.fit trivial ⟨rfl, trivial⟩))))
 ·by_cases he : e = 0
  ·by_cases hB : B = []
   ·rw [if_pos ⟨he, .inl hB⟩] at hR
    subst hB hR
    refine AWR.block (AWR.seq ?_)
    refine AWR.draw 21 G.mixed (by kernel_rfl) (by rfl) ?_
    refine dP 0 ?_
    refine dO 1 true ?_
    first | refine s1 ?_ | refine F.c (hS) ?_ | refine F.c (hE) ?_
    refine tN ?_
    refine dP 2 ?_
    refine dP 3 ?_
    first | refine dT 18 rfl (by first | assumption | rfl | (simp only [decide_eq_true_eq, Bool.not_eq_true', decide_eq_false_iff_not, Bool.and_eq_true, Bool.or_eq_true]; omega)) ?_ | refine dF 18 rfl (by first | assumption | rfl | (simp only [decide_eq_false_iff_not, Bool.not_eq_false', decide_eq_true_eq, Bool.and_eq_false_iff, Bool.or_eq_false_iff]; omega)) ?_ | (refine dD 18 rfl ?_ ?_ <;> intro hc <;> (try simp only [decide_eq_true_eq, decide_eq_false_iff_not, Bool.not_eq_true', Bool.not_eq_false'] at hc)) | skip
    all_goals
     first | refine dK 4 ?_ | refine dL 4 ?_
     first | refine dK 5 ?_ | refine dP 5 ?_
     first | refine dK 6 ?_ | refine dP 6 ?_
     refine dO 7 true ?_
     first | refine s1 ?_ | refine F.c (hS) ?_ | refine F.c (hE) ?_
     refine tN ?_
     first | refine dK 8 ?_ | refine dP 8 ?_
     refine dP 9 ?_
     refine dP 10 ?_
     first | refine dT 25 rfl (by first | assumption | rfl | (simp only [decide_eq_true_eq, Bool.not_eq_true', decide_eq_false_iff_not, Bool.and_eq_true, Bool.or_eq_true]; omega)) ?_ | refine dF 25 rfl (by first | assumption | rfl | (simp only [decide_eq_false_iff_not, Bool.not_eq_false', decide_eq_true_eq, Bool.and_eq_false_iff, Bool.or_eq_false_iff]; omega)) ?_ | (refine dD 25 rfl ?_ ?_ <;> intro hc <;> (try simp only [decide_eq_true_eq, decide_eq_false_iff_not, Bool.not_eq_true', Bool.not_eq_false'] at hc)) | skip
     all_goals
      first | refine dK 11 ?_ | refine dL 11 ?_
      first | refine dK 12 ?_ | refine dP 12 ?_
      first | refine dK 13 ?_ | refine dP 13 ?_
      first | refine dT 28 rfl (by first | assumption | rfl | (simp only [decide_eq_true_eq, Bool.not_eq_true', decide_eq_false_iff_not, Bool.and_eq_true, Bool.or_eq_true]; omega)) ?_ | refine dF 28 rfl (by first | assumption | rfl | (simp only [decide_eq_false_iff_not, Bool.not_eq_false', decide_eq_true_eq, Bool.and_eq_false_iff, Bool.or_eq_false_iff]; omega)) ?_ | (refine dD 28 rfl ?_ ?_ <;> intro hc <;> (try simp only [decide_eq_true_eq, decide_eq_false_iff_not, Bool.not_eq_true', Bool.not_eq_false'] at hc)) | skip
      all_goals
       first | refine dK 14 ?_ | refine dP 14 ?_
       first | refine dK 16 ?_ | refine dL 16 ?_
       refine dO 15 true ?_
       first | refine s1 ?_ | refine F.c (hS) ?_ | refine F.c (hE) ?_
       refine tN ?_
       refine dO 17 true ?_
       first | refine s1 ?_ | refine F.c (hS) ?_ | refine F.c (hE) ?_
       refine tN ?_
       first | refine dK 18 ?_ | refine dP 18 ?_
       first | refine dK 19 ?_ | refine dP 19 ?_
       refine dP 20 ?_
       refine dN ?_
       rotate_left
    all_goals
     refine ATh.normal (AWR.cond (b := true) rfl (fun _ => AWR.region rfl ?_) fun h => by cases h)
     repeat' first | refine s1 ?_ | refine F.c hC ?_ | fail
     refine FitQ.via (Sim.putV (o := 1) (o2 := 6) rfl rfl (E_length true _) (hl5 _) (by decide)) ?_
     rw [bestA_ne (fun h => by rw [h] at hxl; simp at hxl; omega)]
     exact F.fit trivial ⟨rfl, trivial⟩
   ·have hBl := hBl.resolve_left hB
    have hSB := hSb B hBl.1 hBl.2
    have hBB := bestA_ne hB
    rw [hBB]
    refine AWR.ghost (Sim.takeV (o := 1) rfl ((E_length true B).trans hBl.1)) ?_
    have hEl : ∀ o, (E o B).length = n := fun o => (E_length o B).trans hBl.1
    have hB1 := hBl.1
    clear hBl
    generalize B.sum = sB at hSB hR
    by_cases hlt : s < sB
    ·rw [if_pos ⟨he, .inr hlt⟩] at hR
     subst hR
     refine AWR.block (AWR.seq ?_)
     refine AWR.draw 21 G.mixed (by kernel_rfl) (by rfl) ?_
     refine dP 0 ?_
     refine dO 1 true ?_
     first | refine s1 ?_ | refine F.c (hS) ?_ | refine F.c (hS) ?_ | refine F.c (hE) ?_
     refine tN ?_
     refine dP 2 ?_
     refine dP 3 ?_
     first | refine dT 18 rfl (by first | assumption | rfl | (simp only [decide_eq_true_eq, Bool.not_eq_true', decide_eq_false_iff_not, Bool.and_eq_true, Bool.or_eq_true]; omega)) ?_ | refine dF 18 rfl (by first | assumption | rfl | (simp only [decide_eq_false_iff_not, Bool.not_eq_false', decide_eq_true_eq, Bool.and_eq_false_iff, Bool.or_eq_false_iff]; omega)) ?_ | (refine dD 18 rfl ?_ ?_ <;> intro hc <;> (try simp only [decide_eq_true_eq, decide_eq_false_iff_not, Bool.not_eq_true', Bool.not_eq_false'] at hc)) | skip
     all_goals
      first | refine dK 4 ?_ | refine dL 4 ?_
      first | refine dK 5 ?_ | refine dP 5 ?_
      first | refine dK 6 ?_ | refine dP 6 ?_
      refine dO 7 true ?_
      first | refine s1 ?_ | refine F.c (hS) ?_ | refine F.c (hE) ?_
      refine tN ?_
      first | refine dK 8 ?_ | refine dP 8 ?_
      refine dP 9 ?_
      refine dP 10 ?_
      first | refine dT 25 rfl (by first | assumption | rfl | (simp only [decide_eq_true_eq, Bool.not_eq_true', decide_eq_false_iff_not, Bool.and_eq_true, Bool.or_eq_true]; omega)) ?_ | refine dF 25 rfl (by first | assumption | rfl | (simp only [decide_eq_false_iff_not, Bool.not_eq_false', decide_eq_true_eq, Bool.and_eq_false_iff, Bool.or_eq_false_iff]; omega)) ?_ | (refine dD 25 rfl ?_ ?_ <;> intro hc <;> (try simp only [decide_eq_true_eq, decide_eq_false_iff_not, Bool.not_eq_true', Bool.not_eq_false'] at hc)) | skip
      all_goals
       first | refine dK 11 ?_ | refine dL 11 ?_
       first | refine dP 12 ?_ (hs := by exact (A.eqS rfl rfl (hEl true) (by omega))) | refine dK 12 ?_ | refine dP 12 ?_
       first | refine dK 13 ?_ | refine dP 13 ?_
       first | refine dT 28 rfl (by first | assumption | rfl | (simp only [decide_eq_true_eq, Bool.not_eq_true', decide_eq_false_iff_not, Bool.and_eq_true, Bool.or_eq_true]; omega)) ?_ | refine dF 28 rfl (by first | assumption | rfl | (simp only [decide_eq_false_iff_not, Bool.not_eq_false', decide_eq_true_eq, Bool.and_eq_false_iff, Bool.or_eq_false_iff]; omega)) ?_ | (refine dD 28 rfl ?_ ?_ <;> intro hc <;> (try simp only [decide_eq_true_eq, decide_eq_false_iff_not, Bool.not_eq_true', Bool.not_eq_false'] at hc)) | skip
       all_goals
        first | refine dK 14 ?_ | refine dP 14 ?_
        first | refine dK 16 ?_ | refine dL 16 ?_
        refine dO 15 true ?_
        first | refine s1 ?_ | refine F.c (hS) ?_ | refine F.c (hS) ?_ | refine F.c (hE) ?_
        refine tN ?_
        refine dO 17 true ?_
        first | refine s1 ?_ | refine F.c (hS) ?_ | refine F.c (hSB) ?_ | refine F.c (hE) ?_
        refine tN ?_
        first | refine dK 18 ?_ | refine dP 18 ?_
        first | refine dK 19 ?_ | refine dP 19 ?_
        refine dP 20 ?_
        refine dN ?_
        rotate_left
     all_goals
      refine ATh.normal (AWR.cond (b := decide (s < sB)) rfl (fun _ => AWR.region rfl ?_) fun h => by simp at h; omega)
      repeat' first | refine s1 ?_ | refine F.c hC ?_ | fail
      refine FitQ.via (Sim.putV (o := 1) (o2 := 7) rfl rfl (E_length true _) (hl5 _) (by decide)) ?_
      rw [bestA_ne (fun h => by rw [h] at hxl; simp at hxl; omega)]
      exact F.fit trivial ⟨rfl, trivial⟩
    ·rw [if_neg (fun h => h.2.elim hB hlt)] at hR
     subst hR
     refine AWR.block (AWR.seq ?_)
     refine AWR.draw 21 G.mixed (by kernel_rfl) (by rfl) ?_
     refine dP 0 ?_
     refine dO 1 true ?_
     first | refine s1 ?_ | refine F.c (hS) ?_ | refine F.c (hS) ?_ | refine F.c (hE) ?_
     refine tN ?_
     refine dP 2 ?_
     refine dP 3 ?_
     first | refine dT 18 rfl (by first | assumption | rfl | (simp only [decide_eq_true_eq, Bool.not_eq_true', decide_eq_false_iff_not, Bool.and_eq_true, Bool.or_eq_true]; omega)) ?_ | refine dF 18 rfl (by first | assumption | rfl | (simp only [decide_eq_false_iff_not, Bool.not_eq_false', decide_eq_true_eq, Bool.and_eq_false_iff, Bool.or_eq_false_iff]; omega)) ?_ | (refine dD 18 rfl ?_ ?_ <;> intro hc <;> (try simp only [decide_eq_true_eq, decide_eq_false_iff_not, Bool.not_eq_true', Bool.not_eq_false'] at hc)) | skip
     all_goals
      first | refine dK 4 ?_ | refine dL 4 ?_
      first | refine dK 5 ?_ | refine dP 5 ?_
      first | refine dK 6 ?_ | refine dP 6 ?_
      refine dO 7 true ?_
      first | refine s1 ?_ | refine F.c (hS) ?_ | refine F.c (hE) ?_
      refine tN ?_
      first | refine dK 8 ?_ | refine dP 8 ?_
      refine dP 9 ?_
      refine dP 10 ?_
      first | refine dT 25 rfl (by first | assumption | rfl | (simp only [decide_eq_true_eq, Bool.not_eq_true', decide_eq_false_iff_not, Bool.and_eq_true, Bool.or_eq_true]; omega)) ?_ | refine dF 25 rfl (by first | assumption | rfl | (simp only [decide_eq_false_iff_not, Bool.not_eq_false', decide_eq_true_eq, Bool.and_eq_false_iff, Bool.or_eq_false_iff]; omega)) ?_ | (refine dD 25 rfl ?_ ?_ <;> intro hc <;> (try simp only [decide_eq_true_eq, decide_eq_false_iff_not, Bool.not_eq_true', Bool.not_eq_false'] at hc)) | skip
      all_goals
       first | refine dK 11 ?_ | refine dL 11 ?_
       first | refine dP 12 ?_ (hs := by exact (A.eqS rfl rfl (hEl true) (by omega))) | refine dK 12 ?_ | refine dP 12 ?_
       first | refine dK 13 ?_ | refine dP 13 ?_
       first | refine dT 28 rfl (by first | assumption | rfl | (simp only [decide_eq_true_eq, Bool.not_eq_true', decide_eq_false_iff_not, Bool.and_eq_true, Bool.or_eq_true]; omega)) ?_ | refine dF 28 rfl (by first | assumption | rfl | (simp only [decide_eq_false_iff_not, Bool.not_eq_false', decide_eq_true_eq, Bool.and_eq_false_iff, Bool.or_eq_false_iff]; omega)) ?_ | (refine dD 28 rfl ?_ ?_ <;> intro hc <;> (try simp only [decide_eq_true_eq, decide_eq_false_iff_not, Bool.not_eq_true', Bool.not_eq_false'] at hc)) | skip
       all_goals
        first | refine dK 14 ?_ | refine dP 14 ?_
        first | refine dK 16 ?_ | refine dL 16 ?_
        refine dO 15 true ?_
        first | refine s1 ?_ | refine F.c (hS) ?_ | refine F.c (hS) ?_ | refine F.c (hE) ?_
        refine tN ?_
        refine dO 17 true ?_
        first | refine s1 ?_ | refine F.c (hS) ?_ | refine F.c (hSB) ?_ | refine F.c (hE) ?_
        refine tN ?_
        first | refine dK 18 ?_ | refine dP 18 ?_
        first | refine dK 19 ?_ | refine dP 19 ?_
        refine dP 20 ?_
        refine dN ?_
        rotate_left
     all_goals
      refine ATh.normal (AWR.cond (b := decide (s < sB)) rfl (fun h => by simp at h; omega) fun _ => AWR.skip (ABk.normal (FitQ.via (Sim.putV (o := 1) (o2 := 6) rfl rfl (hEl true) (hl5 _) (by decide)) ?_)))
      rw [hBB]
      exact F.fit trivial ⟨rfl, trivial⟩
  ·rw [if_neg (fun h => he h.1)] at hR
   subst hR
   refine AWR.block (AWR.seq ?_)
   refine AWR.draw 21 G.mixed (by kernel_rfl) (by rfl) ?_
   refine dP 0 ?_
   refine dO 1 true ?_
   first | refine s1 ?_ | refine F.c (hS) ?_ | refine F.c (hE) ?_
   refine tN ?_
   refine dP 2 ?_
   refine dP 3 ?_
   first | refine dT 18 rfl (by first | assumption | rfl | (simp only [decide_eq_true_eq, Bool.not_eq_true', decide_eq_false_iff_not, Bool.and_eq_true, Bool.or_eq_true]; omega)) ?_ | refine dF 18 rfl (by first | assumption | rfl | (simp only [decide_eq_false_iff_not, Bool.not_eq_false', decide_eq_true_eq, Bool.and_eq_false_iff, Bool.or_eq_false_iff]; omega)) ?_ | (refine dD 18 rfl ?_ ?_ <;> intro hc <;> (try simp only [decide_eq_true_eq, decide_eq_false_iff_not, Bool.not_eq_true', Bool.not_eq_false'] at hc)) | skip
   all_goals
    first | refine dK 4 ?_ | refine dL 4 ?_
    first | refine dK 5 ?_ | refine dP 5 ?_
    first | refine dK 6 ?_ | refine dP 6 ?_
    refine dO 7 true ?_
    first | refine s1 ?_ | refine F.c (hS) ?_ | refine F.c (hE) ?_
    refine tN ?_
    first | refine dK 8 ?_ | refine dP 8 ?_
    refine dP 9 ?_
    refine dP 10 ?_
    first | refine dT 25 rfl (by first | assumption | rfl | (simp only [decide_eq_true_eq, Bool.not_eq_true', decide_eq_false_iff_not, Bool.and_eq_true, Bool.or_eq_true]; omega)) ?_ | refine dF 25 rfl (by first | assumption | rfl | (simp only [decide_eq_false_iff_not, Bool.not_eq_false', decide_eq_true_eq, Bool.and_eq_false_iff, Bool.or_eq_false_iff]; omega)) ?_ | (refine dD 25 rfl ?_ ?_ <;> intro hc <;> (try simp only [decide_eq_true_eq, decide_eq_false_iff_not, Bool.not_eq_true', Bool.not_eq_false'] at hc)) | skip
    all_goals
     first | refine dK 11 ?_ | refine dL 11 ?_
     first | refine dK 12 ?_ | refine dP 12 ?_
     first | refine dK 13 ?_ | refine dP 13 ?_
     first | refine dT 28 rfl (by first | assumption | rfl | (simp only [decide_eq_true_eq, Bool.not_eq_true', decide_eq_false_iff_not, Bool.and_eq_true, Bool.or_eq_true]; omega)) ?_ | refine dF 28 rfl (by first | assumption | rfl | (simp only [decide_eq_false_iff_not, Bool.not_eq_false', decide_eq_true_eq, Bool.and_eq_false_iff, Bool.or_eq_false_iff]; omega)) ?_ | (refine dD 28 rfl ?_ ?_ <;> intro hc <;> (try simp only [decide_eq_true_eq, decide_eq_false_iff_not, Bool.not_eq_true', Bool.not_eq_false'] at hc)) | skip
     all_goals
      first | refine dK 14 ?_ | refine dP 14 ?_
      first | refine dK 16 ?_ | refine dL 16 ?_
      refine dO 15 true ?_
      first | refine s1 ?_ | refine F.c (hS) ?_ | refine F.c (hE) ?_
      refine tN ?_
      refine dO 17 true ?_
      first | refine s1 ?_ | refine F.c (hS) ?_ | refine F.c (hE) ?_
      refine tN ?_
      first | refine dK 18 ?_ | refine dP 18 ?_
      first | refine dK 19 ?_ | refine dP 19 ?_
      refine dP 20 ?_
      refine dN ?_
      rotate_left
   all_goals
    refine ATh.normal (AWR.cond (b := false) rfl (fun h => by cases h) fun _ => AWR.skip (ABk.normal (FitQ.mk (F.fit trivial ⟨rfl, trivial⟩))))
end Go.Proofs.Ytoilkinagffhiaa.V
