/- Contracts: ranks, dimensions of extensions and of morphisms (the program's), rigid representations. -/
import Derived.Test.YtlmenmacepeeaaaA36
import Derived.Test.YtlmenmacepeeaaaA37
import Derived.Test.YtlmenmacepeeaaaA39
namespace Go.Proofs.Ytlmenmacepeeaaa.V
open V.Enc (enc)
open Go.RowKit G D
set_option linter.unusedVariables false
set_option linter.unusedSimpArgs false
set_option maxHeartbeats 4000000
set_option maxRecDepth 4000
attribute [local irreducible] AW ARg ARA ARet MRet ASil AC AM

theorem rank_a (p : Int) (r c : Nat) (f : Nat → Nat → Int) (hf : isF p = true) (hr : r ≤ 1024) (hc : c ≤ 1024) (hb : BdF p r c f) :
    AC Try.prog 166 [.i p, .agg (enc false (tm r c f))] [.i ((redK p r f c).2.length : Nat)] := by
  refine AC.go Try.func166 Try.ntmps166 rfl rfl fun w0 hw => ?_; simp [WfL, WfA, E_length, Enc.enc, In64] at hw
  have h5 := isF_pos hf
  have hR := implReduce_a p r c f hf hr hc hb
  have hl := ints_len (redK p r f c).2
  repeat' first | refine s1 ?_ | (refine kR ?_; first | refine F.c (hR) ?_ | refine F.sil (A.idxQ rfl rfl rfl (by omega) (by omega) (by first | rfl | (simp [tab_len]; done)) (by first | rfl | (simp [tab_len]; done))) rfl rfl ?_ | refine F.sil (A.ldQ rfl rfl (by omega) (by omega) (by first | rfl | (simp [tab_len]; done))) rfl rfl ?_ | refine F.sil (A.idxQD rfl rfl (by omega) (by omega)) rfl rfl ?_ | refine F.sil (A.idxRD rfl rfl (by omega)) rfl rfl ?_ | refine F.stQ rfl rfl rfl (by omega) (by omega) (by first | rfl | (simp [tab_len]; done)) rfl rfl rfl ?_) | fail
  rw [hl]
  repeat' first | refine s1 ?_ | (refine kR ?_; first | refine F.sil (A.idxQ rfl rfl rfl (by omega) (by omega) (by first | rfl | (simp [tab_len]; done)) (by first | rfl | (simp [tab_len]; done))) rfl rfl ?_ | refine F.sil (A.ldQ rfl rfl (by omega) (by omega) (by first | rfl | (simp [tab_len]; done))) rfl rfl ?_ | refine F.sil (A.idxQD rfl rfl (by omega) (by omega)) rfl rfl ?_ | refine F.sil (A.idxRD rfl rfl (by omega)) rfl rfl ?_ | refine F.stQ rfl rfl rfl (by omega) (by omega) (by first | rfl | (simp [tab_len]; done)) rfl rfl rfl ?_) | fail
  (refine kZ ?_; exact F.ret rfl)
/-- the rank of the equations -/
def rkE (a b : Rep) : Nat := (redK a.p (szA a b a.q.fr.length) (ent (eqM a b)) (szT a b a.d.length)).2.length
theorem eq_rank_a (a b : Rep) (hf : fitR a b = true) : AC Try.prog 166 [.i a.p, .agg (enc false (eqM a b))] [.i (rkE a b : Nat)] := by
  have h := Fits.of hf
  have h5 := okQ_spec h.ok
  have hda := h.da
  have hp := isF_pos h.f
  have hn := szT_le h a.d.length (Nat.le_refl _)
  have hN := szA_le h a.q.fr.length (Nat.le_refl _)
  have := rank_a a.p (szA a b a.q.fr.length) (szT a b a.d.length) (ent (eqM a b)) h.f (by omega) (by omega) (eqM_bd (by omega))
  rw [eqM_tm (by omega)] at this
  exact this
theorem eq_red_a (a b : Rep) (hf : fitR a b = true) : AC Try.prog 87 [.i a.p, .agg (enc false (eqM a b))] [.agg (enc true (tm (szA a b a.q.fr.length) (szT a b a.d.length) (redK a.p (szA a b a.q.fr.length) (ent (eqM a b)) (szT a b a.d.length)).1)), .dt true 1 (E true (ints (redK a.p (szA a b a.q.fr.length) (ent (eqM a b)) (szT a b a.d.length)).2))] := by
  have h := Fits.of hf
  have h5 := okQ_spec h.ok
  have hda := h.da
  have hp := isF_pos h.f
  have hn := szT_le h a.d.length (Nat.le_refl _)
  have hN := szA_le h a.q.fr.length (Nat.le_refl _)
  have := l4Reduce_a a.p (szA a b a.q.fr.length) (szT a b a.d.length) (ent (eqM a b)) h.f (by omega) (by omega) (eqM_bd (by omega))
  rw [eqM_tm (by omega)] at this
  exact this
theorem rkE_le (a b : Rep) (hf : fitR a b = true) : rkE a b ≤ szA a b a.q.fr.length ∧ rkE a b ≤ szT a b a.d.length ∧ szA a b a.q.fr.length ≤ 96 ∧ szT a b a.d.length ≤ 80 := by
  have h := Fits.of hf
  have h5 := okQ_spec h.ok
  have hda := h.da
  have hp := isF_pos h.f
  have hn := szT_le h a.d.length (Nat.le_refl _)
  have hN := szA_le h a.q.fr.length (Nat.le_refl _)
  have := redK_bd (p := a.p) (by omega) (eqM_bd (a := a) (b := b) (by omega)) (szT a b a.d.length)
  exact ⟨this.2.1, this.2.2.1, by omega, by omega⟩
def extD (a b : Rep) : Int := if fitR a b = true then (szA a b a.q.fr.length : Int) - (rkE a b : Int) else -1
theorem extDim_a (a b : Rep) (hf : fitR a b = true) : AC Try.prog 89 [.agg (enc false a), .agg (enc false b)] [.i ((szA a b a.q.fr.length : Int) - (rkE a b : Int))] := by
  refine AC.go Try.func89 Try.ntmps89 rfl rfl fun w0 hw => ?_; simp [WfL, WfA, E_length, Enc.enc, In64] at hw
  have hB := boundaries_a a b hf
  have hR := eq_rank_a a b hf
  have hle := rkE_le a b hf
  have hEr : (eqM a b).r = (szA a b a.q.fr.length : Nat) := rfl
  rw [← hEr]
  generalize rkE a b = K at hR hle ⊢
  generalize eqM a b = EM at hB hR hEr ⊢
  repeat' first | refine s1 ?_ | (refine kR ?_; first | refine F.c (hB) ?_ | refine F.sil (A.idxQ rfl rfl rfl (by omega) (by omega) (by first | rfl | (simp [tab_len]; done)) (by first | rfl | (simp [tab_len]; done))) rfl rfl ?_ | refine F.sil (A.ldQ rfl rfl (by omega) (by omega) (by first | rfl | (simp [tab_len]; done))) rfl rfl ?_ | refine F.sil (A.idxQD rfl rfl (by omega) (by omega)) rfl rfl ?_ | refine F.sil (A.idxRD rfl rfl (by omega)) rfl rfl ?_ | refine F.stQ rfl rfl rfl (by omega) (by omega) (by first | rfl | (simp [tab_len]; done)) rfl rfl rfl ?_) | fail
  refine AW.draw 8 G.mixed (by kernel_rfl) ?_
  refine dP 0 ?_
  first | refine dL 1 ?_ | refine dL 1 ?_ (hs := by exact (A.ldQ rfl rfl (by omega) (by omega) (by first | rfl | (simp [tab_len]; done))))
  refine dP 2 ?_
  first | refine dL 3 ?_ | refine dL 3 ?_ (hs := by exact (A.ldQ rfl rfl (by omega) (by omega) (by first | rfl | (simp [tab_len]; done))))
  first | refine dL 4 ?_ | refine dL 4 ?_ (hs := by exact (A.ldQ rfl rfl (by omega) (by omega) (by first | rfl | (simp [tab_len]; done))))
  refine dO 5 true ?_
  first | refine s1 ?_ | refine F.c (hR) ?_
  refine ARg.nil (ATh.normal ?_)
  refine dP 6 ?_
  refine dP 7 ?_
  refine dN ?_
  repeat' first | refine s1 ?_ | (refine kR ?_; first | refine F.sil (A.idxQ rfl rfl rfl (by omega) (by omega) (by first | rfl | (simp [tab_len]; done)) (by first | rfl | (simp [tab_len]; done))) rfl rfl ?_ | refine F.sil (A.ldQ rfl rfl (by omega) (by omega) (by first | rfl | (simp [tab_len]; done))) rfl rfl ?_ | refine F.sil (A.idxQD rfl rfl (by omega) (by omega)) rfl rfl ?_ | refine F.sil (A.idxRD rfl rfl (by omega)) rfl rfl ?_ | refine F.stQ rfl rfl rfl (by omega) (by omega) (by first | rfl | (simp [tab_len]; done)) rfl rfl rfl ?_) | fail
  (refine kZ ?_; exact F.ret rfl)
theorem implExtDim_a (a b : Rep) : AC Try.prog 27 [.agg (enc false a), .agg (enc false b)] [.i (extD a b)] := by
  refine AC.go Try.func27 Try.ntmps27 rfl rfl fun w0 hw => ?_; simp [WfL, WfA, E_length, Enc.enc, In64] at hw
  have hF := fit_a a b
  unfold extD
  cases hf : fitR a b with
  | false =>
    rw [hf] at hF
    rw [if_neg (by simp)]
    repeat' first | refine s1 ?_ | (refine kR ?_; first | refine F.c (hF) ?_ | refine F.sil (A.idxQ rfl rfl rfl (by omega) (by omega) (by first | rfl | (simp [tab_len]; done)) (by first | rfl | (simp [tab_len]; done))) rfl rfl ?_ | refine F.sil (A.ldQ rfl rfl (by omega) (by omega) (by first | rfl | (simp [tab_len]; done))) rfl rfl ?_ | refine F.sil (A.idxQD rfl rfl (by omega) (by omega)) rfl rfl ?_ | refine F.sil (A.idxRD rfl rfl (by omega)) rfl rfl ?_ | refine F.stQ rfl rfl rfl (by omega) (by omega) (by first | rfl | (simp [tab_len]; done)) rfl rfl rfl ?_) | fail
    (refine kZ ?_; exact F.ret rfl)
  | true =>
    rw [hf] at hF
    rw [if_pos rfl]
    have hE := extDim_a a b hf
    repeat' first | refine s1 ?_ | (refine kR ?_; first | refine F.c (hF) ?_ | refine F.c (hE) ?_ | refine F.sil (A.idxQ rfl rfl rfl (by omega) (by omega) (by first | rfl | (simp [tab_len]; done)) (by first | rfl | (simp [tab_len]; done))) rfl rfl ?_ | refine F.sil (A.ldQ rfl rfl (by omega) (by omega) (by first | rfl | (simp [tab_len]; done))) rfl rfl ?_ | refine F.sil (A.idxQD rfl rfl (by omega) (by omega)) rfl rfl ?_ | refine F.sil (A.idxRD rfl rfl (by omega)) rfl rfl ?_ | refine F.stQ rfl rfl rfl (by omega) (by omega) (by first | rfl | (simp [tab_len]; done)) rfl rfl rfl ?_) | fail
    (refine kZ ?_; exact F.ret rfl)
theorem specExtDim_a (a b : Rep) : AC Try.prog 25 [.agg (enc false a), .agg (enc false b)] [.i (extD a b)] := by
  refine AC.go Try.func25 Try.ntmps25 rfl rfl fun w0 hw => ?_; simp [WfL, WfA, E_length, Enc.enc, In64] at hw
  have hF := l9Fit_a a b
  unfold extD
  cases hf : fitR a b with
  | false =>
    rw [hf] at hF
    rw [if_neg (by simp)]
    repeat' first | refine s1 ?_ | (refine kR ?_; first | refine F.c (hF) ?_ | refine F.sil (A.idxQ rfl rfl rfl (by omega) (by omega) (by first | rfl | (simp [tab_len]; done)) (by first | rfl | (simp [tab_len]; done))) rfl rfl ?_ | refine F.sil (A.ldQ rfl rfl (by omega) (by omega) (by first | rfl | (simp [tab_len]; done))) rfl rfl ?_ | refine F.sil (A.idxQD rfl rfl (by omega) (by omega)) rfl rfl ?_ | refine F.sil (A.idxRD rfl rfl (by omega)) rfl rfl ?_ | refine F.stQ rfl rfl rfl (by omega) (by omega) (by first | rfl | (simp [tab_len]; done)) rfl rfl rfl ?_) | fail
    (refine kZ ?_; exact F.ret rfl)
  | true =>
    rw [hf] at hF
    rw [if_pos rfl]
    have hE := l11Equations_a a b hf
    have hR := eq_red_a a b hf
    have hle := rkE_le a b hf
    have hl := ints_len (redK a.p (szA a b a.q.fr.length) (ent (eqM a b)) (szT a b a.d.length)).2
    rw [show (redK a.p (szA a b a.q.fr.length) (ent (eqM a b)) (szT a b a.d.length)).2.length = rkE a b from rfl] at hl
    have hEr : (eqM a b).r = (szA a b a.q.fr.length : Nat) := rfl
    rw [show (⟨(szA a b a.q.fr.length : Nat), (szT a b a.d.length : Nat), eqA a b a.q.fr.length⟩ : Mat) = eqM a b from rfl] at hE
    rw [← hEr]
    generalize rkE a b = K at hle hl ⊢
    generalize ints _ = l at hR hl
    generalize tm _ _ _ = m at hR
    generalize eqM a b = EM at hE hR hEr hl ⊢
    repeat' first | refine s1 ?_ | (refine kR ?_; first | refine F.c (hF) ?_ | refine F.c (hE) ?_ | refine F.c (hR) ?_ | refine F.sil (A.idxQ rfl rfl rfl (by omega) (by omega) (by first | rfl | (simp [tab_len]; done)) (by first | rfl | (simp [tab_len]; done))) rfl rfl ?_ | refine F.sil (A.ldQ rfl rfl (by omega) (by omega) (by first | rfl | (simp [tab_len]; done))) rfl rfl ?_ | refine F.sil (A.idxQD rfl rfl (by omega) (by omega)) rfl rfl ?_ | refine F.sil (A.idxRD rfl rfl (by omega)) rfl rfl ?_ | refine F.stQ rfl rfl rfl (by omega) (by omega) (by first | rfl | (simp [tab_len]; done)) rfl rfl rfl ?_) | fail
    rw [hl]
    (refine kZ ?_; exact F.ret rfl)
theorem implIsRigid_a (r : Rep) : AC Try.prog 29 [.agg (enc false r)] [.b (decide (extD r r = 0))] := by
  refine AC.go Try.func29 Try.ntmps29 rfl rfl fun w0 hw => ?_; simp [WfL, WfA, E_length, Enc.enc, In64] at hw
  have hE := implExtDim_a r r
  repeat' first | refine s1 ?_ | (refine kR ?_; first | refine F.c (hE) ?_ | refine F.sil (A.idxQ rfl rfl rfl (by omega) (by omega) (by first | rfl | (simp [tab_len]; done)) (by first | rfl | (simp [tab_len]; done))) rfl rfl ?_ | refine F.sil (A.ldQ rfl rfl (by omega) (by omega) (by first | rfl | (simp [tab_len]; done))) rfl rfl ?_ | refine F.sil (A.idxQD rfl rfl (by omega) (by omega)) rfl rfl ?_ | refine F.sil (A.idxRD rfl rfl (by omega)) rfl rfl ?_ | refine F.stQ rfl rfl rfl (by omega) (by omega) (by first | rfl | (simp [tab_len]; done)) rfl rfl rfl ?_) | fail
  (refine kZ ?_; exact F.ret rfl)
theorem specIsRigid_a (r : Rep) : AC Try.prog 28 [.agg (enc false r)] [.b (decide (extD r r = 0))] := by
  refine AC.go Try.func28 Try.ntmps28 rfl rfl fun w0 hw => ?_; simp [WfL, WfA, E_length, Enc.enc, In64] at hw
  have hE := specExtDim_a r r
  repeat' first | refine s1 ?_ | (refine kR ?_; first | refine F.c (hE) ?_ | refine F.sil (A.idxQ rfl rfl rfl (by omega) (by omega) (by first | rfl | (simp [tab_len]; done)) (by first | rfl | (simp [tab_len]; done))) rfl rfl ?_ | refine F.sil (A.ldQ rfl rfl (by omega) (by omega) (by first | rfl | (simp [tab_len]; done))) rfl rfl ?_ | refine F.sil (A.idxQD rfl rfl (by omega) (by omega)) rfl rfl ?_ | refine F.sil (A.idxRD rfl rfl (by omega)) rfl rfl ?_ | refine F.stQ rfl rfl rfl (by omega) (by omega) (by first | rfl | (simp [tab_len]; done)) rfl rfl rfl ?_) | fail
  (refine kZ ?_; exact F.ret rfl)
end Go.Proofs.Ytlmenmacepeeaaa.V
