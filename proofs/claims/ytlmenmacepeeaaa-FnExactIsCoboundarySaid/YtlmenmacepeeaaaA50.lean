/- Contracts: whether a cocycle is a coboundary. -/
import Derived.Test.YtlmenmacepeeaaaUq
import Derived.Test.YtlmenmacepeeaaaA49
import Derived.Test.YtlmenmacepeeaaaA48
namespace Go.Proofs.Ytlmenmacepeeaaa.V
open V.Enc (enc)
open Go.RowKit G D
set_option linter.unusedVariables false
set_option linter.unusedSimpArgs false
set_option maxHeartbeats 4000000
set_option maxRecDepth 4000
attribute [local irreducible] AW ARg ARA ARet MRet ASil AC AM

theorem isCoc_spec {a b : Rep} {c : List Mat} (h : isCoc a b c = true) : fitR a b = true ∧ c.length = a.m.length ∧ ∀ i, i < c.length → isMat a.p (c.getD i default) = true ∧ (c.getD i default).c = a.d.getD (a.q.fr.getD i default).toNat default ∧ (c.getD i default).r = b.d.getD (a.q.to.getD i default).toNat default := by
  simp only [isCoc, fitC, Bool.and_eq_true, decide_eq_true_eq, List.all_eq_true] at h
  exact ⟨h.1.1, h.1.2, fun i hi => by have := h.2 i (by simpa using hi); exact ⟨this.1.1, this.1.2, this.2⟩⟩
theorem catC_len {a b : Rep} {c : List Mat} (h : isCoc a b c = true) : ∀ i, i ≤ c.length → (catM (c.take i)).length = szA a b i
  | 0, _ => by simp [catM, szA]
  | i + 1, hi => by
    obtain ⟨h1, h2, h3⟩ := isCoc_spec h
    have hh := Fits.of h1
    have h5 := okQ_spec hh.ok
    have hda := hh.da
    have hdb := hh.db
    have hma := hh.ma
    obtain ⟨g1, g2, g3⟩ := h3 i (by omega)
    obtain ⟨m0, m1, m2, m3, m4⟩ := isMat_spec g1
    have f : 0 ≤ a.q.fr.getD i default ∧ a.q.fr.getD i default < a.q.n := okQ_fr hh.ok (by omega)
    have t : 0 ≤ a.q.to.getD i default ∧ a.q.to.getD i default < a.q.n := okQ_to hh.ok (by omega)
    have df := hh.ba (a.q.fr.getD i default).toNat (by omega)
    have dt := hh.bb (a.q.to.getD i default).toNat (by omega)
    obtain ⟨e1, e2⟩ := mul44 dt df
    rw [g2, g3, e1] at m3
    rw [catM_take (by omega), List.length_append, catC_len h i (by omega), szA]
    omega
theorem catC_bd {a b : Rep} {c : List Mat} (h : isCoc a b c = true) : ∀ i, i < (catM c).length → 0 ≤ (catM c).getD i default ∧ (catM c).getD i default ≤ a.p - 1 := fun i hi => by
  have hm : (catM c).getD i default ∈ catM c := gm hi
  simp only [catM, List.mem_flatMap] at hm
  obtain ⟨m, hm1, hm2⟩ := hm
  obtain ⟨v, hv, rfl⟩ := List.getElem_of_mem hm1
  have hM := (isMat_spec ((isCoc_spec h).2.2 v hv).1).2.2.2.2
  obtain ⟨t, ht, e2⟩ := List.getElem_of_mem hm2
  have g1 : c.getD v default = c[v] := by simp [hv]
  rw [g1] at hM
  have := hM t ht
  have e3 : (c[v]).m.getD t default = (c[v]).m[t] := by simp [ht]
  rw [e3, e2] at this
  exact this
def isCob (a b : Rep) (c : List Mat) : Bool := isCoc a b c && (solL a.p (szA a b a.q.fr.length) (szT a b a.d.length) (ent (eqM a b)) (catM c)).2
theorem implIsCoboundary_a (a b : Rep) (c : List Mat) : AC Try.prog 43 [.agg (enc false a), .agg (enc false b), ar false c] [.b (isCob a b c)] := by
  refine AC.go Try.func43 Try.ntmps43 rfl rfl fun w0 hw => ?_; simp [WfL, WfA, E_length, Enc.enc, In64] at hw
  have hF := implIsCocycle_a a b c
  unfold isCob
  cases hf : isCoc a b c with
  | false =>
    rw [hf] at hF
    repeat' first | refine s1 ?_ | refine q1 ?_ | (refine kR ?_; first | refine F.c (hF) ?_) | fail
    (refine kZ ?_; exact F.ret rfl)
  | true =>
    rw [hf] at hF
    obtain ⟨h1, h2, h3⟩ := isCoc_spec hf
    have h := Fits.of h1
    have hp := isF_pos h.f
    have hle := rkE_le a b h1
    have hma := h.ma
    have hl := catC_len hf c.length (Nat.le_refl _)
    rw [List.take_length, h2, hma] at hl
    have hB := boundaries_a a b h1
    have hFl := flat_a c (by omega)
    have hS := solve_a a.p (szA a b a.q.fr.length) (szT a b a.d.length) (ent (eqM a b)) (catM c) h.f (by omega) (by omega) (eqM_bd (by omega)) hl (fun i hi => catC_bd hf i (by omega))
    rw [eqM_tm (by omega)] at hS
    generalize solL a.p (szA a b a.q.fr.length) (szT a b a.d.length) (ent (eqM a b)) (catM c) = S at hS ⊢
    obtain ⟨sl, sb⟩ := S
    dsimp only at hS ⊢
    generalize catM c = CC at hFl hS hl
    generalize eqM a b = EM at hB hS
    repeat' first | refine s1 ?_ | refine q1 ?_ | (refine kR ?_; first | refine F.c (hF) ?_) | fail
    refine AW.draw 13 G.mixed (by kernel_rfl) ?_
    refine dP 0 ?_
    first | refine dL 1 ?_ | refine dLQ 1 ?_
    first | refine dL 2 ?_ | refine dLQ 2 ?_
    first | refine dL 3 ?_ | refine dLQ 3 ?_
    refine dP 5 ?_
    refine dO 4 true ?_
    first | refine s1 ?_ | refine F.c (hB) ?_ | refine F.c (hFl) ?_ | refine F.c (hS) ?_
    refine ARg.nil (ATh.normal ?_)
    refine dO 6 true ?_
    first | refine s1 ?_ | refine F.c (hB) ?_ | refine F.c (hFl) ?_ | refine F.c (hS) ?_
    refine ARg.nil (ATh.normal ?_)
    refine dO 7 true ?_
    first | refine s1 ?_ | refine F.c (hB) ?_ | refine F.c (hFl) ?_ | refine F.c (hS) ?_
    refine ARg.nil (ATh.normal ?_)
    refine dP 8 ?_
    refine dP 9 ?_
    refine dP 10 ?_
    refine dP 11 ?_
    refine dP 12 ?_
    refine dN ?_
    rotate_left
    all_goals
      repeat' first | refine s1 ?_ | refine q1 ?_ | fail
      (refine kZ ?_; exact F.ret rfl)
theorem specIsCoboundary_a (a b : Rep) (c : List Mat) : AC Try.prog 42 [.agg (enc false a), .agg (enc false b), ar false c] [.b (isCob a b c)] := by
  refine AC.go Try.func42 Try.ntmps42 rfl rfl fun w0 hw => ?_; simp [WfL, WfA, E_length, Enc.enc, In64] at hw
  have hF := specIsCocycle_a a b c
  unfold isCob
  cases hf : isCoc a b c with
  | false =>
    rw [hf] at hF
    repeat' first | refine s1 ?_ | refine q1 ?_ | (refine kR ?_; first | refine F.c (hF) ?_) | fail
    (refine kZ ?_; exact F.ret rfl)
  | true =>
    rw [hf] at hF
    obtain ⟨h1, h2, h3⟩ := isCoc_spec hf
    have h := Fits.of h1
    have hp := isF_pos h.f
    have hle := rkE_le a b h1
    have hma := h.ma
    have hl := catC_len hf c.length (Nat.le_refl _)
    rw [List.take_length, h2, hma] at hl
    have hB := l11Equations_a a b h1
    rw [show (⟨(szA a b a.q.fr.length : Nat), (szT a b a.d.length : Nat), eqA a b a.q.fr.length⟩ : Mat) = eqM a b from rfl] at hB
    have hFl := l11Flat_a c (by omega)
    have hS := l4Solve_a a.p (szA a b a.q.fr.length) (szT a b a.d.length) (ent (eqM a b)) (catM c) h.f (by omega) (by omega) (eqM_bd (by omega)) hl (fun i hi => catC_bd hf i (by omega))
    rw [eqM_tm (by omega)] at hS
    generalize solL a.p (szA a b a.q.fr.length) (szT a b a.d.length) (ent (eqM a b)) (catM c) = S at hS ⊢
    obtain ⟨sl, sb⟩ := S
    dsimp only at hS ⊢
    generalize catM c = CC at hFl hS hl
    generalize eqM a b = EM at hB hS
    repeat' first | refine s1 ?_ | refine q1 ?_ | (refine kR ?_; first | refine F.c (hF) ?_) | fail
    refine AW.draw 13 G.mixed (by kernel_rfl) ?_
    refine dP 0 ?_
    first | refine dL 1 ?_ | refine dLQ 1 ?_
    first | refine dL 2 ?_ | refine dLQ 2 ?_
    first | refine dL 3 ?_ | refine dLQ 3 ?_
    refine dP 5 ?_
    refine dO 4 true ?_
    first | refine s1 ?_ | refine F.c (hB) ?_ | refine F.c (hFl) ?_ | refine F.c (hS) ?_
    refine ARg.nil (ATh.normal ?_)
    refine dO 6 true ?_
    first | refine s1 ?_ | refine F.c (hB) ?_ | refine F.c (hFl) ?_ | refine F.c (hS) ?_
    refine ARg.nil (ATh.normal ?_)
    refine dO 7 true ?_
    first | refine s1 ?_ | refine F.c (hB) ?_ | refine F.c (hFl) ?_ | refine F.c (hS) ?_
    refine ARg.nil (ATh.normal ?_)
    refine dP 8 ?_
    refine dP 9 ?_
    refine dP 10 ?_
    refine dP 11 ?_
    refine dP 12 ?_
    refine dN ?_
    rotate_left
    all_goals
      repeat' first | refine s1 ?_ | refine q1 ?_ | fail
      (refine kZ ?_; exact F.ret rfl)
end Go.Proofs.Ytlmenmacepeeaaa.V
