/- Texts that the proof needs: A174, Down. -/
import Derived.Test.YtoilkinagffhiaaQffA172
import Derived.JoinedOf
namespace Go.Proofs.Ytoilkinagffhiaa.V
open Go.RowKit G D
set_option linter.unusedVariables false
set_option linter.unusedSimpArgs false
set_option maxHeartbeats 4000000
set_option maxRecDepth 4000
theorem sumN_bd {h : Nat → Int} {B : Int} : ∀ n : Nat, (∀ i, i < n → -B ≤ h i ∧ h i ≤ B) → -(B * (n : Int)) ≤ sumN h n ∧ sumN h n ≤ B * (n : Int)
 | 0, _ => by simp [sumN]
 | n + 1, hh => by
  have ih := sumN_bd n (fun i hi => hh i (by omega))
  have h1 := hh n (by omega)
  have e : B * ((n + 1 : Nat) : Int) = B * (n : Int) + B := by rw [Int.natCast_add, Int.mul_add, Int.natCast_one, Int.mul_one]
  simp only [sumN]
  omega
theorem sym_facts {q : Quiv} (h : 0 < (symF q).length) : okQ q = true ∧ Sq (symF q) q.n.toNat (-12) 2 ∧ symF q = symM q q.fr.length := by
 cases hq : okQ q with
 | false => unfold symF at h; rw [hq] at h; simp at h
 | true =>
  have e : symF q = symM q q.fr.length := by unfold symF; rw [hq]; rfl
  have h5 := okQ_spec hq
  exact ⟨rfl, by rw [e]; exact (symM_sq hq q.fr.length (Nat.le_refl _)).mono (by omega) (Int.le_refl _), e⟩
def trm (m : List (List Int)) (x : List Int) (v w : Nat) : Int := (m.getD v default).getD w default * x.getD v default * x.getD w default
theorem qfR_eq (m : List (List Int)) (x : List Int) (n v : Nat) : qfR m x n v = sumN (trm m x v) n := rfl
theorem trm_bd {q : Quiv} {x : List Int} (h : 0 < (symF q).length) (hl : x.length = (symF q).length) (hs : ∀ j, j < x.length → -100 ≤ x.getD j default ∧ x.getD j default ≤ 100) {v w : Nat} (hv : v < x.length) (hw : w < x.length) :
  (-12 ≤ ((symF q).getD v default).getD w default ∧ ((symF q).getD v default).getD w default ≤ 12) ∧ (-1200 ≤ ((symF q).getD v default).getD w default * x.getD v default ∧ ((symF q).getD v default).getD w default * x.getD v default ≤ 1200) ∧ -120000 ≤ trm (symF q) x v w ∧ trm (symF q) x v w ≤ 120000 := by
 obtain ⟨hq, hsq, _⟩ := sym_facts h
 have b1 : -12 ≤ ((symF q).getD v default).getD w default ∧ ((symF q).getD v default).getD w default ≤ 2 := (hsq.2 v (by have := hsq.1; omega)).2 w (by have := hsq.1; omega)
 have b2 := hs v hv
 have b3 := hs w hw
 have m1 := mul_bd (A := 12) (B := 100) (by omega) (show ((symF q).getD v default).getD w default ≤ 12 by omega) (by omega) b2.2
 have m2 := mul_bd (A := 1200) (B := 100) (by omega) (by omega) (by omega) b3.2 (a := ((symF q).getD v default).getD w default * x.getD v default)
 exact ⟨by omega, by omega, m2.1, m2.2⟩
theorem tot_bd {q : Quiv} {x : List Int} (h : 0 < (symF q).length) (hl : x.length = (symF q).length) (hs : ∀ j, j < x.length → -100 ≤ x.getD j default ∧ x.getD j default ≤ 100) {v w : Nat} (hv : v < x.length) (hw : w ≤ x.length) :
  -10000000 ≤ sumN (qfR (symF q) x x.length) v + sumN (trm (symF q) x v) w ∧ sumN (qfR (symF q) x x.length) v + sumN (trm (symF q) x v) w ≤ 10000000 := by
 obtain ⟨hq, hsq, _⟩ := sym_facts h
 have h5 := okQ_spec hq
 have hx5 : x.length ≤ 5 := by have := hsq.1; omega
 have r : ∀ i, i < x.length → -(600000 : Int) ≤ qfR (symF q) x x.length i ∧ qfR (symF q) x x.length i ≤ 600000 := fun i hi => by
  rw [qfR_eq]
  have := sumN_bd (B := 120000) (h := trm (symF q) x i) x.length (fun j hj => (trm_bd h hl hs hi hj).2.2)
  omega
 have a := sumN_bd (B := 600000) (h := qfR (symF q) x x.length) v (fun i hi => r i (by omega))
 have b := sumN_bd (B := 120000) (h := trm (symF q) x v) w (fun j hj => (trm_bd h hl hs hv (by omega)).2.2)
 omega
theorem form_eq {q : Quiv} {x : List Int} (h : 0 < (symF q).length) (hl : x.length = (symF q).length) (hs : ∀ j, j < x.length → -100 ≤ x.getD j default ∧ x.getD j default ≤ 100) : sumN (qfR (symF q) x x.length) x.length = 2 * eulP q x x ∧ -200000 ≤ eulP q x x ∧ eulP q x x ≤ 200000 ∧ (x.length : Int) = q.n ∧ eulP q x x = eulF q x x := by
 obtain ⟨hq, hsq, e⟩ := sym_facts h
 have h5 := okQ_spec hq
 have hn : x.length = q.n.toNat := by have := hsq.1; omega
 have hn2 : (x.length : Int) = q.n := by omega
 have hx : okX q x = true := by unfold okX; rw [hq, allIn_all2 hs, decide_eq_true hn2]; rfl
 have e2 : eulP q x x = eulF q x x := by unfold eulP; rw [if_pos ⟨hx, hx⟩]
 have e3 := qfM_sym hq (x := x) q.fr.length (Nat.le_refl _)
 have e4 : eulF q x x = D.dotK x x x.length - arrK q x x q.fr.length := rfl
 have e5 : sumN (qfR (symF q) x x.length) x.length = 2 * eulP q x x := by
  rw [e2, e4, e, hn]; exact e3
 refine ⟨e5, ?_, ?_, hn2, e2⟩ <;>
 ·have a := arrK_bd hx hx q.fr.length (Nat.le_refl _)
  have b := D.dotK_bd (okX_spec hx).2.2 (okX_spec hx).2.2 x.length (Nat.le_refl _) (Nat.le_refl _)
  rw [e2, e4]
  omega
end Go.Proofs.Ytoilkinagffhiaa.V
namespace Go.Proofs.Ytoilkinagffhiaa.V
open Go
set_option linter.unusedVariables false
def leads (P : Program) (g : FuncId) : List FuncId := (P.funcs[g]?).elim [] P.leadsTo
def Closed (P : Program) (T : List FuncId) : Prop := ∀ g ∈ T, ∀ h ∈ leads P g, h ∈ T
theorem recurses_at {P : Program} {f : FuncId} (g h : FuncId) (hg : (P.closure f).contains g = true) (hh : (leads P g).contains h = true) (hc : (P.closure h).contains g = true) : P.recurses f = true := by
 unfold Program.recurses
 rw [Bool.or_eq_true]
 refine .inr (List.any_eq_true.2 ⟨g, List.contains_iff_mem.1 hg, List.any_eq_true.2 ⟨h, ?_, hc⟩⟩)
 exact List.contains_iff_mem.1 hh
end Go.Proofs.Ytoilkinagffhiaa.V
