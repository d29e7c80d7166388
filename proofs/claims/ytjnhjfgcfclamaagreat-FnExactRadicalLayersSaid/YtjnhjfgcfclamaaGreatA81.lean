/- The layers of the radical, plain: program and reference end alike. No program is walked. -/
import Derived.Test.YtjnhjfgcfclamaaGreatA80
namespace Go.Proofs.YtjnhjfgcfclamaaGreat.V
open Go.RowKit G D
set_option linter.unusedVariables false
set_option linter.unusedSimpArgs false
set_option maxHeartbeats 1000000
set_option maxRecDepth 4000

/-- the radical's representation -/
def radR (r : Rep) : Rep := subR r (radL r)
theorem radR_ok {r : Rep} (h : isRep r = true) : isRep (radR r) = true := subR_ok (rad_sub h)
/-- the reference's loop, of which f rounds are left -/
def layR : Nat → Rep → List (List Int) → List (List Int) × Bool
  | 0, _, _ => ([], false)
  | f + 1, x, out => if x.d.sum = 0 then (out, true) else layR f (radR x) (out ++ [topD x])
def layP (r : Rep) : List (List Int) × Bool := if isRep r = true then layR 9 r [] else ([], false)
theorem topD_eq {r : Rep} (h : isRep r = true) : topD r = topK r.d (dimS (radL r)) r.d.length := by unfold topD; rw [if_pos h]
theorem sum_sub : ∀ {a b c : List Int}, a.length = b.length → c.length = b.length → (∀ j, j < b.length → c.getD j default = a.getD j default - b.getD j default) → c.sum = a.sum - b.sum
  | [], [], [], _, _, _ => by simp
  | x :: a, y :: b, z :: c, h1, h2, h => by
    have e := h 0 (by simp)
    have ih := sum_sub (a := a) (b := b) (c := c) (by simpa using h1) (by simpa using h2) fun j hj => by simpa using h (j + 1) (by simpa using hj)
    simp only [List.getD_cons_zero] at e
    simp only [List.sum_cons]
    omega
theorem rad_len (r : Rep) : (dimS (radL r)).length = r.d.length := by rw [dimS_len]; exact radK_len r r.q.fr.length
/-- the top's dimensions are those that the radical lacks -/
theorem topD_sum {r : Rep} (h : isRep r = true) : (topD r).sum = r.d.sum - (radR r).d.sum := by
  rw [topD_eq h]
  have hl := rad_len r
  have e : (radR r).d = dimS (radL r) := rfl
  rw [e]
  refine sum_sub (by rw [hl]) (by rw [topK_len]) fun j hj => ?_
  unfold topK
  rw [rowL_get _ hj, if_pos (by omega)]
theorem topD_bd {r : Rep} (h : isRep r = true) : (topD r).length = r.d.length ∧ ∀ j, j < (topD r).length → 0 ≤ (topD r).getD j default ∧ (topD r).getD j default ≤ 4 := by
  obtain ⟨h1, h2, h3, h4⟩ := isRep_spec h
  obtain ⟨c1, c2, c3, _⟩ := areDims_spec h2
  have hl := rad_len r
  obtain ⟨d1, d2, d3, d4⟩ := sub_dims (rad_sub h)
  rw [topD_eq h, topK_len]
  refine ⟨hl, fun j hj => ?_⟩
  have hd : 0 ≤ r.d.getD j default ∧ r.d.getD j default ≤ 4 := allIn_spec c3 (by omega)
  have := d2 j (by omega)
  unfold topK
  rw [rowL_get _ hj, if_pos (by omega)]
  omega
theorem zsum : ∀ n : Nat, (List.replicate n (0 : Int)).sum = 0
  | 0 => rfl
  | n + 1 => by rw [List.replicate_succ, List.sum_cons, zsum n]; rfl
theorem rep_sum {r : Rep} (h : isRep r = true) : 0 ≤ r.d.sum ∧ r.d.sum ≤ 8 := by
  obtain ⟨h1, h2, h3, h4⟩ := isRep_spec h
  obtain ⟨c1, c2, c3, c4⟩ := areDims_spec h2
  have : (List.replicate r.d.length (0 : Int)).sum ≤ r.d.sum := sum_le (by simp) fun j hj => by
    have hj : j < r.d.length := by simpa using hj
    have hd : 0 ≤ r.d.getD j default ∧ r.d.getD j default ≤ 4 := allIn_spec c3 hj
    have e : (List.replicate r.d.length (0 : Int)).getD j default = 0 := by simp [hj]
    rw [e]; exact hd.1
  rw [zsum] at this
  exact ⟨this, c4⟩
theorem topD_sum0 {r : Rep} (h : isRep r = true) : 0 ≤ (topD r).sum := by
  rw [topD_sum h]
  have : (radR r).d.sum ≤ r.d.sum := (sub_dims (rad_sub h)).2.2.1
  omega
/-- a representation that is its own radical stays -/
theorem radR_stuck {r : Rep} (h : isRep r = true) (h0 : (topD r).sum = 0) : radR r = r := by
  have hs := topD_sum h
  obtain ⟨d1, d2, d3, d4⟩ := sub_dims (rad_sub h)
  exact subR_full (rad_sub h) (sum_eq_of d1 (fun j hj => (d2 j (by omega)).2) (by show (radR r).d.sum = _; omega))
theorem layR_stuck {r : Rep} (h : isRep r = true) (h0 : (topD r).sum = 0) (hs : r.d.sum ≠ 0) : ∀ f out, layR f r out = ([], false)
  | 0, _ => rfl
  | f + 1, out => by rw [layR, if_neg hs, radR_stuck h h0]; exact layR_stuck h h0 hs f _
/-- what the loop holds on to -/
structure LayI (r0 : Rep) (f : Nat) (x : Rep) (out : List (List Int)) : Prop where
  ok : isRep x = true
  lt : x.d.sum + 1 ≤ f
  eq : layR 9 r0 [] = layR f x out
  le : f ≤ 9
  ln : out.length + f = 9
theorem LayI.start {r : Rep} (h : isRep r = true) : LayI r 9 r [] := ⟨h, by have := rep_sum h; omega, rfl, by omega, rfl⟩
theorem LayI.fin {r0 x : Rep} {f : Nat} {out : List (List Int)} (h : LayI r0 f x out) (h0 : x.d.sum = 0) : layR 9 r0 [] = (out, true) := by
  rw [h.eq]
  have := h.lt
  obtain ⟨f, rfl⟩ : ∃ g, f = g + 1 := ⟨f - 1, by omega⟩
  rw [layR, if_pos h0]
theorem LayI.bad {r0 x : Rep} {f : Nat} {out : List (List Int)} (h : LayI r0 f x out) (hs : x.d.sum ≠ 0) (h0 : (topD x).sum = 0) : layR 9 r0 [] = ([], false) := by
  rw [h.eq]; exact layR_stuck h.ok h0 hs f out
theorem LayI.next {r0 x : Rep} {f : Nat} {out : List (List Int)} (h : LayI r0 f x out) (hs : x.d.sum ≠ 0) (h0 : (topD x).sum ≠ 0) : LayI r0 (f - 1) (radR x) (out ++ [topD x]) := by
  have h1 := h.lt
  have h2 := topD_sum h.ok
  have h3 := topD_sum0 h.ok
  have h4 := rep_sum h.ok
  have h5 := h.le
  have h6 := h.ln
  refine ⟨radR_ok h.ok, by omega, ?_, by omega, by simp; omega⟩
  rw [h.eq]
  obtain ⟨f, rfl⟩ : ∃ g, f = g + 1 := ⟨f - 1, by omega⟩
  rw [layR, if_neg hs]; rfl
/-- how much it holds -/
theorem layR_bd {r : Rep} (h : isRep r = true) : ∀ f x out, isRep x = true → x.d.length ≤ 5 → (∀ y ∈ out, y.length ≤ 5) → (layR f x out).1.length ≤ out.length + f ∧ ∀ y ∈ (layR f x out).1, y.length ≤ 5
  | 0, x, out, _, _, _ => ⟨by simp [layR], fun y hy => by simp [layR] at hy⟩
  | f + 1, x, out, hx, h5, ho => by
    rw [layR]
    split
    · exact ⟨by dsimp only; omega, ho⟩
    · have ht := (topD_bd hx).1
      have hd : (radR x).d.length = x.d.length := rad_len x
      obtain ⟨a, b⟩ := layR_bd h f (radR x) (out ++ [topD x]) (radR_ok hx) (by omega) (fun y hy => by
        rcases List.mem_append.1 hy with hy | hy
        · exact ho y hy
        · have : y = topD x := by simpa using hy
          subst this; omega)
      exact ⟨by simp at a; omega, b⟩
theorem layP_bd (r : Rep) : (layP r).1.length ≤ 9 ∧ ∀ y ∈ (layP r).1, y.length ≤ 5 := by
  unfold layP
  by_cases h : isRep r = true
  · rw [if_pos h]
    obtain ⟨h1, h2, h3, h4⟩ := isRep_spec h
    obtain ⟨c1, c2, c3, c4⟩ := areDims_spec h2
    have h5 := okQ_spec c1
    have := layR_bd h 9 r [] h (by omega) (fun y hy => by cases hy)
    simpa using this
  · rw [if_neg h]; exact ⟨by simp, fun y hy => by cases hy⟩
end Go.Proofs.YtjnhjfgcfclamaaGreat.V
