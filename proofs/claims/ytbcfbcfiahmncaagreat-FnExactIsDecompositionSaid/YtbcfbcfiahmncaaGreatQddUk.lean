/- Texts that the proof needs: Uk. -/
import Derived.Test.YtbcfbcfiahmncaaGreatQddA6
namespace Go.Proofs.YtbcfbcfiahmncaaGreat.V
open Go.RowKit G D
set_option linter.unusedVariables false
set_option linter.unusedSimpArgs false
theorem upsA_flt {β : Type} {S : List Nat} {E : Nat → β} : ∀ (l : List (Nat × β)) (t : Nat), mem S t = false → upsA l E t = upsA (l.filter fun p => !mem S p.1) E t
 | [], _, _ => rfl
 | (d, v) :: l, t, ht => by
  have ih := upsA_flt (S := S) (E := E) l t ht
  cases hd : mem S d with
  | true =>
   have hne : t ≠ d := by rintro rfl; rw [hd] at ht; cases ht
   rw [List.filter_cons_of_neg (by simp [hd]), ← ih]
   exact updA_ne _ _ hne
  | false =>
   rw [List.filter_cons_of_pos (by simp [hd])]
   by_cases e : t = d
   ·subst e; exact (updA_same _ _ _).trans (updA_same _ _ _).symm
   ·exact (updA_ne _ _ e).trans (ih.trans (updA_ne _ _ e).symm)
theorem AgrA.lit {S : List Nat} {l1 l0 : List (Nat × AV)} (h : (l1.filter fun p => !mem S p.1) = l0.filter fun p => !mem S p.1) : AgrA S (upsA l1 fun _ => .no) (upsA l0 fun _ => .no) := fun t ht => by
 rw [upsA_flt l1 t ht, h, ← upsA_flt l0 t ht]
theorem AgrH.lit {m : Nat} {l l0 : List (Nat × Ob)} (h0 : ((keys l0).all fun o => mem (keys l) o || Nat.ble m o) = true) : AgrH m l (fun _ => .dead) (upsA l0 fun _ => .dead) := by
 have a := AgrH.head (l' := l0) h0 (AgrH.refl (m := m) (l := l) (h := fun _ => Ob.dead))
 exact fun o ho hk => (a o ho hk).symm
structure Tl (T : Prop) : Prop where
 t : T
theorem tailedT {T G : Prop} (h : Tl T → G) (t : T) : G := h ⟨t⟩
end Go.Proofs.YtbcfbcfiahmncaaGreat.V
