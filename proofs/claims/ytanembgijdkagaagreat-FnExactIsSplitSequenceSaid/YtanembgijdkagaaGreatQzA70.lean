/- What it means that one space lies within another, told both ways; images of spaces; parts. No program is walked. -/
import Derived.Test.YtanembgijdkagaaGreatQzA51
import Derived.Test.YtanembgijdkagaaGreatQzB1
namespace Go.Proofs.YtanembgijdkagaaGreat.V
open Go.RowKit G D
set_option linter.unusedVariables false
set_option linter.unusedSimpArgs false
set_option maxHeartbeats 1000000
set_option maxRecDepth 4000
theorem map_take {α β : Type} [Inhabited α] (f : α → β) {l : List α} {k : Nat} (h : k < l.length) : (l.map f).take (k + 1) = (l.map f).take k ++ [f (l.getD k default)] := by
  have e : l.getD k default = l[k] := by simp [h]
  rw [List.take_succ_eq_append_getElem (by simpa using h), e]
  simp
def leadV (v : List Int) : Int := idxFrom (fun x => decide (x ≠ 0)) v 0
theorem addK_get0 (p k : Int) (b xs : List Int) {t n : Nat} (ht : t < xs.length) (hn : t < n) : (addK p k 0 b xs n).getD t default = (xs.getD t default + k * b.getD t default) % p := by
  simp only [addK, List.getD_eq_getElem?_getD, List.getElem?_map, List.getElem?_range ht, Option.map_some, Option.getD_some]
  rw [if_pos (by omega)]
  rfl
def appV (p : Int) (m : Mat) (v : List Int) : List Int := rowL m.r.toNat fun i => sumN (fun k => ent m i k * v.getD k default) m.c.toNat % p
theorem dotK_sum (f g : Nat → Nat → Int) (i c : Nat) : ∀ n, dotK f g i c n = sumN (fun k => f i k * g k c) n
  | 0 => rfl
  | n + 1 => by rw [dotK, sumN, dotK_sum f g i c n]
end Go.Proofs.YtanembgijdkagaaGreat.V
