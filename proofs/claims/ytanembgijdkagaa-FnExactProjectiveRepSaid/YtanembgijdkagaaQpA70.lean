/- What it means that one space lies within another, told both ways; images of spaces; parts. No program is walked. -/
import Derived.Test.YtanembgijdkagaaQpA51
import Derived.Test.YtanembgijdkagaaQpB1
namespace Go.Proofs.Ytanembgijdkagaa.V
open Go.RowKit G D
set_option linter.unusedVariables false
set_option linter.unusedSimpArgs false
set_option maxHeartbeats 1000000
set_option maxRecDepth 4000
theorem map_take {α β : Type} [Inhabited α] (f : α → β) {l : List α} {k : Nat} (h : k < l.length) : (l.map f).take (k + 1) = (l.map f).take k ++ [f (l.getD k default)] := by
  have e : l.getD k default = l[k] := by simp [h]
  rw [List.take_succ_eq_append_getElem (by simpa using h), e]
  simp
def appV (p : Int) (m : Mat) (v : List Int) : List Int := rowL m.r.toNat fun i => sumN (fun k => ent m i k * v.getD k default) m.c.toNat % p
theorem appV_len (p : Int) (m : Mat) (v : List Int) : (appV p m v).length = m.r.toNat := rowL_len ..
theorem dotK_sum (f g : Nat → Nat → Int) (i c : Nat) : ∀ n, dotK f g i c n = sumN (fun k => f i k * g k c) n
  | 0 => rfl
  | n + 1 => by rw [dotK, sumN, dotK_sum f g i c n]
theorem tab_one (r : Nat) (f : Nat → Nat → Int) : tab r 1 f = rowL r fun i => f i 0 := by
  simp [tab, rowL, Nat.mod_one]
end Go.Proofs.Ytanembgijdkagaa.V
