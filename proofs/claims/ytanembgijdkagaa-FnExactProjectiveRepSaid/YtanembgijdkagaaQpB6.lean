/- Joined: Contracts: columns, matrices beside each other. Contracts: what vectors span, both ways. Contracts: lists of vectors put together, sums of spaces, spaces of nothing, as the program does them. Contracts: the radical, as the program builds it.. -/
import Derived.Test.YtanembgijdkagaaQpUq
import Derived.Test.YtanembgijdkagaaQpB4
import Derived.Test.YtanembgijdkagaaQpA51
import Derived.Test.YtanembgijdkagaaQpA23
import Derived.Test.YtanembgijdkagaaQpUc
import Derived.Lib.MinMax
import Derived.Test.YtanembgijdkagaaQpA15
import Derived.Test.YtanembgijdkagaaQpB1
import Derived.Test.YtanembgijdkagaaQpA25
namespace Go.Proofs.Ytanembgijdkagaa.V
open Go.RowKit G D
set_option linter.unusedVariables false
set_option linter.unusedSimpArgs false
set_option maxHeartbeats 4000000
set_option maxRecDepth 4000
attribute [local irreducible] AW ARg ARA ARet MRet ASil AC AM
end Go.Proofs.Ytanembgijdkagaa.V
namespace Go.Proofs.Ytanembgijdkagaa.V
open Go.RowKit G D
set_option linter.unusedVariables false
set_option linter.unusedSimpArgs false
set_option maxHeartbeats 4000000
set_option maxRecDepth 4000
attribute [local irreducible] AW ARg ARA ARet MRet ASil AC AM
theorem VecB.len {p : Int} {n : Nat} {l : List (List Int)} (h : VecB p n l) : ∀ k, k < l.length → (l.getD k default).length = n := fun k hk => (h _ (gm hk)).1
end Go.Proofs.Ytanembgijdkagaa.V
namespace Go.Proofs.Ytanembgijdkagaa.V
open Go.RowKit G D
set_option linter.unusedVariables false
set_option linter.unusedSimpArgs false
set_option maxHeartbeats 4000000
set_option maxRecDepth 4000
attribute [local irreducible] AW ARg ARA ARet MRet ASil AC AM
end Go.Proofs.Ytanembgijdkagaa.V
namespace Go.Proofs.Ytanembgijdkagaa.V
open Go.RowKit G D
set_option linter.unusedVariables false
set_option linter.unusedSimpArgs false
set_option maxHeartbeats 4000000
set_option maxRecDepth 4000
attribute [local irreducible] AW ARg ARA ARet MRet ASil AC AM
section
variable {P : Program} {w0 : World} {MP : Fr} {E : Nat → AV} {hp : Nat → Ob} {nx : Nat} {d : Option Tmp} {ty t : TypeId} {pos : String} {af : Array Edge} {g : Option (Nat × Bool)} {x y : Operand}
/-- an element that was written, all its cells -/
theorem A.ldSG {sz bys : Nat} {zz : Value} [h1 : Agg P t] [hi : HasI P t sz bys zz] {esz o n k k1 : Nat} {l : Bool} {xs : List (List AV)} {c : List AV} (hx : evA ⟨E, hp, nx⟩ x = .pt o n k1 0) (hh : hp o = .live l esz (xs.set k c)) (hn : xs.length = n) (hk1 : k1 = k) (hk : k < xs.length) (hl : c.length = sz) (hs : c.all V.shr = true) :
    ASil false P w0 MP ⟨E, hp, nx⟩ ⟨d, .load t x, ty, pos, af, g⟩ (.agg c) := by
  subst hk1
  exact A.ldRG (c := c) (ds := c) hx hh (by rw [List.length_set, hn]) (by simp [hk]) (by rw [List.drop_zero]; exact List.take_of_length_le (by omega)) hl hs
end
end Go.Proofs.Ytanembgijdkagaa.V
