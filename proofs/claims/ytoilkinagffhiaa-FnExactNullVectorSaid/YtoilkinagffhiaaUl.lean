/- Abstract values: a list in a struct's field is only read from here on, within a region. Over any program; nothing is claimed of the given one. -/
import Derived.Test.YtoilkinagffhiaaUk
namespace Go.Proofs.Ytoilkinagffhiaa.V
open Go.RowKit G
set_option linter.unusedVariables false
section
variable {P : Program} {n : Nat} {w0 : World} {MP : Fr} {Q : Exit → St → Prop} {E : Nat → AV} {hp : Nat → Ob} {nx : Nat} {lb : Bool} {ops : Array Oper} {os : List Oper}
theorem F.freezeG {α : Type} [Enc α] (t j : Nat) {o m sz : Nat} {l oo : Bool} {ls : List α} {cs : List AV} (ht : E t = .agg cs) (hj : cs[j]? = some (.sl o m 0 m)) (hh : hp o = .live l sz (V.E oo ls)) (hn : ls.length = m) (h : ARg P n w0 MP lb ops os Q ⟨updA E t (.agg (cs.set j (.dt false sz (V.E false ls)))), updA hp o .dead, nx⟩) : ARg P n w0 MP lb ops os Q ⟨E, hp, nx⟩ :=
  ARg.ghost (fun E' w hs => Sim.freezeG (st := ⟨E, hp, nx⟩) ht hj hh (by rw [E_length, hn]) (E_pure oo ls) (by rw [E_drop, E_take, E_frz, take_all hn]) hs) h
end
end Go.Proofs.Ytoilkinagffhiaa.V
