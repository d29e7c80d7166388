/- Rules: slices that are only read from here on, and lists put back, within regions whose loads come first. Over any program; nothing is claimed of the given one. -/
import Derived.Test.YtoilkinagffhiaaUi
import Derived.Test.YtoilkinagffhiaaUf
import Derived.Test.YtoilkinagffhiaaUg
namespace Go.Proofs.Ytoilkinagffhiaa.V
open Go.RowKit G D
set_option linter.unusedVariables false
set_option linter.unusedSimpArgs false
section
variable {P : Program} {n : Nat} {w0 : World} {MP : Fr} {Q : Exit → St → Prop} {E : Nat → AV} {hp : Nat → Ob} {nx : Nat} {I0 : Nat → Prop} {T : Exit → Env → World → Prop} {fuel : Nat} {ops : Array Oper} {listed : Array Bool}
theorem ARI.ghost {st st' : St} (hs : ∀ E w, Sim w0 MP st E w → Sim w0 MP st' E w) (h : ARI false I0 T P n w0 MP ops fuel listed Q st') : ARI false I0 T P n w0 MP ops fuel listed Q st := fun h0 hN hT E w C Im hm _ => by
  obtain ⟨C', Im', hm'⟩ := hs E w ⟨C, Im, hm⟩
  exact h h0 hN hT E w C' Im' hm' fun hh => by cases hh
theorem iz {α : Type} [Enc α] (t : Nat) {o m sz : Nat} {l oo : Bool} {ls : List α} (ht : E t = .sl o m 0 m) (hh : hp o = .live l sz (V.E oo ls)) (hn : ls.length = m) (h : ARI false I0 T P n w0 MP ops fuel listed Q ⟨updA E t (.dt false sz (V.E false ls)), updA hp o .dead, nx⟩) : ARI false I0 T P n w0 MP ops fuel listed Q ⟨E, hp, nx⟩ :=
  ARI.ghost (fun E' w hs => Sim.freeze (st := ⟨E, hp, nx⟩) ht hh (by rw [E_length, hn]) (E_pure oo ls) (by rw [E_drop, E_take, E_frz, take_all hn]) hs) h
end
end Go.Proofs.Ytoilkinagffhiaa.V
