/- A field of a value, and lists put back below a variable's cells. Over any program; nothing is claimed of the given one. -/
import Derived.Test.YtoilkinagffhiaaUi
namespace Go.Proofs.Ytoilkinagffhiaa.V
open Go.RowKit G
set_option linter.unusedVariables false
set_option linter.unusedSimpArgs false
section
variable {P : Program} {w0 : World} {MP : Fr} {st : St} {d : Option Tmp} {ty : TypeId} {pos : String} {af : Array Edge} {g : Option (Nat × Bool)} {x y : Operand}
theorem A.fldG {s i : Nat} {fields : Array Field} {fd : Field} {cs : List AV} {a : AV} (hu : HasU P s (.struct fields)) (hf : fields[i]? = some fd) (h1 : One P fd.type) (hx : evA st x = .agg cs) (hj : cs[fd.offset]? = some a) : ASil true P w0 MP st ⟨d, .field s x i, ty, pos, af, g⟩ a := fun C Im E w hm => by
  have h := hm.ev x
  rw [hx] at h
  obtain ⟨us, e1, h2⟩ := h
  obtain ⟨v, g1, g2⟩ := RVL.get h2 hj
  refine ⟨v, fun w' => ?_, g2⟩
  unfold Sil
  intro w2 _
  have h3 := hu.und w2
  have h4 := h1.h w2
  simp [execOp, e1, Instr.field, h3, hf, asAgg, part, h4, g1]
end
section
variable {P : Program} {n : Nat} {w0 : World} {MP : Fr} {Q : Exit → St → Prop} {E : Nat → AV} {hp : Nat → Ob} {nx : Nat}
/-- a list is put below a cell that holds it -/
theorem AW.putC {c : Code} {o k j sz sz2 m o2 : Nat} {xs : List (List AV)} {cs : List AV} {ys : List (List AV)} (ho : hp o = .live false sz xs) (hk : xs[k]? = some cs) (hj : cs[j]? = some (.sl o2 m 0 m)) (ho2 : hp o2 = .live false sz2 ys) (hm : ys.length = m) (hpu : ys.flatten.all pureB = true) (hne : (updA hp o2 .dead) o = .live false sz xs)
    (h : AW P n w0 MP c Q ⟨E, updA (updA hp o2 .dead) o (.live false sz (xs.set k (cs.set j (.dt true sz2 ys)))), nx⟩) : AW P n w0 MP c Q ⟨E, hp, nx⟩ :=
  AW.ghost (fun E' w hs => Sim.put (st := ⟨E, hp, nx⟩) ho (k := k) (c := cs) (j := j) (a := .sl o2 m 0 m) (a' := .dt true sz2 ys) hk hj rfl (.mv ho2 rfl hm hpu .nil) hne hs) h
end
end Go.Proofs.Ytoilkinagffhiaa.V
