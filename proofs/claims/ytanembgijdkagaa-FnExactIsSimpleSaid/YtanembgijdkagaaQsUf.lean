/- A field of a value, and lists put back below a variable's cells. Over any program; nothing is claimed of the given one. -/
import Derived.Test.YtanembgijdkagaaQsUi
namespace Go.Proofs.Ytanembgijdkagaa.V
open Go.RowKit G
set_option linter.unusedVariables false
set_option linter.unusedSimpArgs false
section
variable {P : Program} {w0 : World} {MP : Fr} {st : St} {d : Option Tmp} {ty : TypeId} {pos : String} {af : Array Edge} {g : Option (Nat × Bool)} {x y : Operand}
theorem A.fldG {s i : Nat} {fields : Array Field} {fd : Field} {cs : List AV} {a : AV} (hu : HasU P s (.struct fields)) (hf : fields[i]? = some fd) (h1 : One P fd.type) (hx : evA st x = .agg cs) (hj : cs[fd.offset]? = some a) : ASil true P w0 MP st ⟨d, .field s x i, ty, pos, af, g⟩ a := fun C Im E w hm => by
  have h := hm.ev x
  rw [hx] at h
  obtain ⟨us, e1, h2⟩ := h
  obtain ⟨v, g1, g2⟩ := RVL.get h2 hj
  refine ⟨v, fun w' => ?_, g2⟩
  unfold Sil
  intro w2 _
  have h3 := hu.und w2
  have h4 := h1.h w2
  simp [execOp, e1, Instr.field, h3, hf, asAgg, part, h4, g1]
end
end Go.Proofs.Ytanembgijdkagaa.V
