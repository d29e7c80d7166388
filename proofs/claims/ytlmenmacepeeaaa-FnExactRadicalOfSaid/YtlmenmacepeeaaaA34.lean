/- Rules: the larger and the smaller of two numbers. Over any program; nothing is claimed of the given one. -/
import Derived.Test.YtlmenmacepeeaaaUc
import Derived.Lib.MinMax
namespace Go.Proofs.Ytlmenmacepeeaaa.V
open Go.RowKit G D
set_option linter.unusedVariables false
set_option linter.unusedSimpArgs false
section
variable {P : Program} {w0 : World} {MP : Fr} {st : St} {d : Option Tmp} {ty : TypeId} {pos : String} {af : Array Edge} {g : Option (Nat × Bool)} {x y z : Operand}
theorem Sil.max2 {E : Env} {w : World} {t t' : TypeId} {a b : Int} (hx : G.ev E x = .int .i64 a) (hy : G.ev E y = .int .i64 b) : Sil P E ⟨d, .call ⟨.builtin .max, #[x, y], #[t, t']⟩, ty, pos, af, g⟩ (.int .i64 (max a b)) w := by
  unfold Sil
  intro w' _
  simp [execOp, resolve, hx, hy, invoke, builtin, Go.Lib.run_max_ints]
theorem Sil.min2 {E : Env} {w : World} {t t' : TypeId} {a b : Int} (hx : G.ev E x = .int .i64 a) (hy : G.ev E y = .int .i64 b) : Sil P E ⟨d, .call ⟨.builtin .min, #[x, y], #[t, t']⟩, ty, pos, af, g⟩ (.int .i64 (min a b)) w := by
  unfold Sil
  intro w' _
  simp [execOp, resolve, hx, hy, invoke, builtin, Go.Lib.run_min_ints]
theorem max_in {a b : Int} (ha : In64 a) (hb : In64 b) : In64 (max a b) ∧ In64 (min a b) := by unfold In64 at *; omega
theorem A.max2 {t t' : TypeId} {a b : Int} (hx : evA st x = .i a) (hy : evA st y = .i b) : ASil true P w0 MP st ⟨d, .call ⟨.builtin .max, #[x, y], #[t, t']⟩, ty, pos, af, g⟩ (.i (max a b)) := fun C Im E w hm =>
  ⟨.int .i64 (max a b), fun w' => Sil.max2 (hm.evI hx).1 (hm.evI hy).1, rfl, (max_in (hm.evI hx).2 (hm.evI hy).2).1⟩
theorem A.min2 {t t' : TypeId} {a b : Int} (hx : evA st x = .i a) (hy : evA st y = .i b) : ASil true P w0 MP st ⟨d, .call ⟨.builtin .min, #[x, y], #[t, t']⟩, ty, pos, af, g⟩ (.i (min a b)) := fun C Im E w hm =>
  ⟨.int .i64 (min a b), fun w' => Sil.min2 (hm.evI hx).1 (hm.evI hy).1, rfl, (max_in (hm.evI hx).2 (hm.evI hy).2).2⟩
end
end Go.Proofs.Ytlmenmacepeeaaa.V
