/- Shifts and the last bit. Over any program; nothing is claimed of the given one. -/
import Derived.Test.YtcalkmlaodjpaaaHp
namespace Go.Proofs.Ytcalkmlaodjpaaa.V
open Go.RowKit G
set_option linter.unusedVariables false
set_option linter.unusedSimpArgs false
section
variable {P : Program} {w0 : World} {MP : Fr} {st : St} {d : Option Tmp} {ty t t' : TypeId} {pos : String} {af : Array Edge} {g : Option (Nat × Bool)} {x y : Operand}
theorem A.shl {a b : Int} {n : Nat} (hx : evA st x = .i a) (hy : evA st y = .i b) (hb : b = (n : Int)) (hn : n ≤ 62) (h : In64 (a * 2 ^ n)) : ASil true P w0 MP st ⟨d, .binOp .shl t x y t', ty, pos, af, g⟩ (.i (a * 2 ^ n)) := fun C Im E w hm => by
  have h1 := (hm.evI hx).1
  have h2 := (hm.evI hy).1
  subst hb
  refine ⟨.int .i64 (a * 2 ^ n), fun w' => ?_, rfl, h⟩
  unfold Sil
  intro w2 _
  have hm : min n 64 = n := by omega
  have hw : IntKind.wrap .i64 (a * 2 ^ n) = a * 2 ^ n := IntWalk.i64_in _ (by unfold In64 at h; omega)
  simp [execOp, h1, h2, eqGuard, binOp, Op.shift, IntKind.bits, hm, hw]
theorem A.shr {a b : Int} {n : Nat} (hx : evA st x = .i a) (hy : evA st y = .i b) (hb : b = (n : Int)) (hn : n ≤ 62) (ha : 0 ≤ a) : ASil true P w0 MP st ⟨d, .binOp .shr t x y t', ty, pos, af, g⟩ (.i (a / 2 ^ n)) := fun C Im E w hm => by
  have h1 := hm.evI hx
  have h2 := (hm.evI hy).1
  subst hb
  have hp : (0 : Int) < 2 ^ n := Int.pow_pos (by omega)
  have h3 : 0 ≤ a / 2 ^ n := Int.ediv_nonneg ha (by omega)
  have h4 : a / 2 ^ n ≤ a := Int.ediv_le_self _ ha
  refine ⟨.int .i64 (a / 2 ^ n), fun w' => ?_, rfl, ?_⟩
  · unfold Sil
    intro w2 _
    have hm : min n 64 = n := by omega
    have hf : a.fdiv (2 ^ n) = a / 2 ^ n := Int.fdiv_eq_ediv_of_nonneg _ (by omega)
    simp [execOp, h1.1, h2, eqGuard, binOp, Op.shift, IntKind.bits, hm, hf]
  · have := h1.2
    unfold In64 at *; omega
theorem A.and1 {a : Int} (hx : evA st x = .i a) (hy : evA st y = .i 1) (ha : 0 ≤ a) : ASil true P w0 MP st ⟨d, .binOp .and t x y t', ty, pos, af, g⟩ (.i (a % 2)) := fun C Im E w hm => by
  have h1 := hm.evI hx
  have h2 := (hm.evI hy).1
  refine ⟨.int .i64 (a % 2), fun w' => ?_, rfl, by unfold In64; omega⟩
  unfold Sil
  intro w2 _
  have h3 : ((BitVec.ofInt 64 a &&& BitVec.ofInt 64 1).toNat : Int) = a % 2 := by
    obtain ⟨n, rfl⟩ : ∃ n : Nat, a = n := ⟨a.toNat, by omega⟩
    have hn := h1.2
    unfold In64 at hn
    rw [BitVec.toNat_and, BitVec.toNat_ofInt, BitVec.toNat_ofInt]
    have e1 : ((n : Int) % (2 ^ 64 : Nat)).toNat = n := by omega
    have e2 : ((1 : Int) % (2 ^ 64 : Nat)).toNat = 1 := by decide
    rw [e1, e2, Nat.and_one_is_mod]; omega
  have hw : IntKind.wrap .i64 (a % 2) = a % 2 := IntWalk.i64_in _ (by omega)
  simp only [show (BitVec.ofInt 64 1) = 1#64 from rfl] at h3
  simp [execOp, h1.1, h2, eqGuard, binOp, Op.intBits, IntKind.bits]
  exact (congrArg (IntKind.wrap .i64) h3).trans hw
end
end Go.Proofs.Ytcalkmlaodjpaaa.V
