/- Abstract values: constants of other kinds (bytes, strings, unsigned numbers). Over any program; nothing is claimed of the given one. -/
import Derived.Test.YtoilkinagffhiaaUc
namespace Go.Proofs.Ytoilkinagffhiaa.V
open Go.RowKit G
set_option linter.unusedVariables false
set_option linter.unusedSimpArgs false
section
variable {P : Program} {w0 : World} {MP : Fr} {st : St} {d : Option Tmp} {ty : TypeId} {pos : String} {af : Array Edge} {g : Option (Nat × Bool)} {x y : Operand} {t t' : Nat}
theorem Sm.evQ {C : Nat → Option Conc} {Im : Nat → Prop} {E : Env} {w : World} (hm : Sm w0 MP st C Im E w) {c : Value} (hx : evA st x = .q (fun v => v = c)) : G.ev E x = c := by
  have := hm.ev x
  rw [hx] at this
  exact this.1
/-- conversions of whole numbers -/
theorem A.cvQI {k : IntKind} {n : Int} {d1 : TypeDesc} [hs : HasU P t d1] [hu : HasU P t' (.int .i64)] (hx : evA st x = .q (fun v => v = .int k n)) (h : In64 n) : ASil true P w0 MP st ⟨d, .convert t t' x, ty, pos, af, g⟩ (.i n) := fun C Im E w hm => by
  have h1 := hm.evQ hx
  refine ⟨.int .i64 n, fun w' => ?_, rfl, h⟩
  unfold Sil
  intro w2 _
  have h2 := hs.und w2
  have h3 := hu.und w2
  have h4 : IntKind.i64.wrap n = n := wrap_in h
  simp [execOp, h1, convert, h2, h3, Conv.intToInt, h4]
theorem A.cvIQ {k : IntKind} {n : Int} {d1 : TypeDesc} [hs : HasU P t d1] [hu : HasU P t' (.int k)] (hx : evA st x = .i n) : ASil true P w0 MP st ⟨d, .convert t t' x, ty, pos, af, g⟩ (.q fun v => v = .int k (k.wrap n)) := fun C Im E w hm => by
  have h1 := (hm.evI hx).1
  refine ⟨.int k (k.wrap n), fun w' => ?_, rfl, rfl⟩
  unfold Sil
  intro w2 _
  have h2 := hs.und w2
  have h3 := hu.und w2
  simp [execOp, h1, convert, h2, h3, Conv.intToInt]
theorem A.gtrQ {k : IntKind} {a b : Int} (hx : evA st x = .q (fun v => v = .int k a)) (hy : evA st y = .q (fun v => v = .int k b)) : ASil true P w0 MP st ⟨d, .binOp .gtr t x y t', ty, pos, af, g⟩ (.b (decide (b < a))) := fun C Im E w hm => by
  have h1 := hm.evQ hx
  have h2 := hm.evQ hy
  refine ⟨_, fun w' => ?_, rfl⟩
  unfold Sil
  intro w2 _
  simp [execOp, h1, h2, eqGuard, binOp, Op.intCmp]
/-- strings -/
theorem A.eqlS {a b : ByteArray} [hu : HasU P t .string] (hx : evA st x = .q (fun v => v = .string a)) (hy : evA st y = .q (fun v => v = .string b)) : ASil true P w0 MP st ⟨d, .binOp .eql t x y t', ty, pos, af, g⟩ (.b (a.toList == b.toList)) := fun C Im E w hm => by
  have h1 := hm.evQ hx
  have h2 := hm.evQ hy
  refine ⟨.bool (a.toList == b.toList), fun w' => ?_, rfl⟩
  unfold Sil
  intro w2 _
  have h3 := hu.und w2
  simp [execOp, h1, h2, eqGuard, binOp, Op.stringOp]
theorem A.lenStr {a : ByteArray} [hu : HasU P t .string] (hl : a.size ≤ 9223372036854775807) (hx : evA st x = .q (fun v => v = .string a)) : ASil true P w0 MP st ⟨d, .call ⟨.builtin .len, #[x], #[t]⟩, ty, pos, af, g⟩ (.i (a.size : Int)) := fun C Im E w hm => by
  have h1 := hm.evQ hx
  refine ⟨.int .i64 (a.size : Int), fun w' => ?_, rfl, ?_⟩
  · unfold Sil
    intro w2 _
    have h3 := hu.und w2
    simp [execOp, resolve, h1, invoke, builtin, Builtin.len_, h3, goInt]
  · show In64 _
    unfold In64
    omega
theorem A.addStr {a b : ByteArray} (hx : evA st x = .q (fun v => v = .string a)) (hy : evA st y = .q (fun v => v = .string b)) (hl : (a.size : Int) + b.size ≤ 9223372036854775807) : ASil true P w0 MP st ⟨d, .binOp .add t x y t', ty, pos, af, g⟩ (.q fun v => v = .string (a ++ b)) := fun C Im E w hm => by
  have h1 := hm.evQ hx
  have h2 := hm.evQ hy
  refine ⟨.string (a ++ b), fun w' => ?_, rfl, rfl⟩
  unfold Sil
  intro w2 _
  simp [execOp, h1, h2, eqGuard, binOp, Op.stringOp]
  exact hl
theorem A.idxStr {a : ByteArray} {k : Nat} {z : UInt8} [hu : HasU P t .string] (hx : evA st x = .q (fun v => v = .string a)) (hy : evA st y = .i (k : Int)) (hk : a[k]? = some z) : ASil true P w0 MP st ⟨d, .index t x y, ty, pos, af, g⟩ (.q fun v => v = .int .u8 z.toNat) := fun C Im E w hm => by
  have h1 := hm.evQ hx
  have h2 := (hm.evI hy).1
  refine ⟨.int .u8 z.toNat, fun w' => ?_, rfl, rfl⟩
  unfold Sil
  intro w2 _
  have h3 := hu.und w2
  simp [execOp, h1, h2, Instr.index, asIntOf, h3, hk]
end
end Go.Proofs.Ytoilkinagffhiaa.V
