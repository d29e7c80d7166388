/- Rules for single operations of a function's code: what each yields, by the values of its operands and the cells that it reads. Over any program; nothing is claimed of the given one. -/
import Derived.Test.YtcalkmlaodjpaaaGa
namespace Go.Proofs.Ytcalkmlaodjpaaa.G
open Go.RowKit
set_option linter.unusedVariables false

/-! ### facts on types -/
class HasU (P : Program) (t : Nat) (d : outParam TypeDesc) : Prop where
  u : P.underlying t = some d
class HasI (P : Program) (t : Nat) (sz bys : outParam Nat) (z : outParam Value) : Prop where
  i : (P.info? t).map (fun i => (i.zero, i.size, i.bytes)) = some (some z, sz, bys)
class HasF (P : Program) (s i : Nat) (off : outParam Nat) : Prop where
  f : ∀ b o w, (Instr.fieldAt s (.pointer (some ⟨b, o, none⟩)) i).run P w = .ok (.pointer (some ⟨b, o + off, none⟩)) w
/-- a type of one cell that is no struct and no array -/
class One (P : Program) (t : Nat) : Prop where
  h : ∀ w, (isAgg t).run P w = .ok false w
/-- a struct or an array -/
class Agg (P : Program) (t : Nat) : Prop where
  h : ∀ w, (isAgg t).run P w = .ok true w

theorem add_none (b o n : Nat) : (⟨b, o, none⟩ : Addr).add n = ⟨b, o + n, none⟩ := by
  unfold Addr.add; split
  · rename_i h; subst h; rfl
  · rfl

section
variable {P : Program}

theorem HasI.ex {t sz bys : Nat} {z : Value} (h : HasI P t sz bys z) : ∃ i, P.info? t = some i ∧ i.zero = some z ∧ i.size = sz ∧ i.bytes = bys := by
  have := h.i
  cases hi : P.info? t with
  | none => rw [hi] at this; cases this
  | some i =>
    rw [hi] at this
    simp only [Option.map_some, Option.some.injEq, Prod.mk.injEq] at this
    exact ⟨i, rfl, this.1, this.2.1, this.2.2⟩
theorem HasI.sizeOf {t sz bys : Nat} {z : Value} (h : HasI P t sz bys z) (w : World) : (sizeOf t).run P w = .ok sz w := by
  obtain ⟨i, h1, h2, h3, h4⟩ := h.ex
  simp [Go.sizeOf, typeInfo, h1, h3]
theorem HasI.zeroV {t sz bys : Nat} {z : Value} (h : HasI P t sz bys z) (w : World) : (zeroValue t).run P w = .ok z w := by
  obtain ⟨i, h1, h2, h3, h4⟩ := h.ex
  simp [zeroValue, typeInfo, h1, h2]
theorem HasI.info {t sz bys : Nat} {z : Value} (h : HasI P t sz bys z) (w : World) : ∃ i, (typeInfo t).run P w = .ok i w ∧ i.bytes = bys := by
  obtain ⟨i, h1, h2, h3, h4⟩ := h.ex
  exact ⟨i, by simp [typeInfo, h1], h4⟩
theorem HasU.und {t : Nat} {d : TypeDesc} (h : HasU P t d) (w : World) : (underlying t).run P w = .ok d w := by
  have := h.u
  simp [Go.underlying, this]

theorem HasF.of {s i off sz bys : Nat} {z : Value} {fields : Array Field} {f : Field} (hu : HasU P s (.struct fields)) (hf : fields[i]? = some f) (hi : HasI P f.type sz bys z) (h0 : sz ≠ 0) (ho : f.offset = off) : HasF P s i off := by
  refine ⟨fun b o w => ?_⟩
  subst ho
  have h1 := hu.und w
  have h2 := hi.sizeOf w
  simp only [Instr.fieldAt, Sem.run_bind, h1, Result.andThen_ok, hf, Instr.sureAddr, Sem.run_pure, fieldPlace, h2, h0, if_false, add_none]
theorem One.of {t : Nat} {d : TypeDesc} (hu : HasU P t d) (hd : (match d with | .struct _ | .array _ _ => true | _ => false) = false) : One P t := by
  refine ⟨fun w => ?_⟩
  have h1 := hu.und w
  simp only [isAgg, Sem.run_bind, h1, Result.andThen_ok]
  cases d <;> first | rfl | cases hd
theorem Agg.of {t : Nat} {d : TypeDesc} (hu : HasU P t d) (hd : (match d with | .struct _ | .array _ _ => true | _ => false) = true) : Agg P t := by
  refine ⟨fun w => ?_⟩
  have h1 := hu.und w
  simp only [isAgg, Sem.run_bind, h1, Result.andThen_ok]
  cases d <;> first | rfl | cases hd
end

/-! ### the world later on -/

/-- what was there is as it was -/
def Later (w w' : World) : Prop := Below w.heap.size w w'
theorem Later.refl (w : World) : Later w w := Below.refl _ _
theorem Later.size {w w' : World} (h : Later w w') : w.heap.size ≤ w'.heap.size := Below.size h
theorem Later.trans {a b c : World} (h : Later a b) (k : Later b c) : Later a c := Below.trans h (Below.mono k h.size)
theorem Later.trans' {a b c : World} (h : Later a b) (k : Below a.heap.size b c) : Later a c := Below.trans h k
theorem Later.cell {w w' : World} (h : Later w w') {a : Addr} {v : Value} (hc : w.cell? a = some v) : w'.cell? a = some v :=
  (Below.cell h (World.block_lt_of_cell? w a hc)).trans hc
theorem Later.drew {w w' : World} (h : Later w w') : Later w w'.drew := Below.drew h

/-- in whatever later world the operation yields v and leaves that world -/
def Sil (P : Program) (E : Env) (o : Oper) (v : Value) (w : World) : Prop := ∀ w', Later w w' → (execOp (ev E) o).run P w' = .ok (.value v) w'

section
variable {P : Program} {n : Nat} {Q : Exit → Env → World → Prop} {E : Env} {w : World} {ops : Array Oper} {os : List Oper}

theorem Rg.sil {o : Oper} {v : Value} (hs : Sil P E o v w) (hw : want n ops o E = true) (hd : fits n o.dst = true) (h : Rg P n ops os Q (put E o.dst v) w) : Rg P n ops (o :: os) Q E w :=
  Rg.val hw (hs w (Later.refl w)) hd h

variable {d : Option Tmp} {ty : TypeId} {pos : String} {af : Array Edge} {g : Option (Nat × Bool)} {x y z : Operand}

theorem Sil.move {v : Value} (hx : ev E x = v) : Sil P E ⟨d, .move x, ty, pos, af, g⟩ v w := fun w' _ => by
  simp [execOp, hx]
theorem Sil.assign {v : Value} (hx : ev E x = v) : Sil P E ⟨d, .assign x, ty, pos, af, g⟩ v w := fun w' _ => by
  simp [execOp, hx]
theorem Sil.movI {k : IntKind} {a : Int} (hx : ev E x = .int k a) : Sil P E ⟨d, .move x, ty, pos, af, g⟩ (.int k a) w := Sil.move hx
theorem Sil.movB {b : Bool} (hx : ev E x = .bool b) : Sil P E ⟨d, .move x, ty, pos, af, g⟩ (.bool b) w := Sil.move hx
theorem Sil.movS {p : Option Addr} {l c : Nat} (hx : ev E x = .slice p l c) : Sil P E ⟨d, .move x, ty, pos, af, g⟩ (.slice p l c) w := Sil.move hx
theorem Sil.movP {p : Option Addr} (hx : ev E x = .pointer p) : Sil P E ⟨d, .move x, ty, pos, af, g⟩ (.pointer p) w := Sil.move hx
theorem Sil.movG {cs : Array Value} (hx : ev E x = .agg cs) : Sil P E ⟨d, .move x, ty, pos, af, g⟩ (.agg cs) w := Sil.move hx
theorem Sil.movF {fn : Go.Fn} {fs cs : Array Value} (hx : ev E x = .func fn fs cs) : Sil P E ⟨d, .move x, ty, pos, af, g⟩ (.func fn fs cs) w := Sil.move hx
theorem Sil.asgI {k : IntKind} {a : Int} (hx : ev E x = .int k a) : Sil P E ⟨d, .assign x, ty, pos, af, g⟩ (.int k a) w := Sil.assign hx
theorem Sil.asgB {b : Bool} (hx : ev E x = .bool b) : Sil P E ⟨d, .assign x, ty, pos, af, g⟩ (.bool b) w := Sil.assign hx
theorem Sil.asgS {p : Option Addr} {l c : Nat} (hx : ev E x = .slice p l c) : Sil P E ⟨d, .assign x, ty, pos, af, g⟩ (.slice p l c) w := Sil.assign hx
theorem Sil.asgP {p : Option Addr} (hx : ev E x = .pointer p) : Sil P E ⟨d, .assign x, ty, pos, af, g⟩ (.pointer p) w := Sil.assign hx
theorem Sil.asgG {cs : Array Value} (hx : ev E x = .agg cs) : Sil P E ⟨d, .assign x, ty, pos, af, g⟩ (.agg cs) w := Sil.assign hx
theorem Sil.asgF {fn : Go.Fn} {fs cs : Array Value} (hx : ev E x = .func fn fs cs) : Sil P E ⟨d, .assign x, ty, pos, af, g⟩ (.func fn fs cs) w := Sil.assign hx
theorem Sil.pickT {v : Value} {b : Bool} (hx : ev E x = .bool b) (hb : b = true) (hy : ev E y = v) : Sil P E ⟨d, .pick x y z, ty, pos, af, g⟩ v w := fun w' _ => by
  simp [execOp, hx, asBool, hb, hy]
theorem Sil.pickF {v : Value} {b : Bool} (hx : ev E x = .bool b) (hb : b = false) (hz : ev E z = v) : Sil P E ⟨d, .pick x y z, ty, pos, af, g⟩ v w := fun w' _ => by
  simp [execOp, hx, asBool, hb, hz]
theorem Sil.pickYB {b : Bool} (hx : ev E x = .bool true) (hy : ev E y = .bool b) : Sil P E ⟨d, .pick x y z, ty, pos, af, g⟩ (.bool b) w := Sil.pickT hx rfl hy
theorem Sil.pickNB {b : Bool} (hx : ev E x = .bool false) (hz : ev E z = .bool b) : Sil P E ⟨d, .pick x y z, ty, pos, af, g⟩ (.bool b) w := Sil.pickF hx rfl hz
theorem Sil.notT {t : TypeId} (hx : ev E x = .bool true) : Sil P E ⟨d, .unOp .not t x, ty, pos, af, g⟩ (.bool false) w := fun w' _ => by
  simp [execOp, hx, Op.unary]
theorem Sil.notF {t : TypeId} (hx : ev E x = .bool false) : Sil P E ⟨d, .unOp .not t x, ty, pos, af, g⟩ (.bool true) w := fun w' _ => by
  simp [execOp, hx, Op.unary]
theorem Sil.not {t : TypeId} {b : Bool} (hx : ev E x = .bool b) : Sil P E ⟨d, .unOp .not t x, ty, pos, af, g⟩ (.bool (!b)) w := fun w' _ => by
  simp [execOp, hx, Op.unary]
theorem Sil.neg {t : TypeId} {k : IntKind} {a : Int} (hx : ev E x = .int k a) : Sil P E ⟨d, .unOp .neg t x, ty, pos, af, g⟩ (.int k (k.wrap (-a))) w := fun w' _ => by
  simp [execOp, hx, Op.unary, Op.intArith]

section cmp
variable {t t' : TypeId} {k : IntKind} {a b : Int} (hx : ev E x = .int k a) (hy : ev E y = .int k b)
include hx hy
theorem Sil.lss : Sil P E ⟨d, .binOp .lss t x y t', ty, pos, af, g⟩ (.bool (decide (a < b))) w := fun w' _ => by
  simp [execOp, hx, hy, eqGuard, binOp, Op.intCmp]
theorem Sil.leq : Sil P E ⟨d, .binOp .leq t x y t', ty, pos, af, g⟩ (.bool (decide (a ≤ b))) w := fun w' _ => by
  simp [execOp, hx, hy, eqGuard, binOp, Op.intCmp]
theorem Sil.gtr : Sil P E ⟨d, .binOp .gtr t x y t', ty, pos, af, g⟩ (.bool (decide (b < a))) w := fun w' _ => by
  simp [execOp, hx, hy, eqGuard, binOp, Op.intCmp]
theorem Sil.geq : Sil P E ⟨d, .binOp .geq t x y t', ty, pos, af, g⟩ (.bool (decide (b ≤ a))) w := fun w' _ => by
  simp [execOp, hx, hy, eqGuard, binOp, Op.intCmp]
theorem Sil.eql : Sil P E ⟨d, .binOp .eql t x y t', ty, pos, af, g⟩ (.bool (decide (a = b))) w := fun w' _ => by
  simp [execOp, hx, hy, eqGuard, binOp, Op.intCmp]; rfl
theorem Sil.neq : Sil P E ⟨d, .binOp .neq t x y t', ty, pos, af, g⟩ (.bool (decide (a ≠ b))) w := fun w' _ => by
  simp [execOp, hx, hy, eqGuard, binOp, Op.intCmp]; rfl
theorem Sil.addW : Sil P E ⟨d, .binOp .add t x y t', ty, pos, af, g⟩ (.int k (k.wrap (a + b))) w := fun w' _ => by
  simp [execOp, hx, hy, eqGuard, binOp, Op.intArith]
theorem Sil.subW : Sil P E ⟨d, .binOp .sub t x y t', ty, pos, af, g⟩ (.int k (k.wrap (a - b))) w := fun w' _ => by
  simp [execOp, hx, hy, eqGuard, binOp, Op.intArith]
theorem Sil.mulW : Sil P E ⟨d, .binOp .mul t x y t', ty, pos, af, g⟩ (.int k (k.wrap (a * b))) w := fun w' _ => by
  simp [execOp, hx, hy, eqGuard, binOp, Op.intArith]
theorem Sil.remW (hb : b ≠ 0) : Sil P E ⟨d, .binOp .rem t x y t', ty, pos, af, g⟩ (.int k (a.tmod b)) w := fun w' _ => by
  simp [execOp, hx, hy, eqGuard, binOp, Op.intDiv, hb]
theorem Sil.quoW (hb : b ≠ 0) : Sil P E ⟨d, .binOp .quo t x y t', ty, pos, af, g⟩ (.int k (k.wrap (a.tdiv b))) w := fun w' _ => by
  simp [execOp, hx, hy, eqGuard, binOp, Op.intDiv, hb]
end cmp

/-- an int's sum within its bounds -/
def In64 (a : Int) : Prop := -9223372036854775808 ≤ a ∧ a ≤ 9223372036854775807
theorem In64.mk {a : Int} (h : -9223372036854775808 ≤ a ∧ a ≤ 9223372036854775807) : In64 a := h
theorem wrap_in {a : Int} (h : In64 a) : IntKind.i64.wrap a = a := by
  obtain ⟨h1, h2⟩ := h
  have := IntWalk.i64_in a
  exact IntWalk.i64_in a (by omega)
section arith
variable {t t' : TypeId} {a b c : Int} (hx : ev E x = .int .i64 a) (hy : ev E y = .int .i64 b)
include hx hy
theorem Sil.add (hr : In64 (a + b)) : Sil P E ⟨d, .binOp .add t x y t', ty, pos, af, g⟩ (.int .i64 (a + b)) w := by
  have := Sil.addW (P := P) (d := d) (t := t) (t' := t') (ty := ty) (pos := pos) (af := af) (g := g) (w := w) hx hy
  rwa [wrap_in hr] at this
theorem Sil.sub (hr : In64 (a - b)) : Sil P E ⟨d, .binOp .sub t x y t', ty, pos, af, g⟩ (.int .i64 (a - b)) w := by
  have := Sil.subW (P := P) (d := d) (t := t) (t' := t') (ty := ty) (pos := pos) (af := af) (g := g) (w := w) hx hy
  rwa [wrap_in hr] at this
theorem Sil.mul (hr : In64 (a * b)) : Sil P E ⟨d, .binOp .mul t x y t', ty, pos, af, g⟩ (.int .i64 (a * b)) w := by
  have := Sil.mulW (P := P) (d := d) (t := t) (t' := t') (ty := ty) (pos := pos) (af := af) (g := g) (w := w) hx hy
  rwa [wrap_in hr] at this
end arith

theorem Sil.len {t : TypeId} {e : TypeId} [hu : HasU P t (.slice e)] {p : Option Addr} {l c : Nat} (hx : ev E x = .slice p l c) :
    Sil P E ⟨d, .call ⟨.builtin .len, #[x], #[t]⟩, ty, pos, af, g⟩ (.int .i64 (l : Int)) w := fun w' _ => by
  have h1 := hu.und w'
  simp [execOp, resolve, hx, invoke, builtin, Builtin.len_, h1, goInt]
theorem Sil.cap {t : TypeId} {e : TypeId} [hu : HasU P t (.slice e)] {p : Option Addr} {l c : Nat} (hx : ev E x = .slice p l c) :
    Sil P E ⟨d, .call ⟨.builtin .cap, #[x], #[t]⟩, ty, pos, af, g⟩ (.int .i64 (c : Int)) w := fun w' _ => by
  have h1 := hu.und w'
  simp [execOp, resolve, hx, invoke, builtin, Builtin.cap_, h1, goInt]
theorem Sil.fieldAddr {s i off : Nat} [hf : HasF P s i off] {b o : Nat} (hx : ev E x = .pointer (some ⟨b, o, none⟩)) :
    Sil P E ⟨d, .fieldAddr s x i, ty, pos, af, g⟩ (.pointer (some ⟨b, o + off, none⟩)) w := fun w' _ => by
  have h1 := hf.f b o w'
  simp only [execOp, hx, Sem.run_bind, h1, Result.andThen_ok]; rfl
theorem Sil.load {t : TypeId} [h1 : One P t] {a : Addr} {v : Value} (hx : ev E x = .pointer (some a)) (hc : w.cell? a = some v) :
    Sil P E ⟨d, .load t x, ty, pos, af, g⟩ v w := fun w' hl => by
  have h2 := h1.h w'
  have h3 := hl.cell hc
  simp [execOp, hx, Instr.loadAt, Instr.sureAddr, loadVar, h2, h3]
/-- cells that lie beside each other -/
def Cells (w : World) (b o : Nat) (vs : List Value) : Prop := ∀ i v, vs[i]? = some v → w.cell? ⟨b, o + i, none⟩ = some v
theorem Cells.later {w w' : World} {b o : Nat} {vs : List Value} (h : Cells w b o vs) (hl : Later w w') : Cells w' b o vs := fun i v hv => hl.cell (h i v hv)
theorem run_loadCellsFrom {w : World} {b o : Nat} {vs : List Value} (h : Cells w b o vs) : ∀ (m i : Nat) (acc : Array Value), i + m = vs.length →
    (loadCellsFrom ⟨b, o, none⟩ i m acc).run P w = .ok (acc ++ (vs.drop i).toArray) w := by
  intro m
  induction m with
  | zero => intro i acc hi; simp [loadCellsFrom, List.drop_of_length_le (show vs.length ≤ i by omega)]
  | succ m ih =>
    intro i acc hi
    have hlt : i < vs.length := by omega
    have h1 := h i vs[i] (by simp [hlt])
    simp only [loadCellsFrom, add_none, Sem.run_bind, run_load, h1, Result.andThen_ok]
    rw [ih (i + 1) _ (by omega), List.drop_eq_getElem_cons hlt]
    simp
theorem run_loadCells {w : World} {b o m : Nat} {vs : List Value} (h : Cells w b o vs) (hm : vs.length = m) : (loadCells ⟨b, o, none⟩ m).run P w = .ok vs.toArray w := by
  have := run_loadCellsFrom (P := P) h m 0 #[] (by omega)
  simpa [loadCells] using this
theorem Sil.loadAgg {t sz bys : Nat} {zz : Value} [h1 : Agg P t] [hi : HasI P t sz bys zz] {b o : Nat} {vs : List Value} (hx : ev E x = .pointer (some ⟨b, o, none⟩)) (hc : Cells w b o vs) (hl : vs.length = sz) :
    Sil P E ⟨d, .load t x, ty, pos, af, g⟩ (.agg vs.toArray) w := fun w' hw => by
  have h2 := h1.h w'
  have h3 := run_loadCells (P := P) (hc.later hw) hl
  have h4 := hi.sizeOf w'
  simp [execOp, hx, Instr.loadAt, Instr.sureAddr, loadVar, h2, h3, h4]

theorem Sil.indexAddr {t e sz bys : Nat} {zz : Value} [hu : HasU P t (.slice e)] [hi : HasI P e sz bys zz] {b o l c k : Nat} {kd : IntKind} {i : Int} (hx : ev E x = .slice (some ⟨b, o, none⟩) l c) (hy : ev E y = .int kd i)
    (hk : i = (k : Int)) (hlt : k < l) : Sil P E ⟨d, .indexAddr t x y, ty, pos, af, g⟩ (.pointer (some ⟨b, o + k * sz, none⟩)) w := fun w' _ => by
  have h1 := hu.und w'
  have h2 := hi.sizeOf w'
  subst hk
  have h3 : (0 : Int) ≤ (k : Int) ∧ (k : Int) < (l : Int) := ⟨by omega, by omega⟩
  simp [execOp, hx, hy, Instr.indexAt, asIntOf, h1, h2, add_none, hlt]
/-- elements of one cell -/
theorem Sil.index1 {t e bys : Nat} {zz : Value} [hu : HasU P t (.slice e)] [hi : HasI P e 1 bys zz] {b o l c k : Nat} {kd : IntKind} {i : Int} (hx : ev E x = .slice (some ⟨b, o, none⟩) l c) (hy : ev E y = .int kd i)
    (hk : i = (k : Int)) (hlt : k < l) : Sil P E ⟨d, .indexAddr t x y, ty, pos, af, g⟩ (.pointer (some ⟨b, o + k, none⟩)) w := by
  have := Sil.indexAddr (P := P) (d := d) (ty := ty) (pos := pos) (af := af) (g := g) (w := w) (t := t) (sz := 1) hx hy hk hlt
  simpa using this
theorem Sil.extract {i : Nat} {vs : Array Value} {v : Value} (hx : ev E x = .tuple vs) (hv : vs[i]? = some v) :
    Sil P E ⟨d, .extract x i, ty, pos, af, g⟩ v w := fun w' _ => by
  simp [execOp, hx, Instr.extract, hv]
theorem Sil.makeFunc {fn : Fn} {fs cs : Array Operand} {vs us : List Value} (hf : fs.toList.map (ev E) = vs) (hc : cs.toList.map (ev E) = us) :
    Sil P E ⟨d, .makeFunc fn fs cs, ty, pos, af, g⟩ (.func fn vs.toArray us.toArray) w := fun w' _ => by
  subst hf; subst hc
  have e1 : (Array.map (ev E) fs) = (fs.toList.map (ev E)).toArray := by apply Array.ext'; simp
  have e2 : (Array.map (ev E) cs) = (cs.toList.map (ev E)).toArray := by apply Array.ext'; simp
  simp only [execOp, Instr.makeFunc, e1, e2]; rfl

/-- a call of a function by its name -/
theorem run_call {f : FuncId} {args : Array Operand} {ats : Array TypeId} {vs : List Value} {fn : Func} (hf : P.funcs[f]? = some fn) (hn : (fn.name == "runtime.NumGoroutine") = false) (hb : fn.body.isNone = false)
    (hv : args.toList.map (ev E) = vs) (w : World) : (execOp (ev E) ⟨d, .call ⟨.value (.func f), args, ats⟩, ty, pos, af, g⟩).run P w = .ok (.enter f vs.toArray) w := by
  subst hv
  have e : (Array.map (ev E) args) = (args.toList.map (ev E)).toArray := by apply Array.ext'; simp
  have hn' : ¬ fn.name = "runtime.NumGoroutine" := by simpa using hn
  have hb' : ¬ fn.body = none := fun h => by rw [h] at hb; cases hb
  simp [execOp, resolve, ev, Deferred.ofValue, invoke, callFunc, hf, hn', hb', e]
/-- a function with a body -/
class IsFn (P : Program) (f : Nat) : Prop where
  h : ∃ fn, P.funcs[f]? = some fn ∧ (fn.name == "runtime.NumGoroutine") = false ∧ fn.body.isNone = false
theorem Rg.call {f : FuncId} {args : Array Operand} {ats : Array TypeId} {vs : List Value} {R : Value → World → Prop} [hf : IsFn P f] (hc : Run P f vs w R) (hv : args.toList.map (ev E) = vs)
    (hw : want n ops ⟨d, .call ⟨.value (.func f), args, ats⟩, ty, pos, af, g⟩ E = true) (hd : fits n d = true) (h : ∀ v w', R v w' → Rg P n ops os Q (put E d v) w') :
    Rg P n ops (⟨d, .call ⟨.value (.func f), args, ats⟩, ty, pos, af, g⟩ :: os) Q E w := by
  obtain ⟨fn, h1, h2, h3⟩ := hf.h
  exact Rg.enter hw (run_call h1 h2 h3 hv w) hd hc h
/-- a call of a function value -/
theorem Rg.callV {f : FuncId} {args : Array Operand} {ats : Array TypeId} {vs cs : List Value} {R : Value → World → Prop} [hf : IsFn P f] (hx : ev E x = .func (.func f) #[] cs.toArray) (hc : Run P f (vs ++ cs) w R) (hv : args.toList.map (ev E) = vs)
    (hw : want n ops ⟨d, .call ⟨.value x, args, ats⟩, ty, pos, af, g⟩ E = true) (hd : fits n d = true) (h : ∀ v w', R v w' → Rg P n ops os Q (put E d v) w') :
    Rg P n ops (⟨d, .call ⟨.value x, args, ats⟩, ty, pos, af, g⟩ :: os) Q E w := by
  obtain ⟨fn, h1, h2, h3⟩ := hf.h
  refine Rg.enter (args := vs ++ cs) hw ?_ hd hc h
  subst hv
  have e : (Array.map (ev E) args) = (args.toList.map (ev E)).toArray := by apply Array.ext'; simp
  have hn' : ¬ fn.name = "runtime.NumGoroutine" := by simpa using h2
  have hb' : ¬ fn.body = none := fun h => by rw [h] at h3; cases h3
  simp [execOp, resolve, hx, Deferred.ofValue, invoke, callFunc, h1, hn', hb', e]
end
attribute [irreducible] Sil
end Go.Proofs.Ytcalkmlaodjpaaa.G
