/- Texts that the proof needs: Uo, Ue, A145. -/
import Derived.Test.YtoilkinagffhiaaQffUv
import Derived.Test.YtoilkinagffhiaaQffUn
import Derived.RangeFuncCalls
import Derived.RangeFuncIn
import Derived.OrdersIn
import Derived.TacticsIn
namespace Go.Proofs.Ytoilkinagffhiaa.V
open Go.RowKit G
set_option linter.unusedVariables false
set_option linter.unusedSimpArgs false
instance : Enc UInt8 := ⟨fun _ b => [.q fun v => v = .int .u8 (b.toNat : Int)], 1, fun _ _ => rfl, fun _ _ => rfl, fun _ _ => rfl, fun _ => rfl⟩
instance : Enc ByteArray := ⟨fun _ b => [.q fun v => v = .string b], 1, fun _ _ => rfl, fun _ _ => rfl, fun _ _ => rfl, fun _ => rfl⟩
instance : Inhabited ByteArray := ⟨.empty⟩
def andZ (a b : Int) : Int := IntKind.wrap .i64 (((a % 18446744073709551616).toNat &&& (b % 18446744073709551616).toNat : Nat) : Int)
def xorZ (a b : Int) : Int := IntKind.wrap .i64 (((a % 18446744073709551616).toNat ^^^ (b % 18446744073709551616).toNat : Nat) : Int)
theorem wrapI_in (n : Int) : In64 (IntKind.wrap .i64 n) := by
 have := V.In64.wr n
 rwa [← IntWalk.i64_left] at this
theorem andZ_bd (a : Int) (k : Nat) (hk : k ≤ 62) : 0 ≤ andZ a ((2 ^ k - 1 : Nat) : Int) ∧ andZ a ((2 ^ k - 1 : Nat) : Int) ≤ ((2 ^ k - 1 : Nat) : Int) := by
 have h1 : 2 ^ k ≤ 2 ^ 62 := Nat.pow_le_pow_right (by omega) hk
 have h0 : (((2 ^ k - 1 : Nat) : Int) % 18446744073709551616).toNat = 2 ^ k - 1 := by
  generalize 2 ^ k = z at h1 ⊢
  omega
 unfold andZ
 rw [h0]
 have h2 : (a % 18446744073709551616).toNat &&& (2 ^ k - 1) ≤ 2 ^ k - 1 := Nat.and_le_right
 generalize (a % 18446744073709551616).toNat &&& (2 ^ k - 1) = r at h2 ⊢
 rw [IntWalk.i64_in _ (by generalize 2 ^ k = z at h1 h2; omega)]
 omega
section
variable {P : Program} {w0 : World} {MP : Fr} {st : St} {d : Option Tmp} {ty : TypeId} {pos : String} {af : Array Edge} {g : Option (Nat × Bool)} {x y : Operand} {t t' : Nat}
theorem A.andZ {a b : Int} (hx : evA st x = .i a) (hy : evA st y = .i b) : ASil true P w0 MP st ⟨d, .binOp .and t x y t', ty, pos, af, g⟩ (.i (V.andZ a b)) := fun C Im E w hm => by
 have h1 := (hm.evI hx).1
 have h2 := (hm.evI hy).1
 refine ⟨.int .i64 (V.andZ a b), fun w' => ?_, rfl, wrapI_in _⟩
 unfold Sil
 intro w2 _
 have e : (BitVec.ofInt 64 a &&& BitVec.ofInt 64 b).toNat = (a % 18446744073709551616).toNat &&& (b % 18446744073709551616).toNat := by
  rw [BitVec.toNat_and, BitVec.toNat_ofInt, BitVec.toNat_ofInt]
  rfl
 simp only [execOp, h1, h2, eqGuard, binOp, Op.intBits, IntKind.bits, V.andZ]
 rw [← e]
 rfl
theorem A.xorZ {a b : Int} (hx : evA st x = .i a) (hy : evA st y = .i b) : ASil true P w0 MP st ⟨d, .binOp .xor t x y t', ty, pos, af, g⟩ (.i (V.xorZ a b)) := fun C Im E w hm => by
 have h1 := (hm.evI hx).1
 have h2 := (hm.evI hy).1
 refine ⟨.int .i64 (V.xorZ a b), fun w' => ?_, rfl, wrapI_in _⟩
 unfold Sil
 intro w2 _
 have e : (BitVec.ofInt 64 a ^^^ BitVec.ofInt 64 b).toNat = (a % 18446744073709551616).toNat ^^^ (b % 18446744073709551616).toNat := by
  rw [BitVec.toNat_xor, BitVec.toNat_ofInt, BitVec.toNat_ofInt]
  rfl
 simp only [execOp, h1, h2, eqGuard, binOp, Op.intBits, IntKind.bits, V.xorZ]
 rw [← e]
 rfl
theorem A.shrU {a : Int} {m : Nat} {k : IntKind} (hx : evA st x = .i a) (hy : evA st y = .q (fun v => v = .int k (m : Int))) (hm0 : m ≤ 62) : ASil true P w0 MP st ⟨d, .binOp .shr t x y t', ty, pos, af, g⟩ (.i (a / 2 ^ m)) := fun C Im E w hm => by
 have h1 := hm.evI hx
 have h2 := hm.evQ hy
 have hp : (0 : Int) < 2 ^ m := Int.pow_pos (by omega)
 refine ⟨.int .i64 (a / 2 ^ m), fun w' => ?_, rfl, ?_⟩
 ·unfold Sil
  intro w2 _
  have hmm : min m 64 = m := by omega
  have hf : a.fdiv (2 ^ m) = a / 2 ^ m := Int.fdiv_eq_ediv_of_nonneg _ (by omega)
  simp [execOp, h1.1, h2, eqGuard, binOp, Op.shift, IntKind.bits, hmm, hf]
 ·have h3 := h1.2
  generalize (2 : Int) ^ m = z at hp
  have e := Int.mul_ediv_add_emod a z
  have e2 := Int.emod_nonneg a (Int.ne_of_gt hp)
  have e3 := Int.emod_lt_of_pos a hp
  unfold In64 at *
  constructor
  ·apply Int.le_ediv_of_mul_le hp
   have : (-9223372036854775808 : Int) * z ≤ -9223372036854775808 * 1 := Int.mul_le_mul_of_nonpos_left (by omega) (by omega)
   omega
  ·apply Int.le_of_lt_add_one
   apply Int.ediv_lt_of_lt_mul hp
   have : (9223372036854775807 + 1 : Int) * 1 ≤ (9223372036854775807 + 1) * z := Int.mul_le_mul_of_nonneg_left (by omega) (by omega)
   omega
theorem A.nilP {o n k j : Nat} (hx : evA st x = .pt o n k j) : ASil true P w0 MP st ⟨d, .nilCheck x, ty, pos, af, g⟩ (.pt o n k j) := fun C Im E w hm => by
 have h := hm.ev x
 rw [hx] at h
 obtain ⟨b, q, h1, h2⟩ := h
 refine ⟨.pointer (some ⟨b, q, none⟩), fun w' => ?_, b, q, rfl, h2⟩
 unfold Sil
 intro w2 _
 simp [execOp, h1]
end
abbrev curO (b : List UInt8) (i h : Int) : List (List AV) := [[.dt false 1 (V.E false b), .i i, .i h]]
def okI (b : List UInt8) (i : Int) : Prop := 0 ≤ i ∧ i ≤ b.length
def AD (P : Program) (f : FuncId) (bs : List AV) (b : List UInt8) {α : Type} (p : α → Prop) (rs : α → List AV) : Prop :=
 ∀ i h, okI b i → AMx P f (.pt 0 1 0 0 :: bs) [(3, curO b i h)] (fun x : α × Int × Int => p x.1 ∧ okI b x.2.1) (fun x => rs x.1) (fun x => [(3, curO b x.2.1 x.2.2)])
theorem AD.mono {P : Program} {f : FuncId} {bs : List AV} {b : List UInt8} {α : Type} {p q : α → Prop} {rs : α → List AV} (h : AD P f bs b p rs) (hq : ∀ a, p a → q a) : AD P f bs b q rs := fun i h' hi w mp C E0 us hS hus =>
 (h i h' hi w mp C E0 us hS hus).mono fun v w' ⟨x, hx, hr⟩ => ⟨x, ⟨hq _ hx.1, hx.2⟩, hr⟩
section
variable {P : Program} {n : Nat} {w0 : World} {MP : Fr} {Q : Exit → St → Prop} {E : Nat → AV} {hp : Nat → Ob} {nx : Nat} {lb : Bool} {ops : Array Oper} {os : List Oper} {d : Option Tmp} {ty : TypeId} {pos : String} {af : Array Edge} {g : Option (Nat × Bool)}
theorem F.dr {α : Type} {p : α → Prop} {rs : α → List AV} {b : List UInt8} {i h : Int} {f : FuncId} {args : Array Operand} {ats : Array TypeId} {bs : List AV} [hf : IsFn P f] (o : Nat) (hc : AD P f bs b p rs) (hi : okI b i)
  (hh : ∀ a i' h', p a → okI b i' → CX P n w0 MP lb ops os Q E hp nx d [o] [(3, curO b i h)] (rs a) [(3, curO b i' h')])
  (hob : ObL hp [o] [(3, curO b i h)] := by (repeat' first | exact ObL.nil | refine ObL.cons rfl (by first | exact E_pure _ _ | rfl) ?_) <;> fail)
  (hs : RenL (fun _ => .dead) [o] (args.toList.map (evA ⟨E, hp, nx⟩)) (.pt 0 1 0 0 :: bs) := by
   (repeat' first
    | exact RenL.nil
    | refine RenL.sl rfl ?_
    | refine RenL.pt rfl ?_
    | refine RenL.agg ?_ ?_
    | refine RenL.sn (by (repeat' first | exact SnapL.nil | refine SnapL.i ?_ | refine SnapL.bo ?_ | refine SnapL.q ?_ | refine SnapL.dt ?_ | refine SnapL.nd ?_ | refine SnapL.ed ?_ | refine SnapL.nl ?_ | refine SnapL.agg ?_ ?_ | refine SnapL.fn ?_ ?_ | refine SnapL.ip ?_) <;> fail) ?_) <;> fail)
  (hw : awant n ops ⟨d, .call ⟨.value (.func f), args, ats⟩, ty, pos, af, g⟩ E true = true := by exact rfl) (hd : fits n d = true := by exact rfl) (hlb : lb = false := by exact rfl) : ARg P n w0 MP lb ops (⟨d, .call ⟨.value (.func f), args, ats⟩, ty, pos, af, g⟩ :: os) Q ⟨E, hp, nx⟩ :=
 F.x [o] (hc i h hi) (fun x hx => hh x.1 x.2.1 x.2.2 hx.1 hx.2) (by simp) hob hs hw hd (.inl hlb)
end
def MRd (P : Program) (res : List ResultVar) {α : Type} (p : α → Prop) (rs : α → List AV) (b : List UInt8) : Exit → St → Prop
 | .ret, st | .normal, st => ∃ a i h, p a ∧ okI b i ∧ MRet P 1 res (rs a) [(3, curO b i h)] .ret st
 | _, _ => False
instance (P : Program) (res : List ResultVar) {α : Type} (p : α → Prop) (rs : α → List AV) (b : List UInt8) : ANoPan (MRd P res p rs b) := ⟨fun _ _ h => h⟩
theorem AD.go {P : Program} {α : Type} {p : α → Prop} {rs : α → List AV} {b : List UInt8} {f : FuncId} {fn : Func} {n : Nat} {c : Code} {bs : List AV} (hf : P.funcs[f]? = some fn) (hn : fn.ntmps = n) (hb : fn.body = some c) (ha : Nat.ble (AV.pt 0 1 0 0 :: bs).length n = true)
  (h : ∀ i h, okI b i → ∀ w0 mp, WfL (.pt 0 1 0 0 :: bs) → AW P n w0 mp c (MRd P fn.results.toList p rs b) ⟨fun t => (AV.pt 0 1 0 0 :: bs).getD t .no, obS [(3, curO b i h)], 1⟩) : AD P f bs b p rs := fun i h' hi =>
 AMx.go hf hn hb ha fun w0 mp hw E w hs => (h i h' hi w0 mp hw E w hs).mono fun e E' w' ⟨st, hs', hq⟩ => ⟨st, hs', by
  cases e with
  | normal => obtain ⟨a, i2, h2, q1, q2, q3⟩ := hq; exact ⟨(a, i2, h2), ⟨q1, q2⟩, q3⟩
  | ret => obtain ⟨a, i2, h2, q1, q2, q3⟩ := hq; exact ⟨(a, i2, h2), ⟨q1, q2⟩, q3⟩
  | _ => exact hq.elim⟩
theorem F.rd {P : Program} {res : List ResultVar} {α : Type} {p : α → Prop} {rs : α → List AV} {b : List UInt8} {st : St} (a : α) {i h : Int} (hp : p a) (hi : okI b i) (hr : MRet P 1 res (rs a) [(3, curO b i h)] .ret st) : MRd P res p rs b .ret st := ⟨a, i, h, hp, hi, hr⟩
end Go.Proofs.Ytoilkinagffhiaa.V
namespace Go.Proofs.Ytoilkinagffhiaa.G
open Go.RowKit Go.WideShapes
set_option linter.unusedVariables false
def u8R : Rp UInt8 where
 nc := 1
 V := fun w n vs F => vs = [.int .u8 n.toNat] ∧ F = []
 len := fun h => by rw [h.1]; rfl
 one := fun h => by rw [h.1]; intro u hu; simp at hu; subst hu; rfl
 inb := fun h k hk => by rw [h.2] at hk; cases hk
 stab := fun h _ => h
theorem Rds.byte {P : Program} {t : Nat} (hu : P.underlying t = some (.int .u8)) (hc : P.cellsOf t = 1) : Rds P t u8R := by
 refine ⟨fun enc w fuel cs d ps h => ?_, hc⟩
 cases fuel with
 | zero => simp [DataW.trod] at h
 | succ fuel =>
  simp only [DataW.trod, hu] at h
  split at h <;> first | cases h | skip
  all_goals rename_i heq
  all_goals try simp only [Option.some.injEq, TypeDesc.int.injEq, reduceCtorEq] at heq
  subst heq
  split at h
  ·rename_i k n hk
   obtain ⟨rfl, hw⟩ := hk
   have h2 : 0 ≤ n ∧ n ≤ 255 := by simpa [Lit.wf, IntKind.min, IntKind.max, IntKind.signed, IntKind.bits] using hw
   refine ⟨UInt8.ofNat n.toNat, [], ?_, rfl⟩
   rw [UInt8.toNat_ofNat_of_lt' (show n.toNat < 256 by omega), Int.toNat_of_nonneg h2.1]
  ·cases h
instance : Rds Try.prog 5 u8R := Rds.byte Try.underlying5 (by kernel_rfl)
instance : Rds Try.prog 35 (listR u8R) := Rds.slice Try.underlying35 (by kernel_rfl) inferInstance (by decide)
end Go.Proofs.Ytoilkinagffhiaa.G
namespace Go.Proofs.Ytoilkinagffhiaa.V
open Go
open Go.RowKit G D
instance : RdE u8R := ⟨rfl, fun h => by obtain ⟨rfl, _⟩ := h; exact .q rfl rfl .nil⟩
set_option linter.unusedSimpArgs false
theorem A.eqlBB {P : Program} {w0 : World} {MP : Fr} {d : Option Tmp} {ty : TypeId} {pos : String} {af : Array Edge} {g : Option (Nat × Bool)} {x y : Operand} {t t' : Nat} {a b : Bool} {st : St} [hu : HasU P t .bool] (hx : evA st x = .b a) (hy : evA st y = .b b) : ASil true P w0 MP st ⟨d, .binOp .eql t x y t', ty, pos, af, g⟩ (.b (a == b)) := fun C Im E w hm => by
 have h1 := hm.evB hx
 have h2 := hm.evB hy
 refine ⟨.bool (a == b), fun w' => ?_, rfl⟩
 unfold Sil
 intro w2 _
 have h3 := run_equalIn_bool (P := P) w2 9999 t a b hu.u
 have h4 : (binOp .eql t (.bool a) (.bool b)).run P w2 = .ok (.bool (a == b)) w2 := by
  simp only [binOp]
  simp [Op.equal, Op.maxDepth, h3]
 simp [execOp, h1, h2, eqGuard, h4]
end Go.Proofs.Ytoilkinagffhiaa.V
namespace Go.Proofs.Ytoilkinagffhiaa.V
open Go.RowKit G D
set_option linter.unusedVariables false
set_option linter.unusedSimpArgs false
set_option maxHeartbeats 4000000
set_option maxRecDepth 4000
def calm : Oper → Bool
 | ⟨_, .defer _, _, _, _, _⟩ => false
 | _ => true
theorem calm_spec {o : Oper} (h : calm o = true) : ∀ c, o.op ≠ .defer c := fun c hc => by
 obtain ⟨_, op, _, _, _, _⟩ := o
 dsimp only at hc
 subst hc
 cases h
section
variable {P : Program} {n d l : Nat} {ops : Array Oper} {Q : Exit → Act → World → Prop}
theorem rowsIn_of {row : String} {args : Array Value} {w : World} {R : Value → World → Prop} (h : Rows P row args w R) : RowsIn (Fence.wide.inRound l) d P row args w R := by
 exact fun c cs _ => let ⟨v, w', r, s⟩ := h c cs; ⟨v, w', r, stepsIn_wide.2 s⟩
theorem opIn_of {o : Oper} {a : Act} {w : World} {K : Act → World → Prop} (hc : calm o = true) (h : o.wp P a w K Q) : o.wpIn (Fence.wide.inRound l) d P a w K Q := by
 refine ⟨fun _ _ => trivial, ?_⟩
 show o.uponIn _ d P a K Q ((o.semAt (some l) a.eval).run P w)
 rw [Oper.semAt_some l _ o (calm_spec hc)]
 unfold Oper.wp at h
 generalize (execOp a.eval o).run P w = r at h ⊢
 cases r with
 | ok nx w' =>
  cases nx with
  | value v => exact h
  | skip => exact h
  | defer x => exact h
  | enter f args => exact ⟨fun x => (by cases x), CallsIn.inRound l (callsIn_wide.2 h)⟩
  | row row args => exact ⟨fun x => (by cases x), rowsIn_of h⟩
  | _ => exact h.elim
 | halt x w' =>
  cases x <;> first | exact h | exact h.elim
theorem listIn_of (hL : ¬ LetsOut Q) : ∀ {os : List Oper} {a : Act} {w : World}, os.all calm = true → wpList P ops Q os a w → wpListIn (Fence.wide.inRound l) d P ops Q os a w
 | [], a, w, _, h => h
 | o :: os, a, w, hc, h => by
  simp only [List.all_cons, Bool.and_eq_true] at hc
  unfold wpList at h
  unfold wpListIn
  split at h
  ·rename_i hw
   rw [if_pos hw]
   rcases h with h | h
   ·exact Oper.wpIn_mono (fun a' w' h' => listIn_of hL hc.2 h') (opIn_of hc.1 h)
   ·exact absurd h.2 hL
  ·rename_i hw
   rw [if_neg hw]
   exact ⟨fun _ _ => trivial, listIn_of hL hc.2 h⟩
theorem wpOpIn_of (hL : ¬ LetsOut Q) (hc : ops.toList.all calm = true) {i : Nat} {a : Act} {w : World} {K K' : Act → World → Prop} (hK : ∀ a w, K a w → K' a w) (h : wpOp P ops Q i K a w) : wpOpIn (Fence.wide.inRound l) d P ops Q i K' a w := by
 unfold wpOp at h
 unfold wpOpIn
 cases ho : ops[i]? with
 | none => rw [ho] at h; exact hK _ _ h
 | some o =>
  rw [ho] at h
  dsimp only at h ⊢
  split at h
  ·rename_i hw
   rw [if_pos hw]
   rcases h with h | h
   ·have hm : o ∈ ops.toList := by
     obtain ⟨hi, he⟩ := Array.getElem?_eq_some_iff.1 ho
     rw [← he]
     exact Array.mem_toList_iff.2 (Array.getElem_mem hi)
    exact Oper.wpIn_mono hK (opIn_of (List.all_eq_true.1 hc o hm) h)
   ·exact absurd h.2 hL
  ·rename_i hw
   rw [if_neg hw]
   exact ⟨fun _ _ => trivial, hK _ _ h⟩
theorem anyIn_of (hL : ¬ LetsOut Q) (hc : ops.toList.all calm = true) {md : Region.Mode} : ∀ (fuel : Nat) (listed : Array Bool) (a : Act) (w : World), wpAny P md ops Q fuel listed a w → wpAnyIn (Fence.wide.inRound l) d P md ops Q fuel listed a w
 | 0, _, _, _, h => h
 | fuel + 1, listed, a, w, h => ⟨h.1, fun i hi => wpOpIn_of hL hc (fun a' w' h' => anyIn_of hL hc fuel _ a' w' h') (h.2 i hi)⟩
end
def WpR (P : Program) (n l : Nat) (c : Code) (Q : Exit → Env → World → Prop) (E : Env) (w : World) : Prop :=
 ∀ d a, Fits n a E → c.wpIn (Fence.wide.inRound l) d P (Up n Q) a w
def AWR (P : Program) (n l : Nat) (w0 : World) (MP : Fr) (c : Code) (Q : Exit → St → Prop) (st : St) : Prop := ∀ E w, Sim w0 MP st E w → WpR P n l c (upQ w0 MP Q) E w
class ANoOut (Q : Exit → St → Prop) : Prop where
 h : ∀ st, ¬ Q .outgrown st
instance (K : St → Prop) (Q : Exit → St → Prop) [hQ : ANoOut Q] : ANoOut (ATh K Q) := ⟨fun st h => hQ.h st h⟩
instance (id : Nat) (Q : Exit → St → Prop) [hQ : ANoOut Q] : ANoOut (ABk id Q) := ⟨fun st h => hQ.h st h⟩
section
variable {P : Program} {n l : Nat} {w0 : World} {MP : Fr} {Q : Exit → St → Prop} {st : St}
theorem noOut [hQ : ANoOut Q] : ¬ LetsOut (Up n (upQ w0 MP Q)) := fun ⟨_, _, _, _, st, _, h⟩ => hQ.h st h
theorem noOut' [hQ : ANoOut Q] {R : World → World → Prop} {lb : Bool} {w : World} : ¬ LetsOut (Up n (fun e E' w' => (lb = true → Later w w') ∧ upQ w0 MP Q e E' w')) := fun ⟨_, _, _, _, _, st, _, h⟩ => hQ.h st h
theorem AWR.skip (h : Q .normal st) : AWR P n l w0 MP .skip Q st := fun E w hs d a ha => wpIn_skip ⟨E, ha, st, hs, h⟩
theorem AWR.ret (h : Q .ret st) : AWR P n l w0 MP .ret Q st := fun E w hs d a ha => wpIn_ret ⟨E, ha, st, hs, h⟩
theorem AWR.exit {id : Nat} (h : Q (.exit id) st) : AWR P n l w0 MP (.exit id) Q st := fun E w hs d a ha => wpIn_exit ⟨E, ha, st, hs, h⟩
theorem AWR.seq {x y : Code} (h : AWR P n l w0 MP x (ATh (AWR P n l w0 MP y Q) Q) st) : AWR P n l w0 MP (.seq x y) Q st := fun E w hs d a ha =>
 wpIn_seq (wpIn_mono (h E w hs d a ha) fun e a' w' ⟨E', hf, st', hs', hq⟩ => by
  cases e <;> first | exact hq E' w' hs' d a' hf | exact ⟨E', hf, st', hs', hq⟩)
theorem AWR.block {id : Nat} {c : Code} (h : AWR P n l w0 MP c (ABk id Q) st) : AWR P n l w0 MP (.block id c) Q st := fun E w hs d a ha =>
 wpIn_block (wpIn_mono (h E w hs d a ha) fun e a' w' ⟨E', hf, st', hs', hq⟩ => by
  cases e with
  | exit id' =>
   simp only [Exit.inBlock]
   by_cases hid : id' = id
   ·subst hid
    simp only [ABk, Nat.beq_refl, cond_true] at hq
    simp only [if_true]
    exact ⟨E', hf, st', hs', hq⟩
   ·have hb : Nat.beq id' id = false := by rw [← Bool.not_eq_true]; intro hb; exact hid (Nat.eq_of_beq_eq_true hb)
    simp only [ABk, hb, cond_false] at hq
    simp only [hid, if_false]
    exact ⟨E', hf, st', hs', hq⟩
  | _ => exact ⟨E', hf, st', hs', hq⟩)
theorem AWR.cond {c : Operand} {x y : Code} {b : Bool} (hc : evA st c = .b b) (ht : b = true → AWR P n l w0 MP x Q st) (hf : b = false → AWR P n l w0 MP y Q st) : AWR P n l w0 MP (.cond c x y) Q st := fun E w hs d a ha => by
 have hs0 := hs
 obtain ⟨C, Im, hm⟩ := hs
 have h1 := hm.ev c
 rw [hc] at h1
 have hc' : a.eval c = .bool b := by rw [ha.eval]; exact h1
 exact wpIn_cond_split hc' (fun h => ht h E w hs0 d a ha) (fun h => hf h E w hs0 d a ha)
theorem AWR.region [ANoOut Q] {id : Nat} {os : List Oper} (hc : os.all calm = true) (h : ARg P n w0 MP false os.toArray os Q st) : AWR P n l w0 MP (.region id os.toArray false) Q st := fun E w hs d a ha => by
 have h1 := h E w hs
 unfold Rg at h1
 exact wpIn_mono (wpIn_region_lit (listIn_of (noOut' (R := fun _ _ => True) (lb := false) (w := w)) hc (h1 a ha))) fun e a' w' ⟨E', hf, _, hq⟩ => ⟨E', hf, hq⟩
theorem AWR.draw [ANoOut Q] {ops : Array Oper} {id : Nat} (m : Nat) (hm : P.follows .mixedOrders = true) (hst : (Region.noSelect ops && tailOk .any m ops) = true) (hc : ops.toList.all calm = true)
  (h : ARA P n w0 MP m ops ops.size (Array.replicate ops.size false) Q st) : AWR P n l w0 MP (.region id ops true) Q st := fun E w ⟨C, Im, hs⟩ d a ha => by
 have h1 := h E w.drew ⟨C, Im, hs.later (Later.refl w).drew⟩
 unfold RgA at h1
 exact wpIn_region_any hm (anyIn_of noOut hc _ _ _ _ (wpAny_of_later _ _ _ _ (h1 hst Closed.start a ha)))
end
end Go.Proofs.Ytoilkinagffhiaa.V
