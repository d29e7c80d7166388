/- The walk's steps: each operation by its kind, the next step found by trying the rules in turn. Over any program; nothing is claimed of the given one. -/
import Derived.Test.YtcalkmlaodjpaaaHh
namespace Go.Proofs.Ytcalkmlaodjpaaa.V
open V.Enc (enc)
open Go.RowKit G
set_option linter.unusedVariables false
set_option linter.unusedSimpArgs false

def putE (E : Nat → AV) (d : Option Tmp) (a : AV) : Nat → AV := match d with | some d => updA E d a | none => E
theorem putA_eq (st : St) (d : Option Tmp) (a : AV) : putA st d a = ⟨putE st.E d a, st.hp, st.nx⟩ := by cases d <;> rfl
section
variable {P : Program} {n : Nat} {w0 : World} {MP : Fr} {Q : Exit → St → Prop} {E : Nat → AV} {hp : Nat → Ob} {nx : Nat} {lb : Bool} {ops : Array Oper} {os : List Oper} {d : Option Tmp} {ty : TypeId} {pos : String} {af : Array Edge} {g : Option (Nat × Bool)} {x y z : Operand}
theorem F.sil {pu : Bool} {op : Op} {a : AV} (hs : ASil pu P w0 MP ⟨E, hp, nx⟩ ⟨d, op, ty, pos, af, g⟩ a) (hw : awant n ops ⟨d, op, ty, pos, af, g⟩ E true = true) (hd : fits n d = true) (h : ARg P n w0 MP lb ops os Q ⟨putE E d a, hp, nx⟩) : ARg P n w0 MP lb ops (⟨d, op, ty, pos, af, g⟩ :: os) Q ⟨E, hp, nx⟩ :=
  ARg.sil hs hw hd (by rw [putA_eq]; exact h)
theorem F.skip {op : Op} (hw : awant n ops ⟨d, op, ty, pos, af, g⟩ E false = true) (hd : fits n d = true) (h : ARg P n w0 MP lb ops os Q ⟨putE E d .no, hp, nx⟩) : ARg P n w0 MP lb ops (⟨d, op, ty, pos, af, g⟩ :: os) Q ⟨E, hp, nx⟩ :=
  ARg.skip hw hd (by rw [putA_eq]; exact h)
theorem F.boxG {e : TypeId} {cs : List AV} {sz : Nat} (hx : evA ⟨E, hp, nx⟩ x = .agg cs) (hl : cs.length = sz) (hc : cs.all cellB = true) (hw : awant n ops ⟨d, .box e x, ty, pos, af, g⟩ E true = true) (hd : fits n d = true)
    (h : ARg P n w0 MP lb ops os Q ⟨putE E d (.pt nx 1 0 0), updA hp nx (.live false sz [cs]), nx + 1⟩) : ARg P n w0 MP lb ops (⟨d, .box e x, ty, pos, af, g⟩ :: os) Q ⟨E, hp, nx⟩ := by
  subst hl; exact R.boxG hx hc hw hd (by rw [putA_eq]; exact h)
theorem F.boxC {e : TypeId} {a : AV} (hx : evA ⟨E, hp, nx⟩ x = a) (hc : cellB a = true) (hw : awant n ops ⟨d, .box e x, ty, pos, af, g⟩ E true = true) (hd : fits n d = true)
    (h : ARg P n w0 MP lb ops os Q ⟨putE E d (.pt nx 1 0 0), updA hp nx (.live false 1 [[a]]), nx + 1⟩) : ARg P n w0 MP lb ops (⟨d, .box e x, ty, pos, af, g⟩ :: os) Q ⟨E, hp, nx⟩ :=
  R.boxC hx hc hw hd (by rw [putA_eq]; exact h)
theorem F.alloc {e sz : Nat} {cs : List AV} [hz : HasZ P e sz cs] (hw : awant n ops ⟨d, .alloc e, ty, pos, af, g⟩ E true = true) (hd : fits n d = true)
    (h : ARg P n w0 MP lb ops os Q ⟨putE E d (.pt nx 1 0 0), updA hp nx (.live false sz [cs]), nx + 1⟩) : ARg P n w0 MP lb ops (⟨d, .alloc e, ty, pos, af, g⟩ :: os) Q ⟨E, hp, nx⟩ :=
  R.alloc hw hd (by rw [putA_eq]; exact h)
theorem F.mk {t e m : Nat} {l : Int} (α : Type) [Enc α] {z : α} [hu : HasU P t (.slice e)] [hz : ZeroE P e α z] (hx : evA ⟨E, hp, nx⟩ x = .i l) (hy : evA ⟨E, hp, nx⟩ y = .i l) (hl : l = (m : Int)) (hb : ∀ sz bys zz, HasI P e sz bys zz → bys * m ≤ 281474976710656) (hmx : m ≤ 9223372036854775807)
    (hw : awant n ops ⟨d, .makeSlice t x y, ty, pos, af, g⟩ E true = true) (hd : fits n d = true)
    (h : ARg P n w0 MP lb ops os Q ⟨putE E d (.sl nx m 0 m), updA hp nx (.live false (Enc.nc α) (V.E true (List.replicate m z))), nx + 1⟩) : ARg P n w0 MP lb ops (⟨d, .makeSlice t x y, ty, pos, af, g⟩ :: os) Q ⟨E, hp, nx⟩ :=
  R.mk α hx hy hl hb hmx hw hd (by rw [putA_eq]; exact h)
theorem F.lit0 {t e sz bys : Nat} {zz : Value} [hu : HasU P t (.slice e)] [hi : HasI P e sz bys zz] (hw : awant n ops ⟨d, .buildSlice t 0 #[], ty, pos, af, g⟩ E true = true) (hd : fits n d = true)
    (h : ARg P n w0 MP lb ops os Q ⟨putE E d .em, hp, nx⟩) : ARg P n w0 MP lb ops (⟨d, .buildSlice t 0 #[], ty, pos, af, g⟩ :: os) Q ⟨E, hp, nx⟩ :=
  R.lit0 hw hd (by rw [putA_eq]; exact h)
theorem F.lit1G {t e sz bys : Nat} {zz : Value} {cs : List AV} [hu : HasU P t (.slice e)] [hi : HasI P e sz bys zz] (hx : evA ⟨E, hp, nx⟩ x = .agg cs) (hc : (cs.all cellB && Nat.beq cs.length sz) = true) (hsz : Nat.ble sz 16777216 = true) (hs0 : Nat.blt 0 sz = true) (hw : awant n ops ⟨d, .buildSlice t 1 #[(0, x)], ty, pos, af, g⟩ E true = true) (hd : fits n d = true)
    (h : ARg P n w0 MP lb ops os Q ⟨putE E d (.sl nx 1 0 1), updA hp nx (.live false sz [cs]), nx + 1⟩) : ARg P n w0 MP lb ops (⟨d, .buildSlice t 1 #[(0, x)], ty, pos, af, g⟩ :: os) Q ⟨E, hp, nx⟩ :=
  R.lit (xs := [cs]) (by simp [hx, cellsA]) rfl rfl (by simpa using hsz) hs0 (by simpa [hx, cellsA] using hc) hw hd (by rw [putA_eq]; exact h)
theorem F.lit1C {t e bys : Nat} {zz : Value} {a : AV} [hu : HasU P t (.slice e)] [hi : HasI P e 1 bys zz] (hx : evA ⟨E, hp, nx⟩ x = a) (hc : cellB a = true) (hw : awant n ops ⟨d, .buildSlice t 1 #[(0, x)], ty, pos, af, g⟩ E true = true) (hd : fits n d = true)
    (h : ARg P n w0 MP lb ops os Q ⟨putE E d (.sl nx 1 0 1), updA hp nx (.live false 1 [[a]]), nx + 1⟩) : ARg P n w0 MP lb ops (⟨d, .buildSlice t 1 #[(0, x)], ty, pos, af, g⟩ :: os) Q ⟨E, hp, nx⟩ := by
  have e : cellsA a = [a] := by cases a <;> first | rfl | cases hc
  exact R.lit (xs := [[a]]) (by simp [hx, e]) rfl rfl rfl rfl (by simp [hx, e, hc]) hw hd (by rw [putA_eq]; exact h)
theorem F.litN {t e sz bys len : Nat} {zz : Value} {ps : Array (Nat × Operand)} [hu : HasU P t (.slice e)] [hi : HasI P e sz bys zz] {xs : List (List AV)} (hxs : (ps.toList.map fun p => cellsA (evA ⟨E, hp, nx⟩ p.2)) = xs) (hk : ps.toList.map (·.1) = List.range' 0 ps.toList.length) (hlen : ps.toList.length = len) (hsz : Nat.ble (len * sz) 16777216 = true) (hs0 : Nat.blt 0 sz = true)
    (hc : (ps.toList.all fun p => (cellsA (evA ⟨E, hp, nx⟩ p.2)).all cellB && Nat.beq (cellsA (evA ⟨E, hp, nx⟩ p.2)).length sz) = true)
    (hw : awant n ops ⟨d, .buildSlice t len ps, ty, pos, af, g⟩ E true = true) (hd : fits n d = true)
    (h : ARg P n w0 MP lb ops os Q ⟨putE E d (.sl nx len 0 len), updA hp nx (.live false sz xs), nx + 1⟩) : ARg P n w0 MP lb ops (⟨d, .buildSlice t len ps, ty, pos, af, g⟩ :: os) Q ⟨E, hp, nx⟩ :=
  R.lit hxs hk hlen hsz hs0 hc hw hd (by rw [putA_eq]; exact h)
theorem F.app1 {α : Type} [Enc α] {t e bys o n' m : Nat} {zz : Value} {lt l oo : Bool} {ls : List α} {a : α} {c ds : List AV} {o2 : Nat} {hp3 : Nat → Ob} [hu : HasU P t (.slice e)] [hi : HasI P e (Enc.nc α) bys zz]
    (hx : evA ⟨E, hp, nx⟩ x = .sl o m 0 m) (ho : hp o = .live lt (Enc.nc α) (V.E oo ls)) (hy : evA ⟨E, hp, nx⟩ y = .sl o2 1 0 1) (hm : ls.length = m) (ho2 : hp o2 = .live l (Enc.nc α) [c]) (hll : (l || lt) = lt) (hmv : Mv lt (updA hp o2 .dead) c ds hp3) (ho3 : hp3 o = .live lt (Enc.nc α) (V.E oo ls)) (hds : enc oo a = ds) (hn' : m + 1 = n')
    (hby : n' * bys ≤ 140737488355328) (hmx : n' ≤ 9223372036854775807) (hz : zz.cells.size = Enc.nc α) (hs0 : Nat.blt 0 (Enc.nc α) = true)
    (hw : awant n ops ⟨d, .call ⟨.builtin .append, #[x, y], #[t, t]⟩, ty, pos, af, g⟩ E true = true) (hd : fits n d = true) (hlb : lb = false)
    (h : ARg P n w0 MP lb ops os Q ⟨putE E d (.sl o n' 0 n'), updA hp3 o (.live lt (Enc.nc α) (V.E oo (ls ++ [a]))), nx⟩) : ARg P n w0 MP lb ops (⟨d, .call ⟨.builtin .append, #[x, y], #[t, t]⟩, ty, pos, af, g⟩ :: os) Q ⟨E, hp, nx⟩ :=
  R.app1 hx hy ho hm ho2 hll hmv ho3 hds hn' hby hmx hz hs0 hw hd hlb (by rw [putA_eq]; exact h)
theorem F.app1N {α : Type} [Enc α] {t e bys : Nat} {zz : Value} {a : α} {c ds : List AV} {o2 : Nat} {hp3 : Nat → Ob} [hu : HasU P t (.slice e)] [hi : HasI P e (Enc.nc α) bys zz]
    (hx : evA ⟨E, hp, nx⟩ x = .nl ∨ evA ⟨E, hp, nx⟩ x = .em) (hy : evA ⟨E, hp, nx⟩ y = .sl o2 1 0 1) (ho2 : (updA hp nx (.live false (Enc.nc α) [])) o2 = .live false (Enc.nc α) [c]) (hmv : Mv false (updA (updA hp nx (.live false (Enc.nc α) [])) o2 .dead) c ds hp3) (ho3 : hp3 nx = .live false (Enc.nc α) []) (hds : enc true a = ds)
    (hby : 1 * bys ≤ 140737488355328) (hz : zz.cells.size = Enc.nc α) (hs0 : Nat.blt 0 (Enc.nc α) = true)
    (hw : awant n ops ⟨d, .call ⟨.builtin .append, #[x, y], #[t, t]⟩, ty, pos, af, g⟩ E true = true) (hd : fits n d = true)
    (h : ARg P n w0 MP lb ops os Q ⟨putE E d (.sl nx 1 0 1), updA hp3 nx (.live false (Enc.nc α) (V.E true [a])), nx + 1⟩) : ARg P n w0 MP lb ops (⟨d, .call ⟨.builtin .append, #[x, y], #[t, t]⟩, ty, pos, af, g⟩ :: os) Q ⟨E, hp, nx⟩ :=
  R.app1N hx hy ho2 hmv ho3 hds hby hz hs0 hw hd (by rw [putA_eq]; exact h)
theorem F.appL {α : Type} [Enc α] {t e bys o n' m : Nat} {zz : Value} {lt oo : Bool} {ls ls2 : List α} {b : AV} {hp2 : Nat → Ob} [hu : HasU P t (.slice e)] [hi : HasI P e (Enc.nc α) bys zz]
    (hx : evA ⟨E, hp, nx⟩ x = .sl o m 0 m) (ho : hp o = .live lt (Enc.nc α) (V.E oo ls)) (hm : ls.length = m) (hy : evA ⟨E, hp, nx⟩ y = b) (hsrc : SrcA lt hp b (V.E oo ls2) (Enc.nc α) hp2) (ho3 : hp2 o = .live lt (Enc.nc α) (V.E oo ls)) (hn' : m + ls2.length = n')
    (hby : n' * bys ≤ 140737488355328) (hmx : n' ≤ 9223372036854775807) (hz : zz.cells.size = Enc.nc α) (hs0 : Nat.blt 0 (Enc.nc α) = true)
    (hw : awant n ops ⟨d, .call ⟨.builtin .append, #[x, y], #[t, t]⟩, ty, pos, af, g⟩ E true = true) (hd : fits n d = true) (hlb : lb = false)
    (h : ARg P n w0 MP lb ops os Q ⟨putE E d (.sl o n' 0 n'), updA hp2 o (.live lt (Enc.nc α) (V.E oo (ls ++ ls2))), nx⟩) : ARg P n w0 MP lb ops (⟨d, .call ⟨.builtin .append, #[x, y], #[t, t]⟩, ty, pos, af, g⟩ :: os) Q ⟨E, hp, nx⟩ :=
  R.appL hx ho hm (by rw [hy]; exact hsrc) ho3 hn' hby hmx hz hs0 hw hd hlb (by rw [putA_eq]; exact h)
theorem F.appLN {α : Type} [Enc α] {t e bys n' : Nat} {zz : Value} {oo : Bool} {ls2 : List α} {b : AV} {hp2 : Nat → Ob} [hu : HasU P t (.slice e)] [hi : HasI P e (Enc.nc α) bys zz]
    (hx : evA ⟨E, hp, nx⟩ x = .nl ∨ evA ⟨E, hp, nx⟩ x = .em) (hy : evA ⟨E, hp, nx⟩ y = b) (hsrc : SrcA false (updA hp nx (.live false (Enc.nc α) [])) b (V.E oo ls2) (Enc.nc α) hp2) (ho3 : hp2 nx = .live false (Enc.nc α) []) (hn' : ls2.length = n')
    (hby : n' * bys ≤ 140737488355328) (hmx : n' ≤ 9223372036854775807) (hz : zz.cells.size = Enc.nc α) (hs0 : Nat.blt 0 (Enc.nc α) = true)
    (hw : awant n ops ⟨d, .call ⟨.builtin .append, #[x, y], #[t, t]⟩, ty, pos, af, g⟩ E true = true) (hd : fits n d = true)
    (h : ARg P n w0 MP lb ops os Q ⟨putE E d (.sl nx n' 0 n'), updA hp2 nx (.live false (Enc.nc α) (V.E oo ls2)), nx + 1⟩) : ARg P n w0 MP lb ops (⟨d, .call ⟨.builtin .append, #[x, y], #[t, t]⟩, ty, pos, af, g⟩ :: os) Q ⟨E, hp, nx⟩ :=
  R.appLN hx (by rw [hy]; exact hsrc) ho3 hn' hby hmx hz hs0 hw hd (by rw [putA_eq]; exact h)
/-- to an object that is known to be empty -/
theorem F.appLE {α : Type} [Enc α] {t e bys o n' : Nat} {zz : Value} {lt oo : Bool} {ls2 : List α} {b : AV} {hp2 : Nat → Ob} [hu : HasU P t (.slice e)] [hi : HasI P e (Enc.nc α) bys zz]
    (hx : evA ⟨E, hp, nx⟩ x = .sl o 0 0 0) (ho : hp o = .live lt (Enc.nc α) []) (hy : evA ⟨E, hp, nx⟩ y = b) (hsrc : SrcA lt hp b (V.E oo ls2) (Enc.nc α) hp2) (ho3 : hp2 o = .live lt (Enc.nc α) []) (hn' : ls2.length = n')
    (hby : n' * bys ≤ 140737488355328) (hmx : n' ≤ 9223372036854775807) (hz : zz.cells.size = Enc.nc α) (hs0 : Nat.blt 0 (Enc.nc α) = true)
    (hw : awant n ops ⟨d, .call ⟨.builtin .append, #[x, y], #[t, t]⟩, ty, pos, af, g⟩ E true = true) (hd : fits n d = true) (hlb : lb = false)
    (h : ARg P n w0 MP lb ops os Q ⟨putE E d (.sl o n' 0 n'), updA hp2 o (.live lt (Enc.nc α) (V.E oo ls2)), nx⟩) : ARg P n w0 MP lb ops (⟨d, .call ⟨.builtin .append, #[x, y], #[t, t]⟩, ty, pos, af, g⟩ :: os) Q ⟨E, hp, nx⟩ :=
  R.appL (ls := []) hx ho rfl (by rw [hy]; exact hsrc) ho3 (by omega) hby hmx hz hs0 hw hd hlb (by rw [putA_eq]; exact h)
theorem F.app1E {α : Type} [Enc α] {t e bys o : Nat} {zz : Value} {lt l oo : Bool} {a : α} {c ds : List AV} {o2 : Nat} {hp3 : Nat → Ob} [hu : HasU P t (.slice e)] [hi : HasI P e (Enc.nc α) bys zz]
    (hx : evA ⟨E, hp, nx⟩ x = .sl o 0 0 0) (ho : hp o = .live lt (Enc.nc α) []) (hy : evA ⟨E, hp, nx⟩ y = .sl o2 1 0 1) (ho2 : hp o2 = .live l (Enc.nc α) [c]) (hll : (l || lt) = lt) (hmv : Mv lt (updA hp o2 .dead) c ds hp3) (ho3 : hp3 o = .live lt (Enc.nc α) []) (hds : enc oo a = ds)
    (hby : 1 * bys ≤ 140737488355328) (hz : zz.cells.size = Enc.nc α) (hs0 : Nat.blt 0 (Enc.nc α) = true)
    (hw : awant n ops ⟨d, .call ⟨.builtin .append, #[x, y], #[t, t]⟩, ty, pos, af, g⟩ E true = true) (hd : fits n d = true) (hlb : lb = false)
    (h : ARg P n w0 MP lb ops os Q ⟨putE E d (.sl o 1 0 1), updA hp3 o (.live lt (Enc.nc α) (V.E oo [a])), nx⟩) : ARg P n w0 MP lb ops (⟨d, .call ⟨.builtin .append, #[x, y], #[t, t]⟩, ty, pos, af, g⟩ :: os) Q ⟨E, hp, nx⟩ :=
  R.app1 (ls := []) hx hy ho rfl ho2 hll hmv ho3 hds rfl (by simpa using hby) (by decide) hz hs0 hw hd hlb (by rw [putA_eq]; exact h)
theorem F.stR {t bys o nn k j sz : Nat} {zz : Value} {l : Bool} {xs : List (List AV)} {c : List AV} {a : AV} [hi : HasI P t 1 bys zz] (hx : evA ⟨E, hp, nx⟩ x = .pt o nn k j) (hy : evA ⟨E, hp, nx⟩ y = a) (hca : cellB a = true) (hh : hp o = .live l sz xs) (hn : xs.length = nn) (hk : xs[k]? = some c) (hj : Nat.blt j c.length = true)
    (hw : awant n ops ⟨d, .store t x y, ty, pos, af, g⟩ E true = true) (hd : fits n d = true) (hlb : lb = false)
    (h : ARg P n w0 MP lb ops os Q ⟨putE E d .no, updA hp o (.live l sz (xs.set k (c.set j a))), nx⟩) : ARg P n w0 MP lb ops (⟨d, .store t x y, ty, pos, af, g⟩ :: os) Q ⟨E, hp, nx⟩ :=
  R.stR hx hy hca hh hn hk hj hw hd hlb (by rw [putA_eq]; exact h)
/-- one variable -/
theorem F.stV {t bys o sz : Nat} {zz : Value} {l : Bool} {c a : AV} [hi : HasI P t 1 bys zz] (hx : evA ⟨E, hp, nx⟩ x = .pt o 1 0 0) (hy : evA ⟨E, hp, nx⟩ y = a) (hca : cellB a = true) (hh : hp o = .live l sz [[c]])
    (hw : awant n ops ⟨d, .store t x y, ty, pos, af, g⟩ E true = true) (hd : fits n d = true) (hlb : lb = false)
    (h : ARg P n w0 MP lb ops os Q ⟨putE E d .no, updA hp o (.live l sz [[a]]), nx⟩) : ARg P n w0 MP lb ops (⟨d, .store t x y, ty, pos, af, g⟩ :: os) Q ⟨E, hp, nx⟩ :=
  R.stR hx hy hca hh rfl rfl rfl hw hd hlb (by rw [putA_eq]; exact h)
theorem F.stI {t bys o nn k sz : Nat} {zz : Value} {l oo : Bool} {ls : List Int} {v : Int} [hi : HasI P t 1 bys zz] (hx : evA ⟨E, hp, nx⟩ x = .pt o nn k 0) (hy : evA ⟨E, hp, nx⟩ y = .i v) (hh : hp o = .live l sz (V.E oo ls)) (hn : ls.length = nn) (hk : k < ls.length)
    (hw : awant n ops ⟨d, .store t x y, ty, pos, af, g⟩ E true = true) (hd : fits n d = true) (hlb : lb = false)
    (h : ARg P n w0 MP lb ops os Q ⟨putE E d .no, updA hp o (.live l sz (V.E oo (ls.set k v))), nx⟩) : ARg P n w0 MP lb ops (⟨d, .store t x y, ty, pos, af, g⟩ :: os) Q ⟨E, hp, nx⟩ :=
  R.stI hx hy hh hn hk hw hd hlb (by rw [putA_eq]; exact h)
theorem F.stE {α : Type} [Enc α] [Inhabited α] {t bys o nn k j sz : Nat} {zz : Value} {l oo : Bool} {ls : List α} (v : α) {a a' : AV} {hp' : Nat → Ob} [hi : HasI P t 1 bys zz] (hx : evA ⟨E, hp, nx⟩ x = .pt o nn k j) (hh : hp o = .live l sz (V.E oo ls)) (hy : evA ⟨E, hp, nx⟩ y = a) (hca : cellB a = true) (hn : ls.length = nn) (hk : k < ls.length) (hj : Nat.blt j (Enc.nc α) = true)
    (hmv : Mv l hp [a] [a'] hp') (hh' : hp' o = .live l sz (V.E oo ls)) (he : (enc oo (ls.getD k default)).set j a' = enc oo v) (hw : awant n ops ⟨d, .store t x y, ty, pos, af, g⟩ E true = true) (hd : fits n d = true) (hlb : lb = false)
    (h : ARg P n w0 MP lb ops os Q ⟨putE E d .no, updA hp' o (.live l sz (V.E oo (ls.set k v))), nx⟩) : ARg P n w0 MP lb ops (⟨d, .store t x y, ty, pos, af, g⟩ :: os) Q ⟨E, hp, nx⟩ :=
  R.stE hx hy hca hh hn hk hj hmv hh' he hw hd hlb (by rw [putA_eq]; exact h)
theorem F.stGW {t sz bys o esz : Nat} {zz : Value} {l : Bool} {c cs : List AV} [hi : HasI P t sz bys zz] (hx : evA ⟨E, hp, nx⟩ x = .pt o 1 0 0) (hy : evA ⟨E, hp, nx⟩ y = .agg cs) (hca : cs.all cellB = true) (hcl : cs.length = sz) (hh : hp o = .live l esz [c]) (hl : c.length = cs.length)
    (hw : awant n ops ⟨d, .store t x y, ty, pos, af, g⟩ E true = true) (hd : fits n d = true) (hlb : lb = false)
    (h : ARg P n w0 MP lb ops os Q ⟨putE E d .no, updA hp o (.live l esz [cs]), nx⟩) : ARg P n w0 MP lb ops (⟨d, .store t x y, ty, pos, af, g⟩ :: os) Q ⟨E, hp, nx⟩ :=
  R.stGW hx hy hca hcl hh hl hw hd hlb (by rw [putA_eq]; exact h)
/-- a struct that is a field of a variable -/
theorem F.stGF {t sz bys o esz j : Nat} {zz : Value} {l : Bool} {c cs c' : List AV} [hi : HasI P t sz bys zz] (hx : evA ⟨E, hp, nx⟩ x = .pt o 1 0 j) (hy : evA ⟨E, hp, nx⟩ y = .agg cs) (hca : cs.all cellB = true) (hcl : cs.length = sz) (hh : hp o = .live l esz [c]) (hj : Nat.ble (j + cs.length) c.length = true) (hc : c.take j ++ cs ++ c.drop (j + cs.length) = c')
    (hw : awant n ops ⟨d, .store t x y, ty, pos, af, g⟩ E true = true) (hd : fits n d = true) (hlb : lb = false)
    (h : ARg P n w0 MP lb ops os Q ⟨putE E d .no, updA hp o (.live l esz [c']), nx⟩) : ARg P n w0 MP lb ops (⟨d, .store t x y, ty, pos, af, g⟩ :: os) Q ⟨E, hp, nx⟩ := by
  subst hc
  have hat : ∀ {cs : List AV}, cs.all cellB = true → Mv l hp cs cs hp := by
    intro cs
    induction cs with
    | nil => intro _; exact .nil
    | cons a cs ih => intro h; rw [List.all_cons, Bool.and_eq_true] at h; exact .at1 h.1 (ih h.2)
  exact R.stG hx hy hca hcl hh rfl (c := c) rfl (ds := cs) hj (hat hca) hh hw hd hlb (by rw [putA_eq]; exact h)
theorem F.stGE {α : Type} [Enc α] [Inhabited α] {t bys o nn k : Nat} {zz : Value} {l oo : Bool} {ls : List α} {v : α} {cs ds : List AV} {hp' : Nat → Ob} {esz : Nat} [hi : HasI P t (Enc.nc α) bys zz] (hx : evA ⟨E, hp, nx⟩ x = .pt o nn k 0) (hh : hp o = .live l esz (V.E oo ls)) (hy : evA ⟨E, hp, nx⟩ y = .agg cs) (hca : cs.all cellB = true) (hcl : cs.length = Enc.nc α) (hn : ls.length = nn) (hk : k < ls.length)
    (hmv : Mv l hp cs ds hp') (hh' : hp' o = .live l esz (V.E oo ls)) (he : enc oo v = ds) (hw : awant n ops ⟨d, .store t x y, ty, pos, af, g⟩ E true = true) (hd : fits n d = true) (hlb : lb = false)
    (h : ARg P n w0 MP lb ops os Q ⟨putE E d .no, updA hp' o (.live l esz (V.E oo (ls.set k v))), nx⟩) : ARg P n w0 MP lb ops (⟨d, .store t x y, ty, pos, af, g⟩ :: os) Q ⟨E, hp, nx⟩ :=
  R.stGE hx hy hca hcl hh hn hk hmv hh' he hw hd hlb (by rw [putA_eq]; exact h)
theorem F.call {f : FuncId} {args : Array Operand} {ats : Array TypeId} {bs rs as : List AV} {a : AV} {ob : List (Nat × List (List AV))} [hf : IsFn P f] (hc : AC P f bs rs) (hs : SnapL hp (args.toList.map (evA ⟨E, hp, nx⟩)) bs) (ht : ThwR nx rs as ob) (ha : tupA as = a)
    (hw : awant n ops ⟨d, .call ⟨.value (.func f), args, ats⟩, ty, pos, af, g⟩ E true = true) (hd : fits n d = true) (h : ARg P n w0 MP lb ops os Q ⟨putE E d a, addO hp nx ob, nx + ob.length⟩) : ARg P n w0 MP lb ops (⟨d, .call ⟨.value (.func f), args, ats⟩, ty, pos, af, g⟩ :: os) Q ⟨E, hp, nx⟩ := by
  subst ha; exact R.call hc hs ht hw hd (by unfold callS; rw [putA_eq]; exact h)
theorem F.callV {f : FuncId} {args : Array Operand} {ats : Array TypeId} {bs rs as caps : List AV} {a : AV} {ob : List (Nat × List (List AV))} [hf : IsFn P f] (hx : evA ⟨E, hp, nx⟩ x = .fn f caps) (hc : AC P f bs rs) (hs : SnapL hp (args.toList.map (evA ⟨E, hp, nx⟩) ++ caps) bs) (ht : ThwR nx rs as ob) (ha : tupA as = a)
    (hw : awant n ops ⟨d, .call ⟨.value x, args, ats⟩, ty, pos, af, g⟩ E true = true) (hd : fits n d = true) (h : ARg P n w0 MP lb ops os Q ⟨putE E d a, addO hp nx ob, nx + ob.length⟩) : ARg P n w0 MP lb ops (⟨d, .call ⟨.value x, args, ats⟩, ty, pos, af, g⟩ :: os) Q ⟨E, hp, nx⟩ := by
  subst ha; exact R.callV hx hc hs ht hw hd (by unfold callS; rw [putA_eq]; exact h)
/-- is a slice nil? -/
theorem run_eqNil {E : Env} {w : World} {t t' e l c : Nat} {p : Option Addr} [hu : HasU P t (.slice e)] (h : G.ev E x = .slice p l c) : (execOp (G.ev E) ⟨d, .binOp .eql t x (.const (.slice none 0 0)) t', ty, pos, af, g⟩).run P w = .ok (.value (.bool p.isNone)) w := by
  have h1 := Lib.run_eql_slice_nil (P := P) w t e p l c 0 0 hu.u
  have hc : G.ev E (.const (.slice none 0 0)) = .slice none 0 0 := rfl
  simp [execOp, h, hc, eqGuard, h1]
theorem run_neNil {E : Env} {w : World} {t t' e l c : Nat} {p : Option Addr} [hu : HasU P t (.slice e)] (h : G.ev E x = .slice p l c) : (execOp (G.ev E) ⟨d, .binOp .neq t x (.const (.slice none 0 0)) t', ty, pos, af, g⟩).run P w = .ok (.value (.bool (!p.isNone))) w := by
  have h1 := run_neq_slice_nil_any (P := P) w t e p l c 0 0 hu.u
  have hc : G.ev E (.const (.slice none 0 0)) = .slice none 0 0 := rfl
  simp [execOp, h, hc, eqGuard, h1]
theorem A.eqN {t t' e : Nat} [hu : HasU P t (.slice e)] (hx : evA ⟨E, hp, nx⟩ x = .nl) : ASil true P w0 MP ⟨E, hp, nx⟩ ⟨d, .binOp .eql t x (.const (.slice none 0 0)) t', ty, pos, af, g⟩ (.b true) := fun C Im E w hm => by
  have h := hm.ev x
  rw [hx] at h
  refine ⟨.bool true, fun w' => ?_, rfl⟩
  unfold Sil
  exact fun w2 _ => run_eqNil h
theorem F.eqD {t t' e sz : Nat} {o : Bool} {xs : List (List AV)} [hu : HasU P t (.slice e)] (hx : evA ⟨E, hp, nx⟩ x = .dt o sz xs) (hw : awant n ops ⟨d, .binOp .eql t x (.const (.slice none 0 0)) t', ty, pos, af, g⟩ E true = true) (hd : fits n d = true)
    (h : ∀ b : Bool, (b = true → xs.length = 0) → ARg P n w0 MP lb ops os Q ⟨putE E d (.b b), hp, nx⟩) : ARg P n w0 MP lb ops (⟨d, .binOp .eql t x (.const (.slice none 0 0)) t', ty, pos, af, g⟩ :: os) Q ⟨E, hp, nx⟩ := fun E' w ⟨C, Im, hm⟩ => by
  have hv := hm.ev x
  rw [hx] at hv
  obtain ⟨p, c, h1, h2, h3, h4⟩ := hv.2.sl_inv
  refine G.Rg.val (awant_spec hm hw) (run_eqNil h1) hd ?_
  have := h p.isNone (fun hb => by
    rcases h4 with h4 | ⟨b, q, us, h5, _⟩
    · rw [h4]; rfl
    · rw [h5] at hb; cases hb)
  have hm' := hm.put d (a := .b p.isNone) (v := .bool p.isNone) rfl
  rw [putA_eq] at hm'
  exact this _ _ ⟨C, Im, hm'⟩
theorem F.eqS {t t' e o k off m : Nat} {l : Bool} {sz : Nat} {xs : List (List AV)} [hu : HasU P t (.slice e)] (hx : evA ⟨E, hp, nx⟩ x = .sl o k off m) (hh : hp o = .live l sz xs) (hn : xs.length = k) (hw : awant n ops ⟨d, .binOp .eql t x (.const (.slice none 0 0)) t', ty, pos, af, g⟩ E true = true) (hd : fits n d = true)
    (h : ∀ b : Bool, (b = true → m = 0) → ARg P n w0 MP lb ops os Q ⟨putE E d (.b b), hp, nx⟩) : ARg P n w0 MP lb ops (⟨d, .binOp .eql t x (.const (.slice none 0 0)) t', ty, pos, af, g⟩ :: os) Q ⟨E, hp, nx⟩ := fun E' w ⟨C, Im, hm⟩ => by
  have hv := hm.ev x
  rw [hx] at hv
  obtain ⟨p, c, h1, h2, h3, h4, h5⟩ := hv
  obtain ⟨cc, hcc, hO⟩ := hm.obj o l sz xs hh
  obtain ⟨s1, s2, s3⟩ := (h5 cc hcc).2 (by rw [hO.len, hn])
  refine G.Rg.val (awant_spec hm hw) (run_eqNil h1) hd ?_
  have := h p.isNone (fun hb => by
    by_cases h0 : m = 0
    · exact h0
    · obtain ⟨b, c', f1, f2⟩ := s3 h0
      rw [h1] at f2
      simp only [Value.slice.injEq] at f2
      rw [f2.1] at hb; cases hb)
  have hm' := hm.put d (a := .b p.isNone) (v := .bool p.isNone) rfl
  rw [putA_eq] at hm'
  exact this _ _ ⟨C, Im, hm'⟩

/-! ### slicing -/
theorem run_sliceB {P : Program} {w : World} (a : Int) (y : Nat) (c : BoundsCode) (h : 0 ≤ a ∧ a ≤ (y : Int)) : (Instr.sliceBound (.int .i64 a) y c).run P w = .ok a.toNat w := by
  simp [Instr.sliceBound, asIntOf, h]
def bndV (E : Env) (o : Option Operand) (dflt v : Nat) : Prop := match o with | none => v = dflt | some y => G.ev E y = .int .i64 (v : Int)
theorem run_slc {E : Env} {w : World} {t e sz bys l c lo hi' : Nat} {zz : Value} {p : Option Addr} {ol oh : Option Operand} [hu : HasU P t (.slice e)] [hi : HasI P e sz bys zz] (hx : G.ev E x = .slice p l c)
    (hl : bndV E ol 0 lo) (hh : bndV E oh l hi') (h1 : lo ≤ hi') (h2 : hi' ≤ c) :
    (execOp (G.ev E) ⟨d, .slice t x ol oh none, ty, pos, af, g⟩).run P w = .ok (.value (.slice (if c = lo then p else p.map (·.add (lo * sz))) (hi' - lo) (c - lo))) w := by
  have u := hu.und w
  have s := hi.sizeOf w
  cases ol with
  | none =>
    simp only [bndV] at hl
    subst hl
    cases oh with
    | none => simp only [bndV] at hh; subst hh; simp [execOp, Instr.sliceAt, Instr.slice, u, s, hx, Instr.sliceBounds]
    | some y =>
      simp only [bndV] at hh
      have b := fun w => run_sliceB (P := P) (w := w) (hi' : Int) c .sliceAcap ⟨by omega, by omega⟩
      simp [execOp, Instr.sliceAt, Instr.slice, u, s, hx, hh, Instr.sliceBounds, b]
  | some z =>
    simp only [bndV] at hl
    cases oh with
    | none =>
      simp only [bndV] at hh; subst hh
      have b := fun w => run_sliceB (P := P) (w := w) (lo : Int) hi' .sliceB ⟨by omega, by omega⟩
      simp [execOp, Instr.sliceAt, Instr.slice, u, s, hx, hl, Instr.sliceBounds, b]
    | some y =>
      simp only [bndV] at hh
      have b := fun w => run_sliceB (P := P) (w := w) (hi' : Int) c .sliceAcap ⟨by omega, by omega⟩
      have b2 := fun w => run_sliceB (P := P) (w := w) (lo : Int) hi' .sliceB ⟨by omega, by omega⟩
      simp [execOp, Instr.sliceAt, Instr.slice, u, s, hx, hl, hh, Instr.sliceBounds, b, b2]
def bndA (st : St) (o : Option Operand) (dflt v : Nat) : Prop := match o with | none => v = dflt | some y => evA st y = .i (v : Int)
theorem Sm.bnd {w0 : World} {MP : Fr} {st : St} {C : Nat → Option Conc} {Im : Nat → Prop} {E : Env} {w : World} (hm : Sm w0 MP st C Im E w) {o : Option Operand} {dflt v : Nat} (h : bndA st o dflt v) : bndV E o dflt v := by
  cases o with
  | none => exact h
  | some y => exact (hm.evI (show evA st y = .i (v : Int) from h)).1
theorem A.slcS {t e sz bys o k off m lo hi' : Nat} {zz : Value} {ol oh : Option Operand} {l : Bool} {xs : List (List AV)} [hu : HasU P t (.slice e)] [hi : HasI P e sz bys zz] (hx : evA ⟨E, hp, nx⟩ x = .sl o k off m) (hh : hp o = .live l sz xs) (hn : xs.length = k) (hl : bndA ⟨E, hp, nx⟩ ol 0 lo) (hr : bndA ⟨E, hp, nx⟩ oh m hi') (h1 : lo ≤ hi') (h2 : hi' ≤ m) :
    ASil true P w0 MP ⟨E, hp, nx⟩ ⟨d, .slice t x ol oh none, ty, pos, af, g⟩ (.sl o k (off + lo) (hi' - lo)) := fun C Im E w hm => by
  have hv := hm.ev x
  rw [hx] at hv
  obtain ⟨p, c, g1, g2, g3, g4, g5⟩ := hv
  obtain ⟨cc, hcc, hO⟩ := hm.obj o l sz xs hh
  obtain ⟨s1, s2, s3⟩ := (g5 cc hcc).2 (by rw [hO.len, hn])
  refine ⟨.slice (if c = lo then p else p.map (·.add (lo * sz))) (hi' - lo) (c - lo), fun w' => ?_, ?_⟩
  · unfold Sil
    exact fun w2 _ => run_slc g1 (hm.bnd hl) (hm.bnd hr) h1 (by omega)
  · refine ⟨_, _, rfl, by omega, by omega, g4, fun cc' hc' => ⟨(g5 cc' hc').1, fun hl' => ?_⟩⟩
    rw [hcc] at hc'
    cases hc'
    refine ⟨by omega, fun e1 e2 => ?_, fun hne => ?_⟩
    · have e3 : off = 0 := by omega
      have e4 : lo = 0 := by omega
      subst e3; subst e4
      have e5 : m = cc.len := by omega
      have e6 : hi' = m := by omega
      subst e6
      rw [← s2 rfl e5, g1]
      have e7 : (if c = 0 then p else p.map (·.add (0 * sz))) = p := by
        split
        · rfl
        · cases p <;> simp [Addr.add]
      rw [e7]; rfl
    · obtain ⟨b, c', f1, f2⟩ := s3 (by omega)
      rw [g1] at f2
      simp only [Value.slice.injEq, true_and] at f2
      obtain ⟨rfl, rfl⟩ := f2
      refine ⟨b, c - lo, f1, ?_⟩
      have hne' : c ≠ lo := by omega
      rw [if_neg hne']
      simp only [Option.map_some, G.add_none, hO.esz, Nat.add_mul]
theorem A.slcD {α : Type} [Enc α] {t e bys lo hi' : Nat} {zz : Value} {ol oh : Option Operand} {o oo : Bool} {ls : List α} [hu : HasU P t (.slice e)] [hi : HasI P e (Enc.nc α) bys zz] (hx : evA ⟨E, hp, nx⟩ x = .dt o (Enc.nc α) (V.E oo ls)) (hl : bndA ⟨E, hp, nx⟩ ol 0 lo) (hr : bndA ⟨E, hp, nx⟩ oh ls.length hi') (h1 : lo ≤ hi') (h2 : hi' ≤ ls.length) :
    ASil true P w0 MP ⟨E, hp, nx⟩ ⟨d, .slice t x ol oh none, ty, pos, af, g⟩ (.dt false (Enc.nc α) (V.E oo ((ls.take hi').drop lo))) := fun C Im E w hm => by
  have hv := hm.ev x
  rw [hx] at hv
  obtain ⟨p, c, g1, g2, g3, g4⟩ := hv.2.sl_inv
  rw [E_length] at g1 g2
  refine ⟨.slice (if c = lo then p else p.map (·.add (lo * Enc.nc α))) (hi' - lo) (c - lo), fun w' => ?_, rfl, ?_⟩
  · unfold Sil
    exact fun w2 _ => run_slc g1 (hm.bnd hl) (hm.bnd hr) h1 (by omega)
  · have hlen : (V.E oo ((ls.take hi').drop lo)).length = hi' - lo := by rw [E_length, List.length_drop, List.length_take]; omega
    have key : ∀ q k, hi' - lo ≤ k → k ≤ maxLen → (hi' - lo = 0 ∨ ∃ b o us, q = some ⟨b, o, none⟩ ∧ Im b ∧ Cells w b o us ∧ Imm Im w (V.E oo ((ls.take hi').drop lo)).flatten us) → Imm Im w [.dt false (Enc.nc α) (V.E oo ((ls.take hi').drop lo))] [.slice q (hi' - lo) k] := by
      rintro q k k1 k2 (h0 | ⟨b, o, us, rfl, f1, f2, f3⟩)
      · have : (ls.take hi').drop lo = [] := List.eq_nil_of_length_eq_zero (by rw [E_length] at hlen; omega)
        rw [this, h0]; exact .sl0 k2 .nil
      · rw [← hlen] at k1 ⊢
        exact .sl k1 k2 f1 f2 f3 (E_len _ _) .nil
    refine key _ _ (by omega) (by omega) ?_
    by_cases h0 : hi' - lo = 0
    · exact .inl h0
    · rcases g4 with g4 | ⟨b, q, us, rfl, f1, f2, f3, f4⟩
      · have := E_length oo ls
        rw [g4, List.length_nil] at this; omega
      · refine .inr ?_
        have hne : c ≠ lo := by omega
        rw [if_neg hne]
        have e1 : V.E oo ls = V.E oo (ls.take lo) ++ (V.E oo ((ls.take hi').drop lo) ++ V.E oo (ls.drop hi')) := by
          rw [← E_append, ← E_append]; congr 1
          have e2 : ls.take lo = (ls.take hi').take lo := by rw [List.take_take, Nat.min_eq_left h1]
          rw [e2, ← List.append_assoc, List.take_append_drop, List.take_append_drop]
        rw [e1, List.flatten_append, List.flatten_append] at f3
        obtain ⟨v1, v2, rfl, k1, k2⟩ := f3.split
        obtain ⟨v3, v4, rfl, k3, k4⟩ := k2.split
        have l1 := k1.length
        rw [flatten_len (sz := Enc.nc α) (fun x hx => E_len _ _ x hx), E_length, List.length_take, Nat.min_eq_left (by omega)] at l1
        have h7 := f2.drop
        rw [l1] at h7
        exact ⟨b, q + lo * Enc.nc α, v3, by simp [G.add_none], f1, h7.take, k3⟩
theorem A.slcN {t e sz bys lo hi' : Nat} {zz : Value} {ol oh : Option Operand} [hu : HasU P t (.slice e)] [hi : HasI P e sz bys zz] (hx : evA ⟨E, hp, nx⟩ x = .nl) (hl : bndA ⟨E, hp, nx⟩ ol 0 lo) (hr : bndA ⟨E, hp, nx⟩ oh 0 hi') (h1 : lo ≤ hi') (h2 : hi' = 0) :
    ASil true P w0 MP ⟨E, hp, nx⟩ ⟨d, .slice t x ol oh none, ty, pos, af, g⟩ .nl := fun C Im E w hm => by
  have hv := hm.ev x
  rw [hx] at hv
  subst h2
  obtain rfl : lo = 0 := by omega
  refine ⟨.slice none 0 0, fun w' => ?_, rfl⟩
  unfold Sil
  intro w2 _
  have := run_slc (P := P) (w := w2) (d := d) (ty := ty) (pos := pos) (af := af) (g := g) (t := t) (show G.ev E x = .slice none 0 0 from hv) (hm.bnd hl) (hm.bnd hr) (Nat.le_refl _) (Nat.le_refl _)
  simpa using this

/-! ### struct literals -/
/-- where the fields of a struct lie: offset and cells -/
class HasP (P : Program) (t : Nat) (pl : outParam (List (Nat × Nat))) : Prop where
  h : ∃ fields : Array Field, P.underlying t = some (.struct fields) ∧ ∀ w, (fields.mapM fun (f : Field) => Functor.map (Prod.mk f.offset) (sizeOf f.type)).run P w = .ok pl.toArray w
def lay1 (cs : List AV) (o : Nat) (ds : List AV) : List AV := cs.take o ++ ds ++ cs.drop (o + ds.length)
def fillA (pl : List (Nat × Nat)) : List AV → List (Nat × List AV) → Option (List AV)
  | cs, [] => some cs
  | cs, (i, ds) :: ps => match pl[i]? with
    | some (o, s) => bif Nat.beq ds.length s && Nat.ble (o + ds.length) cs.length then fillA pl (lay1 cs o ds) ps else none
    | none => none
theorem RVL.lay1 {N : Nat} {C : Nat → Option Conc} {Im : Nat → Prop} {w : World} {cs ds : List AV} {us vs : List Value} (h : RVL N C Im w cs us) (k : RVL N C Im w ds vs) (o : Nat) : RVL N C Im w (V.lay1 cs o ds) (us.take o ++ vs ++ us.drop (o + vs.length)) := by
  have tk : ∀ {cs : List AV} {us : List Value} (o : Nat), RVL N C Im w cs us → RVL N C Im w (cs.take o) (us.take o) ∧ RVL N C Im w (cs.drop o) (us.drop o) := by
    intro cs
    induction cs with
    | nil => intro us o h; have : us = [] := h; subst this; simp; exact rfl
    | cons a cs ih =>
      rintro us o ⟨v, us', rfl, h2, h3⟩
      cases o with
      | zero => exact ⟨rfl, v, us', rfl, h2, h3⟩
      | succ o => exact ⟨⟨v, _, rfl, h2, (ih o h3).1⟩, (ih o h3).2⟩
  have hl := RVL.length k
  unfold V.lay1
  rw [← hl]
  exact ((tk o h).1.append k).append (tk _ h).2
theorem fill_spec {N : Nat} {C : Nat → Option Conc} {Im : Nat → Prop} {w : World} {pl : List (Nat × Nat)} : ∀ {ps : List (Nat × List AV)} {vs : List (Nat × Value)} {cs rs : List AV} {us : List Value}, fillA pl cs ps = some rs → RVL N C Im w cs us → ps.length = vs.length →
    (∀ (j i i' : Nat) ds v, ps[j]? = some (i, ds) → vs[j]? = some (i', v) → i = i' ∧ ∃ ws, v.cells = ws.toArray ∧ RVL N C Im w ds ws) → ∃ xs, Instr.fill (pl.toArray[·]?) us.toArray vs = some xs.toArray ∧ RVL N C Im w rs xs
  | [], [], cs, rs, us, h, hr, _, _ => by
    simp only [fillA, Option.some.injEq] at h
    subst h
    exact ⟨us, rfl, hr⟩
  | (i, ds) :: ps, (i', v) :: vs, cs, rs, us, h, hr, hl, hp => by
    obtain ⟨rfl, ws, h1, h2⟩ := hp 0 i i' ds v rfl rfl
    simp only [fillA] at h
    cases hpl : pl[i]? with
    | none => rw [hpl] at h; cases h
    | some p =>
      obtain ⟨o, s⟩ := p
      rw [hpl] at h
      simp only at h
      cases hb : (Nat.beq ds.length s && Nat.ble (o + ds.length) cs.length) with
      | false => rw [hb] at h; cases h
      | true =>
        rw [hb] at h
        rw [Bool.and_eq_true] at hb
        have b1 := Nat.eq_of_beq_eq_true hb.1
        have b2 := leB hb.2
        have lw := RVL.length h2
        have lu := RVL.length hr
        simp only [cond_true] at h
        obtain ⟨xs, g1, g2⟩ := fill_spec (ps := ps) (vs := vs) h (hr.lay1 h2 o) (by simpa using hl) (fun j i i' ds v h1 h2 => hp (j + 1) i i' ds v (by simpa using h1) (by simpa using h2))
        refine ⟨xs, ?_, g2⟩
        have e1 : pl.toArray[i]? = some (o, s) := by simpa using hpl
        simp only [Instr.fill, e1, h1, List.size_toArray]
        rw [if_neg (by simp; omega)]
        have hov := overlay ws o 0 us (by simp; omega)
        have e : (ws.toArray.zipIdx.foldl (fun (cs : Array Value) x => match x with | (c, j) => cs.setIfInBounds (o + j) c) us.toArray) = (us.take o ++ ws ++ us.drop (o + ws.length)).toArray := by
          rw [← Array.foldl_toList, Array.toList_zipIdx]
          exact hov.trans (by simp)
        rw [e]; exact g1
theorem A.bld {t sz : Nat} {pl : List (Nat × Nat)} {ps : Array (Nat × Operand)} {cs rs : List AV} {qs : List (Nat × List AV)} [hz : HasZ P t sz cs] [hpl : HasP P t pl] (hq : (ps.toList.map fun p => (p.1, cellsA (evA ⟨E, hp, nx⟩ p.2))) = qs) (hc : (ps.toList.all fun p => (cellsA (evA ⟨E, hp, nx⟩ p.2)).all cellB) = true) (hf : fillA pl cs qs = some rs) :
    ASil true P w0 MP ⟨E, hp, nx⟩ ⟨d, .build t ps, ty, pos, af, g⟩ (.agg rs) := fun C Im E w hm => by
  subst hq
  obtain ⟨bys, zz, us, hi, z1, z2, z3, z4⟩ := hz.h
  obtain ⟨fields, f1, f2⟩ := hpl.h
  have hz' : RVL nx C Im w cs us := by rw [← z2]; exact RVL.cst1 us
  have hp' : ∃ vs, (ps.toList.map fun p => (p.1, G.ev E p.2)) = vs := ⟨_, rfl⟩
  obtain ⟨xs, x1, x2⟩ := fill_spec (vs := ps.toList.map fun p => (p.1, G.ev E p.2)) hf hz' (by simp) (fun j i i' ds v h1 h2 => by
    rw [List.getElem?_map] at h1 h2
    obtain ⟨p, hp1, hp2⟩ := Option.map_eq_some_iff.1 h1
    rw [hp1] at h2
    simp only [Option.map_some, Option.some.injEq, Prod.mk.injEq] at h2 hp2
    obtain ⟨rfl, rfl⟩ := h2
    obtain ⟨rfl, rfl⟩ := hp2
    exact ⟨rfl, (hm.ev p.2).cells (List.all_eq_true.1 hc p (List.mem_of_getElem? hp1))⟩)
  refine ⟨.agg xs.toArray, fun w' => ?_, xs, rfl, x2⟩
  unfold Sil
  intro w2 _
  have h1 := hi.zeroV w2
  have h2 := f2 w2
  have h3 := run_underlying (P := P) (w := w2) f1
  have e1 : (Array.map (fun x : Nat × Operand => match x with | (i, x) => (i, G.ev E x)) ps).toList = ps.toList.map fun p => (p.1, G.ev E p.2) := by simp
  simp only [List.getElem?_toArray] at x1
  simp [execOp, Instr.build, h1, h3, h2, z1, x1]
inductive Bq (st : St) : List (Nat × Operand) → List (Nat × List AV) → Prop
  | nil : Bq st [] []
  | cons {i : Nat} {x : Operand} {a : AV} {ps : List (Nat × Operand)} {qs : List (Nat × List AV)} : evA st x = a → (cellsA a).all cellB = true → Bq st ps qs → Bq st ((i, x) :: ps) ((i, cellsA a) :: qs)
theorem Bq.spec {st : St} {ps : List (Nat × Operand)} {qs : List (Nat × List AV)} (h : Bq st ps qs) : (ps.map fun p => (p.1, cellsA (evA st p.2))) = qs ∧ (ps.all fun p => (cellsA (evA st p.2)).all cellB) = true := by
  induction h with
  | nil => exact ⟨rfl, rfl⟩
  | cons hx hc _ ih => exact ⟨by rw [List.map_cons, ih.1, hx], by rw [List.all_cons, ih.2, hx, hc]; rfl⟩
theorem A.bl {t sz : Nat} {pl : List (Nat × Nat)} {ps : Array (Nat × Operand)} {cs rs : List AV} {qs : List (Nat × List AV)} [hz : HasZ P t sz cs] [hpl : HasP P t pl] (hq : Bq ⟨E, hp, nx⟩ ps.toList qs) (hf : fillA pl cs qs = some rs) : ASil true P w0 MP ⟨E, hp, nx⟩ ⟨d, .build t ps, ty, pos, af, g⟩ (.agg rs) := A.bld hq.spec.1 hq.spec.2 hf
theorem F.litQ {t e sz bys len : Nat} {zz : Value} {ps : Array (Nat × Operand)} {qs : List (Nat × List AV)} {xs : List (List AV)} [hu : HasU P t (.slice e)] [hi : HasI P e sz bys zz] (hq : Bq ⟨E, hp, nx⟩ ps.toList qs) (hxs : qs.map (·.2) = xs) (hk : ps.toList.map (·.1) = List.range' 0 ps.toList.length) (hlen : ps.toList.length = len) (hsz : Nat.ble (len * sz) 16777216 = true) (hs0 : Nat.blt 0 sz = true)
    (hc : (xs.all fun x => Nat.beq x.length sz) = true) (hw : awant n ops ⟨d, .buildSlice t len ps, ty, pos, af, g⟩ E true = true) (hd : fits n d = true)
    (h : ARg P n w0 MP lb ops os Q ⟨putE E d (.sl nx len 0 len), updA hp nx (.live false sz xs), nx + 1⟩) : ARg P n w0 MP lb ops (⟨d, .buildSlice t len ps, ty, pos, af, g⟩ :: os) Q ⟨E, hp, nx⟩ := by
  obtain ⟨h1, h2⟩ := hq.spec
  have e : (ps.toList.map fun p => cellsA (evA ⟨E, hp, nx⟩ p.2)) = xs := by rw [← hxs, ← h1, List.map_map]; rfl
  refine F.litN e hk hlen hsz hs0 ?_ hw hd h
  rw [List.all_eq_true] at h2 hc ⊢
  intro p hp
  rw [Bool.and_eq_true]
  exact ⟨h2 p hp, hc _ (by rw [← e]; exact List.mem_map.2 ⟨p, hp, rfl⟩)⟩
end
end Go.Proofs.Ytcalkmlaodjpaaa.V
