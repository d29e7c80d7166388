/- The abstract state of a call, and what it says of slots and memory. Over any program; nothing is claimed of the given one. -/
import Derived.Test.YtcalkmlaodjpaaaHa
namespace Go.Proofs.Ytcalkmlaodjpaaa.V
open Go.RowKit G
set_option linter.unusedVariables false
set_option linter.unusedSimpArgs false

/-! ### data as cells -/
/-- no objects, no pointers -/
def pureB : AV → Bool
  | .i _ | .b _ | .dt _ _ _ => true
  | _ => false
mutual
/-- all of it is in memory of its own -/
def ownA : AV → Bool
  | .i _ | .b _ => true
  | .dt true _ xs => ownLL xs
  | _ => false
def ownL' : List AV → Bool
  | [] => true
  | a :: l => ownA a && ownL' l
def ownLL : List (List AV) → Bool
  | [] => true
  | x :: l => ownL' x && ownLL l
end
theorem ownL'_all : ∀ l : List AV, ownL' l = l.all ownA
  | [] => rfl
  | a :: l => by rw [ownL', ownL'_all l, List.all_cons]
theorem ownLL_all : ∀ l : List (List AV), ownLL l = l.flatten.all ownA
  | [] => rfl
  | a :: l => by rw [ownLL, ownLL_all l, ownL'_all, List.flatten_cons, List.all_append]
class Enc (α : Type) where
  enc : Bool → α → List AV
  nc : Nat
  len : ∀ o x, (enc o x).length = nc
  frz : ∀ o x, frzL (enc o x) = enc false x
  pure : ∀ o x, (enc o x).all pureB = true
  own : ∀ x, ownL' (enc true x) = true
open Enc (enc)
def E {α : Type} [Enc α] (o : Bool) (l : List α) : List (List AV) := l.map (enc o)
section
variable {α : Type} [Enc α]
theorem E_length (o : Bool) (l : List α) : (E o l).length = l.length := List.length_map ..
theorem E_frz (o : Bool) (l : List α) : frzLL (E o l) = E false l := by
  rw [frzLL_map, E, List.map_map]; exact List.map_congr_left fun x _ => Enc.frz o x
theorem E_append (o : Bool) (l m : List α) : E o (l ++ m) = E o l ++ E o m := List.map_append
theorem E_get (o : Bool) (l : List α) [Inhabited α] {k : Nat} (h : k < l.length) : (E o l)[k]? = some (enc o (l.getD k default)) := by
  simp [E, h]
theorem E_set (o : Bool) (l : List α) (k : Nat) (x : α) : (E o l).set k (enc o x) = E o (l.set k x) := by simp [E, List.map_set]
theorem E_len (o : Bool) (l : List α) : ∀ x ∈ E o l, x.length = Enc.nc α := by
  intro x hx; obtain ⟨y, _, rfl⟩ := List.mem_map.1 hx; exact Enc.len o y
theorem E_pure (o : Bool) (l : List α) : (E o l).flatten.all pureB = true := by
  rw [List.all_eq_true]
  intro a ha
  obtain ⟨x, hx, ha⟩ := List.mem_flatten.1 ha
  obtain ⟨y, _, rfl⟩ := List.mem_map.1 hx
  exact List.all_eq_true.1 (Enc.pure o y) a ha
theorem E_own (l : List α) : ownLL (E true l) = true := by
  rw [ownLL_all, List.all_eq_true]
  intro a ha
  obtain ⟨x, hx, ha⟩ := List.mem_flatten.1 ha
  obtain ⟨y, _, rfl⟩ := List.mem_map.1 hx
  have := Enc.own y
  rw [ownL'_all] at this
  exact List.all_eq_true.1 this a ha
theorem E_nil (o : Bool) : E o ([] : List α) = [] := rfl
theorem E_one (o : Bool) (x : α) : E o [x] = [enc o x] := rfl
theorem E_take (o : Bool) (l : List α) (k : Nat) : (E o l).take k = E o (l.take k) := by simp [E, List.map_take]
theorem E_drop (o : Bool) (l : List α) (k : Nat) : (E o l).drop k = E o (l.drop k) := by simp [E, List.map_drop]
end
instance : Enc Int := ⟨fun _ n => [.i n], 1, fun _ _ => rfl, fun _ _ => rfl, fun _ _ => rfl, fun _ => rfl⟩
instance : Enc Bool := ⟨fun _ n => [.b n], 1, fun _ _ => rfl, fun _ _ => rfl, fun _ _ => rfl, fun _ => rfl⟩
instance {α : Type} [Enc α] : Enc (List α) := ⟨fun o l => [.dt o (Enc.nc α) (E o l)], 1, fun _ _ => rfl, fun o l => by simp [frzL, frz, E_frz], fun _ _ => rfl, fun l => by simp [ownL', ownA, E_own]⟩

/-! ### flat lists -/
theorem flatten_take {α : Type} {sz : Nat} : ∀ {xs : List (List α)} {k : Nat}, (∀ x ∈ xs, x.length = sz) → k ≤ xs.length → (xs.take k).flatten.length = k * sz
  | xs, 0, _, _ => by simp
  | [], k + 1, _, h => by simp at h
  | x :: xs, k + 1, hx, h => by
    have := flatten_take (xs := xs) (k := k) (fun y hy => hx y (by simp [hy])) (by simpa using h)
    simp only [List.take_succ_cons, List.flatten_cons, List.length_append, this, hx x (by simp), Nat.add_mul]; omega
theorem flatten_cut {α : Type} {xs : List (List α)} {k : Nat} {x : List α} (h : xs[k]? = some x) : xs.flatten = (xs.take k).flatten ++ (x ++ (xs.drop (k + 1)).flatten) := by
  have hlt : k < xs.length := (List.getElem?_eq_some_iff.1 h).1
  have e : xs = xs.take k ++ (x :: xs.drop (k + 1)) := by
    rw [← (List.getElem?_eq_some_iff.1 h).2, List.getElem_cons_drop, List.take_append_drop]
  have := congrArg List.flatten e
  rw [this, List.flatten_append, List.flatten_cons]
theorem flatten_set {α : Type} {xs : List (List α)} {k : Nat} {x y : List α} (h : xs[k]? = some x) : (xs.set k y).flatten = (xs.take k).flatten ++ (y ++ (xs.drop (k + 1)).flatten) := by
  have hlt : k < xs.length := (List.getElem?_eq_some_iff.1 h).1
  have := flatten_cut (xs := xs.set k y) (k := k) (x := y) (by simp [hlt])
  rw [this]; simp [List.take_set_of_le, List.drop_set_of_lt]
theorem flatten_len {α : Type} {sz : Nat} {xs : List (List α)} (hx : ∀ x ∈ xs, x.length = sz) : xs.flatten.length = xs.length * sz := by
  have := flatten_take (k := xs.length) hx (Nat.le_refl _)
  rwa [List.take_length] at this
theorem flatten_get {α : Type} {sz : Nat} {xs : List (List α)} (hx : ∀ x ∈ xs, x.length = sz) {k j : Nat} {x : List α} {a : α} (h : xs[k]? = some x) (hj : x[j]? = some a) : xs.flatten[k * sz + j]? = some a := by
  have hlt : k < xs.length := (List.getElem?_eq_some_iff.1 h).1
  have hj' : j < x.length := (List.getElem?_eq_some_iff.1 hj).1
  rw [flatten_cut h, List.getElem?_append_right (by rw [flatten_take hx (by omega)]; omega), flatten_take hx (by omega), Nat.add_sub_cancel_left, List.getElem?_append_left hj', hj]

/-! ### objects -/
/-- an object in memory: the slice of all of it, how long it is, cells an element, the cells, the blocks below -/
structure Conc where
  hv : Value
  len : Nat
  sz : Nat
  us : List Value
  F : List Nat
def SlOk (cc : Conc) (off m : Nat) (v : Value) : Prop :=
  off + m ≤ cc.len ∧ (off = 0 → m = cc.len → v = cc.hv) ∧ (m ≠ 0 → ∃ b c, own cc.hv = some b ∧ v = .slice (some ⟨b, off * cc.sz, none⟩) m c)
mutual
/-- what an abstract value says of a value -/
def RV (N : Nat) (C : Nat → Option Conc) (Im : Nat → Prop) (w : World) : AV → Value → Prop
  | .i n, v => v = .int .i64 n ∧ In64 n
  | .b x, v => v = .bool x
  | .dt o sz xs, v => o = false ∧ Imm Im w [.dt false sz xs] [v]
  | .sl o n off m, v => ∃ p c, v = .slice p m c ∧ m ≤ c ∧ c ≤ maxLen ∧ o < N ∧ ∀ cc, C o = some cc → n ≤ cc.len ∧ (cc.len = n → SlOk cc off m v)
  | .pt o n k j, v => ∃ b q, v = .pointer (some ⟨b, q, none⟩) ∧ o < N ∧ ∀ cc, C o = some cc → n ≤ cc.len ∧ (cc.len = n → own cc.hv = some b ∧ q = k * cc.sz + j)
  | .ip cs, v => ∃ b o us, v = .pointer (some ⟨b, o, none⟩) ∧ Im b ∧ Cells w b o us ∧ Imm Im w cs us
  | .fn f cs, v => ∃ us, v = .func (.func f) #[] us.toArray ∧ RVL N C Im w cs us
  | .agg cs, v => ∃ us, v = .agg us.toArray ∧ RVL N C Im w cs us
  | .tu cs, v => ∃ us, v = .tuple us.toArray ∧ RVL N C Im w cs us
  | .nl, v => v = .slice none 0 0
  | .em, v => ∃ p, v = .slice p 0 0
  | .no, v => True
def RVL (N : Nat) (C : Nat → Option Conc) (Im : Nat → Prop) (w : World) : List AV → List Value → Prop
  | [], us => us = []
  | a :: cs, us => ∃ v vs, us = v :: vs ∧ RV N C Im w a v ∧ RVL N C Im w cs vs
end
/-- what is said by C' is said by C, or is not said of the slots yet -/
def CLe (N : Nat) (C C' : Nat → Option Conc) : Prop := ∀ o, o < N → ∀ cc', C' o = some cc' → ∃ cc, C o = some cc ∧ ((cc.len = cc'.len ∧ cc.hv = cc'.hv ∧ cc.sz = cc'.sz) ∨ cc.len < cc'.len)
theorem CLe.refl (N : Nat) (C : Nat → Option Conc) : CLe N C C := fun o _ cc h => ⟨cc, h, .inl ⟨rfl, rfl, rfl⟩⟩
theorem SlOk.same {cc cc' : Conc} {off m : Nat} {v : Value} (h : SlOk cc off m v) (hl : cc.len = cc'.len) (hh : cc.hv = cc'.hv) (hs : cc.sz = cc'.sz) : SlOk cc' off m v := by
  unfold SlOk at *; rw [← hl, ← hh, ← hs]; exact h
section
variable {N M : Nat} {C C' : Nat → Option Conc} {Im Im' : Nat → Prop} {w w' : World}
mutual
theorem RV.mono (hI : ∀ k, Im k → Im' k) (hw : ∀ k, Im k → w'.heap[k]? = w.heap[k]?) (hN : N ≤ M) (hC : CLe N C C') : ∀ (a : AV) (v : Value), RV N C Im w a v → RV M C' Im' w' a v
  | .i n, v, h => h
  | .b x, v, h => h
  | .dt o sz xs, v, ⟨h1, h2⟩ => ⟨h1, h2.mono hI hw⟩
  | .sl o n off m, v, ⟨p, c, h1, h2, h3, h4, h5⟩ => ⟨p, c, h1, h2, h3, Nat.lt_of_lt_of_le h4 hN, fun cc' hcc => by
      obtain ⟨cc, g1, g2⟩ := hC o h4 cc' hcc
      have := h5 cc g1
      rcases g2 with ⟨e1, e2, e3⟩ | g2
      · exact ⟨by omega, fun e => (this.2 (by omega)).same e1 e2 e3⟩
      · exact ⟨by omega, fun e => by omega⟩⟩
  | .pt o n k j, v, ⟨b, q, h1, h4, h5⟩ => ⟨b, q, h1, Nat.lt_of_lt_of_le h4 hN, fun cc' hcc => by
      obtain ⟨cc, g1, g2⟩ := hC o h4 cc' hcc
      have := h5 cc g1
      rcases g2 with ⟨e1, e2, e3⟩ | g2
      · exact ⟨by omega, fun e => by rw [← e2, ← e3]; exact this.2 (by omega)⟩
      · exact ⟨by omega, fun e => by omega⟩⟩
  | .ip cs, v, ⟨b, o, us, h1, h2, h3, h4⟩ => ⟨b, o, us, h1, hI _ h2, h3.same (hw _ h2), h4.mono hI hw⟩
  | .fn f cs, v, ⟨us, h1, h2⟩ => ⟨us, h1, RVL.mono hI hw hN hC cs us h2⟩
  | .agg cs, v, ⟨us, h1, h2⟩ => ⟨us, h1, RVL.mono hI hw hN hC cs us h2⟩
  | .tu cs, v, ⟨us, h1, h2⟩ => ⟨us, h1, RVL.mono hI hw hN hC cs us h2⟩
  | .nl, v, h => h
  | .em, v, h => h
  | .no, v, _ => trivial
theorem RVL.mono (hI : ∀ k, Im k → Im' k) (hw : ∀ k, Im k → w'.heap[k]? = w.heap[k]?) (hN : N ≤ M) (hC : CLe N C C') : ∀ (cs : List AV) (us : List Value), RVL N C Im w cs us → RVL M C' Im' w' cs us
  | [], us, h => h
  | a :: cs, us, ⟨v, vs, h1, h2, h3⟩ => ⟨v, vs, h1, RV.mono hI hw hN hC a v h2, RVL.mono hI hw hN hC cs vs h3⟩
end
mutual
theorem RV.bnd : ∀ (a : AV) (v : Value), RV N C Im w a v → Bnd N a
  | .i n, v, h => trivial
  | .b x, v, h => trivial
  | .dt o sz xs, v, _ => trivial
  | .sl o n off m, v, ⟨p, c, h1, h2, h3, h4, h5⟩ => h4
  | .pt o n k j, v, ⟨b, q, h1, h4, h5⟩ => h4
  | .ip cs, v, _ => trivial
  | .fn f cs, v, ⟨us, h1, h2⟩ => RVL.bnd cs us h2
  | .agg cs, v, ⟨us, h1, h2⟩ => RVL.bnd cs us h2
  | .tu cs, v, ⟨us, h1, h2⟩ => RVL.bnd cs us h2
  | .nl, v, _ => trivial
  | .em, v, _ => trivial
  | .no, v, _ => trivial
theorem RVL.bnd : ∀ (cs : List AV) (us : List Value), RVL N C Im w cs us → BndL N cs
  | [], us, h => trivial
  | a :: cs, us, ⟨v, vs, h1, h2, h3⟩ => ⟨RV.bnd a v h2, RVL.bnd cs vs h3⟩
end
mutual
/-- fewer objects -/
theorem RV.cut (hC : ∀ o, o < M → ∀ cc, C' o = some cc → C o = some cc) : ∀ (a : AV) (v : Value), Bnd M a → RV N C Im w a v → RV M C' Im w a v
  | .i n, v, _, h => h
  | .b x, v, _, h => h
  | .dt o sz xs, v, _, h => h
  | .sl o n off m, v, hb, ⟨p, c, h1, h2, h3, h4, h5⟩ => ⟨p, c, h1, h2, h3, hb, fun cc hcc => h5 cc (hC o hb cc hcc)⟩
  | .pt o n k j, v, hb, ⟨b, q, h1, h4, h5⟩ => ⟨b, q, h1, hb, fun cc hcc => h5 cc (hC o hb cc hcc)⟩
  | .ip cs, v, _, h => h
  | .fn f cs, v, hb, ⟨us, h1, h2⟩ => ⟨us, h1, RVL.cut hC cs us hb h2⟩
  | .agg cs, v, hb, ⟨us, h1, h2⟩ => ⟨us, h1, RVL.cut hC cs us hb h2⟩
  | .tu cs, v, hb, ⟨us, h1, h2⟩ => ⟨us, h1, RVL.cut hC cs us hb h2⟩
  | .nl, v, _, h => h
  | .em, v, _, h => h
  | .no, v, _, _ => trivial
theorem RVL.cut (hC : ∀ o, o < M → ∀ cc, C' o = some cc → C o = some cc) : ∀ (cs : List AV) (us : List Value), BndL M cs → RVL N C Im w cs us → RVL M C' Im w cs us
  | [], us, _, h => h
  | a :: cs, us, hb, ⟨v, vs, h1, h2, h3⟩ => ⟨v, vs, h1, RV.cut hC a v hb.1 h2, RVL.cut hC cs vs hb.2 h3⟩
end
theorem RV.imm {a : AV} {v : Value} (h : Imm Im w [a] [v]) : RV N C Im w a v := by
  cases h with
  | int h1 _ => exact ⟨rfl, h1⟩
  | bool _ => rfl
  | no _ _ => trivial
  | sl0 h1 h2 => exact ⟨rfl, .sl0 h1 .nil⟩
  | sl h1 h2 h3 h4 h5 h6 h7 => exact ⟨rfl, .sl h1 h2 h3 h4 h5 h6 .nil⟩

/-- the cells of an object -/
inductive LayC (N : Nat) (C : Nat → Option Conc) (Im : Nat → Prop) (w : World) : List AV → List Value → List Nat → Prop
  | nil : LayC N C Im w [] [] []
  | at1 {a : AV} {v : Value} {cs : List AV} {vs : List Value} {F : List Nat} : RV N C Im w a v → v.oneCell' = true → LayC N C Im w cs vs F → LayC N C Im w (a :: cs) (v :: vs) F
  | ow {sz : Nat} {xs : List (List AV)} {v : Value} {F1 : List Nat} {cs : List AV} {vs : List Value} {F : List Nat} : OwnC Im w [.dt true sz xs] [v] F1 → LayC N C Im w cs vs F → LayC N C Im w (.dt true sz xs :: cs) (v :: vs) (F1 ++ F)

theorem LayC.mono (hI : ∀ k, Im k → Im' k) (hw : ∀ k, Im k → w'.heap[k]? = w.heap[k]?) (hN : N ≤ M) (hC : CLe N C C') {cs : List AV} {vs : List Value} {F : List Nat} (h : LayC N C Im w cs vs F) (hF : ∀ k ∈ F, w'.heap[k]? = w.heap[k]?) : LayC M C' Im' w' cs vs F := by
  induction h with
  | nil => exact .nil
  | at1 h1 h2 _ ih => exact .at1 (RV.mono hI hw hN hC _ _ h1) h2 (ih hF)
  | ow h1 _ ih => exact .ow (h1.mono hI hw fun k hk => hF k (by simp [hk])) (ih fun k hk => hF k (by simp [hk]))
theorem LayC.length {cs : List AV} {vs : List Value} {F : List Nat} (h : LayC N C Im w cs vs F) : vs.length = cs.length := by
  induction h <;> simp_all
theorem LayC.one {cs : List AV} {vs : List Value} {F : List Nat} (h : LayC N C Im w cs vs F) : oneAll vs := by
  induction h with
  | nil => exact oneAll_nil
  | at1 _ h1 _ ih => exact oneAll_cons h1 ih
  | ow h1 _ ih => exact oneAll_cons (h1.one _ (by simp)) ih
theorem LayC.wb {cs : List AV} {vs : List Value} {F : List Nat} (h : LayC N C Im w cs vs F) : ∀ k ∈ F, Wb w k := by
  induction h with
  | nil => intro k hk; cases hk
  | at1 _ _ _ ih => exact ih
  | ow h1 _ ih =>
    intro k hk
    rcases List.mem_append.1 hk with hk | hk
    · exact h1.wb k hk
    · exact ih k hk
theorem LayC.append {cs ds : List AV} {vs us : List Value} {F G : List Nat} (h : LayC N C Im w cs vs F) (k : LayC N C Im w ds us G) : LayC N C Im w (cs ++ ds) (vs ++ us) (F ++ G) := by
  induction h with
  | nil => exact k
  | at1 h1 h2 _ ih => exact .at1 h1 h2 ih
  | ow h1 _ ih => rw [List.append_assoc]; exact .ow h1 ih
theorem LayC.split : ∀ {cs ds : List AV} {vs : List Value} {F : List Nat}, LayC N C Im w (cs ++ ds) vs F → ∃ v1 v2 F1 F2, vs = v1 ++ v2 ∧ F = F1 ++ F2 ∧ LayC N C Im w cs v1 F1 ∧ LayC N C Im w ds v2 F2
  | [], ds, vs, F, h => ⟨[], vs, [], F, rfl, rfl, .nil, h⟩
  | a :: cs, ds, vs, F, h => by
    rw [List.cons_append] at h
    cases h with
    | at1 h1 h2 h => obtain ⟨v1, v2, F1, F2, rfl, rfl, a, b⟩ := LayC.split h; exact ⟨_ :: v1, v2, F1, F2, rfl, rfl, .at1 h1 h2 a, b⟩
    | ow h1 h => obtain ⟨v1, v2, F1, F2, rfl, rfl, a, b⟩ := LayC.split h; exact ⟨_ :: v1, v2, _ ++ F1, F2, rfl, (List.append_assoc ..).symm, .ow h1 a, b⟩
theorem Bnd.pure {a : AV} (h : pureB a = true) (N : Nat) : Bnd N a := by
  cases a <;> first | trivial | cases h
theorem LayC.bnd {cs : List AV} {vs : List Value} {F : List Nat} (h : LayC N C Im w cs vs F) : BndL N cs := by
  induction h with
  | nil => trivial
  | at1 h1 _ _ ih => exact ⟨RV.bnd _ _ h1, ih⟩
  | ow _ _ ih => exact ⟨trivial, ih⟩
theorem LayC.cutN (hC : ∀ o, o < M → ∀ cc, C' o = some cc → C o = some cc) {cs : List AV} {vs : List Value} {F : List Nat} (h : LayC N C Im w cs vs F) (hb : BndL M cs) : LayC M C' Im w cs vs F := by
  induction h with
  | nil => exact .nil
  | at1 h1 h2 _ ih => exact .at1 (RV.cut hC _ _ hb.1 h1) h2 (ih hb.2)
  | ow h1 _ ih => exact .ow h1 (ih hb.2)
theorem RV.pure {a : AV} {v : Value} (h : RV N C Im w a v) (hp : pureB a = true) : Imm Im w [a] [v] := by
  cases a with
  | i n => obtain ⟨rfl, h⟩ := h; exact .int h .nil
  | b x => cases h; exact .bool .nil
  | dt o sz xs => obtain ⟨rfl, h⟩ := h; exact h
  | _ => cases hp
theorem LayC.pure {cs : List AV} {vs : List Value} {F : List Nat} (h : LayC N C Im w cs vs F) (hp : cs.all pureB = true) : OwnC Im w cs vs F := by
  induction h with
  | nil => exact .nil
  | at1 h1 _ _ ih =>
    rw [List.all_cons, Bool.and_eq_true] at hp
    exact .at1 (RV.pure h1 hp.1) (ih hp.2)
  | ow h1 _ ih =>
    rw [List.all_cons, Bool.and_eq_true] at hp
    have := h1.append (ih hp.2)
    simpa using this
theorem LayC.own {cs : List AV} {vs : List Value} {F : List Nat} (h : OwnC Im w cs vs F) : LayC N C Im w cs vs F := by
  induction h with
  | nil => exact .nil
  | at1 h1 _ ih => exact .at1 (RV.imm h1) (h1.one _ (by simp)) ih
  | @ow sz xs v us G cs vs F h1 h2 h3 _ _ ih => exact .ow (F1 := ownL v ++ G) (by simpa using OwnC.ow h1 h2 h3 .nil) ih
/-- cells from place i on -/
theorem LayC.cut {cs ds : List AV} {vs : List Value} {F : List Nat} (h : LayC N C Im w cs vs F) {A B : List AV} (e : cs = A ++ (ds ++ B)) :
    ∃ u1 u2 u3 F1 F2 F3, vs = u1 ++ (u2 ++ u3) ∧ F = F1 ++ (F2 ++ F3) ∧ u1.length = A.length ∧ u2.length = ds.length ∧ LayC N C Im w A u1 F1 ∧ LayC N C Im w ds u2 F2 ∧ LayC N C Im w B u3 F3 := by
  subst e
  obtain ⟨u1, v2, F1, G2, rfl, rfl, h1, h2⟩ := h.split
  obtain ⟨u2, u3, F2, F3, rfl, rfl, h3, h4⟩ := h2.split
  exact ⟨u1, u2, u3, F1, F2, F3, rfl, rfl, h1.length, h3.length, h1, h3, h4⟩
theorem LayC.get1 {a : AV} {vs : List Value} {F : List Nat} (h : LayC N C Im w [a] vs F) (hn : ∀ sz xs, a ≠ .dt true sz xs) : ∃ v, vs = [v] ∧ F = [] ∧ RV N C Im w a v := by
  cases h with
  | at1 h1 h2 h => cases h; exact ⟨_, rfl, rfl, h1⟩
  | ow h1 h => exact absurd rfl (hn _ _)
theorem cutAt {α : Type} {l : List α} {i : Nat} {a : α} (h : l[i]? = some a) : l = l.take i ++ ([a] ++ l.drop (i + 1)) := by
  rw [← (List.getElem?_eq_some_iff.1 h).2, List.singleton_append, List.getElem_cons_drop, List.take_append_drop]
theorem LayC.get {cs : List AV} {vs : List Value} {F : List Nat} (h : LayC N C Im w cs vs F) {i : Nat} {a : AV} (hi : cs[i]? = some a) (hn : ∀ sz xs, a ≠ .dt true sz xs) : ∃ v, vs[i]? = some v ∧ RV N C Im w a v := by
  obtain ⟨u1, u2, u3, F1, F2, F3, rfl, rfl, l1, l2, h1, h2, h3⟩ := h.cut (cutAt hi)
  obtain ⟨v, rfl, rfl, hv⟩ := h2.get1 hn
  have hlt : i < cs.length := (List.getElem?_eq_some_iff.1 hi).1
  rw [List.length_take, Nat.min_eq_left (by omega)] at l1
  exact ⟨v, by rw [List.getElem?_append_right (by omega), l1]; simp, hv⟩

/-! ### the state -/
inductive Ob where
  | dead
  | live (lent : Bool) (sz : Nat) (xs : List (List AV))
structure St where
  E : Nat → AV
  hp : Nat → Ob
  nx : Nat
def updA {β : Type} (E : Nat → β) (d : Nat) (v : β) : Nat → β := fun t => bif Nat.beq t d then v else E t
theorem updA_same {β : Type} (E : Nat → β) (d : Nat) (v : β) : updA E d v d = v := by simp [updA]
theorem updA_ne {β : Type} (E : Nat → β) {d t : Nat} (v : β) (h : t ≠ d) : updA E d v t = E t := by
  have : Nat.beq t d = false := by rw [← Bool.not_eq_true]; intro hb; exact h (Nat.eq_of_beq_eq_true hb)
  simp [updA, this]
def blks (cc : Conc) : List Nat := ownL cc.hv ++ cc.F
/-- what a walk keeps of its call: the blocks that it may write, those that nobody writes, values that are told of to the end -/
structure Fr where
  bl : List Nat
  J : Nat → Prop
  gh : List (AV × Value)
structure OR (w0 : World) (MP : Fr) (N : Nat) (C : Nat → Option Conc) (Im : Nat → Prop) (w : World) (l : Bool) (sz : Nat) (xs : List (List AV)) (cc : Conc) : Prop where
  esz : cc.sz = sz
  len : cc.len = xs.length
  buf : Buf' w cc.sz cc.hv cc.len cc.us
  lay : LayC N C Im w xs.flatten cc.us cc.F
  lens : ∀ x ∈ xs, x.length = cc.sz
  nd : (blks cc).Nodup
  ge : ∀ k ∈ blks cc, w0.heap.size ≤ k ∨ k ∈ MP.bl
  nim : ∀ b, own cc.hv = some b → ¬ Im b
  lent : ∀ k ∈ cc.F, Im k ↔ l = true
theorem OR.wb {w0 : World} {MP : Fr} {l : Bool} {sz : Nat} {xs : List (List AV)} {cc : Conc} (h : OR w0 MP N C Im w l sz xs cc) : ∀ k ∈ blks cc, Wb w k := fun k hk => by
  rcases List.mem_append.1 hk with hk | hk
  · exact h.buf.lt k (mem_ownL.1 hk)
  · exact h.lay.wb k hk
structure Sm (w0 : World) (MP : Fr) (st : St) (C : Nat → Option Conc) (Im : Nat → Prop) (E : Env) (w : World) : Prop where
  tch : Touched MP.bl w0 w
  im : ∀ k, Im k → k < w.heap.size
  slot : ∀ t, RV st.nx C Im w (st.E t) (E t)
  nod : ∀ o, st.hp o = .dead → C o = none
  obj : ∀ o l sz xs, st.hp o = .live l sz xs → ∃ cc, C o = some cc ∧ OR w0 MP st.nx C Im w l sz xs cc
  lt : ∀ o, st.nx ≤ o → st.hp o = .dead
  dis : ∀ o o' cc cc', o ≠ o' → C o = some cc → C o' = some cc' → ∀ k ∈ blks cc, k ∉ blks cc'
  imJ : ∀ k, Im k → MP.J k ∨ w0.heap.size ≤ k ∨ k ∈ MP.bl
  gst : ∀ p ∈ MP.gh, RV st.nx C Im w p.1 p.2
/-- the state tells of slots and memory -/
def Sim (w0 : World) (MP : Fr) (st : St) (E : Env) (w : World) : Prop := ∃ C Im, Sm w0 MP st C Im E w
variable {w0 : World} {MP : Fr} {st : St} {E' : Env}
theorem Sm.objOf (h : Sm w0 MP st C Im E' w) {o : Nat} {cc : Conc} (hc : C o = some cc) : ∃ l sz xs, st.hp o = .live l sz xs ∧ OR w0 MP st.nx C Im w l sz xs cc := by
  cases hh : st.hp o with
  | dead => rw [h.nod o hh] at hc; cases hc
  | live l sz xs =>
    obtain ⟨cc', h1, h2⟩ := h.obj o l sz xs hh
    rw [hc] at h1
    simp only [Option.some.injEq] at h1
    subst h1
    exact ⟨l, sz, xs, rfl, h2⟩
/-- memory that is not spoken of has changed -/
theorem Sm.frame (h : Sm w0 MP st C Im E' w) (ht : Touched MP.bl w0 w') (hz : w.heap.size ≤ w'.heap.size) (hI : ∀ k, Im k → w'.heap[k]? = w.heap[k]?) (hO : ∀ o cc, C o = some cc → ∀ k ∈ blks cc, w'.heap[k]? = w.heap[k]?) : Sm w0 MP st C Im E' w' := by
  refine ⟨ht, fun k hk => Nat.lt_of_lt_of_le (h.im k hk) hz, fun t => RV.mono (fun _ h => h) hI (Nat.le_refl _) (CLe.refl _ _) _ _ (h.slot t), h.nod, fun o l sz xs ho => ?_, h.lt, h.dis, h.imJ, fun p hp => RV.mono (fun _ h => h) hI (Nat.le_refl _) (CLe.refl _ _) _ _ (h.gst p hp)⟩
  obtain ⟨cc, h1, h2⟩ := h.obj o l sz xs ho
  exact ⟨cc, h1, h2.esz, h2.len, h2.buf.same fun b hb => hO o cc h1 b (by simp [blks, mem_ownL, hb]), h2.lay.mono (fun _ h => h) hI (Nat.le_refl _) (CLe.refl _ _) fun k hk => hO o cc h1 k (by simp [blks, hk]), h2.lens, h2.nd, h2.ge, h2.nim, h2.lent⟩
theorem Sm.later (h : Sm w0 MP st C Im E' w) (hl : Later w w') : Sm w0 MP st C Im E' w' := by
  refine h.frame (h.tch.trans (Touched.later hl)) hl.size (fun k hk => Below.block hl k (h.im k hk)) fun o cc hc k hk => ?_
  obtain ⟨l, sz, xs, _, hO⟩ := h.objOf hc
  exact Below.block hl k (hO.wb k hk).lt
theorem Sm.upd (h : Sm w0 MP st C Im E' w) (d : Nat) {a : AV} {v : Value} (hv : RV st.nx C Im w a v) : Sm w0 MP ⟨updA st.E d a, st.hp, st.nx⟩ C Im (G.upd E' d v) w := by
  refine ⟨h.tch, h.im, fun t => ?_, h.nod, h.obj, h.lt, h.dis, h.imJ, h.gst⟩
  dsimp only
  by_cases e : t = d
  · subst e; rw [updA_same, upd_same]; exact hv
  · rw [updA_ne _ _ e, upd_ne _ _ e]; exact h.slot t
/-- a new object -/
theorem Sm.new (h : Sm w0 MP st C Im E' w) {l : Bool} {sz : Nat} {xs : List (List AV)} {cc : Conc} (hO : OR w0 MP st.nx C Im w l sz xs cc) (hd : ∀ o c, C o = some c → ∀ k ∈ blks cc, k ∉ blks c) :
    Sm w0 MP ⟨st.E, updA st.hp st.nx (.live l sz xs), st.nx + 1⟩ (updA C st.nx (some cc)) Im E' w := by
  have hle : CLe st.nx C (updA C st.nx (some cc)) := fun o ho c hc => ⟨c, by rwa [updA_ne _ _ (by omega)] at hc, .inl ⟨rfl, rfl, rfl⟩⟩
  have up : ∀ {l sz xs cc}, OR w0 MP st.nx C Im w l sz xs cc → OR w0 MP (st.nx + 1) (updA C st.nx (some _)) Im w l sz xs cc := fun h => ⟨h.esz, h.len, h.buf, h.lay.mono (fun _ h => h) (fun _ _ => rfl) (by omega) hle (fun _ _ => rfl), h.lens, h.nd, h.ge, h.nim, h.lent⟩
  refine ⟨h.tch, h.im, fun t => RV.mono (fun _ h => h) (fun _ _ => rfl) (by simp) hle _ _ (h.slot t), fun o ho => ?_, fun o l' sz' xs' ho => ?_, fun o ho => ?_, fun o o' c c' hoo hc hc' => ?_, h.imJ, fun p hp => RV.mono (fun _ h => h) (fun _ _ => rfl) (by simp) hle _ _ (h.gst p hp)⟩
  · dsimp only at ho
    by_cases e : o = st.nx
    · subst e; rw [updA_same] at ho; cases ho
    · rw [updA_ne _ _ e] at ho ⊢; exact h.nod o ho
  · dsimp only at ho
    by_cases e : o = st.nx
    · subst e
      rw [updA_same] at ho ⊢
      cases ho
      exact ⟨cc, rfl, up hO⟩
    · rw [updA_ne _ _ e] at ho ⊢
      obtain ⟨c, h1, h2⟩ := h.obj o l' sz' xs' ho
      exact ⟨c, h1, up h2⟩
  · have : o ≠ st.nx := by simp only at ho; omega
    simp only
    rw [updA_ne _ _ this]; exact h.lt o (by simp only at ho; omega)
  · by_cases e : o = st.nx
    · subst e
      rw [updA_same] at hc
      rw [updA_ne _ _ (Ne.symm hoo)] at hc'
      cases hc
      exact hd o' c' hc'
    · rw [updA_ne _ _ e] at hc
      by_cases e' : o' = st.nx
      · subst e'
        rw [updA_same] at hc'
        cases hc'
        exact fun k hk hk' => hd o c hc k hk' hk
      · rw [updA_ne _ _ e'] at hc'
        exact h.dis o o' c c' hoo hc hc'
/-- an object has changed -/
theorem Sm.turn (h : Sm w0 MP st C Im E' w) (o : Nat) {l l' : Bool} {sz : Nat} {xs xs' : List (List AV)} {cc cc' : Conc} (ho : st.hp o = .live l sz xs) (hcc : C o = some cc) (hl : (cc.len = cc'.len ∧ cc.hv = cc'.hv ∧ cc.sz = cc'.sz) ∨ cc.len < cc'.len)
    (ht : Touched MP.bl w0 w') (hz : w.heap.size ≤ w'.heap.size) (hI : ∀ k, Im k → w'.heap[k]? = w.heap[k]?) (hB : ∀ o' c, o' ≠ o → C o' = some c → ∀ k ∈ blks c, w'.heap[k]? = w.heap[k]?)
    (hO : OR w0 MP st.nx C Im w' l' sz xs' cc') (hd : ∀ o' c, o' ≠ o → C o' = some c → ∀ k ∈ blks cc', k ∉ blks c) :
    Sm w0 MP ⟨st.E, updA st.hp o (.live l' sz xs'), st.nx⟩ (updA C o (some cc')) Im E' w' := by
  have hle : CLe st.nx C (updA C o (some cc')) := fun o1 ho1 c hc => by
    by_cases e : o1 = o
    · subst e
      rw [updA_same] at hc
      cases hc
      exact ⟨cc, hcc, hl⟩
    · rw [updA_ne _ _ e] at hc
      exact ⟨c, hc, .inl ⟨rfl, rfl, rfl⟩⟩
  refine ⟨ht, fun k hk => Nat.lt_of_lt_of_le (h.im k hk) hz, fun t => RV.mono (fun _ h => h) hI (Nat.le_refl _) hle _ _ (h.slot t), fun o1 h1 => ?_, fun o1 l1 sz1 xs1 h1 => ?_, fun o1 h1 => ?_, fun o1 o2 c1 c2 hoo hc1 hc2 => ?_, h.imJ, fun p hp => RV.mono (fun _ h => h) hI (Nat.le_refl _) hle _ _ (h.gst p hp)⟩
  · by_cases e : o1 = o
    · subst e; simp only at h1; rw [updA_same] at h1; cases h1
    · simp only at h1; rw [updA_ne _ _ e] at h1 ⊢; exact h.nod o1 h1
  · by_cases e : o1 = o
    · subst e
      simp only at h1
      rw [updA_same] at h1 ⊢
      cases h1
      exact ⟨cc', rfl, hO.esz, hO.len, hO.buf, hO.lay.mono (fun _ h => h) (fun _ _ => rfl) (Nat.le_refl _) hle (fun _ _ => rfl), hO.lens, hO.nd, hO.ge, hO.nim, hO.lent⟩
    · simp only at h1
      rw [updA_ne _ _ e] at h1 ⊢
      obtain ⟨c, g1, g2⟩ := h.obj o1 l1 sz1 xs1 h1
      exact ⟨c, g1, g2.esz, g2.len, g2.buf.same fun b hb => hB o1 c e g1 b (by simp [blks, mem_ownL, hb]), g2.lay.mono (fun _ h => h) hI (Nat.le_refl _) hle fun k hk => hB o1 c e g1 k (by simp [blks, hk]), g2.lens, g2.nd, g2.ge, g2.nim, g2.lent⟩
  · have : o1 ≠ o := by
      intro e; subst e
      have := h.lt o1 h1
      rw [ho] at this; cases this
    simp only
    rw [updA_ne _ _ this]; exact h.lt o1 h1
  · by_cases e : o1 = o
    · subst e
      rw [updA_same] at hc1
      rw [updA_ne _ _ (Ne.symm hoo)] at hc2
      cases hc1
      exact hd o2 c2 (Ne.symm hoo) hc2
    · rw [updA_ne _ _ e] at hc1
      by_cases e' : o2 = o
      · subst e'
        rw [updA_same] at hc2
        cases hc2
        exact fun k hk hk' => hd o1 c1 e hc1 k hk' hk
      · rw [updA_ne _ _ e'] at hc2
        exact h.dis o1 o2 c1 c2 hoo hc1 hc2
/-- an object is forgotten -/
theorem Sm.kill (h : Sm w0 MP st C Im E' w) (o : Nat) : Sm w0 MP ⟨st.E, updA st.hp o .dead, st.nx⟩ (updA C o Option.none) Im E' w := by
  have hle : CLe st.nx C (updA C o Option.none) := fun o1 ho1 c hc => by
    by_cases e : o1 = o
    · subst e; rw [updA_same] at hc; cases hc
    · rw [updA_ne _ _ e] at hc; exact ⟨c, hc, .inl ⟨rfl, rfl, rfl⟩⟩
  refine ⟨h.tch, h.im, fun t => RV.mono (fun _ h => h) (fun _ _ => rfl) (Nat.le_refl _) hle _ _ (h.slot t), fun o1 h1 => ?_, fun o1 l1 sz1 xs1 h1 => ?_, fun o1 h1 => ?_, fun o1 o2 c1 c2 hoo hc1 hc2 => ?_, h.imJ, fun p hp => RV.mono (fun _ h => h) (fun _ _ => rfl) (Nat.le_refl _) hle _ _ (h.gst p hp)⟩
  · by_cases e : o1 = o
    · subst e; exact updA_same ..
    · simp only at h1; rw [updA_ne _ _ e] at h1 ⊢; exact h.nod o1 h1
  · by_cases e : o1 = o
    · subst e; simp only at h1; rw [updA_same] at h1; cases h1
    · simp only at h1
      rw [updA_ne _ _ e] at h1 ⊢
      obtain ⟨c, g1, g2⟩ := h.obj o1 l1 sz1 xs1 h1
      exact ⟨c, g1, g2.esz, g2.len, g2.buf, g2.lay.mono (fun _ h => h) (fun _ _ => rfl) (Nat.le_refl _) hle (fun _ _ => rfl), g2.lens, g2.nd, g2.ge, g2.nim, g2.lent⟩
  · by_cases e : o1 = o
    · subst e; exact updA_same ..
    · simp only; rw [updA_ne _ _ e]; exact h.lt o1 h1
  · by_cases e : o1 = o
    · subst e; rw [updA_same] at hc1; cases hc1
    · by_cases e' : o2 = o
      · subst e'; rw [updA_same] at hc2; cases hc2
      · rw [updA_ne _ _ e] at hc1; rw [updA_ne _ _ e'] at hc2; exact h.dis o1 o2 c1 c2 hoo hc1 hc2
/-- an object's blocks below are not written any more -/
theorem Sm.lend (h : Sm w0 MP st C Im E' w) (o : Nat) {l : Bool} {sz : Nat} {xs : List (List AV)} (ho : st.hp o = .live l sz xs) : ∃ Im', Sm w0 MP ⟨st.E, updA st.hp o (.live true sz xs), st.nx⟩ C Im' E' w := by
  obtain ⟨cc, hcc, hO⟩ := h.obj o l sz xs ho
  have hI : ∀ k, Im k → Im k ∨ k ∈ cc.F := fun k hk => .inl hk
  refine ⟨fun k => Im k ∨ k ∈ cc.F, h.tch, fun k hk => hk.elim (h.im k) fun hk => (hO.wb k (by simp [blks, hk])).lt, fun t => RV.mono hI (fun _ _ => rfl) (Nat.le_refl _) (CLe.refl _ _) _ _ (h.slot t), fun o1 h1 => ?_, fun o1 l1 sz1 xs1 h1 => ?_, fun o1 h1 => ?_, h.dis, fun k hk => hk.elim (h.imJ k) fun hk => .inr (hO.ge k (by simp [blks, hk])), fun p hp => RV.mono hI (fun _ _ => rfl) (Nat.le_refl _) (CLe.refl _ _) _ _ (h.gst p hp)⟩
  · by_cases e : o1 = o
    · subst e; simp only at h1; rw [updA_same] at h1; cases h1
    · simp only at h1; rw [updA_ne _ _ e] at h1; exact h.nod o1 h1
  · by_cases e : o1 = o
    · subst e
      simp only at h1
      rw [updA_same] at h1
      cases h1
      refine ⟨cc, hcc, hO.esz, hO.len, hO.buf, hO.lay.mono hI (fun _ _ => rfl) (Nat.le_refl _) (CLe.refl _ _) (fun _ _ => rfl), hO.lens, hO.nd, hO.ge, fun b hb hk => hk.elim (hO.nim b hb) fun hk => ?_, fun k hk => ⟨fun _ => rfl, fun _ => .inr hk⟩⟩
      have := hO.nd
      unfold blks at this
      exact (List.nodup_append.1 this).2.2 b (mem_ownL.2 hb) b hk rfl
    · simp only at h1
      rw [updA_ne _ _ e] at h1
      obtain ⟨c, g1, g2⟩ := h.obj o1 l1 sz1 xs1 h1
      refine ⟨c, g1, g2.esz, g2.len, g2.buf, g2.lay.mono hI (fun _ _ => rfl) (Nat.le_refl _) (CLe.refl _ _) (fun _ _ => rfl), g2.lens, g2.nd, g2.ge, fun b hb hk => hk.elim (g2.nim b hb) fun hk => ?_, fun k hk => ⟨fun hk' => hk'.elim (fun hk' => (g2.lent k hk).1 hk') fun hk' => ?_, fun hl => .inl ((g2.lent k hk).2 hl)⟩⟩
      · exact h.dis o1 o c cc e g1 hcc b (by simp [blks, mem_ownL, hb]) (by simp [blks, hk])
      · exact absurd (show k ∈ blks cc by simp [blks, hk']) (h.dis o1 o c cc e g1 hcc k (by simp [blks, hk]))
  · by_cases e : o1 = o
    · subst e
      have := h.lt o1 h1
      rw [ho] at this; cases this
    · simp only; rw [updA_ne _ _ e]; exact h.lt o1 h1
end
end Go.Proofs.Ytcalkmlaodjpaaa.V
