/- Abstract values: states, judgments, operations (several texts joined). Over any program; nothing is claimed of the given one. -/
import Derived.Test.YtedjajokbdokhaaGreatUa
import Derived.WalkSpells
/- Abstract values: what the slots and the memory of a call hold, told without addresses. Over any program; nothing is claimed of the given one. -/
namespace Go.Proofs.YtedjajokbdokhaaGreat.V
open Go.RowKit G
set_option linter.unusedVariables false
set_option linter.unusedSimpArgs false

/-- an abstract value: a number, a Bool; a slice told by what it holds (own: in memory that belongs to the place where it stands); a slice and a pointer of an object (v: how long the object was); a pointer to what does not change; a function with what it captured; a struct; several results; the nil slice; an empty slice without room; nothing known -/
inductive AV where
  | i (n : Int)
  | b (v : Bool)
  | dt (own : Bool) (sz : Nat) (xs : List (List AV))
  | sl (o v off m : Nat)
  | pt (o v k j : Nat)
  | ip (cs : List AV)
  | fn (f : Nat) (cs : List AV)
  | agg (cs : List AV)
  | tu (cs : List AV)
  | nl
  | em
  | no

mutual
/-- it speaks of objects below N alone -/
def Bnd (N : Nat) : AV → Prop
  | .sl o _ _ _ => o < N
  | .pt o _ _ _ => o < N
  | .fn _ cs => BndL N cs
  | .agg cs => BndL N cs
  | .tu cs => BndL N cs
  | _ => True
def BndL (N : Nat) : List AV → Prop
  | [] => True
  | a :: l => Bnd N a ∧ BndL N l
end
mutual
theorem Bnd.mono {N M : Nat} (h : N ≤ M) : ∀ (a : AV), Bnd N a → Bnd M a
  | .sl o _ _ _, hb => Nat.lt_of_lt_of_le hb h
  | .pt o _ _ _, hb => Nat.lt_of_lt_of_le hb h
  | .fn _ cs, hb => BndL.mono h cs hb
  | .agg cs, hb => BndL.mono h cs hb
  | .tu cs, hb => BndL.mono h cs hb
  | .i _, _ => trivial
  | .b _, _ => trivial
  | .dt _ _ _, _ => trivial
  | .ip _, _ => trivial
  | .nl, _ => trivial
  | .em, _ => trivial
  | .no, _ => trivial
theorem BndL.mono {N M : Nat} (h : N ≤ M) : ∀ (l : List AV), BndL N l → BndL M l
  | [], _ => trivial
  | a :: l, hb => ⟨Bnd.mono h a hb.1, BndL.mono h l hb.2⟩
end
theorem BndL.of_mem {N : Nat} : ∀ {l : List AV}, (∀ a ∈ l, Bnd N a) → BndL N l
  | [], _ => trivial
  | a :: l, h => ⟨h a (by simp), BndL.of_mem fun b hb => h b (by simp [hb])⟩
theorem BndL.mem {N : Nat} : ∀ {l : List AV}, BndL N l → ∀ a ∈ l, Bnd N a
  | [], _, a, ha => by cases ha
  | b :: l, h, a, ha => by
    rcases List.mem_cons.1 ha with rfl | ha
    · exact h.1
    · exact BndL.mem h.2 a ha

/-! ### what does not change -/
/-- cells that do not change; Im: the blocks that are not written -/
inductive Imm (Im : Nat → Prop) (w : World) : List AV → List Value → Prop
  | nil : Imm Im w [] []
  | int {n : Int} {cs : List AV} {vs : List Value} : In64 n → Imm Im w cs vs → Imm Im w (.i n :: cs) (.int .i64 n :: vs)
  | bool {x : Bool} {cs : List AV} {vs : List Value} : Imm Im w cs vs → Imm Im w (.b x :: cs) (.bool x :: vs)
  | no {v : Value} {cs : List AV} {vs : List Value} : v.oneCell' = true → Imm Im w cs vs → Imm Im w (.no :: cs) (v :: vs)
  | sl0 {p : Option Addr} {c sz : Nat} {cs : List AV} {vs : List Value} : c ≤ maxLen → Imm Im w cs vs → Imm Im w (.dt false sz [] :: cs) (.slice p 0 c :: vs)
  | sl {b o c sz : Nat} {xs : List (List AV)} {us : List Value} {cs : List AV} {vs : List Value} : xs.length ≤ c → c ≤ maxLen → Im b → Cells w b o us → Imm Im w xs.flatten us → (∀ x ∈ xs, x.length = sz) → Imm Im w cs vs →
      Imm Im w (.dt false sz xs :: cs) (.slice (some ⟨b, o, none⟩) xs.length c :: vs)

theorem Imm.mono {Im Im' : Nat → Prop} {w w' : World} (hI : ∀ k, Im k → Im' k) (hw : ∀ k, Im k → w'.heap[k]? = w.heap[k]?) {cs : List AV} {vs : List Value} (h : Imm Im w cs vs) : Imm Im' w' cs vs := by
  induction h with
  | nil => exact .nil
  | int h1 _ ih => exact .int h1 ih
  | bool _ ih => exact .bool ih
  | no h1 _ ih => exact .no h1 ih
  | sl0 h1 _ ih => exact .sl0 h1 ih
  | sl h1 h2 h3 h4 _ h6 _ ih1 ih2 => exact .sl h1 h2 (hI _ h3) (h4.same (hw _ h3)) ih1 h6 ih2
theorem Imm.length {Im : Nat → Prop} {w : World} {cs : List AV} {vs : List Value} (h : Imm Im w cs vs) : vs.length = cs.length := by
  induction h <;> simp_all
theorem oneAll_cons {v : Value} {vs : List Value} (h : v.oneCell' = true) (k : oneAll vs) : oneAll (v :: vs) := fun u hu => by
  rcases List.mem_cons.1 hu with rfl | hu
  · exact h
  · exact k u hu
theorem Imm.one {Im : Nat → Prop} {w : World} {cs : List AV} {vs : List Value} (h : Imm Im w cs vs) : oneAll vs := by
  induction h with
  | nil => exact oneAll_nil
  | int _ _ ih => exact oneAll_cons rfl ih
  | bool _ ih => exact oneAll_cons rfl ih
  | no h _ ih => exact oneAll_cons h ih
  | sl0 _ _ ih => exact oneAll_cons rfl ih
  | sl _ _ _ _ _ _ _ _ ih => exact oneAll_cons rfl ih
theorem Imm.append {Im : Nat → Prop} {w : World} {cs ds : List AV} {vs us : List Value} (h : Imm Im w cs vs) (k : Imm Im w ds us) : Imm Im w (cs ++ ds) (vs ++ us) := by
  induction h with
  | nil => exact k
  | int h1 _ ih => exact .int h1 ih
  | bool _ ih => exact .bool ih
  | no h1 _ ih => exact .no h1 ih
  | sl0 h1 _ ih => exact .sl0 h1 ih
  | sl h1 h2 h3 h4 h5 h6 _ _ ih => exact .sl h1 h2 h3 h4 h5 h6 ih
theorem Imm.split {Im : Nat → Prop} {w : World} : ∀ {cs ds : List AV} {vs : List Value}, Imm Im w (cs ++ ds) vs → ∃ v1 v2, vs = v1 ++ v2 ∧ Imm Im w cs v1 ∧ Imm Im w ds v2
  | [], ds, vs, h => ⟨[], vs, rfl, .nil, h⟩
  | a :: cs, ds, vs, h => by
    rw [List.cons_append] at h
    cases h with
    | int h1 h => obtain ⟨v1, v2, rfl, a, b⟩ := Imm.split h; exact ⟨_ :: v1, v2, rfl, .int h1 a, b⟩
    | bool h => obtain ⟨v1, v2, rfl, a, b⟩ := Imm.split h; exact ⟨_ :: v1, v2, rfl, .bool a, b⟩
    | no h1 h => obtain ⟨v1, v2, rfl, a, b⟩ := Imm.split h; exact ⟨_ :: v1, v2, rfl, .no h1 a, b⟩
    | sl0 h1 h => obtain ⟨v1, v2, rfl, a, b⟩ := Imm.split h; exact ⟨_ :: v1, v2, rfl, .sl0 h1 a, b⟩
    | sl h1 h2 h3 h4 h5 h6 h => obtain ⟨v1, v2, rfl, a, b⟩ := Imm.split h; exact ⟨_ :: v1, v2, rfl, .sl h1 h2 h3 h4 h5 h6 a, b⟩
theorem Imm.head {Im : Nat → Prop} {w : World} {a : AV} {cs : List AV} {v : Value} {vs : List Value} (h : Imm Im w (a :: cs) (v :: vs)) : Imm Im w [a] [v] := by
  cases h with
  | int h1 h => exact .int h1 .nil
  | bool h => exact .bool .nil
  | no h1 h => exact .no h1 .nil
  | sl0 h1 h => exact .sl0 h1 .nil
  | sl h1 h2 h3 h4 h5 h6 h => exact .sl h1 h2 h3 h4 h5 h6 .nil
theorem Imm.get {Im : Nat → Prop} {w : World} {cs : List AV} {vs : List Value} (h : Imm Im w cs vs) {i : Nat} {a : AV} (hi : cs[i]? = some a) : ∃ v, vs[i]? = some v ∧ Imm Im w [a] [v] := by
  have hlt : i < cs.length := (List.getElem?_eq_some_iff.1 hi).1
  have e : cs = cs.take i ++ (a :: cs.drop (i + 1)) := by
    rw [← (List.getElem?_eq_some_iff.1 hi).2, List.getElem_cons_drop, List.take_append_drop]
  rw [e] at h
  obtain ⟨v1, v2, rfl, h1, h2⟩ := h.split
  have hl := h1.length
  rw [List.length_take, Nat.min_eq_left (by omega)] at hl
  cases v2 with
  | nil => cases h2
  | cons v v2 => exact ⟨v, by rw [List.getElem?_append_right (by omega), hl]; simp, h2.head⟩

/-! ### what is one's own -/
def Buf' (w : World) (sz : Nat) (v : Value) (m : Nat) (us : List Value) : Prop := ∃ e, Buf w e sz v m us
def ownL (v : Value) : List Nat := (own v).toList
theorem mem_ownL {v : Value} {k : Nat} : k ∈ ownL v ↔ own v = some k := by
  unfold ownL; cases own v <;> simp [eq_comm]
theorem Buf'.same {w w' : World} {sz m : Nat} {v : Value} {us : List Value} (h : Buf' w sz v m us) (hs : ∀ b, own v = some b → w'.heap[b]? = w.heap[b]?) : Buf' w' sz v m us := by
  obtain ⟨e, h⟩ := h; exact ⟨e, h.same hs⟩
theorem Buf'.slice {w : World} {sz m : Nat} {v : Value} {us : List Value} (h : Buf' w sz v m us) : ∃ p c, v = .slice p m c ∧ m ≤ c ∧ c ≤ maxLen := by
  obtain ⟨e, h⟩ := h
  rcases h.2 with ⟨h0, p, rfl⟩ | ⟨b, c, cur, rfl, h2, h3, h4, _⟩
  · exact ⟨p, 0, by rw [h0], by omega, Nat.zero_le _⟩
  · exact ⟨_, _, rfl, h3, h4⟩
theorem Buf'.lt {w : World} {sz m : Nat} {v : Value} {us : List Value} (h : Buf' w sz v m us) : ∀ b, own v = some b → Wb w b := by
  obtain ⟨e, h⟩ := h
  intro b hb
  rcases h.2 with ⟨_, p, rfl⟩ | ⟨b', c, cur, rfl, h2, _⟩
  · cases p <;> simp [own] at hb
  · simp [own] at hb; subst hb; exact ⟨_, _, h2⟩

/-- cells with what lies below them in memory of one's own; F: the blocks of it -/
inductive OwnC (Im : Nat → Prop) (w : World) : List AV → List Value → List Nat → Prop
  | nil : OwnC Im w [] [] []
  | at1 {a : AV} {v : Value} {cs : List AV} {vs : List Value} {F : List Nat} : Imm Im w [a] [v] → OwnC Im w cs vs F → OwnC Im w (a :: cs) (v :: vs) F
  | ow {sz : Nat} {xs : List (List AV)} {v : Value} {us : List Value} {G : List Nat} {cs : List AV} {vs : List Value} {F : List Nat} : Buf' w sz v xs.length us → OwnC Im w xs.flatten us G → (∀ x ∈ xs, x.length = sz) → OwnC Im w cs vs F →
      OwnC Im w (.dt true sz xs :: cs) (v :: vs) (ownL v ++ G ++ F)

theorem OwnC.mono {Im Im' : Nat → Prop} {w w' : World} (hI : ∀ k, Im k → Im' k) {cs : List AV} {vs : List Value} {F : List Nat} (h : OwnC Im w cs vs F) (hw : ∀ k, Im k → w'.heap[k]? = w.heap[k]?) (hF : ∀ k ∈ F, w'.heap[k]? = w.heap[k]?) : OwnC Im' w' cs vs F := by
  induction h with
  | nil => exact .nil
  | at1 h1 _ ih => exact .at1 (h1.mono hI hw) (ih hF)
  | ow h1 _ h3 _ ih1 ih2 =>
    exact .ow (h1.same fun b hb => hF b (by simp [mem_ownL, hb])) (ih1 fun k hk => hF k (by simp [hk])) h3 (ih2 fun k hk => hF k (by simp [hk]))
theorem OwnC.length {Im : Nat → Prop} {w : World} {cs : List AV} {vs : List Value} {F : List Nat} (h : OwnC Im w cs vs F) : vs.length = cs.length := by
  induction h <;> simp_all
theorem Buf'.oneCell {w : World} {sz m : Nat} {v : Value} {us : List Value} (h : Buf' w sz v m us) : v.oneCell' = true := by
  obtain ⟨p, c, rfl, _⟩ := h.slice; rfl
theorem OwnC.one {Im : Nat → Prop} {w : World} {cs : List AV} {vs : List Value} {F : List Nat} (h : OwnC Im w cs vs F) : oneAll vs := by
  induction h with
  | nil => exact oneAll_nil
  | at1 h1 _ ih =>
    intro u hu
    rcases List.mem_cons.1 hu with rfl | hu
    · exact h1.one _ (by simp)
    · exact ih u hu
  | ow h1 _ h3 _ ih1 ih2 =>
    intro u hu
    rcases List.mem_cons.1 hu with rfl | hu
    · exact h1.oneCell
    · exact ih2 u hu
theorem OwnC.wb {Im : Nat → Prop} {w : World} {cs : List AV} {vs : List Value} {F : List Nat} (h : OwnC Im w cs vs F) : ∀ k ∈ F, Wb w k := by
  induction h with
  | nil => intro k hk; cases hk
  | at1 _ _ ih => exact ih
  | ow h1 _ _ _ ih1 ih2 =>
    intro k hk
    rcases List.mem_append.1 hk with hk | hk
    · rcases List.mem_append.1 hk with hk | hk
      · exact h1.lt k (mem_ownL.1 hk)
      · exact ih1 k hk
    · exact ih2 k hk
theorem OwnC.append {Im : Nat → Prop} {w : World} {cs ds : List AV} {vs us : List Value} {F G : List Nat} (h : OwnC Im w cs vs F) (k : OwnC Im w ds us G) : OwnC Im w (cs ++ ds) (vs ++ us) (F ++ G) := by
  induction h with
  | nil => exact k
  | at1 h1 _ ih => exact .at1 h1 ih
  | ow h1 h2 h3 _ _ ih => simpa using OwnC.ow h1 h2 h3 ih
mutual
/-- the same, not one's own -/
def frz : AV → AV
  | .i n => .i n
  | .b v => .b v
  | .dt _ sz xs => .dt false sz (frzLL xs)
  | .agg cs => .agg (frzL cs)
  | _ => .no
def frzL : List AV → List AV
  | [] => []
  | a :: l => frz a :: frzL l
def frzLL : List (List AV) → List (List AV)
  | [] => []
  | x :: l => frzL x :: frzLL l
end
theorem frzL_map : ∀ l : List AV, frzL l = l.map frz
  | [] => rfl
  | a :: l => by rw [frzL, frzL_map l]; rfl
theorem frzLL_map : ∀ l : List (List AV), frzLL l = l.map frzL
  | [] => rfl
  | a :: l => by rw [frzLL, frzLL_map l]; rfl
theorem frzLL_flatten : ∀ l : List (List AV), (frzLL l).flatten = frzL l.flatten
  | [] => rfl
  | x :: l => by rw [frzLL, List.flatten_cons, frzLL_flatten l, List.flatten_cons, frzL_map, frzL_map, frzL_map, List.map_append]
theorem frzLL_length (l : List (List AV)) : (frzLL l).length = l.length := by rw [frzLL_map, List.length_map]
theorem Imm.frz {Im : Nat → Prop} {w : World} {cs : List AV} {vs : List Value} (h : Imm Im w cs vs) : Imm Im w (frzL cs) vs := by
  induction h with
  | nil => exact .nil
  | int h1 _ ih => exact .int h1 ih
  | bool _ ih => exact .bool ih
  | no h1 _ ih => exact .no h1 ih
  | sl0 h1 _ ih => exact .sl0 h1 ih
  | @sl b o c sz xs us cs vs h1 h2 h3 h4 _ h6 _ ih1 ih2 =>
    have e : xs.length = (frzLL xs).length := (frzLL_length xs).symm
    rw [e]
    refine .sl (sz := sz) (by rw [← e]; exact h1) h2 h3 h4 (by rw [frzLL_flatten]; exact ih1) (fun x hx => ?_) ih2
    rw [frzLL_map] at hx
    obtain ⟨y, hy, rfl⟩ := List.mem_map.1 hx
    rw [frzL_map, List.length_map]; exact h6 y hy
/-- one's own, if it is not written any more -/
theorem OwnC.frz {Im : Nat → Prop} {w : World} {cs : List AV} {vs : List Value} {F : List Nat} (h : OwnC Im w cs vs F) : ∀ {Im' : Nat → Prop}, (∀ k, Im k → Im' k) → (∀ k ∈ F, Im' k) → Imm Im' w (frzL cs) vs := by
  induction h with
  | nil => intros; exact .nil
  | @at1 a v cs vs F h1 _ ih =>
    intro Im' hI hF
    exact (h1.mono hI (fun _ _ => rfl)).frz.append (ih hI hF)
  | @ow sz xs v us G cs vs F h1 _ h3 _ ih1 ih2 =>
    intro Im' hI hF
    have i2 := ih2 hI (fun k hk => hF k (by simp [hk]))
    have i1 := ih1 hI (fun k hk => hF k (by simp [hk]))
    have hlen : ∀ x ∈ frzLL xs, x.length = sz := by
      intro x hx
      rw [frzLL_map] at hx
      obtain ⟨y, hy, rfl⟩ := List.mem_map.1 hx
      rw [frzL_map, List.length_map]; exact h3 y hy
    obtain ⟨e, h1⟩ := h1
    rcases h1.2 with ⟨h0, p, rfl⟩ | ⟨b, c, cur, rfl, g2, g3, g4, g5, g6⟩
    · have : xs = [] := List.eq_nil_of_length_eq_zero h0
      subst this
      exact .sl0 (Nat.zero_le _) i2
    · have e : xs.length = (frzLL xs).length := (frzLL_length xs).symm
      rw [e] at g3 ⊢
      refine .sl (sz := sz) g3 g4 (hF b (by simp [ownL, own])) (fun j u hu => g2.cells j u ?_) (by rw [frzLL_flatten]; exact i1) hlen i2
      rw [← g6, List.getElem?_take] at hu
      split at hu
      · exact hu
      · cases hu
end Go.Proofs.YtedjajokbdokhaaGreat.V

/- The abstract state of a call, and what it says of slots and memory. Over any program; nothing is claimed of the given one. -/
namespace Go.Proofs.YtedjajokbdokhaaGreat.V
open Go.RowKit G
set_option linter.unusedVariables false
set_option linter.unusedSimpArgs false

/-! ### data as cells -/
/-- no objects, no pointers -/
def pureB : AV → Bool
  | .i _ | .b _ | .dt _ _ _ => true
  | _ => false
mutual
/-- all of it is in memory of its own -/
def ownA : AV → Bool
  | .i _ | .b _ => true
  | .dt true _ xs => ownLL xs
  | _ => false
def ownL' : List AV → Bool
  | [] => true
  | a :: l => ownA a && ownL' l
def ownLL : List (List AV) → Bool
  | [] => true
  | x :: l => ownL' x && ownLL l
end
theorem ownL'_all : ∀ l : List AV, ownL' l = l.all ownA
  | [] => rfl
  | a :: l => by rw [ownL', ownL'_all l, List.all_cons]
theorem ownLL_all : ∀ l : List (List AV), ownLL l = l.flatten.all ownA
  | [] => rfl
  | a :: l => by rw [ownLL, ownLL_all l, ownL'_all, List.flatten_cons, List.all_append]
class Enc (α : Type) where
  enc : Bool → α → List AV
  nc : Nat
  len : ∀ o x, (enc o x).length = nc
  frz : ∀ o x, frzL (enc o x) = enc false x
  pure : ∀ o x, (enc o x).all pureB = true
  own : ∀ x, ownL' (enc true x) = true
open Enc (enc)
def E {α : Type} [Enc α] (o : Bool) (l : List α) : List (List AV) := l.map (enc o)
section
variable {α : Type} [Enc α]
theorem E_length (o : Bool) (l : List α) : (E o l).length = l.length := List.length_map ..
theorem E_frz (o : Bool) (l : List α) : frzLL (E o l) = E false l := by
  rw [frzLL_map, E, List.map_map]; exact List.map_congr_left fun x _ => Enc.frz o x
theorem E_append (o : Bool) (l m : List α) : E o (l ++ m) = E o l ++ E o m := List.map_append
theorem E_get (o : Bool) (l : List α) [Inhabited α] {k : Nat} (h : k < l.length) : (E o l)[k]? = some (enc o (l.getD k default)) := by
  simp [E, h]
theorem E_set (o : Bool) (l : List α) (k : Nat) (x : α) : (E o l).set k (enc o x) = E o (l.set k x) := by simp [E, List.map_set]
theorem E_len (o : Bool) (l : List α) : ∀ x ∈ E o l, x.length = Enc.nc α := by
  intro x hx; obtain ⟨y, _, rfl⟩ := List.mem_map.1 hx; exact Enc.len o y
theorem E_pure (o : Bool) (l : List α) : (E o l).flatten.all pureB = true := by
  rw [List.all_eq_true]
  intro a ha
  obtain ⟨x, hx, ha⟩ := List.mem_flatten.1 ha
  obtain ⟨y, _, rfl⟩ := List.mem_map.1 hx
  exact List.all_eq_true.1 (Enc.pure o y) a ha
theorem E_own (l : List α) : ownLL (E true l) = true := by
  rw [ownLL_all, List.all_eq_true]
  intro a ha
  obtain ⟨x, hx, ha⟩ := List.mem_flatten.1 ha
  obtain ⟨y, _, rfl⟩ := List.mem_map.1 hx
  have := Enc.own y
  rw [ownL'_all] at this
  exact List.all_eq_true.1 this a ha
theorem E_one (o : Bool) (x : α) : E o [x] = [enc o x] := rfl
theorem E_take (o : Bool) (l : List α) (k : Nat) : (E o l).take k = E o (l.take k) := by simp [E, List.map_take]
theorem E_drop (o : Bool) (l : List α) (k : Nat) : (E o l).drop k = E o (l.drop k) := by simp [E, List.map_drop]
end
instance : Enc Int := ⟨fun _ n => [.i n], 1, fun _ _ => rfl, fun _ _ => rfl, fun _ _ => rfl, fun _ => rfl⟩
instance : Enc Bool := ⟨fun _ n => [.b n], 1, fun _ _ => rfl, fun _ _ => rfl, fun _ _ => rfl, fun _ => rfl⟩
instance {α : Type} [Enc α] : Enc (List α) := ⟨fun o l => [.dt o (Enc.nc α) (E o l)], 1, fun _ _ => rfl, fun o l => by simp [frzL, frz, E_frz], fun _ _ => rfl, fun l => by simp [ownL', ownA, E_own]⟩

/-! ### flat lists -/
theorem flatten_take {α : Type} {sz : Nat} : ∀ {xs : List (List α)} {k : Nat}, (∀ x ∈ xs, x.length = sz) → k ≤ xs.length → (xs.take k).flatten.length = k * sz
  | xs, 0, _, _ => by simp
  | [], k + 1, _, h => by simp at h
  | x :: xs, k + 1, hx, h => by
    have := flatten_take (xs := xs) (k := k) (fun y hy => hx y (by simp [hy])) (by simpa using h)
    simp only [List.take_succ_cons, List.flatten_cons, List.length_append, this, hx x (by simp), Nat.add_mul]; omega
theorem flatten_cut {α : Type} {xs : List (List α)} {k : Nat} {x : List α} (h : xs[k]? = some x) : xs.flatten = (xs.take k).flatten ++ (x ++ (xs.drop (k + 1)).flatten) := by
  have hlt : k < xs.length := (List.getElem?_eq_some_iff.1 h).1
  have e : xs = xs.take k ++ (x :: xs.drop (k + 1)) := by
    rw [← (List.getElem?_eq_some_iff.1 h).2, List.getElem_cons_drop, List.take_append_drop]
  have := congrArg List.flatten e
  rw [this, List.flatten_append, List.flatten_cons]
theorem flatten_set {α : Type} {xs : List (List α)} {k : Nat} {x y : List α} (h : xs[k]? = some x) : (xs.set k y).flatten = (xs.take k).flatten ++ (y ++ (xs.drop (k + 1)).flatten) := by
  have hlt : k < xs.length := (List.getElem?_eq_some_iff.1 h).1
  have := flatten_cut (xs := xs.set k y) (k := k) (x := y) (by simp [hlt])
  rw [this]; simp [List.take_set_of_le, List.drop_set_of_lt]
theorem flatten_len {α : Type} {sz : Nat} {xs : List (List α)} (hx : ∀ x ∈ xs, x.length = sz) : xs.flatten.length = xs.length * sz := by
  have := flatten_take (k := xs.length) hx (Nat.le_refl _)
  rwa [List.take_length] at this
theorem flatten_get {α : Type} {sz : Nat} {xs : List (List α)} (hx : ∀ x ∈ xs, x.length = sz) {k j : Nat} {x : List α} {a : α} (h : xs[k]? = some x) (hj : x[j]? = some a) : xs.flatten[k * sz + j]? = some a := by
  have hlt : k < xs.length := (List.getElem?_eq_some_iff.1 h).1
  have hj' : j < x.length := (List.getElem?_eq_some_iff.1 hj).1
  rw [flatten_cut h, List.getElem?_append_right (by rw [flatten_take hx (by omega)]; omega), flatten_take hx (by omega), Nat.add_sub_cancel_left, List.getElem?_append_left hj', hj]

/-! ### objects -/
/-- an object in memory: the slice of all of it, how long it is, cells an element, the cells, the blocks below -/
structure Conc where
  hv : Value
  len : Nat
  sz : Nat
  us : List Value
  F : List Nat
def SlOk (cc : Conc) (off m : Nat) (v : Value) : Prop :=
  off + m ≤ cc.len ∧ (off = 0 → m = cc.len → v = cc.hv) ∧ (m ≠ 0 → ∃ b c, own cc.hv = some b ∧ v = .slice (some ⟨b, off * cc.sz, none⟩) m c)
mutual
/-- what an abstract value says of a value -/
def RV (N : Nat) (C : Nat → Option Conc) (Im : Nat → Prop) (w : World) : AV → Value → Prop
  | .i n, v => v = .int .i64 n ∧ In64 n
  | .b x, v => v = .bool x
  | .dt o sz xs, v => o = false ∧ Imm Im w [.dt false sz xs] [v]
  | .sl o n off m, v => ∃ p c, v = .slice p m c ∧ m ≤ c ∧ c ≤ maxLen ∧ o < N ∧ ∀ cc, C o = some cc → n ≤ cc.len ∧ (cc.len = n → SlOk cc off m v)
  | .pt o n k j, v => ∃ b q, v = .pointer (some ⟨b, q, none⟩) ∧ o < N ∧ ∀ cc, C o = some cc → n ≤ cc.len ∧ (cc.len = n → own cc.hv = some b ∧ q = k * cc.sz + j)
  | .ip cs, v => ∃ b o us, v = .pointer (some ⟨b, o, none⟩) ∧ Im b ∧ Cells w b o us ∧ Imm Im w cs us
  | .fn f cs, v => ∃ us, v = .func (.func f) #[] us.toArray ∧ RVL N C Im w cs us
  | .agg cs, v => ∃ us, v = .agg us.toArray ∧ RVL N C Im w cs us
  | .tu cs, v => ∃ us, v = .tuple us.toArray ∧ RVL N C Im w cs us
  | .nl, v => v = .slice none 0 0
  | .em, v => ∃ p, v = .slice p 0 0
  | .no, v => True
def RVL (N : Nat) (C : Nat → Option Conc) (Im : Nat → Prop) (w : World) : List AV → List Value → Prop
  | [], us => us = []
  | a :: cs, us => ∃ v vs, us = v :: vs ∧ RV N C Im w a v ∧ RVL N C Im w cs vs
end
/-- what is said by C' is said by C, or is not said of the slots yet -/
def CLe (N : Nat) (C C' : Nat → Option Conc) : Prop := ∀ o, o < N → ∀ cc', C' o = some cc' → ∃ cc, C o = some cc ∧ ((cc.len = cc'.len ∧ cc.hv = cc'.hv ∧ cc.sz = cc'.sz) ∨ cc.len < cc'.len)
theorem CLe.refl (N : Nat) (C : Nat → Option Conc) : CLe N C C := fun o _ cc h => ⟨cc, h, .inl ⟨rfl, rfl, rfl⟩⟩
theorem SlOk.same {cc cc' : Conc} {off m : Nat} {v : Value} (h : SlOk cc off m v) (hl : cc.len = cc'.len) (hh : cc.hv = cc'.hv) (hs : cc.sz = cc'.sz) : SlOk cc' off m v := by
  unfold SlOk at *; rw [← hl, ← hh, ← hs]; exact h
section
variable {N M : Nat} {C C' : Nat → Option Conc} {Im Im' : Nat → Prop} {w w' : World}
mutual
theorem RV.mono (hI : ∀ k, Im k → Im' k) (hw : ∀ k, Im k → w'.heap[k]? = w.heap[k]?) (hN : N ≤ M) (hC : CLe N C C') : ∀ (a : AV) (v : Value), RV N C Im w a v → RV M C' Im' w' a v
  | .i n, v, h => h
  | .b x, v, h => h
  | .dt o sz xs, v, ⟨h1, h2⟩ => ⟨h1, h2.mono hI hw⟩
  | .sl o n off m, v, ⟨p, c, h1, h2, h3, h4, h5⟩ => ⟨p, c, h1, h2, h3, Nat.lt_of_lt_of_le h4 hN, fun cc' hcc => by
      obtain ⟨cc, g1, g2⟩ := hC o h4 cc' hcc
      have := h5 cc g1
      rcases g2 with ⟨e1, e2, e3⟩ | g2
      · exact ⟨by omega, fun e => (this.2 (by omega)).same e1 e2 e3⟩
      · exact ⟨by omega, fun e => by omega⟩⟩
  | .pt o n k j, v, ⟨b, q, h1, h4, h5⟩ => ⟨b, q, h1, Nat.lt_of_lt_of_le h4 hN, fun cc' hcc => by
      obtain ⟨cc, g1, g2⟩ := hC o h4 cc' hcc
      have := h5 cc g1
      rcases g2 with ⟨e1, e2, e3⟩ | g2
      · exact ⟨by omega, fun e => by rw [← e2, ← e3]; exact this.2 (by omega)⟩
      · exact ⟨by omega, fun e => by omega⟩⟩
  | .ip cs, v, ⟨b, o, us, h1, h2, h3, h4⟩ => ⟨b, o, us, h1, hI _ h2, h3.same (hw _ h2), h4.mono hI hw⟩
  | .fn f cs, v, ⟨us, h1, h2⟩ => ⟨us, h1, RVL.mono hI hw hN hC cs us h2⟩
  | .agg cs, v, ⟨us, h1, h2⟩ => ⟨us, h1, RVL.mono hI hw hN hC cs us h2⟩
  | .tu cs, v, ⟨us, h1, h2⟩ => ⟨us, h1, RVL.mono hI hw hN hC cs us h2⟩
  | .nl, v, h => h
  | .em, v, h => h
  | .no, v, _ => trivial
theorem RVL.mono (hI : ∀ k, Im k → Im' k) (hw : ∀ k, Im k → w'.heap[k]? = w.heap[k]?) (hN : N ≤ M) (hC : CLe N C C') : ∀ (cs : List AV) (us : List Value), RVL N C Im w cs us → RVL M C' Im' w' cs us
  | [], us, h => h
  | a :: cs, us, ⟨v, vs, h1, h2, h3⟩ => ⟨v, vs, h1, RV.mono hI hw hN hC a v h2, RVL.mono hI hw hN hC cs vs h3⟩
end
mutual
theorem RV.bnd : ∀ (a : AV) (v : Value), RV N C Im w a v → Bnd N a
  | .i n, v, h => trivial
  | .b x, v, h => trivial
  | .dt o sz xs, v, _ => trivial
  | .sl o n off m, v, ⟨p, c, h1, h2, h3, h4, h5⟩ => h4
  | .pt o n k j, v, ⟨b, q, h1, h4, h5⟩ => h4
  | .ip cs, v, _ => trivial
  | .fn f cs, v, ⟨us, h1, h2⟩ => RVL.bnd cs us h2
  | .agg cs, v, ⟨us, h1, h2⟩ => RVL.bnd cs us h2
  | .tu cs, v, ⟨us, h1, h2⟩ => RVL.bnd cs us h2
  | .nl, v, _ => trivial
  | .em, v, _ => trivial
  | .no, v, _ => trivial
theorem RVL.bnd : ∀ (cs : List AV) (us : List Value), RVL N C Im w cs us → BndL N cs
  | [], us, h => trivial
  | a :: cs, us, ⟨v, vs, h1, h2, h3⟩ => ⟨RV.bnd a v h2, RVL.bnd cs vs h3⟩
end
mutual
/-- fewer objects -/
theorem RV.cut (hC : ∀ o, o < M → ∀ cc, C' o = some cc → C o = some cc) : ∀ (a : AV) (v : Value), Bnd M a → RV N C Im w a v → RV M C' Im w a v
  | .i n, v, _, h => h
  | .b x, v, _, h => h
  | .dt o sz xs, v, _, h => h
  | .sl o n off m, v, hb, ⟨p, c, h1, h2, h3, h4, h5⟩ => ⟨p, c, h1, h2, h3, hb, fun cc hcc => h5 cc (hC o hb cc hcc)⟩
  | .pt o n k j, v, hb, ⟨b, q, h1, h4, h5⟩ => ⟨b, q, h1, hb, fun cc hcc => h5 cc (hC o hb cc hcc)⟩
  | .ip cs, v, _, h => h
  | .fn f cs, v, hb, ⟨us, h1, h2⟩ => ⟨us, h1, RVL.cut hC cs us hb h2⟩
  | .agg cs, v, hb, ⟨us, h1, h2⟩ => ⟨us, h1, RVL.cut hC cs us hb h2⟩
  | .tu cs, v, hb, ⟨us, h1, h2⟩ => ⟨us, h1, RVL.cut hC cs us hb h2⟩
  | .nl, v, _, h => h
  | .em, v, _, h => h
  | .no, v, _, _ => trivial
theorem RVL.cut (hC : ∀ o, o < M → ∀ cc, C' o = some cc → C o = some cc) : ∀ (cs : List AV) (us : List Value), BndL M cs → RVL N C Im w cs us → RVL M C' Im w cs us
  | [], us, _, h => h
  | a :: cs, us, hb, ⟨v, vs, h1, h2, h3⟩ => ⟨v, vs, h1, RV.cut hC a v hb.1 h2, RVL.cut hC cs vs hb.2 h3⟩
end
theorem RV.imm {a : AV} {v : Value} (h : Imm Im w [a] [v]) : RV N C Im w a v := by
  cases h with
  | int h1 _ => exact ⟨rfl, h1⟩
  | bool _ => rfl
  | no _ _ => trivial
  | sl0 h1 h2 => exact ⟨rfl, .sl0 h1 .nil⟩
  | sl h1 h2 h3 h4 h5 h6 h7 => exact ⟨rfl, .sl h1 h2 h3 h4 h5 h6 .nil⟩

/-- the cells of an object -/
inductive LayC (N : Nat) (C : Nat → Option Conc) (Im : Nat → Prop) (w : World) : List AV → List Value → List Nat → Prop
  | nil : LayC N C Im w [] [] []
  | at1 {a : AV} {v : Value} {cs : List AV} {vs : List Value} {F : List Nat} : RV N C Im w a v → v.oneCell' = true → LayC N C Im w cs vs F → LayC N C Im w (a :: cs) (v :: vs) F
  | ow {sz : Nat} {xs : List (List AV)} {v : Value} {F1 : List Nat} {cs : List AV} {vs : List Value} {F : List Nat} : OwnC Im w [.dt true sz xs] [v] F1 → LayC N C Im w cs vs F → LayC N C Im w (.dt true sz xs :: cs) (v :: vs) (F1 ++ F)

theorem LayC.mono (hI : ∀ k, Im k → Im' k) (hw : ∀ k, Im k → w'.heap[k]? = w.heap[k]?) (hN : N ≤ M) (hC : CLe N C C') {cs : List AV} {vs : List Value} {F : List Nat} (h : LayC N C Im w cs vs F) (hF : ∀ k ∈ F, w'.heap[k]? = w.heap[k]?) : LayC M C' Im' w' cs vs F := by
  induction h with
  | nil => exact .nil
  | at1 h1 h2 _ ih => exact .at1 (RV.mono hI hw hN hC _ _ h1) h2 (ih hF)
  | ow h1 _ ih => exact .ow (h1.mono hI hw fun k hk => hF k (by simp [hk])) (ih fun k hk => hF k (by simp [hk]))
theorem LayC.length {cs : List AV} {vs : List Value} {F : List Nat} (h : LayC N C Im w cs vs F) : vs.length = cs.length := by
  induction h <;> simp_all
theorem LayC.one {cs : List AV} {vs : List Value} {F : List Nat} (h : LayC N C Im w cs vs F) : oneAll vs := by
  induction h with
  | nil => exact oneAll_nil
  | at1 _ h1 _ ih => exact oneAll_cons h1 ih
  | ow h1 _ ih => exact oneAll_cons (h1.one _ (by simp)) ih
theorem LayC.wb {cs : List AV} {vs : List Value} {F : List Nat} (h : LayC N C Im w cs vs F) : ∀ k ∈ F, Wb w k := by
  induction h with
  | nil => intro k hk; cases hk
  | at1 _ _ _ ih => exact ih
  | ow h1 _ ih =>
    intro k hk
    rcases List.mem_append.1 hk with hk | hk
    · exact h1.wb k hk
    · exact ih k hk
theorem LayC.append {cs ds : List AV} {vs us : List Value} {F G : List Nat} (h : LayC N C Im w cs vs F) (k : LayC N C Im w ds us G) : LayC N C Im w (cs ++ ds) (vs ++ us) (F ++ G) := by
  induction h with
  | nil => exact k
  | at1 h1 h2 _ ih => exact .at1 h1 h2 ih
  | ow h1 _ ih => rw [List.append_assoc]; exact .ow h1 ih
theorem LayC.split : ∀ {cs ds : List AV} {vs : List Value} {F : List Nat}, LayC N C Im w (cs ++ ds) vs F → ∃ v1 v2 F1 F2, vs = v1 ++ v2 ∧ F = F1 ++ F2 ∧ LayC N C Im w cs v1 F1 ∧ LayC N C Im w ds v2 F2
  | [], ds, vs, F, h => ⟨[], vs, [], F, rfl, rfl, .nil, h⟩
  | a :: cs, ds, vs, F, h => by
    rw [List.cons_append] at h
    cases h with
    | at1 h1 h2 h => obtain ⟨v1, v2, F1, F2, rfl, rfl, a, b⟩ := LayC.split h; exact ⟨_ :: v1, v2, F1, F2, rfl, rfl, .at1 h1 h2 a, b⟩
    | ow h1 h => obtain ⟨v1, v2, F1, F2, rfl, rfl, a, b⟩ := LayC.split h; exact ⟨_ :: v1, v2, _ ++ F1, F2, rfl, (List.append_assoc ..).symm, .ow h1 a, b⟩
theorem Bnd.pure {a : AV} (h : pureB a = true) (N : Nat) : Bnd N a := by
  cases a <;> first | trivial | cases h
theorem LayC.bnd {cs : List AV} {vs : List Value} {F : List Nat} (h : LayC N C Im w cs vs F) : BndL N cs := by
  induction h with
  | nil => trivial
  | at1 h1 _ _ ih => exact ⟨RV.bnd _ _ h1, ih⟩
  | ow _ _ ih => exact ⟨trivial, ih⟩
theorem LayC.cutN (hC : ∀ o, o < M → ∀ cc, C' o = some cc → C o = some cc) {cs : List AV} {vs : List Value} {F : List Nat} (h : LayC N C Im w cs vs F) (hb : BndL M cs) : LayC M C' Im w cs vs F := by
  induction h with
  | nil => exact .nil
  | at1 h1 h2 _ ih => exact .at1 (RV.cut hC _ _ hb.1 h1) h2 (ih hb.2)
  | ow h1 _ ih => exact .ow h1 (ih hb.2)
theorem RV.pure {a : AV} {v : Value} (h : RV N C Im w a v) (hp : pureB a = true) : Imm Im w [a] [v] := by
  cases a with
  | i n => obtain ⟨rfl, h⟩ := h; exact .int h .nil
  | b x => cases h; exact .bool .nil
  | dt o sz xs => obtain ⟨rfl, h⟩ := h; exact h
  | _ => cases hp
theorem LayC.pure {cs : List AV} {vs : List Value} {F : List Nat} (h : LayC N C Im w cs vs F) (hp : cs.all pureB = true) : OwnC Im w cs vs F := by
  induction h with
  | nil => exact .nil
  | at1 h1 _ _ ih =>
    rw [List.all_cons, Bool.and_eq_true] at hp
    exact .at1 (RV.pure h1 hp.1) (ih hp.2)
  | ow h1 _ ih =>
    rw [List.all_cons, Bool.and_eq_true] at hp
    have := h1.append (ih hp.2)
    simpa using this
theorem LayC.own {cs : List AV} {vs : List Value} {F : List Nat} (h : OwnC Im w cs vs F) : LayC N C Im w cs vs F := by
  induction h with
  | nil => exact .nil
  | at1 h1 _ ih => exact .at1 (RV.imm h1) (h1.one _ (by simp)) ih
  | @ow sz xs v us G cs vs F h1 h2 h3 _ _ ih => exact .ow (F1 := ownL v ++ G) (by simpa using OwnC.ow h1 h2 h3 .nil) ih
/-- cells from place i on -/
theorem LayC.cut {cs ds : List AV} {vs : List Value} {F : List Nat} (h : LayC N C Im w cs vs F) {A B : List AV} (e : cs = A ++ (ds ++ B)) :
    ∃ u1 u2 u3 F1 F2 F3, vs = u1 ++ (u2 ++ u3) ∧ F = F1 ++ (F2 ++ F3) ∧ u1.length = A.length ∧ u2.length = ds.length ∧ LayC N C Im w A u1 F1 ∧ LayC N C Im w ds u2 F2 ∧ LayC N C Im w B u3 F3 := by
  subst e
  obtain ⟨u1, v2, F1, G2, rfl, rfl, h1, h2⟩ := h.split
  obtain ⟨u2, u3, F2, F3, rfl, rfl, h3, h4⟩ := h2.split
  exact ⟨u1, u2, u3, F1, F2, F3, rfl, rfl, h1.length, h3.length, h1, h3, h4⟩
theorem LayC.get1 {a : AV} {vs : List Value} {F : List Nat} (h : LayC N C Im w [a] vs F) (hn : ∀ sz xs, a ≠ .dt true sz xs) : ∃ v, vs = [v] ∧ F = [] ∧ RV N C Im w a v := by
  cases h with
  | at1 h1 h2 h => cases h; exact ⟨_, rfl, rfl, h1⟩
  | ow h1 h => exact absurd rfl (hn _ _)
theorem cutAt {α : Type} {l : List α} {i : Nat} {a : α} (h : l[i]? = some a) : l = l.take i ++ ([a] ++ l.drop (i + 1)) := by
  rw [← (List.getElem?_eq_some_iff.1 h).2, List.singleton_append, List.getElem_cons_drop, List.take_append_drop]
theorem LayC.get {cs : List AV} {vs : List Value} {F : List Nat} (h : LayC N C Im w cs vs F) {i : Nat} {a : AV} (hi : cs[i]? = some a) (hn : ∀ sz xs, a ≠ .dt true sz xs) : ∃ v, vs[i]? = some v ∧ RV N C Im w a v := by
  obtain ⟨u1, u2, u3, F1, F2, F3, rfl, rfl, l1, l2, h1, h2, h3⟩ := h.cut (cutAt hi)
  obtain ⟨v, rfl, rfl, hv⟩ := h2.get1 hn
  have hlt : i < cs.length := (List.getElem?_eq_some_iff.1 hi).1
  rw [List.length_take, Nat.min_eq_left (by omega)] at l1
  exact ⟨v, by rw [List.getElem?_append_right (by omega), l1]; simp, hv⟩

/-! ### the state -/
inductive Ob where
  | dead
  | live (lent : Bool) (sz : Nat) (xs : List (List AV))
structure St where
  E : Nat → AV
  hp : Nat → Ob
  nx : Nat
def updA {β : Type} (E : Nat → β) (d : Nat) (v : β) : Nat → β := fun t => bif Nat.beq t d then v else E t
theorem updA_same {β : Type} (E : Nat → β) (d : Nat) (v : β) : updA E d v d = v := by simp [updA]
theorem updA_ne {β : Type} (E : Nat → β) {d t : Nat} (v : β) (h : t ≠ d) : updA E d v t = E t := by
  have : Nat.beq t d = false := by rw [← Bool.not_eq_true]; intro hb; exact h (Nat.eq_of_beq_eq_true hb)
  simp [updA, this]
def blks (cc : Conc) : List Nat := ownL cc.hv ++ cc.F
/-- what a walk keeps of its call: the blocks that it may write, those that nobody writes, values that are told of to the end -/
structure Fr where
  bl : List Nat
  J : Nat → Prop
  gh : List (AV × Value)
structure OR (w0 : World) (MP : Fr) (N : Nat) (C : Nat → Option Conc) (Im : Nat → Prop) (w : World) (l : Bool) (sz : Nat) (xs : List (List AV)) (cc : Conc) : Prop where
  esz : cc.sz = sz
  len : cc.len = xs.length
  buf : Buf' w cc.sz cc.hv cc.len cc.us
  lay : LayC N C Im w xs.flatten cc.us cc.F
  lens : ∀ x ∈ xs, x.length = cc.sz
  nd : (blks cc).Nodup
  ge : ∀ k ∈ blks cc, w0.heap.size ≤ k ∨ k ∈ MP.bl
  nim : ∀ b, own cc.hv = some b → ¬ Im b
  lent : ∀ k ∈ cc.F, Im k ↔ l = true
theorem OR.wb {w0 : World} {MP : Fr} {l : Bool} {sz : Nat} {xs : List (List AV)} {cc : Conc} (h : OR w0 MP N C Im w l sz xs cc) : ∀ k ∈ blks cc, Wb w k := fun k hk => by
  rcases List.mem_append.1 hk with hk | hk
  · exact h.buf.lt k (mem_ownL.1 hk)
  · exact h.lay.wb k hk
structure Sm (w0 : World) (MP : Fr) (st : St) (C : Nat → Option Conc) (Im : Nat → Prop) (E : Env) (w : World) : Prop where
  tch : Touched MP.bl w0 w
  im : ∀ k, Im k → k < w.heap.size
  slot : ∀ t, RV st.nx C Im w (st.E t) (E t)
  nod : ∀ o, st.hp o = .dead → C o = none
  obj : ∀ o l sz xs, st.hp o = .live l sz xs → ∃ cc, C o = some cc ∧ OR w0 MP st.nx C Im w l sz xs cc
  lt : ∀ o, st.nx ≤ o → st.hp o = .dead
  dis : ∀ o o' cc cc', o ≠ o' → C o = some cc → C o' = some cc' → ∀ k ∈ blks cc, k ∉ blks cc'
  imJ : ∀ k, Im k → MP.J k ∨ w0.heap.size ≤ k ∨ k ∈ MP.bl
  gst : ∀ p ∈ MP.gh, RV st.nx C Im w p.1 p.2
/-- the state tells of slots and memory -/
def Sim (w0 : World) (MP : Fr) (st : St) (E : Env) (w : World) : Prop := ∃ C Im, Sm w0 MP st C Im E w
variable {w0 : World} {MP : Fr} {st : St} {E' : Env}
theorem Sm.objOf (h : Sm w0 MP st C Im E' w) {o : Nat} {cc : Conc} (hc : C o = some cc) : ∃ l sz xs, st.hp o = .live l sz xs ∧ OR w0 MP st.nx C Im w l sz xs cc := by
  cases hh : st.hp o with
  | dead => rw [h.nod o hh] at hc; cases hc
  | live l sz xs =>
    obtain ⟨cc', h1, h2⟩ := h.obj o l sz xs hh
    rw [hc] at h1
    simp only [Option.some.injEq] at h1
    subst h1
    exact ⟨l, sz, xs, rfl, h2⟩
/-- memory that is not spoken of has changed -/
theorem Sm.frame (h : Sm w0 MP st C Im E' w) (ht : Touched MP.bl w0 w') (hz : w.heap.size ≤ w'.heap.size) (hI : ∀ k, Im k → w'.heap[k]? = w.heap[k]?) (hO : ∀ o cc, C o = some cc → ∀ k ∈ blks cc, w'.heap[k]? = w.heap[k]?) : Sm w0 MP st C Im E' w' := by
  refine ⟨ht, fun k hk => Nat.lt_of_lt_of_le (h.im k hk) hz, fun t => RV.mono (fun _ h => h) hI (Nat.le_refl _) (CLe.refl _ _) _ _ (h.slot t), h.nod, fun o l sz xs ho => ?_, h.lt, h.dis, h.imJ, fun p hp => RV.mono (fun _ h => h) hI (Nat.le_refl _) (CLe.refl _ _) _ _ (h.gst p hp)⟩
  obtain ⟨cc, h1, h2⟩ := h.obj o l sz xs ho
  exact ⟨cc, h1, h2.esz, h2.len, h2.buf.same fun b hb => hO o cc h1 b (by simp [blks, mem_ownL, hb]), h2.lay.mono (fun _ h => h) hI (Nat.le_refl _) (CLe.refl _ _) fun k hk => hO o cc h1 k (by simp [blks, hk]), h2.lens, h2.nd, h2.ge, h2.nim, h2.lent⟩
theorem Sm.later (h : Sm w0 MP st C Im E' w) (hl : Later w w') : Sm w0 MP st C Im E' w' := by
  refine h.frame (h.tch.trans (Touched.later hl)) hl.size (fun k hk => Below.block hl k (h.im k hk)) fun o cc hc k hk => ?_
  obtain ⟨l, sz, xs, _, hO⟩ := h.objOf hc
  exact Below.block hl k (hO.wb k hk).lt
theorem Sm.upd (h : Sm w0 MP st C Im E' w) (d : Nat) {a : AV} {v : Value} (hv : RV st.nx C Im w a v) : Sm w0 MP ⟨updA st.E d a, st.hp, st.nx⟩ C Im (G.upd E' d v) w := by
  refine ⟨h.tch, h.im, fun t => ?_, h.nod, h.obj, h.lt, h.dis, h.imJ, h.gst⟩
  dsimp only
  by_cases e : t = d
  · subst e; rw [updA_same, upd_same]; exact hv
  · rw [updA_ne _ _ e, upd_ne _ _ e]; exact h.slot t
/-- a new object -/
theorem Sm.new (h : Sm w0 MP st C Im E' w) {l : Bool} {sz : Nat} {xs : List (List AV)} {cc : Conc} (hO : OR w0 MP st.nx C Im w l sz xs cc) (hd : ∀ o c, C o = some c → ∀ k ∈ blks cc, k ∉ blks c) :
    Sm w0 MP ⟨st.E, updA st.hp st.nx (.live l sz xs), st.nx + 1⟩ (updA C st.nx (some cc)) Im E' w := by
  have hle : CLe st.nx C (updA C st.nx (some cc)) := fun o ho c hc => ⟨c, by rwa [updA_ne _ _ (by omega)] at hc, .inl ⟨rfl, rfl, rfl⟩⟩
  have up : ∀ {l sz xs cc}, OR w0 MP st.nx C Im w l sz xs cc → OR w0 MP (st.nx + 1) (updA C st.nx (some _)) Im w l sz xs cc := fun h => ⟨h.esz, h.len, h.buf, h.lay.mono (fun _ h => h) (fun _ _ => rfl) (by omega) hle (fun _ _ => rfl), h.lens, h.nd, h.ge, h.nim, h.lent⟩
  refine ⟨h.tch, h.im, fun t => RV.mono (fun _ h => h) (fun _ _ => rfl) (by simp) hle _ _ (h.slot t), fun o ho => ?_, fun o l' sz' xs' ho => ?_, fun o ho => ?_, fun o o' c c' hoo hc hc' => ?_, h.imJ, fun p hp => RV.mono (fun _ h => h) (fun _ _ => rfl) (by simp) hle _ _ (h.gst p hp)⟩
  · dsimp only at ho
    by_cases e : o = st.nx
    · subst e; rw [updA_same] at ho; cases ho
    · rw [updA_ne _ _ e] at ho ⊢; exact h.nod o ho
  · dsimp only at ho
    by_cases e : o = st.nx
    · subst e
      rw [updA_same] at ho ⊢
      cases ho
      exact ⟨cc, rfl, up hO⟩
    · rw [updA_ne _ _ e] at ho ⊢
      obtain ⟨c, h1, h2⟩ := h.obj o l' sz' xs' ho
      exact ⟨c, h1, up h2⟩
  · have : o ≠ st.nx := by simp only at ho; omega
    simp only
    rw [updA_ne _ _ this]; exact h.lt o (by simp only at ho; omega)
  · by_cases e : o = st.nx
    · subst e
      rw [updA_same] at hc
      rw [updA_ne _ _ (Ne.symm hoo)] at hc'
      cases hc
      exact hd o' c' hc'
    · rw [updA_ne _ _ e] at hc
      by_cases e' : o' = st.nx
      · subst e'
        rw [updA_same] at hc'
        cases hc'
        exact fun k hk hk' => hd o c hc k hk' hk
      · rw [updA_ne _ _ e'] at hc'
        exact h.dis o o' c c' hoo hc hc'
/-- an object has changed -/
theorem Sm.turn (h : Sm w0 MP st C Im E' w) (o : Nat) {l l' : Bool} {sz : Nat} {xs xs' : List (List AV)} {cc cc' : Conc} (ho : st.hp o = .live l sz xs) (hcc : C o = some cc) (hl : (cc.len = cc'.len ∧ cc.hv = cc'.hv ∧ cc.sz = cc'.sz) ∨ cc.len < cc'.len)
    (ht : Touched MP.bl w0 w') (hz : w.heap.size ≤ w'.heap.size) (hI : ∀ k, Im k → w'.heap[k]? = w.heap[k]?) (hB : ∀ o' c, o' ≠ o → C o' = some c → ∀ k ∈ blks c, w'.heap[k]? = w.heap[k]?)
    (hO : OR w0 MP st.nx C Im w' l' sz xs' cc') (hd : ∀ o' c, o' ≠ o → C o' = some c → ∀ k ∈ blks cc', k ∉ blks c) :
    Sm w0 MP ⟨st.E, updA st.hp o (.live l' sz xs'), st.nx⟩ (updA C o (some cc')) Im E' w' := by
  have hle : CLe st.nx C (updA C o (some cc')) := fun o1 ho1 c hc => by
    by_cases e : o1 = o
    · subst e
      rw [updA_same] at hc
      cases hc
      exact ⟨cc, hcc, hl⟩
    · rw [updA_ne _ _ e] at hc
      exact ⟨c, hc, .inl ⟨rfl, rfl, rfl⟩⟩
  refine ⟨ht, fun k hk => Nat.lt_of_lt_of_le (h.im k hk) hz, fun t => RV.mono (fun _ h => h) hI (Nat.le_refl _) hle _ _ (h.slot t), fun o1 h1 => ?_, fun o1 l1 sz1 xs1 h1 => ?_, fun o1 h1 => ?_, fun o1 o2 c1 c2 hoo hc1 hc2 => ?_, h.imJ, fun p hp => RV.mono (fun _ h => h) hI (Nat.le_refl _) hle _ _ (h.gst p hp)⟩
  · by_cases e : o1 = o
    · subst e; simp only at h1; rw [updA_same] at h1; cases h1
    · simp only at h1; rw [updA_ne _ _ e] at h1 ⊢; exact h.nod o1 h1
  · by_cases e : o1 = o
    · subst e
      simp only at h1
      rw [updA_same] at h1 ⊢
      cases h1
      exact ⟨cc', rfl, hO.esz, hO.len, hO.buf, hO.lay.mono (fun _ h => h) (fun _ _ => rfl) (Nat.le_refl _) hle (fun _ _ => rfl), hO.lens, hO.nd, hO.ge, hO.nim, hO.lent⟩
    · simp only at h1
      rw [updA_ne _ _ e] at h1 ⊢
      obtain ⟨c, g1, g2⟩ := h.obj o1 l1 sz1 xs1 h1
      exact ⟨c, g1, g2.esz, g2.len, g2.buf.same fun b hb => hB o1 c e g1 b (by simp [blks, mem_ownL, hb]), g2.lay.mono (fun _ h => h) hI (Nat.le_refl _) hle fun k hk => hB o1 c e g1 k (by simp [blks, hk]), g2.lens, g2.nd, g2.ge, g2.nim, g2.lent⟩
  · have : o1 ≠ o := by
      intro e; subst e
      have := h.lt o1 h1
      rw [ho] at this; cases this
    simp only
    rw [updA_ne _ _ this]; exact h.lt o1 h1
  · by_cases e : o1 = o
    · subst e
      rw [updA_same] at hc1
      rw [updA_ne _ _ (Ne.symm hoo)] at hc2
      cases hc1
      exact hd o2 c2 (Ne.symm hoo) hc2
    · rw [updA_ne _ _ e] at hc1
      by_cases e' : o2 = o
      · subst e'
        rw [updA_same] at hc2
        cases hc2
        exact fun k hk hk' => hd o1 c1 e hc1 k hk' hk
      · rw [updA_ne _ _ e'] at hc2
        exact h.dis o1 o2 c1 c2 hoo hc1 hc2
/-- an object is forgotten -/
theorem Sm.kill (h : Sm w0 MP st C Im E' w) (o : Nat) : Sm w0 MP ⟨st.E, updA st.hp o .dead, st.nx⟩ (updA C o Option.none) Im E' w := by
  have hle : CLe st.nx C (updA C o Option.none) := fun o1 ho1 c hc => by
    by_cases e : o1 = o
    · subst e; rw [updA_same] at hc; cases hc
    · rw [updA_ne _ _ e] at hc; exact ⟨c, hc, .inl ⟨rfl, rfl, rfl⟩⟩
  refine ⟨h.tch, h.im, fun t => RV.mono (fun _ h => h) (fun _ _ => rfl) (Nat.le_refl _) hle _ _ (h.slot t), fun o1 h1 => ?_, fun o1 l1 sz1 xs1 h1 => ?_, fun o1 h1 => ?_, fun o1 o2 c1 c2 hoo hc1 hc2 => ?_, h.imJ, fun p hp => RV.mono (fun _ h => h) (fun _ _ => rfl) (Nat.le_refl _) hle _ _ (h.gst p hp)⟩
  · by_cases e : o1 = o
    · subst e; exact updA_same ..
    · simp only at h1; rw [updA_ne _ _ e] at h1 ⊢; exact h.nod o1 h1
  · by_cases e : o1 = o
    · subst e; simp only at h1; rw [updA_same] at h1; cases h1
    · simp only at h1
      rw [updA_ne _ _ e] at h1 ⊢
      obtain ⟨c, g1, g2⟩ := h.obj o1 l1 sz1 xs1 h1
      exact ⟨c, g1, g2.esz, g2.len, g2.buf, g2.lay.mono (fun _ h => h) (fun _ _ => rfl) (Nat.le_refl _) hle (fun _ _ => rfl), g2.lens, g2.nd, g2.ge, g2.nim, g2.lent⟩
  · by_cases e : o1 = o
    · subst e; exact updA_same ..
    · simp only; rw [updA_ne _ _ e]; exact h.lt o1 h1
  · by_cases e : o1 = o
    · subst e; rw [updA_same] at hc1; cases hc1
    · by_cases e' : o2 = o
      · subst e'; rw [updA_same] at hc2; cases hc2
      · rw [updA_ne _ _ e] at hc1; rw [updA_ne _ _ e'] at hc2; exact h.dis o1 o2 c1 c2 hoo hc1 hc2
/-- an object's blocks below are not written any more -/
theorem Sm.lend (h : Sm w0 MP st C Im E' w) (o : Nat) {l : Bool} {sz : Nat} {xs : List (List AV)} (ho : st.hp o = .live l sz xs) : ∃ Im', Sm w0 MP ⟨st.E, updA st.hp o (.live true sz xs), st.nx⟩ C Im' E' w := by
  obtain ⟨cc, hcc, hO⟩ := h.obj o l sz xs ho
  have hI : ∀ k, Im k → Im k ∨ k ∈ cc.F := fun k hk => .inl hk
  refine ⟨fun k => Im k ∨ k ∈ cc.F, h.tch, fun k hk => hk.elim (h.im k) fun hk => (hO.wb k (by simp [blks, hk])).lt, fun t => RV.mono hI (fun _ _ => rfl) (Nat.le_refl _) (CLe.refl _ _) _ _ (h.slot t), fun o1 h1 => ?_, fun o1 l1 sz1 xs1 h1 => ?_, fun o1 h1 => ?_, h.dis, fun k hk => hk.elim (h.imJ k) fun hk => .inr (hO.ge k (by simp [blks, hk])), fun p hp => RV.mono hI (fun _ _ => rfl) (Nat.le_refl _) (CLe.refl _ _) _ _ (h.gst p hp)⟩
  · by_cases e : o1 = o
    · subst e; simp only at h1; rw [updA_same] at h1; cases h1
    · simp only at h1; rw [updA_ne _ _ e] at h1; exact h.nod o1 h1
  · by_cases e : o1 = o
    · subst e
      simp only at h1
      rw [updA_same] at h1
      cases h1
      refine ⟨cc, hcc, hO.esz, hO.len, hO.buf, hO.lay.mono hI (fun _ _ => rfl) (Nat.le_refl _) (CLe.refl _ _) (fun _ _ => rfl), hO.lens, hO.nd, hO.ge, fun b hb hk => hk.elim (hO.nim b hb) fun hk => ?_, fun k hk => ⟨fun _ => rfl, fun _ => .inr hk⟩⟩
      have := hO.nd
      unfold blks at this
      exact (List.nodup_append.1 this).2.2 b (mem_ownL.2 hb) b hk rfl
    · simp only at h1
      rw [updA_ne _ _ e] at h1
      obtain ⟨c, g1, g2⟩ := h.obj o1 l1 sz1 xs1 h1
      refine ⟨c, g1, g2.esz, g2.len, g2.buf, g2.lay.mono hI (fun _ _ => rfl) (Nat.le_refl _) (CLe.refl _ _) (fun _ _ => rfl), g2.lens, g2.nd, g2.ge, fun b hb hk => hk.elim (g2.nim b hb) fun hk => ?_, fun k hk => ⟨fun hk' => hk'.elim (fun hk' => (g2.lent k hk).1 hk') fun hk' => ?_, fun hl => .inl ((g2.lent k hk).2 hl)⟩⟩
      · exact h.dis o1 o c cc e g1 hcc b (by simp [blks, mem_ownL, hb]) (by simp [blks, hk])
      · exact absurd (show k ∈ blks cc by simp [blks, hk']) (h.dis o1 o c cc e g1 hcc k (by simp [blks, hk]))
  · by_cases e : o1 = o
    · subst e
      have := h.lt o1 h1
      rw [ho] at this; cases this
    · simp only; rw [updA_ne _ _ e]; exact h.lt o1 h1
end
end Go.Proofs.YtedjajokbdokhaaGreat.V

/- Rules for walking code by abstract states: control flow, loops, regions, operations that write nothing. Over any program; nothing is claimed of the given one. -/
namespace Go.Proofs.YtedjajokbdokhaaGreat.V
open Go.RowKit G
set_option linter.unusedVariables false
set_option linter.unusedSimpArgs false

/-! ### operands -/
def inRange : Int → Bool
  | .ofNat m => Nat.ble m 9223372036854775807
  | .negSucc m => Nat.ble m 9223372036854775807
theorem inRange_spec {n : Int} (h : inRange n = true) : In64 n := by
  cases n with
  | ofNat m => have := leB h; exact ⟨by simp only [Int.ofNat_eq_natCast]; omega, by simp only [Int.ofNat_eq_natCast]; omega⟩
  | negSucc m => have := leB h; exact ⟨by omega, by omega⟩
def cst1 : Value → AV
  | .int .i64 n => bif inRange n then .i n else .no
  | .bool b => .b b
  | .slice none 0 0 => .nl
  | _ => .no
def cst : Value → AV
  | .agg cs => .agg (cs.toList.map cst1)
  | v => cst1 v
def evA (st : St) : Operand → AV
  | .tmp t => st.E t
  | .const v => cst v
  | .global _ => .no
  | .func f => .fn f []
section
variable {N : Nat} {C : Nat → Option Conc} {Im : Nat → Prop} {w : World}
theorem RV.cst1 (v : Value) : RV N C Im w (cst1 v) v := by
  unfold V.cst1
  split
  · rename_i n
    cases h : inRange n with
    | true => exact ⟨rfl, inRange_spec h⟩
    | false => trivial
  · rfl
  · rfl
  · trivial
theorem RVL.cst1 : ∀ (l : List Value), RVL N C Im w (l.map V.cst1) l
  | [] => rfl
  | v :: l => ⟨v, l, rfl, RV.cst1 v, RVL.cst1 l⟩
theorem RV.cst (v : Value) : RV N C Im w (cst v) v := by
  unfold V.cst
  split
  · rename_i cs; exact ⟨cs.toList, rfl, RVL.cst1 _⟩
  · exact RV.cst1 v
variable {w0 : World} {MP : Fr} {st : St} {E' : Env}
theorem Sm.ev (h : Sm w0 MP st C Im E' w) (x : Operand) : RV st.nx C Im w (evA st x) (G.ev E' x) := by
  cases x with
  | tmp t => exact h.slot t
  | const v => exact RV.cst v
  | global g => trivial
  | func f => exact ⟨[], rfl, rfl⟩
theorem Sm.evL (h : Sm w0 MP st C Im E' w) : ∀ (xs : List Operand), RVL st.nx C Im w (xs.map (evA st)) (xs.map (G.ev E'))
  | [] => rfl
  | x :: xs => ⟨_, _, rfl, h.ev x, h.evL xs⟩
end

/-! ### judgments -/
def upQ (w0 : World) (MP : Fr) (Q : Exit → St → Prop) : Exit → Env → World → Prop := fun e E w => ∃ st, Sim w0 MP st E w ∧ Q e st
def AW (P : Program) (n : Nat) (w0 : World) (MP : Fr) (c : Code) (Q : Exit → St → Prop) (st : St) : Prop := ∀ E w, Sim w0 MP st E w → Wp P n c (upQ w0 MP Q) E w
def ARg (P : Program) (n : Nat) (w0 : World) (MP : Fr) (lb : Bool) (ops : Array Oper) (os : List Oper) (Q : Exit → St → Prop) (st : St) : Prop :=
  ∀ E w, Sim w0 MP st E w → Rg P n ops os (fun e E' w' => (lb = true → Later w w') ∧ upQ w0 MP Q e E' w') E w
def ATh (K : St → Prop) (Q : Exit → St → Prop) : Exit → St → Prop
  | .normal, st => K st
  | e, st => Q e st
def ABk (id : Nat) (Q : Exit → St → Prop) : Exit → St → Prop
  | .exit id', st => bif Nat.beq id' id then Q .normal st else Q (.exit id') st
  | e, st => Q e st
class ANoPan (Q : Exit → St → Prop) : Prop where
  h : ∀ c st, ¬ Q (.panic c) st
instance (K : St → Prop) (Q : Exit → St → Prop) [hQ : ANoPan Q] : ANoPan (ATh K Q) := ⟨fun c st h => hQ.h c st h⟩
instance (id : Nat) (Q : Exit → St → Prop) [hQ : ANoPan Q] : ANoPan (ABk id Q) := ⟨fun c st h => hQ.h c st h⟩
instance (w0 : World) (MP : Fr) (Q : Exit → St → Prop) [hQ : ANoPan Q] : NoPan (upQ w0 MP Q) := ⟨fun c E w ⟨st, _, h⟩ => hQ.h c st h⟩

section
variable {P : Program} {n : Nat} {w0 : World} {MP : Fr} {Q : Exit → St → Prop} {st : St}
theorem AW.skip (h : Q .normal st) : AW P n w0 MP .skip Q st := fun E w hs => Wp.skip ⟨st, hs, h⟩
theorem AW.ret (h : Q .ret st) : AW P n w0 MP .ret Q st := fun E w hs => Wp.ret ⟨st, hs, h⟩
theorem AW.exit {id : Nat} (h : Q (.exit id) st) : AW P n w0 MP (.exit id) Q st := fun E w hs => Wp.exit ⟨st, hs, h⟩
theorem AW.seq {x y : Code} (h : AW P n w0 MP x (ATh (AW P n w0 MP y Q) Q) st) : AW P n w0 MP (.seq x y) Q st := fun E w hs =>
  Wp.seq ((h E w hs).mono fun e E' w' ⟨st', hs', hq⟩ => by
    cases e <;> first | exact hq E' w' hs' | exact ⟨st', hs', hq⟩)
theorem AW.block {id : Nat} {c : Code} (h : AW P n w0 MP c (ABk id Q) st) : AW P n w0 MP (.block id c) Q st := fun E w hs =>
  Wp.block ((h E w hs).mono fun e E' w' ⟨st', hs', hq⟩ => by
    cases e with
    | exit id' =>
      simp only [ABk] at hq
      simp only [Bk]
      cases hb : Nat.beq id' id with
      | true => rw [hb] at hq; exact ⟨st', hs', hq⟩
      | false => rw [hb] at hq; exact ⟨st', hs', hq⟩
    | _ => exact ⟨st', hs', hq⟩)
theorem ATh.normal {K : St → Prop} (h : K st) : ATh K Q .normal st := h
theorem ATh.ret {K : St → Prop} (h : Q .ret st) : ATh K Q .ret st := h
theorem ATh.exit {K : St → Prop} {id : Nat} (h : Q (.exit id) st) : ATh K Q (.exit id) st := h
theorem ABk.normal {id : Nat} (h : Q .normal st) : ABk id Q .normal st := h
theorem ABk.ret {id : Nat} (h : Q .ret st) : ABk id Q .ret st := h
theorem ABk.here {id id' : Nat} (hb : Nat.beq id' id = true) (h : Q .normal st) : ABk id Q (.exit id') st := by simp only [ABk, hb]; exact h
theorem ABk.far {id id' : Nat} (hb : Nat.beq id' id = false) (h : Q (.exit id') st) : ABk id Q (.exit id') st := by simp only [ABk, hb]; exact h
theorem AW.cond {c : Operand} {x y : Code} {b : Bool} (hc : evA st c = .b b) (ht : b = true → AW P n w0 MP x Q st) (hf : b = false → AW P n w0 MP y Q st) : AW P n w0 MP (.cond c x y) Q st := fun E w hs => by
  obtain ⟨C, Im, hm⟩ := hs
  have h1 := hm.ev c
  rw [hc] at h1
  exact Wp.cond h1 (fun h => ht h E w ⟨C, Im, hm⟩) (fun h => hf h E w ⟨C, Im, hm⟩)
theorem AW.yes {c : Operand} {x y : Code} (hc : evA st c = .b true) (h : AW P n w0 MP x Q st) : AW P n w0 MP (.cond c x y) Q st := AW.cond hc (fun _ => h) (fun h => by cases h)
theorem AW.no {c : Operand} {x y : Code} (hc : evA st c = .b false) (h : AW P n w0 MP y Q st) : AW P n w0 MP (.cond c x y) Q st := AW.cond hc (fun h => by cases h) (fun _ => h)
theorem AW.condT {c : Operand} {x y : Code} {b : Bool} (hc : evA st c = .b b) (hb : b = true) (h : AW P n w0 MP x Q st) : AW P n w0 MP (.cond c x y) Q st := AW.cond hc (fun _ => h) (fun h' => by rw [hb] at h'; cases h')
theorem AW.condF {c : Operand} {x y : Code} {b : Bool} (hc : evA st c = .b b) (hb : b = false) (h : AW P n w0 MP y Q st) : AW P n w0 MP (.cond c x y) Q st := AW.cond hc (fun h' => by rw [hb] at h'; cases h') (fun _ => h)
theorem Wp.loopG {n : Nat} {Q : Exit → Env → World → Prop} {E : Env} {w : World} {σ : Type} (J : σ → Env → World → Prop) (μ : σ → Nat) (s0 : σ) {c : Code} (h0 : J s0 E w)
    (round : ∀ s E w, J s E w → Wp P n c (Th (fun E' w' => ∃ s', J s' E' w' ∧ μ s' < μ s) Q) E w) : Wp P n (.loop c) Q E w := by
  unfold Wp
  intro a ha
  refine wp_loop_ghost (fun m a w => ∃ s E1, μ s = m ∧ Fits n a E1 ∧ J s E1 w) (μ s0) ⟨s0, E, rfl, ha, h0⟩ ?_
  rintro m a w ⟨s, E1, rfl, hf, hJ⟩
  have hr := round s E1 w hJ
  unfold Wp at hr
  refine wp_mono (hr a hf) fun e a' w' ⟨E', hf', hq⟩ => ?_
  cases e with
  | normal =>
    obtain ⟨s', hJ', hlt⟩ := hq
    exact ⟨μ s', hlt, s', E', rfl, hf', hJ'⟩
  | _ => exact ⟨E', hf', hq⟩
def upsA {β : Type} : List (Nat × β) → (Nat → β) → Nat → β
  | [], E => E
  | (d, v) :: l, E => updA (upsA l E) d v
def AtA {β : Type} (E : Nat → β) : List (Nat × β) → Prop
  | [] => True
  | (d, v) :: l => E d = v ∧ AtA E l
def keys {β : Type} : List (Nat × β) → List Nat
  | [] => []
  | (d, _) :: l => d :: keys l
/-- slots other than those of S are as before; the objects below m that l does not name are, too -/
def AgrA {β : Type} (S : List Nat) (E' E : Nat → β) : Prop := ∀ t, mem S t = false → E' t = E t
def AgrH {β : Type} (m : Nat) (l : List (Nat × β)) (h' h : Nat → β) : Prop := ∀ o, o < m → mem (keys l) o = false → h' o = h o
def noS (S : List Nat) (E : Nat → AV) : Nat → AV := fun t => bif mem S t then .no else E t
theorem upsA_at {β : Type} {E : Nat → β} : ∀ {l : List (Nat × β)}, AtA E l → ∀ t, mem (keys l) t = true → upsA l (fun t => E t) t = E t
  | (d, v) :: l, h, t, ht => by
    by_cases e : t = d
    · subst e; simp only [upsA]; rw [updA_same, h.1]
    · simp only [upsA]
      rw [updA_ne _ _ e]
      simp only [keys, mem] at ht
      have : Nat.beq t d = false := by rw [← Bool.not_eq_true]; intro hb; exact e (Nat.eq_of_beq_eq_true hb)
      rw [this] at ht
      exact upsA_at h.2 t ht
theorem upsA_in {β : Type} {E F : Nat → β} : ∀ {l : List (Nat × β)}, AtA E l → ∀ t, mem (keys l) t = true → upsA l F t = E t
  | (d, v) :: l, h, t, ht => by
    by_cases e : t = d
    · subst e; simp only [upsA]; rw [updA_same, h.1]
    · simp only [upsA]
      rw [updA_ne _ _ e]
      simp only [keys, mem] at ht
      have : Nat.beq t d = false := by rw [← Bool.not_eq_true]; intro hb; exact e (Nat.eq_of_beq_eq_true hb)
      rw [this] at ht
      exact upsA_in h.2 t ht
theorem upsA_out {β : Type} {F : Nat → β} : ∀ {l : List (Nat × β)} (t : Nat), mem (keys l) t = false → upsA l F t = F t
  | [], t, _ => rfl
  | (d, v) :: l, t, ht => by
    simp only [keys, mem] at ht
    cases hb : Nat.beq t d with
    | true => rw [hb] at ht; cases ht
    | false =>
      rw [hb] at ht
      simp only [upsA]
      have e : t ≠ d := fun e => by subst e; rw [Nat.beq_refl] at hb; cases hb
      rw [updA_ne _ _ e]
      exact upsA_out t ht
/-- what a list of values and of objects says of objects below m -/
def BndS (m : Nat) : List (Nat × AV) → Prop
  | [] => True
  | (_, a) :: l => Bnd m a ∧ BndS m l
def BndO (m : Nat) : Ob → Prop
  | .dead => True
  | .live _ _ xs => BndL m xs.flatten
def BndH (m : Nat) : List (Nat × Ob) → Prop
  | [] => True
  | (o, x) :: l => o < m ∧ BndO m x ∧ BndH m l
theorem BndS.at {m : Nat} {E : Nat → AV} : ∀ {l : List (Nat × AV)}, BndS m l → AtA E l → ∀ t, mem (keys l) t = true → Bnd m (E t)
  | (d, v) :: l, hb, h, t, ht => by
    by_cases e : t = d
    · subst e; rw [h.1]; exact hb.1
    · simp only [keys, mem] at ht
      have : Nat.beq t d = false := by rw [← Bool.not_eq_true]; intro hb; exact e (Nat.eq_of_beq_eq_true hb)
      rw [this] at ht
      exact hb.2.at h.2 t ht
theorem BndH.at {m : Nat} {E : Nat → Ob} : ∀ {l : List (Nat × Ob)}, BndH m l → AtA E l → ∀ t, mem (keys l) t = true → t < m ∧ BndO m (E t)
  | (d, v) :: l, hb, h, t, ht => by
    by_cases e : t = d
    · subst e; rw [h.1]; exact ⟨hb.1, hb.2.1⟩
    · simp only [keys, mem] at ht
      have : Nat.beq t d = false := by rw [← Bool.not_eq_true]; intro hb; exact e (Nat.eq_of_beq_eq_true hb)
      rw [this] at ht
      exact hb.2.2.at h.2 t ht
theorem BndO.E {α : Type} [Enc α] (m sz : Nat) (l o : Bool) (xs : List α) : BndO m (.live l sz (V.E o xs)) :=
  BndL.of_mem fun a ha => Bnd.pure (List.all_eq_true.1 (E_pure o xs) a ha) m
/-- the state at a loop's head, or behind a cut -/
def head (S : List Nat) (l : List (Nat × AV)) (h : List (Nat × Ob)) (st : St) : St := ⟨upsA l (noS S st.E), upsA h st.hp, st.nx⟩
/-- another state that fits -/
structure Fit (S : List Nat) (l : List (Nat × AV)) (h : List (Nat × Ob)) (st st' : St) : Prop where
  sl : AtA st'.E l
  ags : AgrA S st'.E st.E
  ob : AtA st'.hp h
  agh : AgrH st.nx h st'.hp st.hp
  nx : st.nx ≤ st'.nx
theorem Fit.sim {S : List Nat} {l : List (Nat × AV)} {h : List (Nat × Ob)} {st' : St} {E0 E1 : Env} {wa wb : World} (hf : Fit S l h st st') (h0 : Sim w0 MP st E0 wa) (hb : BndS st.nx l) (hbh : BndH st.nx h) (h1 : Sim w0 MP st' E1 wb) : Sim w0 MP (head S l h st) E1 wb := by
  obtain ⟨C0, I0, m0⟩ := h0
  obtain ⟨C, Im, m⟩ := h1
  let D : Nat → Option Conc := fun o => bif Nat.blt o st.nx then C o else none
  have hD : ∀ o, o < st.nx → ∀ cc, D o = some cc → C o = some cc := fun o ho cc hc => by
    have : Nat.blt o st.nx = true := by rw [Nat.blt_eq]; exact ho
    simpa [D, this] using hc
  have hDo : ∀ o, o < st.nx → D o = C o := fun o ho => by
    have : Nat.blt o st.nx = true := by rw [Nat.blt_eq]; exact ho
    simp [D, this]
  have hDs : ∀ o cc, D o = some cc → o < st.nx ∧ C o = some cc := fun o cc hc => by
    cases hb : Nat.blt o st.nx with
    | true => rw [Nat.blt_eq] at hb; exact ⟨hb, hD o hb cc hc⟩
    | false => simp [D, hb] at hc
  -- an object of the head is one of the other state, or none
  have hhp : ∀ o, o < st.nx → (head S l h st).hp o = st'.hp o := fun o ho => by
    cases hm : mem (keys h) o with
    | true => exact upsA_in hf.ob o hm
    | false => exact (upsA_out o hm).trans (hf.agh o ho hm).symm
  have hhd : ∀ o, st.nx ≤ o → (head S l h st).hp o = .dead := fun o ho => by
    cases hm : mem (keys h) o with
    | true => have := (hbh.at hf.ob o hm).1; omega
    | false => exact (upsA_out o hm).trans (m0.lt o ho)
  refine ⟨D, Im, m.tch, m.im, fun t => ?_, fun o ho => ?_, fun o l' sz xs ho => ?_, hhd, fun o o' c c' hoo hc hc' => m.dis o o' c c' hoo (hDs o c hc).2 (hDs o' c' hc').2, m.imJ, fun p hp => RV.cut hD _ _ (RV.bnd _ _ (m0.gst p hp)) (m.gst p hp)⟩
  · show RV st.nx D Im wb (upsA l (noS S st.E) t) (E1 t)
    cases hm : mem (keys l) t with
    | true =>
      rw [upsA_in hf.sl t hm]
      exact RV.cut hD _ _ (hb.at hf.sl t hm) (m.slot t)
    | false =>
      rw [upsA_out t hm]
      unfold noS
      cases hs : mem S t with
      | true => trivial
      | false =>
        simp only [cond_false]
        rw [← hf.ags t hs]
        exact RV.cut hD _ _ (by rw [hf.ags t hs]; exact RV.bnd _ _ (m0.slot t)) (m.slot t)
  · rcases Nat.lt_or_ge o st.nx with hlt | hge
    · rw [hDo o hlt]; exact m.nod o (by rw [← hhp o hlt]; exact ho)
    · have : Nat.blt o st.nx = false := by rw [← Bool.not_eq_true, Nat.blt_eq]; omega
      simp [D, this]
  · rcases Nat.lt_or_ge o st.nx with hlt | hge
    · have ho' := ho
      rw [hhp o hlt] at ho'
      obtain ⟨cc, g1, g2⟩ := m.obj o l' sz xs ho'
      have hbo : BndL st.nx xs.flatten := by
        cases hm : mem (keys h) o with
        | true =>
          have := (hbh.at hf.ob o hm).2
          rw [ho'] at this; exact this
        | false =>
          rw [hf.agh o hlt hm] at ho'
          obtain ⟨c0, _, g3⟩ := m0.obj o l' sz xs ho'
          exact g3.lay.bnd
      exact ⟨cc, (hDo o hlt).trans g1, g2.esz, g2.len, g2.buf, g2.lay.cutN hD hbo, g2.lens, g2.nd, g2.ge, g2.nim, g2.lent⟩
    · rw [hhd o hge] at ho; cases ho
theorem Fit.refl {S : List Nat} {l : List (Nat × AV)} {h : List (Nat × Ob)} (h1 : AtA st.E l) (h2 : AtA st.hp h) : Fit S l h st st := ⟨h1, fun _ _ => rfl, h2, fun _ _ _ => rfl, Nat.le_refl _⟩
/-- A loop: S: the slots that its rounds write; sl: what the live ones of them hold; ob: the objects that its rounds turn -/
theorem AW.loop {σ : Type} (S : List Nat) (sl : σ → List (Nat × AV)) (ob : σ → List (Nat × Ob)) (I : σ → Prop) (μ : σ → Nat) (s0 : σ) {c : Code} (h1 : AtA st.E (sl s0)) (h2 : AtA st.hp (ob s0)) (h0 : I s0)
    (hb : ∀ s, BndS st.nx (sl s) ∧ BndH st.nx (ob s))
    (round : ∀ s, I s → AW P n w0 MP c (ATh (fun st' => ∃ s', Fit S (sl s') (ob s') st st' ∧ I s' ∧ μ s' < μ s) Q) (head S (sl s) (ob s) st)) : AW P n w0 MP (.loop c) Q st := fun E w hs => by
  refine Wp.loopG (fun s E w => Sim w0 MP (head S (sl s) (ob s) st) E w ∧ I s) μ s0 ⟨(Fit.refl h1 h2).sim hs (hb s0).1 (hb s0).2 hs, h0⟩ ?_
  rintro s E1 w1 ⟨hs1, hI⟩
  refine (round s hI E1 w1 hs1).mono fun e E2 w2 ⟨st2, hs2, hq⟩ => ?_
  cases e with
  | normal =>
    obtain ⟨s', hf, hI', hlt⟩ := hq
    exact ⟨s', ⟨hf.sim hs (hb s').1 (hb s').2 hs2, hI'⟩, hlt⟩
  | _ => exact ⟨st2, hs2, hq⟩
/-- a cut behind x -/
theorem AW.cut {σ : Type} (S : List Nat) (sl : σ → List (Nat × AV)) (ob : σ → List (Nat × Ob)) (I : σ → Prop) {x : Code} {K : St → Prop}
    (hb : ∀ s, BndS st.nx (sl s) ∧ BndH st.nx (ob s))
    (hx : AW P n w0 MP x (ATh (fun st' => ∃ s', Fit S (sl s') (ob s') st st' ∧ I s') Q) st)
    (hy : ∀ s, I s → ∀ E w, Sim w0 MP (head S (sl s) (ob s) st) E w → upQ w0 MP (fun _ => K) .normal E w) : AW P n w0 MP x (ATh K Q) st := fun E w hs => by
  refine (hx E w hs).mono fun e E2 w2 ⟨st2, hs2, hq⟩ => ?_
  cases e with
  | normal =>
    obtain ⟨s', hf, hI'⟩ := hq
    exact hy s' hI' E2 w2 (hf.sim hs (hb s').1 (hb s').2 hs2)
  | _ => exact ⟨st2, hs2, hq⟩
theorem AW.cutK {σ : Type} (S : List Nat) (sl : σ → List (Nat × AV)) (ob : σ → List (Nat × Ob)) (I : σ → Prop) {x : Code} {K : St → Prop}
    (hb : ∀ s, BndS st.nx (sl s) ∧ BndH st.nx (ob s))
    (hx : AW P n w0 MP x (ATh (fun st' => ∃ s', Fit S (sl s') (ob s') st st' ∧ I s') Q) st)
    (hy : ∀ s, I s → K (head S (sl s) (ob s) st)) : AW P n w0 MP x (ATh K Q) st :=
  AW.cut S sl ob I hb hx fun s hI E w hs => ⟨_, hs, hy s hI⟩

/-! ### regions -/
variable {lb : Bool} {ops : Array Oper} {os : List Oper}
theorem wpList_mono {Q Q' : Exit → Act → World → Prop} (hq : ∀ e a w, Q e a w → Q' e a w) : ∀ (os : List Oper) (a : Act) (w : World), wpList P ops Q os a w → wpList P ops Q' os a w
  | [], a, w, h => hq _ _ _ h
  | o :: os, a, w, h => by
    unfold wpList at h ⊢
    split
    · rename_i hw
      rw [if_pos hw] at h
      rcases h with h | ⟨h1, a0, w0, h0⟩
      · refine .inl ?_
        unfold Oper.wp at *
        exact upon_mono (fun a' w' h' => wpList_mono hq os a' w' h') (fun e a' w' _ h' => hq e a' w' h') h
      · exact .inr ⟨h1, a0, w0, hq _ _ _ h0⟩
    · rename_i hw
      rw [if_neg hw] at h
      exact wpList_mono hq os _ w h
end
end Go.Proofs.YtedjajokbdokhaaGreat.V
namespace Go.Proofs.YtedjajokbdokhaaGreat.G
open Go.RowKit V
set_option linter.unusedVariables false
set_option linter.unusedSimpArgs false
variable {P : Program} {n : Nat} {w0 : World} {MP : Fr} {Q : Exit → St → Prop} {st : St}
variable {lb : Bool} {ops : Array Oper} {os : List Oper}
theorem Rg.mono {Q Q' : Exit → Env → World → Prop} {E : Env} {w : World} (h : Rg P n ops os Q E w) (hq : ∀ e E w, Q e E w → Q' e E w) : Rg P n ops os Q' E w := by
  unfold Rg at *
  exact fun a ha => wpList_mono (fun e a w ⟨E', hf, hq'⟩ => ⟨E', hf, hq e E' w hq'⟩) os a w (h a ha)
end Go.Proofs.YtedjajokbdokhaaGreat.G
namespace Go.Proofs.YtedjajokbdokhaaGreat.V
open Go.RowKit G
set_option linter.unusedVariables false
set_option linter.unusedSimpArgs false
section
variable {P : Program} {n : Nat} {w0 : World} {MP : Fr} {Q : Exit → St → Prop} {st : St}
variable {lb : Bool} {ops : Array Oper} {os : List Oper}
theorem AW.region {id : Nat} {l : List Oper} (h : ARg P n w0 MP false l.toArray l Q st) : AW P n w0 MP (.region id l.toArray false) Q st := fun E w hs =>
  Wp.region ((h E w hs).mono fun e E' w' hq => hq.2)
theorem ARg.nil (h : Q .normal st) : ARg P n w0 MP lb ops [] Q st := fun E w hs => Rg.nil ⟨fun _ => Later.refl w, st, hs, h⟩
/-- is an operation wanted? -/
def awant (n : Nat) (ops : Array Oper) (o : Oper) (A : Nat → AV) (want : Bool) : Bool :=
  match o.guard with
  | none => want
  | some (j, b) => match (ops[j]?).bind (·.dst) with
    | some d => bif Nat.blt d n then (match A d with | .b c => (c == b) == want | .tu [] => !want | _ => false) else !want
    | none => !want
theorem awant_spec {C : Nat → Option Conc} {Im : Nat → Prop} {E : Env} {w : World} (hm : Sm w0 MP st C Im E w) {o : Oper} {b : Bool} (h : awant n ops o st.E b = true) : want n ops o E = b := by
  unfold awant at h
  unfold want
  cases hg : o.guard with
  | none => rw [hg] at h; exact h.symm
  | some p =>
    obtain ⟨j, b'⟩ := p
    rw [hg] at h
    simp only at h ⊢
    cases hd : (ops[j]?).bind (·.dst) with
    | none => rw [hd] at h; simp only at h ⊢; cases b <;> first | rfl | cases h
    | some d =>
      rw [hd] at h
      simp only at h ⊢
      cases hn : Nat.blt d n with
      | false => rw [hn] at h; simp only [cond_false] at h ⊢; cases b <;> first | rfl | cases h
      | true =>
        rw [hn] at h
        simp only [cond_true] at h ⊢
        have hv := hm.slot d
        cases ha : st.E d with
        | b c =>
          rw [ha] at h hv
          have : E d = .bool c := hv
          rw [this]
          simpa using h
        | tu cs =>
          rw [ha] at h hv
          cases cs with
          | nil =>
            obtain ⟨us, e, e2⟩ := hv
            rw [e]
            simp only at h ⊢
            cases b <;> first | rfl | cases h
          | cons a cs => cases h
        | _ => rw [ha] at h; cases h
def putA (st : St) (d : Option Tmp) (a : AV) : St := match d with | some d => ⟨updA st.E d a, st.hp, st.nx⟩ | none => st
theorem Sm.put {C : Nat → Option Conc} {Im : Nat → Prop} {E : Env} {w : World} (hm : Sm w0 MP st C Im E w) (d : Option Tmp) {a : AV} {v : Value} (hv : RV st.nx C Im w a v) : Sm w0 MP (putA st d a) C Im (G.put E d v) w := by
  cases d with
  | none => exact hm
  | some d => exact hm.upd d hv
theorem ARg.skip {o : Oper} (hw : awant n ops o st.E false = true) (hd : fits n o.dst = true) (h : ARg P n w0 MP lb ops os Q (putA st o.dst (.tu []))) : ARg P n w0 MP lb ops (o :: os) Q st := fun E w ⟨C, Im, hm⟩ =>
  Rg.skip (awant_spec hm hw) hd (h _ _ ⟨C, Im, hm.put _ ⟨[], rfl, rfl⟩⟩)
/-- an operation that yields a value and leaves a world -/
theorem ARg.val {o : Oper} {st' : St} (hw : awant n ops o st.E true = true) (hd : fits n o.dst = true)
    (H : ∀ C Im E w, Sm w0 MP st C Im E w → ∃ v w', (execOp (ev E) o).run P w = .ok (.value v) w' ∧ (lb = true → Later w w') ∧ Sim w0 MP st' (G.put E o.dst v) w')
    (h : ARg P n w0 MP lb ops os Q st') : ARg P n w0 MP lb ops (o :: os) Q st := fun E w ⟨C, Im, hm⟩ => by
  obtain ⟨v, w', h1, h2, h3⟩ := H C Im E w hm
  exact Rg.val (awant_spec hm hw) h1 hd ((h _ _ h3).mono fun e E2 w2 hq => ⟨fun hb => (h2 hb).trans (hq.1 hb), hq.2⟩)
theorem ARg.unit {o : Oper} {st' : St} (hw : awant n ops o st.E true = true) (hd : fits n o.dst = true)
    (H : ∀ C Im E w, Sm w0 MP st C Im E w → ∃ w', (execOp (ev E) o).run P w = .ok .skip w' ∧ (lb = true → Later w w') ∧ Sim w0 MP st' (G.put E o.dst undef) w')
    (h : ARg P n w0 MP lb ops os Q st') : ARg P n w0 MP lb ops (o :: os) Q st := fun E w ⟨C, Im, hm⟩ => by
  obtain ⟨w', h1, h2, h3⟩ := H C Im E w hm
  exact Rg.unit (awant_spec hm hw) h1 hd ((h _ _ h3).mono fun e E2 w2 hq => ⟨fun hb => (h2 hb).trans (hq.1 hb), hq.2⟩)
/-- an operation that yields a value and leaves the world: in every world (pu), or in later ones -/
def ASil (pu : Bool) (P : Program) (w0 : World) (MP : Fr) (st : St) (o : Oper) (a : AV) : Prop :=
  ∀ C Im E w, Sm w0 MP st C Im E w → ∃ v, (match pu with | true => ∀ w', Sil P E o v w' | false => Sil P E o v w) ∧ RV st.nx C Im w a v
theorem ASil.now {pu : Bool} {o : Oper} {a : AV} (h : ASil pu P w0 MP st o a) : ASil false P w0 MP st o a := fun C Im E w hm => by
  obtain ⟨v, h1, h2⟩ := h C Im E w hm
  cases pu with
  | true => exact ⟨v, h1 w, h2⟩
  | false => exact ⟨v, h1, h2⟩
theorem ARg.sil {pu : Bool} {o : Oper} {a : AV} (hs : ASil pu P w0 MP st o a) (hw : awant n ops o st.E true = true) (hd : fits n o.dst = true) (h : ARg P n w0 MP lb ops os Q (putA st o.dst a)) : ARg P n w0 MP lb ops (o :: os) Q st :=
  ARg.val hw hd (fun C Im E w hm => by
    obtain ⟨v, h1, h2⟩ := hs.now C Im E w hm
    unfold Sil at h1
    exact ⟨v, w, h1 w (Later.refl w), fun _ => Later.refl w, C, Im, hm.put _ h2⟩) h
/-- a guard that is not known yet -/
theorem ARg.split {x : Option Tmp} {op : Op} {ty : TypeId} {pos : String} {af : Array Edge} {j : Nat} {c : Bool} {d : Nat} {b : Bool} (hj : (ops[j]?).bind (·.dst) = some d) (hE : st.E d = .b b)
    (ht : b = true → ARg P n w0 MP lb ops (⟨x, op, ty, pos, af, some (j, c)⟩ :: os) Q ⟨updA st.E d (.b true), st.hp, st.nx⟩)
    (hf : b = false → ARg P n w0 MP lb ops (⟨x, op, ty, pos, af, some (j, c)⟩ :: os) Q ⟨updA st.E d (.b false), st.hp, st.nx⟩) : ARg P n w0 MP lb ops (⟨x, op, ty, pos, af, some (j, c)⟩ :: os) Q st := fun E w ⟨C, Im, hm⟩ => by
  have hv := hm.slot d
  rw [hE] at hv
  have e : E d = .bool b := hv
  cases b with
  | true => exact ht rfl E w ⟨C, Im, by have := hm.upd d (a := .b true) (v := .bool true) rfl; rwa [G.upd_eq_self e] at this⟩
  | false => exact hf rfl E w ⟨C, Im, by have := hm.upd d (a := .b false) (v := .bool false) rfl; rwa [G.upd_eq_self e] at this⟩
def ARA (P : Program) (n : Nat) (w0 : World) (MP : Fr) (m : Nat) (ops : Array Oper) (fuel : Nat) (listed : Array Bool) (Q : Exit → St → Prop) (st : St) : Prop :=
  ∀ E w, Sim w0 MP st E w → RgA P n m ops fuel listed (upQ w0 MP Q) E w
variable {m fuel : Nat} {listed : Array Bool}
theorem AW.draw {id : Nat} (m : Nat) (hm : P.follows .mixedOrders = true) (hst : (Region.noSelect ops && tailOk .any m ops) = true) (h : ARA P n w0 MP m ops ops.size (Array.replicate ops.size false) Q st) : AW P n w0 MP (.region id ops true) Q st := fun E w ⟨C, Im, hs⟩ =>
  Wp.draw m hm hst (h E w.drew ⟨C, Im, hs.later (Later.refl w).drew⟩)
theorem ARA.nil (hr : Region.ready .any ops listed = []) (h : Q .normal st) : ARA P n w0 MP m ops fuel listed Q st := fun E w hs => RgA.nil hr ⟨st, hs, h⟩
theorem ARA.take [ANoPan Q] (i : Nat) {o : Oper} {a : AV} (ho : ops[i]? = some o) (hc : (Nat.blt i m && isLoad ops i && Region.free .any ops listed i && (Region.ready .any ops listed).contains i) = true)
    (hs : ASil false P w0 MP st o a) (hw : awant n ops o st.E true = true) (hd : fits n o.dst = true) (h : ARA P n w0 MP m ops fuel (listed.setIfInBounds i true) Q (putA st o.dst a)) : ARA P n w0 MP m ops (fuel + 1) listed Q st := fun E w ⟨C, Im, hm⟩ => by
  obtain ⟨v, h1, h2⟩ := hs C Im E w hm
  exact RgA.take i ho hc h1 (awant_spec hm hw) hd (h _ _ ⟨C, Im, hm.put _ h2⟩)
theorem ARA.pure [ANoPan Q] (i : Nat) {o : Oper} {a : AV} (ho : ops[i]? = some o) (hc : (Region.free .any ops listed i && (Region.ready .any ops listed).contains i) = true)
    (hs : ASil true P w0 MP st o a) (hw : awant n ops o st.E true = true) (hd : fits n o.dst = true) (h : ARA P n w0 MP m ops fuel (listed.setIfInBounds i true) Q (putA st o.dst a)) : ARA P n w0 MP m ops (fuel + 1) listed Q st := fun E w ⟨C, Im, hm⟩ => by
  obtain ⟨v, h1, h2⟩ := hs C Im E w hm
  exact RgA.pure i ho hc h1 (awant_spec hm hw) hd (h _ _ ⟨C, Im, hm.put _ h2⟩)
theorem ARA.skip [ANoPan Q] (i : Nat) {o : Oper} (ho : ops[i]? = some o) (hc : (Region.free .any ops listed i && (Region.ready .any ops listed).contains i) = true)
    (hw : awant n ops o st.E false = true) (hd : fits n o.dst = true) (h : ARA P n w0 MP m ops fuel (listed.setIfInBounds i true) Q (putA st o.dst (.tu []))) : ARA P n w0 MP m ops (fuel + 1) listed Q st := fun E w ⟨C, Im, hm⟩ =>
  RgA.skip i ho hc (awant_spec hm hw) hd (h _ _ ⟨C, Im, hm.put _ ⟨[], rfl, rfl⟩⟩)
theorem ARA.only (i : Nat) (lb : Bool) {o : Oper} (ho : ops[i]? = some o) (hr : Region.ready .any ops listed = [i]) (hl : (lb || Nat.ble m i) = true)
    (h : ARg P n w0 MP lb ops [o] (ATh (ARA P n w0 MP m ops fuel (listed.setIfInBounds i true) Q) Q) st) : ARA P n w0 MP m ops (fuel + 1) listed Q st := fun E w hs =>
  RgA.only i ho hr ((h E w hs).mono fun e E' w' ⟨h1, st', hs', hq⟩ => by
    cases e with
    | normal =>
      refine ⟨?_, hq E' w' hs'⟩
      rw [Bool.or_eq_true] at hl
      rcases hl with hl | hl
      · exact .inr (h1 hl)
      · exact .inl (leB hl)
    | _ => exact ⟨st', hs', hq⟩)
theorem RgA.any {Q : Exit → Env → World → Prop} {E : Env} {w : World} (hne : Region.ready .any ops listed ≠ [])
    (h : ∀ i ∈ Region.ready .any ops listed, ∃ o, ops[i]? = some o ∧ Rg P n ops [o] (Th (fun E' w' => (m ≤ i ∨ Later w w') ∧ RgA P n m ops fuel (listed.setIfInBounds i true) Q E' w') Q) E w) : RgA P n m ops (fuel + 1) listed Q E w := by
  unfold RgA
  intro hst hcl a ha
  refine ⟨fun h0 => absurd h0 hne, fun i hi => ?_⟩
  have hcl' : Closed .any ops (listed.setIfInBounds i true) := hcl.set hi
  obtain ⟨o, ho, h⟩ := h i hi
  unfold Rg at h
  have h1 := h a ha
  unfold wpList at h1
  unfold wpOp
  simp only [ho]
  split
  · rename_i hw
    rw [if_pos hw] at h1
    rcases h1 with h1 | ⟨h1, a0, w0, E0, hE0, hq⟩
    · refine .inl ?_
      unfold Oper.wp at *
      refine upon_mono ?_ ?_ h1
      · intro a' w' ⟨E', hf', hq⟩; have h2 := hq.2; unfold RgA at h2; exact ⟨hq.1, h2 hst hcl' a' hf'⟩
      · intro e a' w' hne ⟨E', hf', hq⟩
        refine ⟨E', hf', ?_⟩
        cases e <;> first | exact hq | exact absurd rfl hne
    · exact .inr ⟨h1, a0, w0, E0, hE0, hq⟩
  · rename_i hw
    rw [if_neg hw] at h1
    obtain ⟨E', hf', hq⟩ := h1
    have h2 := hq.2
    unfold RgA at h2
    exact ⟨hq.1, h2 hst hcl' _ hf'⟩
/-- whichever of some comes up -/
theorem ARA.any (is : List Nat) (hr : Region.ready .any ops listed = is) (hne : is ≠ [])
    (h : ∀ i ∈ is, ∃ o lb, ops[i]? = some o ∧ (lb || Nat.ble m i) = true ∧ ARg P n w0 MP lb ops [o] (ATh (ARA P n w0 MP m ops fuel (listed.setIfInBounds i true) Q) Q) st) : ARA P n w0 MP m ops (fuel + 1) listed Q st := fun E w hs =>
  RgA.any (by rw [hr]; exact hne) fun i hi => by
    obtain ⟨o, lb, ho, hl, h⟩ := h i (by rw [← hr]; exact hi)
    refine ⟨o, ho, (h E w hs).mono fun e E' w' ⟨h1, st', hs', hq⟩ => ?_⟩
    cases e with
    | normal =>
      refine ⟨?_, hq E' w' hs'⟩
      rw [Bool.or_eq_true] at hl
      rcases hl with hl | hl
      · exact .inr (h1 hl)
      · exact .inl (leB hl)
    | _ => exact ⟨st', hs', hq⟩
/-- a guard that is not known yet -/
theorem ARA.split (d : Nat) {b : Bool} (hE : st.E d = .b b) (ht : b = true → ARA P n w0 MP m ops fuel listed Q ⟨updA st.E d (.b true), st.hp, st.nx⟩) (hf : b = false → ARA P n w0 MP m ops fuel listed Q ⟨updA st.E d (.b false), st.hp, st.nx⟩) : ARA P n w0 MP m ops fuel listed Q st := fun E w ⟨C, Im, hm⟩ => by
  have hv := hm.slot d
  rw [hE] at hv
  have e : E d = .bool b := hv
  cases b with
  | true => exact ht rfl E w ⟨C, Im, by have := hm.upd d (a := .b true) (v := .bool true) rfl; rwa [G.upd_eq_self e] at this⟩
  | false => exact hf rfl E w ⟨C, Im, by have := hm.upd d (a := .b false) (v := .bool false) rfl; rwa [G.upd_eq_self e] at this⟩
end
end Go.Proofs.YtedjajokbdokhaaGreat.V

/- Operations that write nothing, by abstract states. Over any program; nothing is claimed of the given one. -/
namespace Go.Proofs.YtedjajokbdokhaaGreat.V
open V.Enc (enc)
open Go.RowKit G
set_option linter.unusedVariables false
set_option linter.unusedSimpArgs false

section
variable {P : Program} {w0 : World} {MP : Fr} {st : St} {d : Option Tmp} {ty : TypeId} {pos : String} {af : Array Edge} {g : Option (Nat × Bool)} {x y z : Operand}
theorem Sm.evI {C : Nat → Option Conc} {Im : Nat → Prop} {E : Env} {w : World} (hm : Sm w0 MP st C Im E w) {x : Operand} {a : Int} (hx : evA st x = .i a) : G.ev E x = .int .i64 a ∧ In64 a := by
  have := hm.ev x; rwa [hx] at this
theorem Sm.evB {C : Nat → Option Conc} {Im : Nat → Prop} {E : Env} {w : World} (hm : Sm w0 MP st C Im E w) {x : Operand} {a : Bool} (hx : evA st x = .b a) : G.ev E x = .bool a := by
  have := hm.ev x; rwa [hx] at this

theorem A.mov {a : AV} (hx : evA st x = a) : ASil true P w0 MP st ⟨d, .move x, ty, pos, af, g⟩ a := fun C Im E w hm => ⟨_, fun w' => Sil.move rfl, hx ▸ hm.ev x⟩
theorem A.asg {a : AV} (hx : evA st x = a) : ASil true P w0 MP st ⟨d, .assign x, ty, pos, af, g⟩ a := fun C Im E w hm => ⟨_, fun w' => Sil.assign rfl, hx ▸ hm.ev x⟩
theorem A.pickT {a : AV} (hx : evA st x = .b true) (hy : evA st y = a) : ASil true P w0 MP st ⟨d, .pick x y z, ty, pos, af, g⟩ a := fun C Im E w hm => ⟨_, fun w' => Sil.pickT (hm.evB hx) rfl rfl, hy ▸ hm.ev y⟩
theorem A.pickF {a : AV} (hx : evA st x = .b false) (hz : evA st z = a) : ASil true P w0 MP st ⟨d, .pick x y z, ty, pos, af, g⟩ a := fun C Im E w hm => ⟨_, fun w' => Sil.pickF (hm.evB hx) rfl rfl, hz ▸ hm.ev z⟩
theorem A.notT {t : TypeId} (hx : evA st x = .b true) : ASil true P w0 MP st ⟨d, .unOp .not t x, ty, pos, af, g⟩ (.b false) := fun C Im E w hm => ⟨_, fun w' => Sil.notT (hm.evB hx), rfl⟩
theorem A.notF {t : TypeId} (hx : evA st x = .b false) : ASil true P w0 MP st ⟨d, .unOp .not t x, ty, pos, af, g⟩ (.b true) := fun C Im E w hm => ⟨_, fun w' => Sil.notF (hm.evB hx), rfl⟩
theorem A.not {t : TypeId} {b : Bool} (hx : evA st x = .b b) : ASil true P w0 MP st ⟨d, .unOp .not t x, ty, pos, af, g⟩ (.b (!b)) := fun C Im E w hm => ⟨_, fun w' => Sil.not (hm.evB hx), rfl⟩
theorem A.neg {t : TypeId} {a : Int} (hx : evA st x = .i a) (h : In64 (-a)) : ASil true P w0 MP st ⟨d, .unOp .neg t x, ty, pos, af, g⟩ (.i (-a)) := fun C Im E w hm =>
  ⟨_, fun w' => Sil.neg (hm.evI hx).1, by rw [wrap_in h], h⟩
section
variable {t t' : TypeId} {a b : Int} (hx : evA st x = .i a) (hy : evA st y = .i b)
include hx hy
theorem A.lss : ASil true P w0 MP st ⟨d, .binOp .lss t x y t', ty, pos, af, g⟩ (.b (decide (a < b))) := fun C Im E w hm => ⟨_, fun w' => Sil.lss (hm.evI hx).1 (hm.evI hy).1, rfl⟩
theorem A.leq : ASil true P w0 MP st ⟨d, .binOp .leq t x y t', ty, pos, af, g⟩ (.b (decide (a ≤ b))) := fun C Im E w hm => ⟨_, fun w' => Sil.leq (hm.evI hx).1 (hm.evI hy).1, rfl⟩
theorem A.gtr : ASil true P w0 MP st ⟨d, .binOp .gtr t x y t', ty, pos, af, g⟩ (.b (decide (b < a))) := fun C Im E w hm => ⟨_, fun w' => Sil.gtr (hm.evI hx).1 (hm.evI hy).1, rfl⟩
theorem A.geq : ASil true P w0 MP st ⟨d, .binOp .geq t x y t', ty, pos, af, g⟩ (.b (decide (b ≤ a))) := fun C Im E w hm => ⟨_, fun w' => Sil.geq (hm.evI hx).1 (hm.evI hy).1, rfl⟩
theorem A.eql : ASil true P w0 MP st ⟨d, .binOp .eql t x y t', ty, pos, af, g⟩ (.b (decide (a = b))) := fun C Im E w hm => ⟨_, fun w' => Sil.eql (hm.evI hx).1 (hm.evI hy).1, rfl⟩
theorem A.neq : ASil true P w0 MP st ⟨d, .binOp .neq t x y t', ty, pos, af, g⟩ (.b (decide (a ≠ b))) := fun C Im E w hm => ⟨_, fun w' => Sil.neq (hm.evI hx).1 (hm.evI hy).1, rfl⟩
theorem A.add (h : In64 (a + b)) : ASil true P w0 MP st ⟨d, .binOp .add t x y t', ty, pos, af, g⟩ (.i (a + b)) := fun C Im E w hm => ⟨_, fun w' => Sil.add (hm.evI hx).1 (hm.evI hy).1 h, rfl, h⟩
theorem A.sub (h : In64 (a - b)) : ASil true P w0 MP st ⟨d, .binOp .sub t x y t', ty, pos, af, g⟩ (.i (a - b)) := fun C Im E w hm => ⟨_, fun w' => Sil.sub (hm.evI hx).1 (hm.evI hy).1 h, rfl, h⟩
theorem A.mul (h : In64 (a * b)) : ASil true P w0 MP st ⟨d, .binOp .mul t x y t', ty, pos, af, g⟩ (.i (a * b)) := fun C Im E w hm => ⟨_, fun w' => Sil.mul (hm.evI hx).1 (hm.evI hy).1 h, rfl, h⟩
omit hx hy in
theorem In64.wr (a : Int) : In64 (RowKit.wrap64 a) := by rw [← IntWalk.i64_left, IntKind.wrap_i64]; unfold In64; omega
omit hx hy in
theorem wr_in {a : Int} (h : In64 a) : RowKit.wrap64 a = a := by rw [← IntWalk.i64_left]; exact wrap_in h
theorem A.addW : ASil true P w0 MP st ⟨d, .binOp .add t x y t', ty, pos, af, g⟩ (.i (RowKit.wrap64 (a + b))) := fun C Im E w hm => ⟨_, fun w' => Sil.addW (hm.evI hx).1 (hm.evI hy).1, IntWalk.i64_left _ ▸ rfl, V.In64.wr _⟩
theorem A.subW : ASil true P w0 MP st ⟨d, .binOp .sub t x y t', ty, pos, af, g⟩ (.i (RowKit.wrap64 (a - b))) := fun C Im E w hm => ⟨_, fun w' => Sil.subW (hm.evI hx).1 (hm.evI hy).1, IntWalk.i64_left _ ▸ rfl, V.In64.wr _⟩
theorem A.mulW : ASil true P w0 MP st ⟨d, .binOp .mul t x y t', ty, pos, af, g⟩ (.i (RowKit.wrap64 (a * b))) := fun C Im E w hm => ⟨_, fun w' => Sil.mulW (hm.evI hx).1 (hm.evI hy).1, IntWalk.i64_left _ ▸ rfl, V.In64.wr _⟩
omit hx hy in
theorem In64.tmod {a b : Int} (h : In64 a) : In64 (a.tmod b) := by
  have h1 := Int.natAbs_tmod a b
  have h2 : a.natAbs % b.natAbs ≤ a.natAbs := Nat.mod_le _ _
  unfold In64 at *
  rcases Int.lt_or_le a 0 with ha | ha
  · have h3 := Int.tmod_nonneg (a := -a) b (by omega); rw [Int.neg_tmod] at h3; omega
  · have h3 := Int.tmod_nonneg b ha; omega
theorem A.rem (hb : b ≠ 0) : ASil true P w0 MP st ⟨d, .binOp .rem t x y t', ty, pos, af, g⟩ (.i (a.tmod b)) := fun C Im E w hm => ⟨_, fun w' => Sil.remW (hm.evI hx).1 (hm.evI hy).1 hb, rfl, V.In64.tmod (hm.evI hx).2⟩
theorem A.remP (ha : 0 ≤ a) (hb : 0 < b) : ASil true P w0 MP st ⟨d, .binOp .rem t x y t', ty, pos, af, g⟩ (.i (a % b)) := by
  have := A.rem (P := P) (w0 := w0) (MP := MP) (d := d) (ty := ty) (pos := pos) (af := af) (g := g) (t := t) (t' := t') hx hy (by omega)
  rwa [Int.tmod_eq_emod_of_nonneg ha] at this
theorem A.quoP (ha : 0 ≤ a) (hb : 0 < b) : ASil true P w0 MP st ⟨d, .binOp .quo t x y t', ty, pos, af, g⟩ (.i (a / b)) := fun C Im E w hm => by
  have h1 := (hm.evI hx).2
  have h2 : 0 ≤ a / b := Int.ediv_nonneg ha (by omega)
  have h3 : a / b ≤ a := Int.ediv_le_self b ha
  have h4 : In64 (a / b) := by unfold In64 at *; omega
  exact ⟨_, fun w' => Sil.quoW (hm.evI hx).1 (hm.evI hy).1 (by omega), by rw [Int.tdiv_eq_ediv_of_nonneg ha, wrap_in h4], h4⟩
end
theorem Imm.sl_inv {Im : Nat → Prop} {w : World} {sz : Nat} {xs : List (List AV)} {v : Value} (h : Imm Im w [.dt false sz xs] [v]) : ∃ p c, v = .slice p xs.length c ∧ xs.length ≤ c ∧ c ≤ maxLen ∧
    (xs = [] ∨ ∃ b o us, p = some ⟨b, o, none⟩ ∧ Im b ∧ Cells w b o us ∧ Imm Im w xs.flatten us ∧ ∀ x ∈ xs, x.length = sz) := by
  cases h with
  | sl0 h1 _ => exact ⟨_, _, rfl, Nat.zero_le _, h1, .inl rfl⟩
  | sl h1 h2 h3 h4 h5 h6 _ => exact ⟨_, _, rfl, h1, h2, .inr ⟨_, _, _, rfl, h3, h4, h5, h6⟩⟩
theorem maxLen_le : (maxLen : Nat) = 9223372036854775807 := rfl
theorem In64.len {m c : Nat} (h1 : m ≤ c) (h2 : c ≤ maxLen) : In64 (m : Int) := by rw [maxLen_le] at h2; exact ⟨by omega, by omega⟩
theorem A.lenS {t e : TypeId} [hu : HasU P t (.slice e)] {o n off m : Nat} (hx : evA st x = .sl o n off m) : ASil true P w0 MP st ⟨d, .call ⟨.builtin .len, #[x], #[t]⟩, ty, pos, af, g⟩ (.i m) := fun C Im E w hm => by
  have h := hm.ev x
  rw [hx] at h
  obtain ⟨p, c, h1, h2, h3, _⟩ := h
  exact ⟨_, fun w' => Sil.len h1, rfl, In64.len h2 h3⟩
theorem A.lenD {t e : TypeId} [hu : HasU P t (.slice e)] {o : Bool} {sz : Nat} {xs : List (List AV)} (hx : evA st x = .dt o sz xs) : ASil true P w0 MP st ⟨d, .call ⟨.builtin .len, #[x], #[t]⟩, ty, pos, af, g⟩ (.i xs.length) := fun C Im E w hm => by
  have h := hm.ev x
  rw [hx] at h
  obtain ⟨p, c, h1, h2, h3, _⟩ := h.2.sl_inv
  exact ⟨_, fun w' => Sil.len h1, rfl, In64.len h2 h3⟩
theorem A.lenE {t e : TypeId} [hu : HasU P t (.slice e)] {α : Type} [Enc α] {o o' : Bool} {sz : Nat} {l : List α} (hx : evA st x = .dt o sz (V.E o' l)) : ASil true P w0 MP st ⟨d, .call ⟨.builtin .len, #[x], #[t]⟩, ty, pos, af, g⟩ (.i l.length) := by
  have := A.lenD (P := P) (w0 := w0) (MP := MP) (d := d) (ty := ty) (pos := pos) (af := af) (g := g) (t := t) hx
  rwa [E_length] at this
theorem A.lenN {t e : TypeId} [hu : HasU P t (.slice e)] (hx : evA st x = .nl) : ASil true P w0 MP st ⟨d, .call ⟨.builtin .len, #[x], #[t]⟩, ty, pos, af, g⟩ (.i 0) := fun C Im E w hm => by
  have h := hm.ev x
  rw [hx] at h
  exact ⟨_, fun w' => Sil.len (show G.ev E x = .slice none 0 0 from h), rfl, by decide, by decide⟩
theorem A.lenM {t e : TypeId} [hu : HasU P t (.slice e)] (hx : evA st x = .em) : ASil true P w0 MP st ⟨d, .call ⟨.builtin .len, #[x], #[t]⟩, ty, pos, af, g⟩ (.i 0) := fun C Im E w hm => by
  have h := hm.ev x
  rw [hx] at h
  obtain ⟨p, h⟩ := h
  exact ⟨_, fun w' => Sil.len h, rfl, by decide, by decide⟩
theorem A.fldP {s i off : Nat} [hf : HasF P s i off] {o n k j : Nat} (hx : evA st x = .pt o n k j) : ASil true P w0 MP st ⟨d, .fieldAddr s x i, ty, pos, af, g⟩ (.pt o n k (j + off)) := fun C Im E w hm => by
  have h := hm.ev x
  rw [hx] at h
  obtain ⟨b, q, h1, h2, h3⟩ := h
  refine ⟨_, fun w' => Sil.fieldAddr h1, b, q + off, rfl, h2, fun cc hc => ⟨(h3 cc hc).1, fun hn => ?_⟩⟩
  obtain ⟨g1, rfl⟩ := (h3 cc hc).2 hn
  exact ⟨g1, by rw [Nat.add_assoc]⟩
theorem A.fldI {s i off : Nat} [hf : HasF P s i off] {cs : List AV} (hx : evA st x = .ip cs) (hlt : Nat.ble off cs.length = true) : ASil true P w0 MP st ⟨d, .fieldAddr s x i, ty, pos, af, g⟩ (.ip (cs.drop off)) := fun C Im E w hm => by
  have h := hm.ev x
  rw [hx] at h
  obtain ⟨b, q, us, h1, h2, h3, h4⟩ := h
  have hle := leB hlt
  rw [← List.take_append_drop off cs] at h4
  obtain ⟨v1, v2, rfl, h5, h6⟩ := h4.split
  have hl := h5.length
  rw [List.length_take, Nat.min_eq_left hle] at hl
  have h7 := h3.drop
  rw [hl] at h7
  exact ⟨_, fun w' => Sil.fieldAddr h1, b, q + off, v2, rfl, h2, h7, h6⟩
/-! elements -/
theorem A.idxS {t e sz bys : Nat} {zz : Value} [hu : HasU P t (.slice e)] [hi : HasI P e sz bys zz] {o n off m k : Nat} {i : Int} {l : Bool} {xs : List (List AV)} (hx : evA st x = .sl o n off m) (hy : evA st y = .i i) (hh : st.hp o = .live l sz xs) (hn : xs.length = n)
    (hk : i = (k : Int)) (hlt : k < m) : ASil true P w0 MP st ⟨d, .indexAddr t x y, ty, pos, af, g⟩ (.pt o n (off + k) 0) := fun C Im E w hm => by
  have h := hm.ev x
  rw [hx] at h
  obtain ⟨p, c, h1, h2, h3, h4, h5⟩ := h
  obtain ⟨cc, g1, hO⟩ := hm.obj o l _ xs hh
  have hlen : cc.len = n := by rw [hO.len, hn]
  obtain ⟨s1, s2, s3⟩ := (h5 cc g1).2 hlen
  obtain ⟨b, c', f1, f2⟩ := s3 (by omega)
  have hv := h1.symm.trans f2
  simp only [Value.slice.injEq] at hv
  obtain ⟨rfl, _, rfl⟩ := hv
  have hsz : cc.sz = sz := hO.esz
  refine ⟨_, fun w' => Sil.indexAddr h1 (hm.evI hy).1 hk hlt, b, off * cc.sz + k * sz, rfl, h4, fun cc' hc' => ?_⟩
  rw [g1] at hc'
  cases hc'
  exact ⟨by omega, fun _ => ⟨f1, by rw [hsz, Nat.add_mul, Nat.add_zero]⟩⟩
theorem A.idxE {α : Type} [Enc α] {t e sz bys : Nat} {zz : Value} [hu : HasU P t (.slice e)] [hi : HasI P e sz bys zz] {o n off m k : Nat} {i : Int} {l oo : Bool} {ls : List α} (hx : evA st x = .sl o n off m) (hy : evA st y = .i i) (hh : st.hp o = .live l sz (V.E oo ls)) (hn : ls.length = n)
    (hk : i = (k : Int)) (hlt : k < m) : ASil true P w0 MP st ⟨d, .indexAddr t x y, ty, pos, af, g⟩ (.pt o n (off + k) 0) :=
  A.idxS hx hy hh (by rw [E_length, hn]) hk hlt
theorem A.idxD {t e sz bys : Nat} {zz : Value} [hu : HasU P t (.slice e)] [hi : HasI P e sz bys zz] {o : Bool} {xs : List (List AV)} {cs : List AV} {k : Nat} {i : Int} (hx : evA st x = .dt o sz xs) (hy : evA st y = .i i) (hk : i = (k : Int)) (hc : xs[k]? = some cs) :
    ASil true P w0 MP st ⟨d, .indexAddr t x y, ty, pos, af, g⟩ (.ip cs) := fun C Im E w hm => by
  have h := hm.ev x
  rw [hx] at h
  have hlt : k < xs.length := (List.getElem?_eq_some_iff.1 hc).1
  obtain ⟨p, c, h1, h2, h3, h4⟩ := h.2.sl_inv
  rcases h4 with rfl | ⟨b, q, us, rfl, g1, g2, g3, g4⟩
  · simp at hlt
  rw [flatten_cut hc] at g3
  obtain ⟨v1, v2, rfl, f1, f2⟩ := g3.split
  obtain ⟨v3, v4, rfl, f3, f4⟩ := f2.split
  have l1 := f1.length
  rw [flatten_take g4 (by omega)] at l1
  have h7 := g2.drop
  rw [l1] at h7
  exact ⟨_, fun w' => Sil.indexAddr h1 (hm.evI hy).1 hk hlt, b, q + k * sz, v3, rfl, g1, h7.take, f3⟩
theorem A.idxF {α : Type} [Enc α] [Inhabited α] {t e sz bys : Nat} {zz : Value} [hu : HasU P t (.slice e)] [hi : HasI P e sz bys zz] {o oo : Bool} {ls : List α} {k : Nat} {i : Int} (hx : evA st x = .dt o sz (V.E oo ls)) (hy : evA st y = .i i) (hk : i = (k : Int)) (hlt : k < ls.length) :
    ASil true P w0 MP st ⟨d, .indexAddr t x y, ty, pos, af, g⟩ (.ip (enc oo (ls.getD k default))) :=
  A.idxD hx hy hk (E_get oo ls hlt)
/-! loads -/
theorem A.ldI {t : TypeId} [h1 : One P t] {a : AV} {cs : List AV} (hx : evA st x = .ip (a :: cs)) : ASil false P w0 MP st ⟨d, .load t x, ty, pos, af, g⟩ a := fun C Im E w hm => by
  have h := hm.ev x
  rw [hx] at h
  obtain ⟨b, q, us, h1, h2, h3, h4⟩ := h
  cases us with
  | nil => cases h4
  | cons v us => exact ⟨v, Sil.load h1 (by simpa using h3 0 v rfl), RV.imm h4.head⟩
theorem RVL.imm {N : Nat} {C : Nat → Option Conc} {Im : Nat → Prop} {w : World} {cs : List AV} {us : List Value} (h : Imm Im w cs us) : RVL N C Im w cs us := by
  induction h with
  | nil => rfl
  | int h1 _ ih => exact ⟨_, _, rfl, ⟨rfl, h1⟩, ih⟩
  | bool _ ih => exact ⟨_, _, rfl, rfl, ih⟩
  | no h1 _ ih => exact ⟨_, _, rfl, trivial, ih⟩
  | sl0 h1 _ ih => exact ⟨_, _, rfl, ⟨rfl, .sl0 h1 .nil⟩, ih⟩
  | sl h1 h2 h3 h4 h5 h6 _ _ ih => exact ⟨_, _, rfl, ⟨rfl, .sl h1 h2 h3 h4 h5 h6 .nil⟩, ih⟩
theorem A.ldG {t sz bys : Nat} {zz : Value} [h1 : Agg P t] [hi : HasI P t sz bys zz] {cs ds : List AV} (hx : evA st x = .ip cs) (hl : Nat.ble sz cs.length = true) (hd : cs.take sz = ds) : ASil false P w0 MP st ⟨d, .load t x, ty, pos, af, g⟩ (.agg ds) := fun C Im E w hm => by
  subst hd
  have hle := leB hl
  have h := hm.ev x
  rw [hx] at h
  obtain ⟨b, q, us, h1, h2, h3, h4⟩ := h
  rw [← List.take_append_drop sz cs] at h4
  obtain ⟨v1, v2, rfl, h5, h6⟩ := h4.split
  have hl := h5.length
  rw [List.length_take, Nat.min_eq_left hle] at hl
  exact ⟨_, Sil.loadAgg h1 h3.take hl, v1, rfl, RVL.imm h5⟩
theorem OR.cell {w0 : World} {MP : Fr} {N : Nat} {C : Nat → Option Conc} {Im : Nat → Prop} {w : World} {l : Bool} {sz : Nat} {xs : List (List AV)} {cc : Conc} (hO : OR w0 MP N C Im w l sz xs cc) {b i : Nat} {v : Value} (hb : own cc.hv = some b) (hi : cc.us[i]? = some v) : w.cell? ⟨b, i, none⟩ = some v := by
  obtain ⟨e, hB⟩ := hO.buf
  rcases hB.2 with ⟨_, p, h⟩ | ⟨b', c, cur, h, h2, h3, h4, h5, h6⟩
  · rw [h] at hb; cases p <;> simp [own] at hb
  · rw [h] at hb
    simp [own] at hb
    subst hb
    refine h2.cell ?_
    rw [← h6, List.getElem?_take] at hi
    split at hi
    · exact hi
    · cases hi
/-- not in memory of its own -/
def shr : AV → Bool
  | .dt true _ _ => false
  | _ => true
theorem shr_ne {a : AV} (h : shr a = true) : ∀ sz xs, a ≠ .dt true sz xs := fun sz xs e => by subst e; cases h
theorem A.ldR {t : TypeId} [h1 : One P t] {esz o n k j : Nat} {l : Bool} {xs : List (List AV)} {c : List AV} {a : AV} (hx : evA st x = .pt o n k j) (hh : st.hp o = .live l esz xs) (hn : xs.length = n) (hc : xs[k]? = some c) (hj : c[j]? = some a) (hs : shr a = true) :
    ASil false P w0 MP st ⟨d, .load t x, ty, pos, af, g⟩ a := fun C Im E w hm => by
  have h := hm.ev x
  rw [hx] at h
  obtain ⟨b, q, h1, h2, h3⟩ := h
  obtain ⟨cc, g1, hO⟩ := hm.obj o l _ xs hh
  obtain ⟨f1, rfl⟩ := (h3 cc g1).2 (by rw [hO.len, hn])
  obtain ⟨v, hv, hr⟩ := hO.lay.get (flatten_get hO.lens hc hj) (shr_ne hs)
  exact ⟨v, Sil.load h1 (hO.cell f1 hv), hr⟩
theorem OwnC.head {Im : Nat → Prop} {w : World} {a : AV} {v : Value} {F : List Nat} (h : OwnC Im w [a] [v] F) {Im' : Nat → Prop} (hI : ∀ k, Im k → Im' k) (hF : ∀ k ∈ F, Im' k) : Imm Im' w [V.frz a] [v] := h.frz hI hF
/-- data of one's own that are not written any more are read as what does not change -/
theorem A.ldL {t : TypeId} [h1 : One P t] {esz o n k j : Nat} {xs : List (List AV)} {c : List AV} {a : AV} (hx : evA st x = .pt o n k j) (hh : st.hp o = .live true esz xs) (hn : xs.length = n) (hc : xs[k]? = some c) (hj : c[j]? = some a) (hp : pureB a = true) :
    ASil false P w0 MP st ⟨d, .load t x, ty, pos, af, g⟩ (V.frz a) := fun C Im E w hm => by
  have h := hm.ev x
  rw [hx] at h
  obtain ⟨b, q, h1, h2, h3⟩ := h
  obtain ⟨cc, g1, hO⟩ := hm.obj o true _ xs hh
  obtain ⟨f1, rfl⟩ := (h3 cc g1).2 (by rw [hO.len, hn])
  obtain ⟨u1, u2, u3, F1, F2, F3, e1, e2, l1, l2, q1, q2, q3⟩ := hO.lay.cut (cutAt (flatten_get hO.lens hc hj))
  have hlt : k * cc.sz + j < xs.flatten.length := (List.getElem?_eq_some_iff.1 (flatten_get hO.lens hc hj)).1
  rw [List.length_take, Nat.min_eq_left (by omega)] at l1
  cases u2 with
  | nil => simp at l2
  | cons v u2 =>
    obtain rfl : u2 = [] := List.eq_nil_of_length_eq_zero (by simpa using l2)
    have hv : cc.us[k * cc.sz + j]? = some v := by rw [e1, List.getElem?_append_right (by omega), l1]; simp
    have hp' := q2.pure (by simpa using hp)
    refine ⟨v, Sil.load h1 (hO.cell f1 hv), RV.imm (hp'.head (fun _ h => h) fun k hk => ?_)⟩
    exact (hO.lent k (by rw [e2]; simp [hk])).2 rfl
theorem A.ldE {α : Type} [Enc α] [Inhabited α] {t : TypeId} [h1 : One P t] {esz o n k j : Nat} {l oo : Bool} {ls : List α} {a : AV} (hx : evA st x = .pt o n k j) (hh : st.hp o = .live l esz (V.E oo ls)) (hn : ls.length = n) (hk : k < ls.length) (hj : (enc oo (ls.getD k default))[j]? = some a) (hs : shr a = true) :
    ASil false P w0 MP st ⟨d, .load t x, ty, pos, af, g⟩ a := A.ldR hx hh (by rw [E_length, hn]) (E_get oo ls hk) hj hs
theorem A.ldF {α : Type} [Enc α] [Inhabited α] {t : TypeId} [h1 : One P t] {esz o n k j : Nat} {oo : Bool} {ls : List α} {a : AV} (hx : evA st x = .pt o n k j) (hh : st.hp o = .live true esz (V.E oo ls)) (hn : ls.length = n) (hk : k < ls.length) (hj : (enc false (ls.getD k default))[j]? = some a) :
    ASil false P w0 MP st ⟨d, .load t x, ty, pos, af, g⟩ a := by
  rw [← Enc.frz oo (ls.getD k default), frzL_map, List.getElem?_map] at hj
  obtain ⟨a', h1', rfl⟩ := Option.map_eq_some_iff.1 hj
  exact A.ldL hx hh (by rw [E_length, hn]) (E_get oo ls hk) h1' (List.all_eq_true.1 (Enc.pure oo _) _ (List.mem_of_getElem? h1'))
/-- a struct of an object -/
theorem A.ldRG {t sz bys : Nat} {zz : Value} [h1 : Agg P t] [hi : HasI P t sz bys zz] {esz o n k j : Nat} {l : Bool} {xs : List (List AV)} {c ds : List AV} (hx : evA st x = .pt o n k j) (hh : st.hp o = .live l esz xs) (hn : xs.length = n) (hc : xs[k]? = some c) (hj : (c.drop j).take sz = ds) (hl : ds.length = sz) (hs : ds.all shr = true) :
    ASil false P w0 MP st ⟨d, .load t x, ty, pos, af, g⟩ (.agg ds) := fun C Im E w hm => by
  have h := hm.ev x
  rw [hx] at h
  obtain ⟨b, q, h1, h2, h3⟩ := h
  obtain ⟨cc, g1, hO⟩ := hm.obj o l _ xs hh
  obtain ⟨f1, rfl⟩ := (h3 cc g1).2 (by rw [hO.len, hn])
  have key : ∀ (ds' : List AV) (j' : Nat), (∀ i a, ds'[i]? = some a → c[j' + i]? = some a) → ds'.all shr = true → ∃ us, us.length = ds'.length ∧ (∀ i v, us[i]? = some v → cc.us[k * cc.sz + (j' + i)]? = some v) ∧ RVL st.nx C Im w ds' us := by
    intro ds'
    induction ds' with
    | nil => intro j' _ _; exact ⟨[], rfl, fun i v h => by simp at h, rfl⟩
    | cons a ds' ih =>
      intro j' hd hs
      rw [List.all_cons, Bool.and_eq_true] at hs
      obtain ⟨us, u1, u2, u3⟩ := ih (j' + 1) (fun i a hi => by have := hd (i + 1) a (by simpa using hi); rwa [show j' + (i + 1) = j' + 1 + i by omega] at this) hs.2
      obtain ⟨v, hv, hr⟩ := hO.lay.get (flatten_get hO.lens hc (hd 0 a rfl)) (shr_ne hs.1)
      refine ⟨v :: us, by simp [u1], fun i u hi => ?_, v, us, rfl, hr, u3⟩
      cases i with
      | zero =>
        simp only [List.getElem?_cons_zero, Option.some.injEq] at hi
        subst hi; exact hv
      | succ i => have := u2 i u (by simpa using hi); rwa [show j' + 1 + i = j' + (i + 1) by omega] at this
  obtain ⟨us, u1, u2, u3⟩ := key ds j (fun i a hi => by
    rw [← hj, List.getElem?_take] at hi
    split at hi
    · rwa [List.getElem?_drop] at hi
    · cases hi) hs
  refine ⟨.agg us.toArray, Sil.loadAgg h1 (fun i v hi => ?_) (u1.trans hl), us, rfl, u3⟩
  have := hO.cell f1 (u2 i v hi)
  rwa [show k * cc.sz + j + i = k * cc.sz + (j + i) by omega]
theorem A.ldEG {α : Type} [Enc α] [Inhabited α] {t sz bys : Nat} {zz : Value} [h1 : Agg P t] [hi : HasI P t sz bys zz] {esz o n k : Nat} {l oo : Bool} {ls : List α} (hx : evA st x = .pt o n k 0) (hh : st.hp o = .live l esz (V.E oo ls)) (hn : ls.length = n) (hk : k < ls.length) (hz : Enc.nc α = sz) (hs : (enc oo (ls.getD k default)).all shr = true) :
    ASil false P w0 MP st ⟨d, .load t x, ty, pos, af, g⟩ (.agg (enc oo (ls.getD k default))) :=
  A.ldRG hx hh (by rw [E_length, hn]) (E_get oo ls hk) (by rw [List.drop_zero, List.take_of_length_le (by rw [Enc.len, hz]; exact Nat.le_refl _)]) (by rw [Enc.len, hz]) hs
theorem A.ldFG {α : Type} [Enc α] [Inhabited α] {t sz bys : Nat} {zz : Value} [h1 : Agg P t] [hi : HasI P t sz bys zz] {esz o n k : Nat} {oo : Bool} {ls : List α} (hx : evA st x = .pt o n k 0) (hh : st.hp o = .live true esz (V.E oo ls)) (hn : ls.length = n) (hk : k < ls.length) (hz : Enc.nc α = sz) :
    ASil false P w0 MP st ⟨d, .load t x, ty, pos, af, g⟩ (.agg (enc false (ls.getD k default))) := fun C Im E w hm => by
  have h := hm.ev x
  rw [hx] at h
  obtain ⟨b, q, h1, h2, h3⟩ := h
  obtain ⟨cc, g1, hO⟩ := hm.obj o true _ _ hh
  obtain ⟨f1, rfl⟩ := (h3 cc g1).2 (by rw [hO.len, E_length, hn])
  obtain ⟨u1, u2, u3, F1, F2, F3, e1, e2, l1, l2, q1, q2, q3⟩ := hO.lay.cut (flatten_cut (E_get oo ls hk))
  rw [flatten_take hO.lens (by rw [E_length]; omega)] at l1
  have hp' := (q2.pure (Enc.pure oo _)).frz (fun _ h => h) fun k hk => (hO.lent k (by rw [e2]; simp [hk])).2 rfl
  rw [Enc.frz] at hp'
  refine ⟨_, Sil.loadAgg h1 (vs := u2) (fun i v hi => ?_) (by rw [l2, Enc.len, hz]), u2, rfl, RVL.imm hp'⟩
  refine hO.cell f1 ?_
  rw [e1, List.getElem?_append_right (by omega), l1, Nat.add_zero, Nat.add_sub_cancel_left, List.getElem?_append_left (List.getElem?_eq_some_iff.1 hi).1, hi]
theorem RVL.get {N : Nat} {C : Nat → Option Conc} {Im : Nat → Prop} {w : World} : ∀ {cs : List AV} {us : List Value} {i : Nat} {a : AV}, RVL N C Im w cs us → cs[i]? = some a → ∃ v, us[i]? = some v ∧ RV N C Im w a v
  | [], us, i, a, _, hi => by simp at hi
  | b :: cs, us, 0, a, ⟨v, vs, h1, h2, h3⟩, hi => by
    simp only [List.getElem?_cons_zero, Option.some.injEq] at hi
    subst hi; subst h1; exact ⟨v, rfl, h2⟩
  | b :: cs, us, i + 1, a, ⟨v, vs, h1, h2, h3⟩, hi => by
    subst h1
    obtain ⟨u, g1, g2⟩ := RVL.get h3 (i := i) (by simpa using hi)
    exact ⟨u, by simpa using g1, g2⟩
theorem A.ext {i : Nat} {cs : List AV} {a : AV} (hx : evA st x = .tu cs) (hi : cs[i]? = some a) : ASil true P w0 MP st ⟨d, .extract x i, ty, pos, af, g⟩ a := fun C Im E w hm => by
  have h := hm.ev x
  rw [hx] at h
  obtain ⟨us, h1, h2⟩ := h
  obtain ⟨v, g1, g2⟩ := h2.get hi
  exact ⟨v, fun w' => Sil.extract h1 (by simpa using g1), g2⟩
theorem A.mkF {f : FuncId} {cs : Array Operand} {as : List AV} (hc : cs.toList.map (evA st) = as) : ASil true P w0 MP st ⟨d, .makeFunc (.func f) #[] cs, ty, pos, af, g⟩ (.fn f as) := fun C Im E w hm => by
  subst hc
  exact ⟨_, fun w' => Sil.makeFunc (vs := []) rfl rfl, _, rfl, hm.evL _⟩
end
end Go.Proofs.YtedjajokbdokhaaGreat.V

/- Operations that make or write memory, by abstract states. Over any program; nothing is claimed of the given one. -/
namespace Go.Proofs.YtedjajokbdokhaaGreat.V
open Go.RowKit G
set_option linter.unusedVariables false
set_option linter.unusedSimpArgs false

/-! ### append to a buffer in a block of any type -/
theorem run_append_room' {P : Program} {w : World} (t ty e e0 : TypeId) (i : TypeInfo) (ht : P.underlying t = some (.slice e)) (hi : P.info? e = some i)
    (g sLen sCap : Nat) (cur : Array Value) (hg : w.heap[g]? = some (.cells cur e0 (0, 0)))
    (a : Addr) (m c : Nat) (news : List Value) (hl : news.length = m * i.size) (hnews : ∀ j u, news[j]? = some u → w.cell? (a.add j) = some u) (h1 : ∀ u ∈ news, u.oneCell' = true)
    (hroom : sLen + m ≤ sCap) (hfit : sLen * i.size + news.length ≤ cur.size) :
    (Builtin.append_ #[t, t] ty #[.slice (some ⟨g, 0, none⟩) sLen sCap, .slice (some a) m c]).run P w =
      .ok (.slice (some ⟨g, 0, none⟩) (sLen + m) sCap) (w.setRow g (cur.toList.take (sLen * i.size) ++ news ++ cur.toList.drop (sLen * i.size + news.length)).toArray) := by
  have hf := run_firstCells_some (P := P) w i.size m a m c news hl hnews
  have hst := run_storeCells_at P g (sLen * i.size) e0 news 0 cur w hg (by simpa using hfit) h1
  simp only [Nat.add_zero] at hst
  simp [Builtin.append_, run_underlying ht, sizeOf, typeInfo, hi, Builtin.lenOf, hroom, hf, Addr.add_lit, hst]
theorem run_append_buf' {P : Program} {t e sz bys : Nat} {zz : Value} [hu : HasU P t (.slice e)] [hi : HasI P e sz bys zz] (hz : zz.cells.size = sz) (hs0 : 0 < sz) {ty : Nat} {w : World} {v x : Value} {m k : Nat} {cs news : List Value}
    (hb : Buf' w sz v m cs) (hx : Src w x k news) (hl : news.length = k * sz) (h1 : oneAll news) (h63 : m + k ≤ maxLen) (hby : (m + k) * bys ≤ 140737488355328) :
    ∃ v' w', (Builtin.append_ #[t, t] ty #[v, x]).run P w = .ok v' w' ∧ Buf' w' sz v' (m + k) (cs ++ news) ∧ Grew w w' v v' ∧ (k = 0 → v' = v ∧ w' = w) := by
  obtain ⟨e0, hb⟩ := hb
  obtain ⟨i, i1, i2, i3, i4⟩ := hi.ex
  subst i3
  subst i4
  obtain ⟨p, c, rfl, hx⟩ := hx
  have hsmall : m + k ≤ 9223372036854775807 := by simp only [maxLen] at h63; omega
  have hlen : (cs ++ news).length = (m + k) * i.size := by rw [List.length_append, hb.1, hl, Nat.add_mul]
  -- the same slice, nothing appended
  by_cases hk : k = 0
  · subst hk
    have hn : news = [] := List.eq_nil_of_length_eq_zero (by simpa using hl)
    subst hn
    simp only [Nat.add_zero, List.append_nil]
    refine ⟨v, w, ?_, ⟨e0, hb⟩, ⟨fun _ _ _ => rfl, Nat.le_refl _, rfl, rfl, rfl, .inl rfl⟩, fun _ => ⟨rfl, rfl⟩⟩
    rcases hb.2 with ⟨rfl, q, rfl⟩ | ⟨b, c', cur, rfl, h2, h3, h4, h5, h6⟩
    · cases p <;> cases q <;> simp [Builtin.append_, run_underlying hu.u, sizeOf, typeInfo, i1, Builtin.lenOf, Builtin.firstCells, loadCells, loadCellsFrom, storeCells]
    · cases p <;> simp [Builtin.append_, run_underlying hu.u, sizeOf, typeInfo, i1, Builtin.lenOf, h3, Builtin.firstCells, loadCells, loadCellsFrom, storeCells]
  obtain ⟨ab, ao, rfl, hcells⟩ : ∃ b o, p = some ⟨b, o, none⟩ ∧ Cells w b o news := by
    rcases hx with rfl | h
    · have h0 : 0 < k * i.size := Nat.mul_pos (by omega) hs0
      rw [← hl] at h0; exact absurd h0 (by simp)
    · exact h
  have hnews : ∀ j u, news[j]? = some u → w.cell? ((⟨ab, ao, none⟩ : Addr).add j) = some u := fun j u hj => by rw [add_none]; exact hcells j u hj
  have grown : ∀ (old : Nat) (v : Value), old < m + k →
      Buf' (w.drew.alloc (.cells (cs.toArray ++ news.toArray ++ Builtin.zeroCells zz.cells (grownCap w (m + k) old e - (m + k))) e)) i.size
        (.slice (some ⟨w.heap.size, 0, none⟩) (m + k) (grownCap w (m + k) old e)) (m + k) (cs ++ news) ∧
      Grew w (w.drew.alloc (.cells (cs.toArray ++ news.toArray ++ Builtin.zeroCells zz.cells (grownCap w (m + k) old e - (m + k))) e)) v (.slice (some ⟨w.heap.size, 0, none⟩) (m + k) (grownCap w (m + k) old e)) := by
    intro old v ho
    have hge := grownCap_ge w (m + k) old e
    have hcm : grownCap w (m + k) old e ≤ maxLen := grownCap_le_maxLen w (m + k) old e h63
    obtain ⟨gc, hgc⟩ : ∃ gc, grownCap w (m + k) old e = gc + 1 := ⟨grownCap w (m + k) old e - 1, by omega⟩
    rw [hgc] at hge hcm ⊢
    have hb' : (cs.toArray ++ news.toArray ++ Builtin.zeroCells zz.cells (gc + 1 - (m + k))) = (cs ++ news ++ (Builtin.zeroCells zz.cells (gc + 1 - (m + k))).toList).toArray := by
      apply Array.ext'; simp
    refine ⟨⟨e, hlen, .inr ⟨w.heap.size, gc, cs ++ news ++ (Builtin.zeroCells zz.cells (gc + 1 - (m + k))).toList, rfl, ?_, hge, hcm, ?_, ?_⟩⟩, ⟨fun j hj _ => Below.heap_alloc w.drew _ j hj, by simp, rfl, rfl, rfl, .inr ⟨w.heap.size, rfl, Nat.le_refl _⟩⟩⟩
    · rw [hb']; exact Blk.new w.drew _ e
    · simp only [List.length_append, Array.length_toList, size_zeroCells, hz, hb.1, hl, ← Nat.add_mul]
      congr 1
      omega
    · rw [← hlen]
      exact List.take_left
  rcases hb.2 with ⟨rfl, q, rfl⟩ | ⟨b, c', cur, rfl, h2, h3, h4, h5, h6⟩
  · have hcs : cs = [] := List.eq_nil_of_length_eq_zero (by simpa using hb.1)
    subst hcs
    have hgr := grown 0 (.slice q 0 0) (by omega)
    cases q with
    | none =>
      have hr := run_append_nil (P := P) w t ty e i zz hu.u i1 i2 ⟨ab, ao, none⟩ k c news hl hnews (by omega) (by omega) (by simp only [Nat.zero_add] at hby; omega)
      simp only [Nat.zero_add, List.nil_append, Array.empty_append] at hgr ⊢
      exact ⟨_, _, hr, hgr.1, hgr.2, fun h => absurd h hk⟩
    | some q =>
      have hr := run_append_grow (P := P) w t ty e i zz hu.u i1 i2 q 0 0 [] (by simp) (fun j u hj => by simp at hj) ⟨ab, ao, none⟩ k c news hl hnews (by omega) (by omega) (growslice_fits (by omega) hby)
      exact ⟨_, _, hr, hgr.1, hgr.2, fun h => absurd h hk⟩
  · by_cases hroom : m + k ≤ c' + 1
    · have hfit : m * i.size + news.length ≤ cur.toArray.size := by
        simp only [List.size_toArray]
        rw [hl, h5, ← Nat.add_mul]; exact Nat.mul_le_mul_right _ hroom
      have hr := run_append_room' (P := P) t ty e e0 i hu.u i1 b m (c' + 1) cur.toArray h2 ⟨ab, ao, none⟩ k c news hl hnews h1 hroom hfit
      have hset := setRow_heap w b cur.toArray (cur.toArray.toList.take (m * i.size) ++ news ++ cur.toArray.toList.drop (m * i.size + news.length)).toArray e0 _ h2
      refine ⟨_, _, hr, ⟨e0, hlen, .inr ⟨b, c', _, rfl, hset, hroom, h4, ?_, ?_⟩⟩, ⟨fun k _ hk => setRow_other w b k _ (fun e => hk (by simp [G.own, e])), by simp, rfl, rfl, rfl, .inl rfl⟩, fun h => absurd h hk⟩
      · simp only [List.length_append, List.length_take, List.length_drop]
        simp only [List.size_toArray] at hfit
        omega
      · simp only
        rw [h6, ← hlen]
        exact List.take_left
    · have holds : ∀ j u, cs[j]? = some u → w.cell? ((⟨b, 0, none⟩ : Addr).add j) = some u := fun j u hj => by
        rw [add_none]
        refine h2.cells j u ?_
        rw [← h6, List.getElem?_take] at hj
        split at hj
        · exact hj
        · cases hj
      have hr := run_append_grow (P := P) w t ty e i zz hu.u i1 i2 ⟨b, 0, none⟩ m (c' + 1) cs hb.1 holds ⟨ab, ao, none⟩ k c news hl hnews (by omega) (by omega) (growslice_fits (by omega) hby)
      have hgr := grown (c' + 1) (.slice (some ⟨b, 0, none⟩) m (c' + 1)) (by omega)
      exact ⟨_, _, hr, hgr.1, hgr.2, fun h => absurd h hk⟩

/-! ### objects are made, grow and are written: the state -/
/-- a cell that stands for itself -/
def cellB : AV → Bool
  | .i _ | .b _ | .dt false _ _ | .sl _ _ _ _ | .pt _ _ _ _ | .ip _ | .fn _ _ | .nl | .em => true
  | _ => false
section
variable {w0 w w' : World} {MP : Fr} {st : St} {C : Nat → Option Conc} {Im : Nat → Prop} {E : Env} {N : Nat}
theorem RV.one {a : AV} {v : Value} (h : RV N C Im w a v) (hc : cellB a = true) : v.oneCell' = true := by
  cases a with
  | i n => rw [h.1]; rfl
  | b x => have : v = .bool x := h; rw [this]; rfl
  | dt o sz xs => obtain ⟨rfl, h⟩ := h; obtain ⟨p, c, rfl, _⟩ := h.sl_inv; rfl
  | sl o n off m => obtain ⟨p, c, rfl, _⟩ := h; rfl
  | pt o n k j => obtain ⟨b, q, rfl, _⟩ := h; rfl
  | ip cs => obtain ⟨b, q, us, rfl, _⟩ := h; rfl
  | fn f cs => obtain ⟨us, rfl, _⟩ := h; rfl
  | nl => have : v = .slice none 0 0 := h; rw [this]; rfl
  | em => obtain ⟨p, rfl⟩ := h; rfl
  | _ => cases hc
theorem LayC.cells : ∀ {cs : List AV} {us : List Value}, RVL N C Im w cs us → cs.all cellB = true → LayC N C Im w cs us []
  | [], us, h, _ => by subst h; exact .nil
  | a :: cs, us, ⟨v, vs, h1, h2, h3⟩, hc => by
    subst h1
    rw [List.all_cons, Bool.and_eq_true] at hc
    exact .at1 h2 (h2.one hc.1) (LayC.cells h3 hc.2)
theorem RVL.length : ∀ {cs : List AV} {us : List Value}, RVL N C Im w cs us → us.length = cs.length
  | [], us, h => by have : us = [] := h; rw [this]; rfl
  | a :: cs, us, ⟨v, vs, h1, h2, h3⟩ => by subst h1; simp [RVL.length h3]

theorem Touched.grew {v v' : Value} (ht : Touched MP.bl w0 w) (hg : Grew w w' v v') (hv : ∀ b, own v = some b → w0.heap.size ≤ b ∨ b ∈ MP.bl) : Touched MP.bl w0 w' :=
  ⟨fun k hk hm => (hg.same k (by have := ht.size; omega) fun e => (hv k e.symm).elim (by omega) (fun h => hm h)).trans (ht.same k hk hm), Nat.le_trans ht.size hg.size, hg.os.trans ht.os, hg.tape.trans ht.tape, hg.output.trans ht.output⟩
theorem Touched.wrote {b : Nat} (ht : Touched MP.bl w0 w) (hg : Wrote b w w') (hv : w0.heap.size ≤ b ∨ b ∈ MP.bl) : Touched MP.bl w0 w' :=
  ⟨fun k hk hm => (hg.same k fun e => by subst e; exact hv.elim (by omega) (fun h => hm h)).trans (ht.same k hk hm), by rw [hg.size]; exact ht.size, hg.os.trans ht.os, hg.tape.trans ht.tape, hg.output.trans ht.output⟩
/-- what is new in memory, as an object -/
theorem Sm.fresh (hm : Sm w0 MP st C Im E w) (hl : Later w w') {cc : Conc} {sz : Nat} {xs : List (List AV)} (he : cc.sz = sz) (hlen : cc.len = xs.length) (hbuf : Buf' w' cc.sz cc.hv cc.len cc.us) (hlay : LayC st.nx C Im w' xs.flatten cc.us cc.F) (hx : ∀ x ∈ xs, x.length = cc.sz)
    (hn : (blks cc).Nodup) (hge : ∀ k ∈ blks cc, w.heap.size ≤ k) : Sm w0 MP ⟨st.E, updA st.hp st.nx (.live false sz xs), st.nx + 1⟩ (updA C st.nx (some cc)) Im E w' := by
  have hsz := hm.tch.size
  refine (hm.later hl).new ⟨he, hlen, hbuf, hlay, hx, hn, fun k hk => .inl (by have := hge k hk; omega), fun b hb hk => ?_, fun k hk => ⟨fun hk' => ?_, fun h => by cases h⟩⟩ fun o c hc k hk hk' => ?_
  · have := hm.im b hk; have := hge b (by simp [blks, mem_ownL, hb]); omega
  · have := hm.im k hk'; have := hge k (by simp [blks, hk]); omega
  · obtain ⟨_, _, _, _, hO⟩ := hm.objOf hc
    have := (hO.wb k hk').lt; have := hge k hk; omega
theorem RV.slNew {cc : Conc} {xs : List (List AV)} {l : Bool} {sz : Nat} (hO : OR w0 MP N C Im w l sz xs cc) {o : Nat} (ho : C o = some cc) (hlt : o < N) : RV N C Im w (.sl o xs.length 0 xs.length) cc.hv := by
  obtain ⟨p, c, h1, h2, h3⟩ := hO.buf.slice
  rw [hO.len] at h1 h2
  refine ⟨p, c, h1, h2, h3, hlt, fun cc' hc' => ?_⟩
  rw [ho] at hc'
  cases hc'
  refine ⟨by rw [hO.len]; exact Nat.le_refl _, fun _ => ⟨by rw [hO.len]; omega, fun _ _ => rfl, fun hne => ?_⟩⟩
  obtain ⟨e, hB⟩ := hO.buf
  rcases hB.2 with ⟨h0, q, hq⟩ | ⟨b, c', cur, hq, g2, g3, g4, g5, g6⟩
  · rw [hO.len] at h0; exact absurd h0 hne
  · rw [hO.len] at hq; exact ⟨b, c' + 1, by rw [hq]; rfl, by simpa using hq⟩
theorem RV.ptNew {cc : Conc} {b n o : Nat} (ho : C o = some cc) (hlt : o < N) (hn : cc.len = n) (hb : own cc.hv = some b) : RV N C Im w (.pt o n 0 0) (.pointer (some ⟨b, 0, Option.none⟩)) :=
  ⟨b, 0, rfl, hlt, fun cc' hc' => by
    rw [ho] at hc'
    cases hc'
    exact ⟨by omega, fun _ => ⟨hb, by simp⟩⟩⟩
/-- more blocks are not written any more -/
theorem Sm.imAdd (h : Sm w0 MP st C Im E w) (G : List Nat) (hG : ∀ k ∈ G, k < w.heap.size) (hge : ∀ k ∈ G, w0.heap.size ≤ k ∨ k ∈ MP.bl) (hd : ∀ o c, C o = some c → ∀ k ∈ G, k ∉ blks c) : Sm w0 MP st C (fun k => Im k ∨ k ∈ G) E w := by
  have hI : ∀ k, Im k → Im k ∨ k ∈ G := fun k hk => .inl hk
  refine ⟨h.tch, fun k hk => hk.elim (h.im k) (hG k), fun t => RV.mono hI (fun _ _ => rfl) (Nat.le_refl _) (CLe.refl _ _) _ _ (h.slot t), h.nod, fun o l sz xs ho => ?_, h.lt, h.dis, fun k hk => hk.elim (h.imJ k) fun hk => .inr (hge k hk), fun p hp => RV.mono hI (fun _ _ => rfl) (Nat.le_refl _) (CLe.refl _ _) _ _ (h.gst p hp)⟩
  obtain ⟨c, g1, g2⟩ := h.obj o l sz xs ho
  refine ⟨c, g1, g2.esz, g2.len, g2.buf, g2.lay.mono hI (fun _ _ => rfl) (Nat.le_refl _) (CLe.refl _ _) (fun _ _ => rfl), g2.lens, g2.nd, g2.ge, fun b hb hk => hk.elim (g2.nim b hb) fun hk => hd o c g1 b hk (by simp [blks, mem_ownL, hb]), fun k hk => ⟨fun hk' => hk'.elim (fun hk' => (g2.lent k hk).1 hk') fun hk' => absurd (show k ∈ blks c by simp [blks, hk]) (hd o c g1 k hk'), fun hl => .inl ((g2.lent k hk).2 hl)⟩⟩
/-- blocks that belong to no object -/
structure Loose (w0 : World) (MP : Fr) (C : Nat → Option Conc) (w : World) (G : List Nat) : Prop where
  nd : G.Nodup
  ge : ∀ k ∈ G, w0.heap.size ≤ k ∨ k ∈ MP.bl
  wb : ∀ k ∈ G, Wb w k
  off : ∀ o c, C o = some c → ∀ k ∈ G, k ∉ blks c
theorem Loose.nil : Loose w0 MP C w [] := ⟨List.nodup_nil, (fun k hk => by cases hk), (fun k hk => by cases hk), fun o c _ k hk => by cases hk⟩
/-- cells as they are kept in a list: what they name is taken along -/
inductive Mv (lt : Bool) : (Nat → Ob) → List AV → List AV → (Nat → Ob) → Prop
  | nil {hp : Nat → Ob} : Mv lt hp [] [] hp
  | at1 {hp hp' : Nat → Ob} {a : AV} {cs ds : List AV} : cellB a = true → Mv lt hp cs ds hp' → Mv lt hp (a :: cs) (a :: ds) hp'
  | ow {hp hp' : Nat → Ob} {sz : Nat} {xs : List (List AV)} {cs ds : List AV} : Mv lt hp cs ds hp' → Mv lt hp (.dt true sz xs :: cs) (.dt true sz xs :: ds) hp'
  | nl {hp hp' : Nat → Ob} {cs ds : List AV} (sz : Nat) : Mv lt hp cs ds hp' → Mv lt hp (.nl :: cs) (.dt true sz [] :: ds) hp'
  | em {hp hp' : Nat → Ob} {cs ds : List AV} (sz : Nat) : Mv lt hp cs ds hp' → Mv lt hp (.em :: cs) (.dt true sz [] :: ds) hp'
  | mv {hp hp' : Nat → Ob} {o n sz : Nat} {l : Bool} {xs : List (List AV)} {cs ds : List AV} : hp o = .live l sz xs → (l || lt) = lt → xs.length = n → xs.flatten.all pureB = true → Mv lt (updA hp o .dead) cs ds hp' → Mv lt hp (.sl o n 0 n :: cs) (.dt true sz xs :: ds) hp'
theorem Loose.later {G : List Nat} (h : Loose w0 MP C w G) (hs : ∀ k ∈ G, w'.heap[k]? = w.heap[k]?) : Loose w0 MP C w' G := ⟨h.nd, h.ge, fun k hk => (h.wb k hk).same (hs k hk), h.off⟩
theorem Mv.lay {lt : Bool} {hp hp' : Nat → Ob} {cs ds : List AV} (hmv : Mv lt hp cs ds hp') : ∀ {C : Nat → Option Conc} {us : List Value} {F H : List Nat}, Sm w0 MP ⟨st.E, hp, st.nx⟩ C Im E w → LayC st.nx C Im w cs us F → Loose w0 MP C w (F ++ H) → (lt = false → ∀ k ∈ F, ¬ Im k) →
    ∃ C' G, (lt = false → ∀ k ∈ G, ¬ Im k) ∧ Sm w0 MP ⟨st.E, hp', st.nx⟩ C' Im E w ∧ LayC st.nx C' Im w ds us G ∧ Loose w0 MP C' w (G ++ H) ∧ (∀ o c, C' o = some c → C o = some c) := by
  induction hmv with
  | nil =>
    intro C us F H hm hl hL hF
    cases hl
    exact ⟨C, [], (fun _ k hk => by cases hk), hm, .nil, hL, fun _ _ h => h⟩
  | @at1 hp hp' a cs ds ha _ ih =>
    intro C us F H hm hl hL hF
    cases hl with
    | @at1 _ v _ vs _ h1 h2 h3 =>
      obtain ⟨C', G, g0, g1, g2, g3, g4⟩ := ih hm h3 hL hF
      exact ⟨C', G, g0, g1, .at1 (RV.mono (fun _ h => h) (fun _ _ => rfl) (Nat.le_refl _) (fun o _ c hc => ⟨c, g4 o c hc, .inl ⟨rfl, rfl, rfl⟩⟩) _ _ h1) h2 g2, g3, g4⟩
    | ow h1 h2 => cases ha
  | @ow hp hp' sz xs cs ds _ ih =>
    intro C us F H hm hl hL hF
    cases hl with
    | at1 h1 h2 h3 => cases h1.1
    | @ow _ _ v F1 _ vs F2 h1 h2 =>
      rw [List.append_assoc] at hL
      have hL' : Loose w0 MP C w (F2 ++ (F1 ++ H)) := by
        have hp : (F1 ++ (F2 ++ H)).Perm (F2 ++ (F1 ++ H)) := by
          rw [← List.append_assoc, ← List.append_assoc]; exact List.Perm.append_right _ List.perm_append_comm
        exact ⟨hp.nodup hL.nd, fun k hk => hL.ge k (hp.mem_iff.2 hk), fun k hk => hL.wb k (hp.mem_iff.2 hk), fun o c hc k hk => hL.off o c hc k (hp.mem_iff.2 hk)⟩
      obtain ⟨C', G, g0, g1, g2, g3, g4⟩ := ih hm h2 hL' fun h k hk => hF h k (by simp [hk])
      have hp : (G ++ (F1 ++ H)).Perm (F1 ++ G ++ H) := by
        rw [← List.append_assoc]; exact List.Perm.append_right _ List.perm_append_comm
      exact ⟨C', F1 ++ G, fun h k hk => (List.mem_append.1 hk).elim (fun hk => hF h k (by simp [hk])) (g0 h k), g1, .ow h1 g2, ⟨hp.nodup g3.nd, fun k hk => g3.ge k (hp.mem_iff.2 hk), fun k hk => g3.wb k (hp.mem_iff.2 hk), fun o c hc k hk => g3.off o c hc k (hp.mem_iff.2 hk)⟩, g4⟩
  | @nl hp hp' cs ds sz _ ih =>
    intro C us F H hm hl hL hF
    cases hl with
    | @at1 _ v _ vs _ h1 h2 h3 =>
      obtain ⟨C', G, g0, g1, g2, g3, g4⟩ := ih hm h3 hL hF
      have hv : v = .slice Option.none 0 0 := h1
      subst hv
      refine ⟨C', G, g0, g1, ?_, g3, g4⟩
      have : OwnC Im w [.dt true sz []] [.slice Option.none 0 0] [] := by
        simpa [ownL, own] using OwnC.ow (Im := Im) (w := w) (sz := sz) (xs := []) (us := []) ⟨0, Buf.nil w 0 sz⟩ .nil (fun x hx => by cases hx) .nil
      exact LayC.ow (F1 := []) this g2
  | @em hp hp' cs ds sz _ ih =>
    intro C us F H hm hl hL hF
    cases hl with
    | @at1 _ v _ vs _ h1 h2 h3 =>
      obtain ⟨C', G, g0, g1, g2, g3, g4⟩ := ih hm h3 hL hF
      obtain ⟨p, rfl⟩ := h1
      refine ⟨C', G, g0, g1, ?_, g3, g4⟩
      have : OwnC Im w [.dt true sz []] [.slice p 0 0] [] := by
        have hp : ownL (.slice p 0 0) = [] := by cases p <;> rfl
        have := OwnC.ow (Im := Im) (w := w) (sz := sz) (xs := []) (us := []) ⟨0, ⟨by simp, .inl ⟨rfl, p, rfl⟩⟩⟩ .nil (fun x hx => by cases hx) .nil
        rw [hp] at this; exact this
      exact LayC.ow (F1 := []) this g2
  | @mv hp hp' o n sz l xs cs ds ho hlt hn hp1 _ ih =>
    intro C us F H hm hl hL hF
    cases hl with
    | @at1 _ v _ vs _ h1 h2 h3 =>
      obtain ⟨cc, hcc, hO⟩ := hm.obj o l sz xs ho
      obtain ⟨p, c, _, _, _, _, h5⟩ := h1
      obtain ⟨s1, s2, s3⟩ := (h5 cc hcc).2 (by rw [hO.len, hn])
      have hv := s2 rfl (by rw [hO.len, hn])
      subst hv
      have hbl : ∀ k ∈ blks cc, k ∉ F ++ H := fun k hk hk' => hL.off o cc hcc k hk' hk
      have hm' := hm.kill o
      have hC' : ∀ o1 c1, updA C o Option.none o1 = some c1 → o1 ≠ o ∧ C o1 = some c1 := fun o1 c1 h => by
        by_cases e : o1 = o
        · subst e; rw [updA_same] at h; cases h
        · rw [updA_ne _ _ e] at h; exact ⟨e, h⟩
      have hl3 : LayC st.nx (updA C o Option.none) Im w cs vs F := h3.mono (fun _ h => h) (fun _ _ => rfl) (Nat.le_refl _) (fun o1 _ c1 h => ⟨c1, (hC' o1 c1 h).2, .inl ⟨rfl, rfl, rfl⟩⟩) (fun _ _ => rfl)
      have hL' : Loose w0 MP (updA C o Option.none) w (F ++ (blks cc ++ H)) := by
        refine ⟨?_, fun k hk => ?_, fun k hk => ?_, fun o1 c1 h k hk => ?_⟩
        · obtain ⟨n1, n2, n3⟩ := List.nodup_append.1 hL.nd
          refine List.nodup_append.2 ⟨n1, List.nodup_append.2 ⟨hO.nd, n2, fun a ha b hb e => ?_⟩, fun a ha b hb e => ?_⟩
          · subst e; exact hbl a ha (by simp [hb])
          · subst e
            rcases List.mem_append.1 hb with hb | hb
            · exact hbl a hb (by simp [ha])
            · exact n3 a ha a hb rfl
        · rcases List.mem_append.1 hk with hk | hk
          · exact hL.ge k (by simp [hk])
          · rcases List.mem_append.1 hk with hk | hk
            · exact hO.ge k hk
            · exact hL.ge k (by simp [hk])
        · rcases List.mem_append.1 hk with hk | hk
          · exact hL.wb k (by simp [hk])
          · rcases List.mem_append.1 hk with hk | hk
            · exact hO.wb k hk
            · exact hL.wb k (by simp [hk])
        · obtain ⟨e, h⟩ := hC' o1 c1 h
          rcases List.mem_append.1 hk with hk | hk
          · exact hL.off o1 c1 h k (by simp [hk])
          · rcases List.mem_append.1 hk with hk | hk
            · exact fun hk' => hm.dis o o1 cc c1 (Ne.symm e) hcc h k hk hk'
            · exact hL.off o1 c1 h k (by simp [hk])
      obtain ⟨C', G, g0, g1, g2, g3, g4⟩ := ih hm' hl3 hL' hF
      have hp : (G ++ (blks cc ++ H)).Perm (blks cc ++ G ++ H) := by
        rw [← List.append_assoc]; exact List.Perm.append_right _ List.perm_append_comm
      refine ⟨C', blks cc ++ G, fun h k hk => (List.mem_append.1 hk).elim (fun hk => (List.mem_append.1 hk).elim (fun hk => hO.nim k (mem_ownL.1 hk)) fun hk hk' => by have := (hO.lent k hk).1 hk'; subst h; subst this; cases hlt) (g0 h k), g1, ?_, ⟨hp.nodup g3.nd, fun k hk => g3.ge k (hp.mem_iff.2 hk), fun k hk => g3.wb k (hp.mem_iff.2 hk), fun o c hc k hk => g3.off o c hc k (hp.mem_iff.2 hk)⟩, fun o1 c1 h => (hC' o1 c1 (g4 o1 c1 h)).2⟩
      refine .ow ?_ g2
      have hb := hO.buf
      rw [hO.len, hO.esz] at hb
      have := OwnC.ow hb (hO.lay.pure hp1) (fun x hx => by rw [hO.lens x hx, hO.esz]) (cs := []) (vs := []) (F := []) .nil
      simpa [blks] using this
/-- an object grows -/
theorem Sm.app (hm : Sm w0 MP st C Im E w) {o sz : Nat} {lt : Bool} {xs : List (List AV)} {cc : Conc} (ho : st.hp o = .live lt sz xs) (hcc : C o = some cc) {zs : List (List AV)} {news : List Value} {G : List Nat}
    (hy : LayC st.nx C Im w zs.flatten news G) (hG : Loose w0 MP C w G) (hGl : ∀ k ∈ G, Im k ↔ lt = true) (hz : ∀ z ∈ zs, z.length = sz) {v' : Value} (hB : Buf' w' sz v' (cc.len + zs.length) (cc.us ++ news)) (hg : Grew w w' cc.hv v') (h0 : zs.length = 0 → v' = cc.hv) :
    ∃ cc', Sm w0 MP ⟨st.E, updA st.hp o (.live lt sz (xs ++ zs)), st.nx⟩ (updA C o (some cc')) Im E w' ∧ cc'.hv = v' ∧ OR w0 MP st.nx (updA C o (some cc')) Im w' lt sz (xs ++ zs) cc' := by
  obtain ⟨cc1, hcc1, hO⟩ := hm.obj o lt sz xs ho
  rw [hcc] at hcc1
  cases hcc1
  have hown : ∀ b, own v' = some b → own cc.hv = some b ∨ w.heap.size ≤ b := fun b hb => by
    rcases hg.own with e | ⟨b', e, h⟩
    · exact .inl (e ▸ hb)
    · rw [e] at hb; cases hb; exact .inr h
  have hsame : ∀ k, k < w.heap.size → own cc.hv ≠ some k → w'.heap[k]? = w.heap[k]? := fun k hk hne => hg.same k hk fun e => hne e.symm
  have hIs : ∀ k, Im k → w'.heap[k]? = w.heap[k]? := fun k hk => hsame k (hm.im k hk) fun e => hO.nim k e hk
  have hblk : ∀ k ∈ cc.F ++ G, w'.heap[k]? = w.heap[k]? := fun k hk => by
    rcases List.mem_append.1 hk with hk | hk
    · refine hsame k (hO.wb k (by simp [blks, hk])).lt fun e => ?_
      have := hO.nd
      unfold blks at this
      exact (List.nodup_append.1 this).2.2 k (mem_ownL.2 e) k hk rfl
    · exact hsame k (hG.wb k hk).lt fun e => hG.off o cc hcc k hk (by simp [blks, mem_ownL, e])
  let cc' : Conc := ⟨v', cc.len + zs.length, sz, cc.us ++ news, cc.F ++ G⟩
  have hlay : LayC st.nx C Im w' (xs ++ zs).flatten cc'.us cc'.F := by
    rw [List.flatten_append]
    exact (hO.lay.append hy).mono (fun _ h => h) hIs (Nat.le_refl _) (CLe.refl _ _) hblk
  have hOR : OR w0 MP st.nx C Im w' lt sz (xs ++ zs) cc' := by
    refine ⟨rfl, by simp [cc', hO.len], hB, hlay, fun x hx => ?_, ?_, fun k hk => ?_, fun b hb hk => ?_, fun k hk => ?_⟩
    · rcases List.mem_append.1 hx with hx | hx
      · rw [hO.lens x hx]; exact hO.esz
      · exact hz x hx
    · have h1 := hO.nd
      unfold blks at h1 ⊢
      obtain ⟨n1, n2, n3⟩ := List.nodup_append.1 h1
      refine List.nodup_append.2 ⟨?_, List.nodup_append.2 ⟨n2, hG.nd, fun a ha b hb e => ?_⟩, fun a ha b hb e => ?_⟩
      · unfold ownL; cases own v' <;> simp [cc']
      · subst e; exact hG.off o cc hcc a hb (by simp [blks, ha])
      · subst e
        rcases hown a (mem_ownL.1 ha) with e | e
        · rcases List.mem_append.1 hb with hb | hb
          · exact n3 a (mem_ownL.2 e) a hb rfl
          · exact hG.off o cc hcc a hb (by simp [blks, mem_ownL, e])
        · rcases List.mem_append.1 hb with hb | hb
          · have := (hO.wb a (by simp [blks, hb])).lt; omega
          · have := (hG.wb a hb).lt; omega
    · unfold blks at hk
      rcases List.mem_append.1 hk with hk | hk
      · rcases hown k (mem_ownL.1 hk) with e | e
        · exact hO.ge k (by simp [blks, mem_ownL, e])
        · have := hm.tch.size; exact .inl (by omega)
      · rcases List.mem_append.1 hk with hk | hk
        · exact hO.ge k (by simp [blks, hk])
        · exact hG.ge k hk
    · rcases hown b hb with e | e
      · exact hO.nim b e hk
      · have := hm.im b hk; omega
    · rcases List.mem_append.1 hk with hk | hk
      · exact hO.lent k hk
      · exact hGl k hk
  have hdis : ∀ o' c, o' ≠ o → C o' = some c → ∀ k ∈ blks cc', k ∉ blks c := fun o' c ho' hc k hk hk' => by
    unfold blks at hk
    rcases List.mem_append.1 hk with hk | hk
    · rcases hown k (mem_ownL.1 hk) with e | e
      · exact hm.dis o o' cc c (Ne.symm ho') hcc hc k (by simp [blks, mem_ownL, e]) hk'
      · obtain ⟨_, _, _, _, hO'⟩ := hm.objOf hc
        have := (hO'.wb k hk').lt; omega
    · rcases List.mem_append.1 hk with hk | hk
      · exact hm.dis o o' cc c (Ne.symm ho') hcc hc k (by simp [blks, hk]) hk'
      · exact hG.off o' c hc k hk hk'
  have hl : (cc.len = cc'.len ∧ cc.hv = cc'.hv ∧ cc.sz = cc'.sz) ∨ cc.len < cc'.len := by
    by_cases hz0 : zs.length = 0
    · exact .inl ⟨by simp [cc', hz0], (h0 hz0).symm, hO.esz⟩
    · exact .inr (by simp only [cc']; omega)
  have hT := hm.turn o (xs' := xs ++ zs) ho hcc hl (V.Touched.grew hm.tch hg fun b hb => hO.ge b (by simp [blks, mem_ownL, hb])) hg.size hIs (fun o' c ho' hc k hk => by
    obtain ⟨_, _, _, _, hO'⟩ := hm.objOf hc
    exact hsame k (hO'.wb k hk).lt fun e => hm.dis o o' cc c (Ne.symm ho') hcc hc k (by simp [blks, mem_ownL, e]) hk) hOR hdis
  refine ⟨cc', hT, rfl, ?_⟩
  obtain ⟨c2, q1, q2⟩ := hT.obj o lt sz (xs ++ zs) (updA_same ..)
  rw [updA_same] at q1
  cases q1
  exact q2
/-- cells of an object are written -/
theorem Sm.store (hm : Sm w0 MP st C Im E w) {o sz : Nat} {l : Bool} {xs xs' : List (List AV)} {cc : Conc} (ho : st.hp o = .live l sz xs) (hcc : C o = some cc) {A B B' D : List AV} {vs : List Value} {G : List Nat}
    (hx : xs.flatten = A ++ (B ++ D)) (hx' : xs'.flatten = A ++ (B' ++ D)) (hlen : xs'.length = xs.length) (hsz : ∀ x ∈ xs', x.length = sz) (hBl : B'.length = B.length) {b : Nat} (hb : own cc.hv = some b)
    (hy : LayC st.nx C Im w B' vs G) (hG : Loose w0 MP C w G) (hGl : ∀ k ∈ G, Im k ↔ l = true) (hW : Wrote b w w')
    (hBk : ∀ cur e, Blk w b cur e → ∃ e', Blk w' b (cur.take A.length ++ vs ++ cur.drop (A.length + vs.length)) e') :
    ∃ cc', Sm w0 MP ⟨st.E, updA st.hp o (.live l sz xs'), st.nx⟩ (updA C o (some cc')) Im E w' ∧ cc'.hv = cc.hv ∧ cc'.len = cc.len ∧ cc'.sz = cc.sz := by
  obtain ⟨cc1, hcc1, hO⟩ := hm.obj o l sz xs ho
  rw [hcc] at hcc1
  cases hcc1
  obtain ⟨u1, u2, u3, F1, F2, F3, e1, e2, l1, l2, q1, q2, q3⟩ := hO.lay.cut hx
  have hbk : b ∈ blks cc := by simp [blks, mem_ownL, hb]
  have hsame : ∀ k, k ≠ b → w'.heap[k]? = w.heap[k]? := hW.same
  have hIs : ∀ k, Im k → w'.heap[k]? = w.heap[k]? := fun k hk => hsame k fun e => by subst e; exact hO.nim k hb hk
  have hnd := hO.nd
  unfold blks at hnd
  obtain ⟨n1, n2, n3⟩ := List.nodup_append.1 hnd
  have hFb : ∀ k ∈ cc.F, k ≠ b := fun k hk e => n3 b (mem_ownL.2 hb) k hk e.symm
  have hGb : ∀ k ∈ G, k ≠ b := fun k hk e => by subst e; exact hG.off o cc hcc k hk hbk
  have hvl : vs.length = B.length := by rw [hy.length, hBl]
  let cc' : Conc := ⟨cc.hv, cc.len, cc.sz, u1 ++ (vs ++ u3), F1 ++ (G ++ F3)⟩
  have hF' : ∀ k ∈ cc'.F, k ∈ cc.F ∨ k ∈ G := fun k hk => by
    simp only [cc', List.mem_append] at hk
    rw [e2]; simp only [List.mem_append]
    rcases hk with h | h | h
    · exact .inl (.inl h)
    · exact .inr h
    · exact .inl (.inr (.inr h))
  have hlay : LayC st.nx C Im w' xs'.flatten cc'.us cc'.F := by
    rw [hx']
    exact (q1.append (hy.append q3)).mono (fun _ h => h) hIs (Nat.le_refl _) (CLe.refl _ _) fun k hk => hsame k ((hF' k hk).elim (hFb k) (hGb k))
  have hbuf : Buf' w' cc.sz cc.hv cc.len (u1 ++ (vs ++ u3)) := by
    obtain ⟨e, hB⟩ := hO.buf
    rcases hB.2 with ⟨_, p, h⟩ | ⟨b', c, cur, h, h2, h3, h4, h5, h6⟩
    · rw [h] at hb; cases p <;> simp [own] at hb
    · rw [h] at hb
      simp [own] at hb
      subst hb
      obtain ⟨e', hBk'⟩ := hBk cur e h2
      have hus : cc.us.length = cc.len * cc.sz := hB.1
      rw [e1] at h6 hus
      simp only [List.length_append] at hus
      have hle : cc.len * cc.sz ≤ cur.length := by
        rw [h5]; exact Nat.mul_le_mul_right _ h3
      have hc1 : cur.take A.length = u1 := by
        have : cur.take (cc.len * cc.sz) = u1 ++ (u2 ++ u3) := h6
        have h7 := congrArg (List.take A.length) this
        have hmin : min A.length (cc.len * cc.sz) = A.length := Nat.min_eq_left (by omega)
        rw [List.take_take, hmin, List.take_append_of_le_length (by omega), List.take_of_length_le (l := u1) (by omega)] at h7
        exact h7
      refine ⟨e', by simp only [List.length_append]; omega, .inr ⟨b', c, _, h, hBk', h3, h4, ?_, ?_⟩⟩
      · simp only [List.length_append, List.length_take, List.length_drop]; omega
      · rw [hc1, List.append_assoc]
        have h8 : (cur.drop (A.length + vs.length)).take (cc.len * cc.sz - (A.length + vs.length)) = u3 := by
          rw [← List.drop_take, h6, ← List.append_assoc, List.drop_append_of_le_length (by simp; omega), List.drop_of_length_le (by simp; omega), List.nil_append]
        rw [List.take_append, List.take_of_length_le (by omega), List.take_append, List.take_of_length_le (by omega)]
        congr 2
        rw [← h8]; congr 1; omega
  have hOR : OR w0 MP st.nx C Im w' l sz xs' cc' := by
    refine ⟨hO.esz, by simp [cc', hO.len, hlen], hbuf, hlay, fun x hx => by rw [hsz x hx]; exact hO.esz.symm, ?_, fun k hk => ?_, hO.nim, fun k hk => ?_⟩
    · rw [e2] at n2
      obtain ⟨m1, m2, m3⟩ := List.nodup_append.1 n2
      obtain ⟨m4, m5, m6⟩ := List.nodup_append.1 m2
      refine List.nodup_append.2 ⟨n1, List.nodup_append.2 ⟨m1, List.nodup_append.2 ⟨hG.nd, m5, fun a ha c hc e => ?_⟩, fun a ha c hc e => ?_⟩, fun a ha c hc e => ?_⟩
      · subst e; exact hG.off o cc hcc a ha (by simp [blks, e2, hc])
      · subst e
        rcases List.mem_append.1 hc with hc | hc
        · exact hG.off o cc hcc a hc (by simp [blks, e2, ha])
        · exact m3 a ha a (by simp [hc]) rfl
      · subst e
        rcases hF' a hc with h | h
        · exact n3 a ha a h rfl
        · exact hG.off o cc hcc a h (List.mem_append_left _ ha)
    · unfold blks at hk
      rcases List.mem_append.1 hk with hk | hk
      · exact hO.ge k (List.mem_append_left _ hk)
      · rcases hF' k hk with h | h
        · exact hO.ge k (by simp [blks, h])
        · exact hG.ge k h
    · rcases hF' k hk with h | h
      · exact hO.lent k h
      · exact hGl k h
  refine ⟨cc', hm.turn o (xs' := xs') ho hcc (.inl ⟨rfl, rfl, rfl⟩) (V.Touched.wrote hm.tch hW (hO.ge b hbk)) (by rw [hW.size]; exact Nat.le_refl _) hIs (fun o' c ho' hc k hk => hsame k fun e => ?_) hOR (fun o' c ho' hc k hk hk' => ?_), rfl, rfl, rfl⟩
  · subst e; exact hm.dis o o' cc c (Ne.symm ho') hcc hc k hbk hk
  · unfold blks at hk
    rcases List.mem_append.1 hk with hk | hk
    · exact hm.dis o o' cc c (Ne.symm ho') hcc hc k (List.mem_append_left _ hk) hk'
    · rcases hF' k hk with h | h
      · exact hm.dis o o' cc c (Ne.symm ho') hcc hc k (by simp [blks, h]) hk'
      · exact hG.off o' c hc k h hk'
end
end Go.Proofs.YtedjajokbdokhaaGreat.V

/- Rules for operations that make or write memory, by abstract states. Over any program; nothing is claimed of the given one. -/
namespace Go.Proofs.YtedjajokbdokhaaGreat.V
open V.Enc (enc)
open Go.RowKit G
set_option linter.unusedVariables false
set_option linter.unusedSimpArgs false

/-! ### runs -/
section
variable {P : Program} {E : Env} {w : World} {d : Option Tmp} {ty : TypeId} {pos : String} {af : Array Edge} {g : Option (Nat × Bool)} {x y : Operand}
theorem made_flat (us : List Value) (h0 : us ≠ []) (m : Nat) : (madeCells us.toArray (m * us.length)).toList = (List.replicate m us).flatten := by
  have hpos : 0 < us.length := by cases us with | nil => exact absurd rfl h0 | cons _ _ => simp
  simp only [madeCells, Array.toList_map, Array.toList_range]
  induction m with
  | zero => simp
  | succ m ih =>
    rw [List.replicate_succ', List.flatten_append, ← ih, Nat.add_mul, Nat.one_mul, List.range_add, List.map_append]
    congr 1
    simp only [List.map_map, List.flatten_cons, List.flatten_nil, List.append_nil]
    apply List.ext_getElem
    · simp
    · intro i h1 h2
      simp only [List.getElem_map, List.getElem_range, Function.comp, List.size_toArray]
      have : (m * us.length + i) % us.length = i := by rw [Nat.mul_comm, Nat.mul_add_mod]; exact Nat.mod_eq_of_lt h2
      rw [this]; simp [h2]
theorem run_mk {t e sz bys : Nat} {zz : Value} [hu : HasU P t (.slice e)] [hi : HasI P e sz bys zz] {m : Nat} {l : Int} {us : List Value} (hx : ev E x = .int .i64 l) (hy : ev E y = .int .i64 l) (hl : l = (m : Int)) (hz : zz.cells = us.toArray) (h0 : us.length = sz) (hs : us ≠ [])
    (hb : bys * m ≤ 281474976710656) (hm : m ≤ 9223372036854775807) :
    (execOp (ev E) ⟨d, .makeSlice t x y, ty, pos, af, g⟩).run P w = .ok (.value (.slice (some ⟨w.heap.size, 0, none⟩) m m)) (w.alloc (.cells (List.replicate m us).flatten.toArray e)) := by
  subst hl
  obtain ⟨i, h1, h2, h3, h4⟩ := hi.ex
  have hb' : (i.bytes : Int) * (m : Int) ≤ 281474976710656 := by
    rw [h4, ← Int.natCast_mul]; exact Int.ofNat_le.2 hb
  have hr := run_make (P := P) w t e i zz hu.u h1 h2 .i64 .i64 (m : Int) (m : Int) (by omega) (by omega) hb' (by omega)
  have e1 : madeCells zz.cells ((m : Int).toNat * i.size) = (List.replicate m us).flatten.toArray := by
    apply Array.ext'
    rw [hz, h3, ← h0, Int.toNat_natCast, made_flat us hs]
  rw [e1] at hr
  simp [execOp, hx, hy, hr]
theorem run_lit {t e sz bys len : Nat} {zz : Value} {ps : Array (Nat × Operand)} [hu : HasU P t (.slice e)] [hi : HasI P e sz bys zz] {vs : List Value}
    (hvs : ps.toList.map (fun p => (p.1, ev E p.2)) = idx 0 vs) (hlen : vs.length = len) (hsz : len * sz ≤ 16777216) (hc : ∀ v ∈ vs, v.cells.size = sz) :
    (execOp (ev E) ⟨d, .buildSlice t len ps, ty, pos, af, g⟩).run P w = .ok (.value (.slice (some ⟨w.heap.size, 0, none⟩) len len)) (w.alloc (.cells (vs.flatMap (·.cells.toList)).toArray e)) := by
  have h1 := hu.und w
  have h2 := hi.sizeOf w
  have h3 := hi.zeroV w
  have hf : Instr.fill (fun i => some (i * sz, sz)) ((Array.range (len * sz)).map (zz.cells[· % zz.cells.size]!)) (idx 0 vs) = some (vs.flatMap (·.cells.toList)).toArray := by
    subst hlen
    generalize hA : (Array.range (vs.length * sz)).map (zz.cells[· % zz.cells.size]!) = A
    have hs : A.size = vs.length * sz := by rw [← hA]; simp
    obtain ⟨A⟩ := A
    have := fill_all vs 0 A hc (by simpa using hs)
    simpa using this
  have e1 : (Array.map (fun p => (p.1, ev E p.2)) ps).toList = idx 0 vs := by rw [← hvs]; simp
  have e2 : ¬ (len * sz > 2 ^ 24) := by omega
  have e3 : (Array.map (fun x : Nat × Operand => match x with | (i, x) => (i, ev E x)) ps).toList = idx 0 vs := e1
  simp only [execOp, Instr.buildSlice, Sem.run_bind, h1, h2, Result.andThen_ok, Sem.run_ite, e2, if_false, e3, Sem.run_pure]
  by_cases e0 : len * sz = 0
  · simp only [e0, if_true]
    have : (Array.map (fun x => (#[] : Array Value)[x % (#[] : Array Value).size]!) (Array.range 0)) = (Array.range (len * sz)).map (zz.cells[· % zz.cells.size]!) := by rw [e0]; simp
    rw [this, hf]
    simp [newRow]
  · simp only [e0, if_false, Sem.run_bind, h3, Result.andThen_ok, Sem.run_pure, hf]
    simp [newRow]
theorem run_st {t bys : Nat} {zz : Value} [hi : HasI P t 1 bys zz] {b o : Nat} {cs : List Value} {e : Nat} {v : Value} (hx : ev E x = .pointer (some ⟨b, o, none⟩)) (hy : ev E y = v) (hb : Blk w b cs e) (ho : o < cs.length) (hv : v.oneCell' = true) :
    ∃ w', (execOp (ev E) ⟨d, .store t x y, ty, pos, af, g⟩).run P w = .ok .skip w' ∧ Wrote b w w' ∧ Blk w' b (cs.set o v) e := by
  have h1 := hi.sizeOf w
  have hc : w.cell? ⟨b, o, none⟩ = some cs[o] := hb.cell (by simp [ho])
  have hf := hb.unfrozen o
  have hcs : v.cells = #[v] := by cases v <;> first | rfl | cases hv
  refine ⟨_, ?_, Wrote.setCell w b o v, hb.set o v⟩
  have hst : (Go.store (⟨b, o, none⟩ : Addr) v).run P w = .ok () (w.setCell ⟨b, o, none⟩ v) := by
    rw [run_store P w _ v _ hv]
    simp [hc, hf]
  simp [execOp, hx, hy, Instr.storeAt, Instr.sureAddr, storeVar, hcs, h1, storeCells, add_none, hst]
theorem run_stG {t sz bys : Nat} {zz : Value} [hi : HasI P t sz bys zz] {b o : Nat} {cs vs : List Value} {e : Nat} (hx : ev E x = .pointer (some ⟨b, o, none⟩)) (hy : ev E y = .agg vs.toArray) (hb : Blk w b cs e) (hl : vs.length = sz) (ho : o + vs.length ≤ cs.length) (hv : oneAll vs) :
    ∃ w', (execOp (ev E) ⟨d, .store t x y, ty, pos, af, g⟩).run P w = .ok .skip w' ∧ Wrote b w w' ∧ Blk w' b (cs.take o ++ vs ++ cs.drop (o + vs.length)) e := by
  have h1 := hi.sizeOf w
  have hst := run_storeCells_at P b o e vs 0 cs.toArray w hb (by simpa using ho) hv
  simp only [Nat.add_zero] at hst
  have hset := setRow_heap w b cs.toArray (cs.take o ++ vs ++ cs.drop (o + vs.length)).toArray e _ hb
  refine ⟨w.setRow b (cs.take o ++ vs ++ cs.drop (o + vs.length)).toArray, ?_, ⟨fun k hk => setRow_other w b k _ hk, by simp, rfl, rfl, rfl⟩, hset⟩
  simp [execOp, hx, hy, Instr.storeAt, Instr.sureAddr, storeVar, Value.cells, h1, hl, hst]
end

/-! ### rules -/
/-- zeros of a type, as abstract cells -/
class HasZ (P : Program) (e : Nat) (sz : outParam Nat) (cs : outParam (List AV)) : Prop where
  h : ∃ (bys : Nat) (zz : Value) (us : List Value), HasI P e sz bys zz ∧ zz.cells = us.toArray ∧ us.map cst1 = cs ∧ cs.all cellB = true ∧ us.length = sz
theorem HasZ.of {P : Program} {e sz bys : Nat} {zz : Value} {cs : List AV} (us : List Value) (hi : HasI P e sz bys zz) (h1 : zz.cells = us.toArray) (h2 : us.map cst1 = cs) (h3 : cs.all cellB = true) (h4 : us.length = sz) : HasZ P e sz cs := ⟨bys, zz, us, hi, h1, h2, h3, h4⟩
def cellsA : AV → List AV
  | .agg cs => cs
  | a => [a]
section
variable {P : Program} {n : Nat} {w0 : World} {MP : Fr} {Q : Exit → St → Prop} {st : St} {lb : Bool} {ops : Array Oper} {os : List Oper} {d : Option Tmp} {ty : TypeId} {pos : String} {af : Array Edge} {g : Option (Nat × Bool)} {x y : Operand}
def newS (st : St) (sz : Nat) (xs : List (List AV)) : St := ⟨st.E, updA st.hp st.nx (.live false sz xs), st.nx + 1⟩
theorem blks_blk (b m sz : Nat) (us : List Value) (len : Nat) : ∀ k ∈ blks ⟨.slice (some ⟨b, 0, none⟩) m m, len, sz, us, []⟩, k = b := by
  intro k hk
  simp only [blks, List.append_nil] at hk
  have := mem_ownL.1 hk
  cases m with
  | zero => simp [own] at this
  | succ m => simpa [own, eq_comm] using this
theorem nd_blk (b m sz : Nat) (us : List Value) (len : Nat) : (blks ⟨.slice (some ⟨b, 0, none⟩) m m, len, sz, us, []⟩).Nodup := by
  simp only [blks, List.append_nil]
  unfold ownL; cases own _ <;> simp
/-- a fresh block of cells as an object -/
theorem Sm.freshB {C : Nat → Option Conc} {Im : Nat → Prop} {E : Env} {w w' : World} (hm : Sm w0 MP st C Im E w) (hl : Later w w') {b e sz m : Nat} {us : List Value} {xs : List (List AV)} (hb : b = w.heap.size) (hB : Blk w' b us e) (hxm : xs.length = m) (hmx : m ≤ maxLen) (hus : us.length = m * sz)
    (hlay : LayC st.nx C Im w' xs.flatten us []) (hx : ∀ x ∈ xs, x.length = sz) :
    ∃ C', Sm w0 MP (newS st sz xs) C' Im E w' ∧ RV (st.nx + 1) C' Im w' (.sl st.nx xs.length 0 xs.length) (.slice (some ⟨b, 0, none⟩) m m) ∧ (m = 1 → RV (st.nx + 1) C' Im w' (.pt st.nx 1 0 0) (.pointer (some ⟨b, 0, none⟩))) := by
  let cc : Conc := ⟨.slice (some ⟨b, 0, none⟩) m m, m, sz, us, []⟩
  have hS := hm.fresh hl (cc := cc) (sz := sz) (xs := xs) rfl hxm.symm ⟨e, Buf.ofBlk hB hmx hus⟩ hlay hx (nd_blk b m sz us m) (fun k hk => by rw [blks_blk b m sz us m k hk, hb]; exact Nat.le_refl _)
  refine ⟨_, hS, ?_, fun h1 => ?_⟩
  · obtain ⟨c2, q1, q2⟩ := hS.obj st.nx false sz xs (updA_same ..)
    have := RV.slNew q2 q1 (Nat.lt_succ_self _)
    rw [updA_same] at q1
    cases q1
    exact this
  · subst h1
    exact RV.ptNew (cc := cc) (updA_same ..) (Nat.lt_succ_self _) rfl rfl
theorem putS {C : Nat → Option Conc} {Im : Nat → Prop} {E : Env} {w : World} {st : St} (hm : Sm w0 MP st C Im E w) (d : Option Tmp) {a : AV} {v : Value} (hv : RV st.nx C Im w a v) : Sim w0 MP (putA st d a) (G.put E d v) w := ⟨C, Im, hm.put d hv⟩
theorem R.boxG {e : TypeId} {cs : List AV} (hx : evA st x = .agg cs) (hc : cs.all cellB = true) (hw : awant n ops ⟨d, .box e x, ty, pos, af, g⟩ st.E true = true) (hd : fits n d = true)
    (h : ARg P n w0 MP lb ops os Q (putA (newS st cs.length [cs]) d (.pt st.nx 1 0 0))) : ARg P n w0 MP lb ops (⟨d, .box e x, ty, pos, af, g⟩ :: os) Q st :=
  ARg.val hw hd (fun C Im E w hm => by
    have hv := hm.ev x
    rw [hx] at hv
    obtain ⟨us, h1, h2⟩ := hv
    refine ⟨_, _, run_box (cs := us) h1 rfl w, fun _ => Later.alloc _ _, ?_⟩
    have hl : Later w (w.alloc (.cells us.toArray e)) := Later.alloc _ _
    have hm' := hm.later hl
    have h3 : LayC st.nx C Im (w.alloc (.cells us.toArray e)) [cs].flatten us [] := by
      simpa using (LayC.cells h2 hc).mono (fun _ h => h) (fun k hk => Below.block hl k (hm.im k hk)) (Nat.le_refl _) (CLe.refl _ _) (fun k hk => by cases hk)
    obtain ⟨C', g1, g2, g3⟩ := hm.freshB hl (m := 1) (sz := cs.length) (xs := [cs]) rfl (Blk.new w us e) rfl (by decide) (by rw [Nat.one_mul]; exact h2.length) h3 (fun x hx => by simp at hx; rw [hx])
    exact putS g1 d (g3 rfl)) h
theorem R.boxC {e : TypeId} {a : AV} (hx : evA st x = a) (hc : cellB a = true) (hw : awant n ops ⟨d, .box e x, ty, pos, af, g⟩ st.E true = true) (hd : fits n d = true)
    (h : ARg P n w0 MP lb ops os Q (putA (newS st 1 [[a]]) d (.pt st.nx 1 0 0))) : ARg P n w0 MP lb ops (⟨d, .box e x, ty, pos, af, g⟩ :: os) Q st :=
  ARg.val hw hd (fun C Im E w hm => by
    have hv := hm.ev x
    rw [hx] at hv
    have hone := hv.one hc
    have hcs : (G.ev E x).cells = [G.ev E x].toArray := by generalize G.ev E x = v at *; cases v <;> first | rfl | cases hone
    refine ⟨_, _, run_box (cs := [G.ev E x]) rfl hcs w, fun _ => Later.alloc _ _, ?_⟩
    have hl : Later w (w.alloc (.cells [G.ev E x].toArray e)) := Later.alloc _ _
    have h3 : LayC st.nx C Im (w.alloc (.cells [G.ev E x].toArray e)) [[a]].flatten [G.ev E x] [] := by
      have : LayC st.nx C Im w [a] [G.ev E x] [] := .at1 hv hone .nil
      simpa using this.mono (fun _ h => h) (fun k hk => Below.block hl k (hm.im k hk)) (Nat.le_refl _) (CLe.refl _ _) (fun k hk => by cases hk)
    obtain ⟨C', g1, g2, g3⟩ := hm.freshB hl (m := 1) (sz := 1) (xs := [[a]]) rfl (Blk.new w [G.ev E x] e) rfl (by decide) rfl h3 (fun x hx => by simp at hx; rw [hx]; rfl)
    exact putS g1 d (g3 rfl)) h
theorem R.alloc {e sz : Nat} {cs : List AV} [hz : HasZ P e sz cs] (hw : awant n ops ⟨d, .alloc e, ty, pos, af, g⟩ st.E true = true) (hd : fits n d = true)
    (h : ARg P n w0 MP lb ops os Q (putA (newS st sz [cs]) d (.pt st.nx 1 0 0))) : ARg P n w0 MP lb ops (⟨d, .alloc e, ty, pos, af, g⟩ :: os) Q st :=
  ARg.val hw hd (fun C Im E w hm => by
    obtain ⟨bys, zz, us, hi, h1, h2, h3, h4⟩ := hz.h
    subst h2
    refine ⟨_, _, run_alloc (cs := us) h1 w, fun _ => Later.alloc _ _, ?_⟩
    have hl : Later w (w.alloc (.cells us.toArray e)) := Later.alloc _ _
    have h5 : LayC st.nx C Im (w.alloc (.cells us.toArray e)) [us.map cst1].flatten us [] := by
      simpa using LayC.cells (RVL.cst1 us) h3
    obtain ⟨C', g1, g2, g3⟩ := hm.freshB hl (m := 1) (sz := sz) (xs := [us.map cst1]) rfl (Blk.new w us e) rfl (by decide) (by omega) h5 (fun x hx => by simp at hx; rw [hx]; simp [h4])
    exact putS g1 d (g3 rfl)) h
/-- make([]T, m): z: what zero cells of T stand for -/
class ZeroE (P : Program) (e : Nat) (α : Type) [Enc α] (z : outParam α) : Prop where
  h : ∃ (bys : Nat) (zz : Value) (us : List Value), HasI P e (Enc.nc α) bys zz ∧ zz.cells = us.toArray ∧ us ≠ [] ∧ us.length = Enc.nc α ∧ ∀ Im w, OwnC Im w (enc true z) us []
theorem OwnC.rep {Im : Nat → Prop} {w : World} {α : Type} [Enc α] {z : α} {us : List Value} (h : OwnC Im w (enc true z) us []) (m : Nat) : OwnC Im w (V.E true (List.replicate m z)).flatten (List.replicate m us).flatten [] := by
  induction m with
  | zero => exact .nil
  | succ m ih => simpa [List.replicate_succ, V.E] using h.append ih
theorem R.mk {t e m : Nat} {l : Int} (α : Type) [Enc α] {z : α} [hu : HasU P t (.slice e)] [hz : ZeroE P e α z] (hx : evA st x = .i l) (hy : evA st y = .i l) (hl : l = (m : Int)) (hb : ∀ sz bys zz, HasI P e sz bys zz → bys * m ≤ 281474976710656) (hmx : m ≤ 9223372036854775807)
    (hw : awant n ops ⟨d, .makeSlice t x y, ty, pos, af, g⟩ st.E true = true) (hd : fits n d = true)
    (h : ARg P n w0 MP lb ops os Q (putA (newS st (Enc.nc α) (V.E true (List.replicate m z))) d (.sl st.nx m 0 m))) : ARg P n w0 MP lb ops (⟨d, .makeSlice t x y, ty, pos, af, g⟩ :: os) Q st :=
  ARg.val hw hd (fun C Im E w hm => by
    obtain ⟨bys, zz, us, hi, h1, h2, h3, h4⟩ := hz.h
    refine ⟨_, _, run_mk (us := us) (hm.evI hx).1 (hm.evI hy).1 hl h1 h3 h2 (hb _ _ _ hi) hmx, fun _ => Later.alloc _ _, ?_⟩
    have hll : Later w (w.alloc (.cells (List.replicate m us).flatten.toArray e)) := Later.alloc _ _
    have hlen : (V.E true (List.replicate m z)).length = m := by simp [E_length]
    obtain ⟨C', g1, g2, g3⟩ := hm.freshB hll (m := m) (sz := Enc.nc α) (xs := V.E true (List.replicate m z)) rfl (Blk.new w _ e) hlen (by rw [maxLen_le]; exact hmx)
      (by rw [flatten_len (sz := us.length) (fun x hx => by rw [(List.eq_of_mem_replicate hx)]), List.length_replicate, h3]) (LayC.own ((h4 Im _).rep m)) (E_len true _)
    rw [hlen] at g2
    exact putS g1 d g2) h
theorem R.lit0 {t e sz bys : Nat} {zz : Value} [hu : HasU P t (.slice e)] [hi : HasI P e sz bys zz] (hw : awant n ops ⟨d, .buildSlice t 0 #[], ty, pos, af, g⟩ st.E true = true) (hd : fits n d = true)
    (h : ARg P n w0 MP lb ops os Q (putA st d .em)) : ARg P n w0 MP lb ops (⟨d, .buildSlice t 0 #[], ty, pos, af, g⟩ :: os) Q st :=
  ARg.val hw hd (fun C Im E w hm => by
    refine ⟨_, _, run_lit (vs := []) rfl rfl (by omega) (fun v hv => by cases hv), fun _ => Later.alloc _ _, ?_⟩
    exact putS (hm.later (Later.alloc w _)) d ⟨_, rfl⟩) h
theorem RV.cells {N : Nat} {C : Nat → Option Conc} {Im : Nat → Prop} {w : World} {a : AV} {v : Value} (h : RV N C Im w a v) (hc : (cellsA a).all cellB = true) : ∃ us, v.cells = us.toArray ∧ RVL N C Im w (cellsA a) us := by
  cases a with
  | agg cs => obtain ⟨us, rfl, h2⟩ := h; exact ⟨us, rfl, h2⟩
  | _ =>
    refine ⟨[v], ?_, ⟨v, [], rfl, h, rfl⟩⟩
    have := h.one (by simpa [cellsA] using hc)
    cases v <;> first | rfl | cases this
theorem lit_vals {C : Nat → Option Conc} {Im : Nat → Prop} {E : Env} {w : World} (hm : Sm w0 MP st C Im E w) (sz : Nat) : ∀ (ps : List (Nat × Operand)) (k : Nat), ps.map (·.1) = (List.range' k ps.length) → (∀ p ∈ ps, (cellsA (evA st p.2)).all cellB = true ∧ (cellsA (evA st p.2)).length = sz) →
    ∃ vs : List Value, ps.map (fun p => (p.1, G.ev E p.2)) = idx k vs ∧ vs.length = ps.length ∧ (∀ v ∈ vs, v.cells.size = sz) ∧ LayC st.nx C Im w (ps.map fun p => cellsA (evA st p.2)).flatten (vs.flatMap (·.cells.toList)) []
  | [], k, _, _ => ⟨[], rfl, rfl, (fun v hv => by cases hv), .nil⟩
  | (i, o) :: ps, k, hk, hp => by
    simp only [List.map_cons, List.length_cons, List.range'_succ, List.cons.injEq] at hk
    obtain ⟨vs, h1, h2, h3, h4⟩ := lit_vals hm sz ps (k + 1) hk.2 (fun p hp' => hp p (by simp [hp']))
    obtain ⟨c1, c2⟩ := hp (i, o) (by simp)
    obtain ⟨us, u1, u2⟩ := (hm.ev o).cells c1
    refine ⟨G.ev E o :: vs, ?_, by simp [h2], fun v hv => ?_, ?_⟩
    · simp only [List.map_cons, idx, h1, hk.1]
    · rcases List.mem_cons.1 hv with rfl | hv
      · rw [u1]; simp only [List.size_toArray]; rw [u2.length]; exact c2
      · exact h3 v hv
    · have : LayC st.nx C Im w (cellsA (evA st o)) us [] := LayC.cells u2 c1
      simp only [List.map_cons, List.flatten_cons, List.flatMap_cons, u1]
      exact this.append h4
theorem R.lit {t e sz bys len : Nat} {zz : Value} {ps : Array (Nat × Operand)} [hu : HasU P t (.slice e)] [hi : HasI P e sz bys zz] {xs : List (List AV)} (hxs : (ps.toList.map fun p => cellsA (evA st p.2)) = xs) (hk : ps.toList.map (·.1) = List.range' 0 ps.toList.length) (hlen : ps.toList.length = len) (hsz : Nat.ble (len * sz) 16777216 = true) (hs0 : Nat.blt 0 sz = true)
    (hc : (ps.toList.all fun p => (cellsA (evA st p.2)).all cellB && Nat.beq (cellsA (evA st p.2)).length sz) = true)
    (hw : awant n ops ⟨d, .buildSlice t len ps, ty, pos, af, g⟩ st.E true = true) (hd : fits n d = true)
    (h : ARg P n w0 MP lb ops os Q (putA (newS st sz xs) d (.sl st.nx len 0 len))) : ARg P n w0 MP lb ops (⟨d, .buildSlice t len ps, ty, pos, af, g⟩ :: os) Q st :=
  ARg.val hw hd (fun C Im E w hm => by
    subst hxs
    have hp : ∀ p ∈ ps.toList, (cellsA (evA st p.2)).all cellB = true ∧ (cellsA (evA st p.2)).length = sz := fun p hp => by
      have := List.all_eq_true.1 hc p hp
      rw [Bool.and_eq_true] at this
      exact ⟨this.1, Nat.eq_of_beq_eq_true this.2⟩
    obtain ⟨vs, h1, h2, h3, h4⟩ := lit_vals hm sz ps.toList 0 hk hp
    refine ⟨_, _, run_lit h1 (by rw [h2, hlen]) (leB hsz) h3, fun _ => Later.alloc _ _, ?_⟩
    have hll : Later w (w.alloc (.cells (vs.flatMap (·.cells.toList)).toArray e)) := Later.alloc _ _
    have hx : ∀ x ∈ ps.toList.map (fun p => cellsA (evA st p.2)), x.length = sz := fun x hx => by
      obtain ⟨p, hp', rfl⟩ := List.mem_map.1 hx; exact (hp p hp').2
    have hll2 : (ps.toList.map fun p => cellsA (evA st p.2)).length = len := by rw [List.length_map, hlen]
    have hmx : len ≤ maxLen := by
      have h5 := leB hsz
      have h6 : len ≤ len * sz := Nat.le_mul_of_pos_right _ (ltB hs0)
      rw [maxLen_le]; omega
    obtain ⟨C', g1, g2, g3⟩ := hm.freshB hll (m := len) (sz := sz) rfl (Blk.new w _ e) hll2 hmx (by rw [h4.length, flatten_len hx, hll2]) (h4.mono (fun _ h => h) (fun k hk => Below.block hll k (hm.im k hk)) (Nat.le_refl _) (CLe.refl _ _) (fun k hk => by cases hk)) hx
    rw [hll2] at g2
    exact putS g1 d g2) h
end
end Go.Proofs.YtedjajokbdokhaaGreat.V

/- Rules for append and stores, by abstract states. Over any program; nothing is claimed of the given one. -/
namespace Go.Proofs.YtedjajokbdokhaaGreat.V
open V.Enc (enc)
open Go.RowKit G
set_option linter.unusedVariables false
set_option linter.unusedSimpArgs false

/-- what is appended to, and its state -/
inductive DstA (st : St) : AV → Nat → Bool → Nat → List (List AV) → St → Prop
  | obj {o n sz : Nat} {lt : Bool} {xs : List (List AV)} : st.hp o = .live lt sz xs → xs.length = n → DstA st (.sl o n 0 n) o lt sz xs st
  | nl (sz : Nat) : DstA st .nl st.nx false sz [] (newS st sz [])
  | em (sz : Nat) : DstA st .em st.nx false sz [] (newS st sz [])
/-- what is appended -/
inductive SrcA (lt : Bool) (hp : Nat → Ob) : AV → List (List AV) → Nat → (Nat → Ob) → Prop
  | own {o m sz : Nat} {l : Bool} {ys : List (List AV)} : hp o = .live l sz ys → (l || lt) = lt → ys.length = m → SrcA lt hp (.sl o m 0 m) ys sz (updA hp o .dead)
  | imm {sz : Nat} {ys : List (List AV)} : SrcA lt hp (.dt false sz ys) ys sz hp
  | view {o n off m sz : Nat} {l : Bool} {xs ys : List (List AV)} : hp o = .live l sz xs → xs.length = n → (xs.drop off).take m = ys → ys.flatten.all cellB = true → SrcA lt hp (.sl o n off m) ys sz hp
  | nl {sz : Nat} : SrcA lt hp .nl [] sz hp
  | em {sz : Nat} : SrcA lt hp .em [] sz hp
section
variable {w0 w w' : World} {MP : Fr} {st : St} {C : Nat → Option Conc} {Im : Nat → Prop} {E : Env} {N : Nat}
theorem DstA.spec {a : AV} {v : Value} {o sz : Nat} {lt : Bool} {xs : List (List AV)} {st1 : St} (h : DstA st a o lt sz xs st1) (hm : Sm w0 MP st C Im E w) (hv : RV st.nx C Im w a v) :
    ∃ C1 cc, Sm w0 MP st1 C1 Im E w ∧ st1.hp o = .live lt sz xs ∧ C1 o = some cc ∧ cc.hv = v ∧ st1.E = st.E ∧ st.nx ≤ st1.nx ∧ CLe st.nx C C1 ∧ (st.nx ≤ o → own v = none) := by
  cases h with
  | obj ho hn =>
    obtain ⟨cc, hcc, hO⟩ := hm.obj o lt sz xs ho
    obtain ⟨p, c, h1, h2, h3, h4, h5⟩ := hv
    obtain ⟨s1, s2, s3⟩ := (h5 cc hcc).2 (by rw [hO.len, hn])
    exact ⟨C, cc, hm, ho, hcc, (s2 rfl (by rw [hO.len, hn])).symm, rfl, Nat.le_refl _, CLe.refl _ _, fun h => by have := hm.lt o h; rw [ho] at this; cases this⟩
  | nl =>
    obtain ⟨p, rfl⟩ : ∃ p, v = .slice p 0 0 := ⟨none, hv⟩
    have hp : own (.slice p 0 0) = none := by cases p <;> rfl
    let cc : Conc := ⟨.slice p 0 0, 0, sz, [], []⟩
    have hS := hm.fresh (Later.refl w) (cc := cc) (sz := sz) (xs := []) rfl rfl ⟨0, ⟨by simp [cc], .inl ⟨rfl, p, rfl⟩⟩⟩ .nil (fun x hx => by cases hx) (by simp [blks, cc, ownL, hp]) (fun k hk => by simp [blks, cc, ownL, hp] at hk)
    exact ⟨_, cc, hS, updA_same .., updA_same .., rfl, rfl, Nat.le_succ _, (fun o1 ho1 c1 h => ⟨c1, by rwa [updA_ne _ _ (by omega)] at h, .inl ⟨rfl, rfl, rfl⟩⟩), fun _ => hp⟩
  | em =>
    obtain ⟨p, rfl⟩ : ∃ p, v = .slice p 0 0 := hv
    have hp : own (.slice p 0 0) = none := by cases p <;> rfl
    let cc : Conc := ⟨.slice p 0 0, 0, sz, [], []⟩
    have hS := hm.fresh (Later.refl w) (cc := cc) (sz := sz) (xs := []) rfl rfl ⟨0, ⟨by simp [cc], .inl ⟨rfl, p, rfl⟩⟩⟩ .nil (fun x hx => by cases hx) (by simp [blks, cc, ownL, hp]) (fun k hk => by simp [blks, cc, ownL, hp] at hk)
    exact ⟨_, cc, hS, updA_same .., updA_same .., rfl, rfl, Nat.le_succ _, (fun o1 ho1 c1 h => ⟨c1, by rwa [updA_ne _ _ (by omega)] at h, .inl ⟨rfl, rfl, rfl⟩⟩), fun _ => hp⟩
theorem Sm.killLe (o : Nat) : ∀ o1 c1, updA C o Option.none o1 = some c1 → C o1 = some c1 := fun o1 c1 h => by
  by_cases e : o1 = o
  · subst e; rw [updA_same] at h; cases h
  · rwa [updA_ne _ _ e] at h
theorem LayC.imm {cs : List AV} {us : List Value} (h : Imm Im w cs us) : LayC N C Im w cs us [] := by
  induction h with
  | nil => exact .nil
  | int h1 _ ih => exact .at1 ⟨rfl, h1⟩ rfl ih
  | bool _ ih => exact .at1 rfl rfl ih
  | no h1 _ ih => exact .at1 trivial h1 ih
  | sl0 h1 _ ih => exact .at1 ⟨rfl, .sl0 h1 .nil⟩ rfl ih
  | sl h1 h2 h3 h4 h5 h6 _ _ ih => exact .at1 ⟨rfl, .sl h1 h2 h3 h4 h5 h6 .nil⟩ rfl ih
theorem LayC.none {cs : List AV} {us : List Value} {F : List Nat} (h : LayC N C Im w cs us F) (hc : cs.all cellB = true) : F = [] := by
  induction h with
  | nil => rfl
  | at1 _ _ _ ih =>
    rw [List.all_cons, Bool.and_eq_true] at hc
    exact ih hc.2
  | ow _ _ _ => rw [List.all_cons, Bool.and_eq_true] at hc; cases hc.1
theorem SrcA.spec {a : AV} {v : Value} {sz : Nat} {lt : Bool} {ys : List (List AV)} {hp2 : Nat → Ob} (h : SrcA lt st.hp a ys sz hp2) (hm : Sm w0 MP st C Im E w) (hv : RV st.nx C Im w a v) :
    ∃ C2 us F, Sm w0 MP ⟨st.E, hp2, st.nx⟩ C2 Im E w ∧ LayC st.nx C2 Im w ys.flatten us F ∧ Src w v ys.length us ∧ us.length = ys.length * sz ∧ Loose w0 MP C2 w F ∧ (lt = false → ∀ k ∈ F, ¬ Im k) ∧ (∀ o c, C2 o = some c → C o = some c) := by
  cases h with
  | @own o m _ l _ ho hl hn =>
    obtain ⟨cc, hcc, hO⟩ := hm.obj o l sz ys ho
    obtain ⟨p, c, h1, h2, h3, h4, h5⟩ := hv
    obtain ⟨s1, s2, s3⟩ := (h5 cc hcc).2 (by rw [hO.len, hn])
    have hv' := s2 rfl (by rw [hO.len, hn])
    subst hv'
    have hk := hm.kill o
    refine ⟨_, cc.us, cc.F, hk, hO.lay.mono (fun _ h => h) (fun _ _ => rfl) (Nat.le_refl _) (fun o1 _ c1 h => ⟨c1, Sm.killLe o o1 c1 h, .inl ⟨rfl, rfl, rfl⟩⟩) (fun _ _ => rfl), ?_, ?_, ⟨?_, fun k hk => hO.ge k (by simp [blks, hk]), fun k hk => hO.wb k (by simp [blks, hk]), fun o1 c1 h1 k hk => ?_⟩, fun hf k hk hk' => ?_, Sm.killLe o⟩
    · obtain ⟨e, hB⟩ := hO.buf
      have := hB.src
      rw [hO.len] at this; exact this
    · obtain ⟨e, hB⟩ := hO.buf
      rw [hB.1, hO.len, hO.esz]
    · have := hO.nd; unfold blks at this; exact (List.nodup_append.1 this).2.1
    · have hne : o1 ≠ o := fun e => by subst e; rw [updA_same] at h1; cases h1
      exact hm.dis o o1 cc c1 (Ne.symm hne) hcc (Sm.killLe o o1 c1 h1) k (by simp [blks, hk])
    · have := (hO.lent k hk).1 hk'
      subst this; subst hf; cases hl
  | imm =>
    obtain ⟨_, h2⟩ := hv
    obtain ⟨p, c, rfl, g2, g3, g4⟩ := h2.sl_inv
    rcases g4 with rfl | ⟨b, q, us, rfl, f1, f2, f3, f4⟩
    · exact ⟨C, [], [], hm, .nil, ⟨p, c, rfl, .inl rfl⟩, by simp, Loose.nil, (fun _ k hk => by cases hk), fun _ _ h => h⟩
    · exact ⟨C, us, [], hm, LayC.imm f3, ⟨_, c, rfl, .inr ⟨b, q, rfl, f2⟩⟩, by rw [f3.length, flatten_len f4], Loose.nil, (fun _ k hk => by cases hk), fun _ _ h => h⟩
  | @view o n off m _ l xs _ ho hn hys hc =>
    obtain ⟨cc, hcc, hO⟩ := hm.obj o l sz xs ho
    obtain ⟨p, c, h1, h2, h3, h4, h5⟩ := hv
    obtain ⟨s1, s2, s3⟩ := (h5 cc hcc).2 (by rw [hO.len, hn])
    have hle : off + m ≤ xs.length := by rw [← hO.len]; exact s1
    have hyl : ys.length = m := by rw [← hys, List.length_take, List.length_drop]; omega
    have hsz : ∀ x ∈ xs, x.length = sz := fun x hx => by rw [hO.lens x hx, hO.esz]
    have hsy : ∀ y ∈ ys, y.length = sz := fun y hy => hsz y (by rw [← hys] at hy; exact List.mem_of_mem_drop (List.mem_of_mem_take hy))
    have hfl : xs.flatten = (xs.take off).flatten ++ (ys.flatten ++ (xs.drop (off + m)).flatten) := by
      rw [← hys, ← List.flatten_append, ← List.flatten_append, ← List.drop_drop, List.take_append_drop, List.take_append_drop]
    obtain ⟨u1, u2, u3, F1, F2, F3, e1, e2, l1, l2, q1, q2, q3⟩ := hO.lay.cut hfl
    rw [flatten_take hsz (by omega)] at l1
    have hF2 : F2 = [] := q2.none hc
    subst hF2
    refine ⟨C, u2, [], hm, q2, ?_, by rw [l2, flatten_len hsy], Loose.nil, (fun _ k hk => by cases hk), fun _ _ h => h⟩
    refine ⟨p, c, by rw [hyl]; exact h1, ?_⟩
    by_cases h0 : m = 0
    · refine .inl (List.eq_nil_of_length_eq_zero ?_)
      rw [l2, flatten_len hsy, hyl, h0, Nat.zero_mul]
    · obtain ⟨b, c', f1, f2⟩ := s3 h0
      rw [h1] at f2
      simp only [Value.slice.injEq, true_and] at f2
      refine .inr ⟨b, off * cc.sz, f2.1, fun i u hu => ?_⟩
      refine hO.cell f1 ?_
      rw [hO.esz, e1, List.getElem?_append_right (by omega), l1, Nat.add_sub_cancel_left, List.getElem?_append_left (List.getElem?_eq_some_iff.1 hu).1, hu]
  | nl =>
    have hv' : v = .slice none 0 0 := hv
    subst hv'
    exact ⟨C, [], [], hm, .nil, ⟨none, 0, rfl, .inl rfl⟩, by simp, Loose.nil, (fun _ k hk => by cases hk), fun _ _ h => h⟩
  | em =>
    obtain ⟨p, rfl⟩ : ∃ p, v = .slice p 0 0 := hv
    exact ⟨C, [], [], hm, .nil, ⟨p, 0, rfl, .inl rfl⟩, by simp, Loose.nil, (fun _ k hk => by cases hk), fun _ _ h => h⟩
theorem Mv.pure {lt : Bool} {hp : Nat → Ob} : ∀ {cs : List AV}, cs.all pureB = true → Mv lt hp cs cs hp
  | [], _ => .nil
  | a :: cs, h => by
    rw [List.all_cons, Bool.and_eq_true] at h
    cases a with
    | i n => exact .at1 rfl (Mv.pure h.2)
    | b x => exact .at1 rfl (Mv.pure h.2)
    | dt o sz xs =>
      cases o with
      | true => exact .ow (Mv.pure h.2)
      | false => exact .at1 rfl (Mv.pure h.2)
    | _ => cases h.1
/-- blocks that are lent along with the object to which they go -/
theorem Sm.lendTo (hm : Sm w0 MP st C Im E w) (lt : Bool) {G : List Nat} (hG : Loose w0 MP C w G) (hf : lt = false → ∀ k ∈ G, ¬ Im k) : ∃ Im', (∀ k, Im k → Im' k) ∧ Sm w0 MP st C Im' E w ∧ ∀ k ∈ G, Im' k ↔ lt = true := by
  cases lt with
  | false => exact ⟨Im, fun _ h => h, hm, fun k hk => ⟨fun h => absurd h (hf rfl k hk), fun h => by cases h⟩⟩
  | true => exact ⟨_, fun _ h => .inl h, hm.imAdd G (fun k hk => (hG.wb k hk).lt) hG.ge hG.off, fun k hk => ⟨fun _ => rfl, fun _ => .inr hk⟩⟩
end
section
variable {P : Program} {n : Nat} {w0 : World} {MP : Fr} {Q : Exit → St → Prop} {st : St} {lb : Bool} {ops : Array Oper} {os : List Oper} {d : Option Tmp} {ty : TypeId} {pos : String} {af : Array Edge} {g : Option (Nat × Bool)} {x y : Operand}
theorem R.app {t e sz bys o n' : Nat} {zz : Value} {lt : Bool} {xs ys zs res : List (List AV)} {ds : List AV} {st1 : St} {hp2 hp3 : Nat → Ob} [hu : HasU P t (.slice e)] [hi : HasI P e sz bys zz]
    (hdst : DstA st (evA st x) o lt sz xs st1) (hsrc : SrcA lt st1.hp (evA st y) ys sz hp2) (hmv : Mv lt hp2 ys.flatten ds hp3) (hds : zs.flatten = ds) (hzl : ∀ z ∈ zs, z.length = sz) (hzn : zs.length = ys.length) (ho3 : hp3 o = .live lt sz xs)
    (hres : xs ++ zs = res) (hn' : res.length = n') (hby : n' * bys ≤ 140737488355328) (hmx : n' ≤ 9223372036854775807) (hz : zz.cells.size = sz) (hs0 : Nat.blt 0 sz = true)
    (hw : awant n ops ⟨d, .call ⟨.builtin .append, #[x, y], #[t, t]⟩, ty, pos, af, g⟩ st.E true = true) (hd : fits n d = true) (hlb : lb = true → st.nx ≤ o)
    (h : ARg P n w0 MP lb ops os Q (putA ⟨st.E, updA hp3 o (.live lt sz res), st1.nx⟩ d (.sl o n' 0 n'))) : ARg P n w0 MP lb ops (⟨d, .call ⟨.builtin .append, #[x, y], #[t, t]⟩, ty, pos, af, g⟩ :: os) Q st :=
  ARg.val hw hd (fun C Im E w hm => by
    subst hds hres hn'
    obtain ⟨C1, cc, m1, o1, c1, v1, e1, n1, le1, ow1⟩ := hdst.spec hm (hm.ev x)
    have hy1 : RV st1.nx C1 Im w (evA st y) (G.ev E y) := RV.mono (fun _ h => h) (fun _ _ => rfl) n1 le1 _ _ (hm.ev y)
    obtain ⟨C2, us, F, m2, l2, s2, sl2, L2, f2, le2⟩ := hsrc.spec m1 hy1
    obtain ⟨C3, G, f3, m3, l3, L3, le3⟩ := hmv.lay (H := []) m2 l2 (by simpa using L2) f2
    rw [List.append_nil] at L3
    obtain ⟨Im', hI, m4, hG⟩ := m3.lendTo lt L3 f3
    obtain ⟨cc3, c3, hO3⟩ := m4.obj o lt sz xs ho3
    have hcc : cc3 = cc := by
      have := le2 o cc3 (le3 o cc3 c3)
      rw [c1] at this; exact (Option.some.inj this).symm
    subst hcc
    have hB := hO3.buf
    rw [v1, hO3.esz] at hB
    have hlen : cc3.len + ys.length = (xs ++ zs).length := by rw [hO3.len, List.length_append, hzn]
    obtain ⟨v', w', hr, hB', hg, h0⟩ := run_append_buf' (P := P) (t := t) (ty := ty) hz (ltB hs0) hB s2 sl2 l2.one (by rw [maxLen_le, hlen]; exact hmx) (by rw [hlen]; exact hby)
    rw [← v1] at hg h0
    have l4 : LayC st1.nx C3 Im' w zs.flatten us G := l3.mono hI (fun _ _ => rfl) (Nat.le_refl _) (CLe.refl _ _) (fun _ _ => rfl)
    rw [← hzn] at hB' h0
    obtain ⟨cc', m5, hv', hO5⟩ := m4.app ho3 c3 l4 L3 hG hzl hB' hg (fun h => (h0 h).1)
    have hrv := RV.slNew hO5 (updA_same ..) (show o < st1.nx from by
      rcases Nat.lt_or_ge o st1.nx with h | h
      · exact h
      · have := m1.lt o h; rw [o1] at this; cases this)
    rw [hv'] at hrv
    refine ⟨v', w', ?_, (fun hl => ?_), ?_⟩
    · simp [execOp, resolve, invoke, builtin, hr]
    · have hno := ow1 (hlb hl)
      rw [← v1] at hno
      exact ⟨hg.os, hg.tape, hg.output, hg.size, fun k hk => hg.same k hk (by rw [hno]; simp)⟩
    · rw [e1] at m5
      exact putS m5 d hrv) h
/-- one element of a type -/
theorem R.app1 {α : Type} [Enc α] {t e bys o n' m : Nat} {zz : Value} {lt l oo : Bool} {ls : List α} {a : α} {c ds : List AV} {o2 : Nat} {hp3 : Nat → Ob} [hu : HasU P t (.slice e)] [hi : HasI P e (Enc.nc α) bys zz]
    (hx : evA st x = .sl o m 0 m) (hy : evA st y = .sl o2 1 0 1) (ho : st.hp o = .live lt (Enc.nc α) (V.E oo ls)) (hm : ls.length = m) (ho2 : st.hp o2 = .live l (Enc.nc α) [c]) (hll : (l || lt) = lt) (hmv : Mv lt (updA st.hp o2 .dead) c ds hp3) (ho3 : hp3 o = .live lt (Enc.nc α) (V.E oo ls)) (hds : enc oo a = ds) (hn' : m + 1 = n')
    (hby : n' * bys ≤ 140737488355328) (hmx : n' ≤ 9223372036854775807) (hz : zz.cells.size = Enc.nc α) (hs0 : Nat.blt 0 (Enc.nc α) = true)
    (hw : awant n ops ⟨d, .call ⟨.builtin .append, #[x, y], #[t, t]⟩, ty, pos, af, g⟩ st.E true = true) (hd : fits n d = true) (hlb : lb = false)
    (h : ARg P n w0 MP lb ops os Q (putA ⟨st.E, updA hp3 o (.live lt (Enc.nc α) (V.E oo (ls ++ [a]))), st.nx⟩ d (.sl o n' 0 n'))) : ARg P n w0 MP lb ops (⟨d, .call ⟨.builtin .append, #[x, y], #[t, t]⟩, ty, pos, af, g⟩ :: os) Q st :=
  R.app (st1 := st) (xs := V.E oo ls) (ys := [c]) (zs := [enc oo a]) (by rw [hx]; exact .obj ho (by rw [E_length, hm])) (by rw [hy]; exact .own ho2 hll rfl) (by simpa using hmv) (by simpa using hds) (fun z hz => by simp at hz; rw [hz, Enc.len]) rfl ho3 (by rw [E_append, E_one]) (by rw [E_length]; simp; omega) hby hmx hz hs0 hw hd (fun hl => by rw [hlb] at hl; cases hl) h
theorem R.appL {α : Type} [Enc α] {t e bys o n' m : Nat} {zz : Value} {lt oo : Bool} {ls ls2 : List α} {hp2 : Nat → Ob} [hu : HasU P t (.slice e)] [hi : HasI P e (Enc.nc α) bys zz]
    (hx : evA st x = .sl o m 0 m) (ho : st.hp o = .live lt (Enc.nc α) (V.E oo ls)) (hm : ls.length = m) (hsrc : SrcA lt st.hp (evA st y) (V.E oo ls2) (Enc.nc α) hp2) (ho3 : hp2 o = .live lt (Enc.nc α) (V.E oo ls)) (hn' : m + ls2.length = n')
    (hby : n' * bys ≤ 140737488355328) (hmx : n' ≤ 9223372036854775807) (hz : zz.cells.size = Enc.nc α) (hs0 : Nat.blt 0 (Enc.nc α) = true)
    (hw : awant n ops ⟨d, .call ⟨.builtin .append, #[x, y], #[t, t]⟩, ty, pos, af, g⟩ st.E true = true) (hd : fits n d = true) (hlb : lb = false)
    (h : ARg P n w0 MP lb ops os Q (putA ⟨st.E, updA hp2 o (.live lt (Enc.nc α) (V.E oo (ls ++ ls2))), st.nx⟩ d (.sl o n' 0 n'))) : ARg P n w0 MP lb ops (⟨d, .call ⟨.builtin .append, #[x, y], #[t, t]⟩, ty, pos, af, g⟩ :: os) Q st :=
  R.app (st1 := st) (xs := V.E oo ls) (ys := V.E oo ls2) (zs := V.E oo ls2) (by rw [hx]; exact .obj ho (by rw [E_length, hm])) hsrc (Mv.pure (E_pure oo ls2)) rfl (E_len oo ls2) rfl ho3 (by rw [E_append]) (by rw [E_length, List.length_append]; omega) hby hmx hz hs0 hw hd (fun hl => by rw [hlb] at hl; cases hl) h
theorem R.appLN {α : Type} [Enc α] {t e bys n' : Nat} {zz : Value} {oo : Bool} {ls2 : List α} {hp2 : Nat → Ob} [hu : HasU P t (.slice e)] [hi : HasI P e (Enc.nc α) bys zz]
    (hx : evA st x = .nl ∨ evA st x = .em) (hsrc : SrcA false (newS st (Enc.nc α) []).hp (evA st y) (V.E oo ls2) (Enc.nc α) hp2) (ho3 : hp2 st.nx = .live false (Enc.nc α) []) (hn' : ls2.length = n')
    (hby : n' * bys ≤ 140737488355328) (hmx : n' ≤ 9223372036854775807) (hz : zz.cells.size = Enc.nc α) (hs0 : Nat.blt 0 (Enc.nc α) = true)
    (hw : awant n ops ⟨d, .call ⟨.builtin .append, #[x, y], #[t, t]⟩, ty, pos, af, g⟩ st.E true = true) (hd : fits n d = true)
    (h : ARg P n w0 MP lb ops os Q (putA ⟨st.E, updA hp2 st.nx (.live false (Enc.nc α) (V.E oo ls2)), st.nx + 1⟩ d (.sl st.nx n' 0 n'))) : ARg P n w0 MP lb ops (⟨d, .call ⟨.builtin .append, #[x, y], #[t, t]⟩, ty, pos, af, g⟩ :: os) Q st :=
  R.app (st1 := newS st (Enc.nc α) []) (xs := []) (ys := V.E oo ls2) (zs := V.E oo ls2) (by rcases hx with hx | hx <;> rw [hx]; exact .nl _; exact .em _) hsrc (Mv.pure (E_pure oo ls2)) rfl (E_len oo ls2) rfl ho3 rfl (by rw [List.nil_append, E_length]; omega) hby hmx hz hs0 hw hd (fun _ => Nat.le_refl _) h

/-! ### stores -/
theorem flat_parts {xs : List (List AV)} {k j r : Nat} {c : List AV} (hk : xs[k]? = some c) (hj : j + r ≤ c.length) :
    xs.flatten = ((xs.take k).flatten ++ c.take j) ++ ((c.drop j).take r ++ (c.drop (j + r) ++ (xs.drop (k + 1)).flatten)) := by
  rw [flatten_cut hk, List.append_assoc]
  congr 1
  have : c = c.take j ++ ((c.drop j).take r ++ c.drop (j + r)) := by rw [← List.drop_drop, List.take_append_drop, List.take_append_drop]
  conv => lhs; rw [this]
  simp only [List.append_assoc]
theorem R.stCore {C1 : Nat → Option Conc} {Im : Nat → Prop} {E : Env} {w : World} {o k j sz : Nat} {l : Bool} {xs : List (List AV)} {c B' : List AV} {vs : List Value} {Gb : List Nat} {hp' : Nat → Ob} {cc : Conc} {b : Nat} (hm1 : Sm w0 MP ⟨st.E, hp', st.nx⟩ C1 Im E w) (hh' : hp' o = .live l sz xs) (hcc : C1 o = some cc) (hb : own cc.hv = some b)
    (hk : xs[k]? = some c) (hj : j + B'.length ≤ c.length) (hy : LayC st.nx C1 Im w B' vs Gb) (hG : Loose w0 MP C1 w Gb) (hf : l = false → ∀ k ∈ Gb, ¬ Im k)
    (hrun : ∀ cur e, Blk w b cur e → k * cc.sz + j + vs.length ≤ cur.length → ∃ w', (execOp (G.ev E) ⟨d, .store ty x y, ty, pos, af, g⟩).run P w = .ok .skip w' ∧ Wrote b w w' ∧ Blk w' b (cur.take (k * cc.sz + j) ++ vs ++ cur.drop (k * cc.sz + j + vs.length)) e) :
    ∃ w', (execOp (G.ev E) ⟨d, .store ty x y, ty, pos, af, g⟩).run P w = .ok .skip w' ∧ Sim w0 MP ⟨st.E, updA hp' o (.live l sz (xs.set k (c.take j ++ B' ++ c.drop (j + B'.length)))), st.nx⟩ E w' := by
  obtain ⟨Im', hI, m4, hGl⟩ := hm1.lendTo l hG hf
  obtain ⟨cc1, hcc1, hO⟩ := m4.obj o l sz xs hh'
  rw [hcc] at hcc1
  cases hcc1
  have hsz : ∀ x ∈ xs, x.length = sz := fun x hx => by rw [hO.lens x hx, hO.esz]
  have hkl : k < xs.length := (List.getElem?_eq_some_iff.1 hk).1
  obtain ⟨e, hB⟩ := hO.buf
  rcases hB.2 with ⟨_, p, hp⟩ | ⟨b', cp, cur, hp, h2, h3, h4, h5, h6⟩
  · rw [hp] at hb; cases p <;> simp [own] at hb
  rw [hp] at hb
  simp [own] at hb
  subst hb
  have hvl := hy.length
  have hcl : c.length = cc.sz := by rw [hO.esz]; exact hsz c (List.mem_of_getElem? hk)
  have hfit : k * cc.sz + j + vs.length ≤ cur.length := by
    have e1 : (k + 1) * cc.sz ≤ (cp + 1) * cc.sz := Nat.mul_le_mul_right _ (by have := hO.len; omega)
    rw [h5]
    rw [Nat.add_mul, Nat.one_mul] at e1
    omega
  obtain ⟨w', hr, hW, hBk⟩ := hrun cur e h2 hfit
  have hA : ((xs.take k).flatten ++ c.take j).length = k * cc.sz + j := by
    rw [List.length_append, flatten_take hsz (by omega), List.length_take, Nat.min_eq_left (by omega), hO.esz]
  have hlen' : (c.take j ++ B' ++ c.drop (j + B'.length)).length = sz := by
    simp only [List.length_append, List.length_take, List.length_drop]; rw [← hO.esz]; omega
  obtain ⟨cc', m5, _⟩ := m4.store (xs' := xs.set k (c.take j ++ B' ++ c.drop (j + B'.length))) (B := (c.drop j).take B'.length) (B' := B') (D := c.drop (j + B'.length) ++ (xs.drop (k + 1)).flatten) (A := (xs.take k).flatten ++ c.take j) hh' hcc (flat_parts hk hj)
    (by rw [flatten_set hk]; simp only [List.append_assoc]) (by rw [List.length_set]) (fun x hx => by
      rcases List.mem_or_eq_of_mem_set hx with h | h
      · exact hsz x h
      · rw [h]; exact hlen') (by rw [List.length_take, List.length_drop]; omega) (by rw [hp]; rfl) (hy.mono hI (fun _ _ => rfl) (Nat.le_refl _) (CLe.refl _ _) (fun _ _ => rfl)) hG hGl hW (fun cur' e' hB' => by
      unfold Blk at hB' h2
      rw [h2] at hB'
      simp only [Option.some.injEq, Obj.cells.injEq] at hB'
      have : cur = cur' := by simpa using congrArg Array.toList hB'.1
      subst this
      rw [hA]; exact ⟨e, hBk⟩)
  exact ⟨w', hr, _, Im', m5⟩
/-- one cell; what it names is taken along -/
theorem R.stM {t bys o nn k j sz : Nat} {zz : Value} {l : Bool} {xs : List (List AV)} {c : List AV} {a a' : AV} {hp' : Nat → Ob} [hi : HasI P t 1 bys zz] (hx : evA st x = .pt o nn k j) (hy : evA st y = a) (hca : cellB a = true) (hh : st.hp o = .live l sz xs) (hn : xs.length = nn) (hk : xs[k]? = some c) (hj : Nat.blt j c.length = true)
    (hmv : Mv l st.hp [a] [a'] hp') (hh' : hp' o = .live l sz xs) (hw : awant n ops ⟨d, .store t x y, ty, pos, af, g⟩ st.E true = true) (hd : fits n d = true) (hlb : lb = false)
    (h : ARg P n w0 MP lb ops os Q (putA ⟨st.E, updA hp' o (.live l sz (xs.set k (c.set j a'))), st.nx⟩ d .no)) : ARg P n w0 MP lb ops (⟨d, .store t x y, ty, pos, af, g⟩ :: os) Q st :=
  ARg.unit hw hd (fun C Im E w hm => by
    have hv := hm.ev y
    rw [hy] at hv
    have hp := hm.ev x
    rw [hx] at hp
    obtain ⟨b, q, p1, p2, p3⟩ := hp
    have hone := hv.one hca
    obtain ⟨cc, hcc, hO⟩ := hm.obj o l sz xs hh
    obtain ⟨f1, rfl⟩ := (p3 cc hcc).2 (by rw [hO.len, hn])
    obtain ⟨C1, Gb, f3, m1, l1, L1, le1⟩ := hmv.lay (H := []) (show Sm w0 MP ⟨st.E, st.hp, st.nx⟩ C Im E w from hm) (LayC.at1 hv hone .nil) Loose.nil (fun _ k hk => by cases hk)
    rw [List.append_nil] at L1
    have hc1 : C1 o = some cc := by
      obtain ⟨cc1, q1, _⟩ := m1.obj o l sz xs hh'
      have := le1 o cc1 q1
      rw [hcc] at this; cases this; exact q1
    have hjl := ltB hj
    obtain ⟨w', hr, hs⟩ := R.stCore (P := P) (x := x) (y := y) (d := d) (ty := t) (pos := pos) (af := af) (g := g) (B' := [a']) (k := k) (j := j) m1 hh' hc1 f1 hk (by simp; omega) l1 L1 f3 (fun cur e hB hfit => by
      obtain ⟨w', h1, h2, h3⟩ := run_st (P := P) (d := d) (ty := t) (pos := pos) (af := af) (g := g) (t := t) p1 rfl hB (by simp at hfit; omega) hone
      refine ⟨w', h1, h2, ?_⟩
      have : cur.take (k * cc.sz + j) ++ [G.ev E y] ++ cur.drop (k * cc.sz + j + [G.ev E y].length) = cur.set (k * cc.sz + j) (G.ev E y) := by
        rw [List.set_eq_take_append_cons_drop, if_pos (by simp at hfit; omega)]; simp
      rw [this]; exact h3)
    refine ⟨w', ?_, (fun hl => by rw [hl] at hlb; cases hlb), ?_⟩
    · exact hr
    · have e1 : c.take j ++ [a'] ++ c.drop (j + [a'].length) = c.set j a' := by
        rw [List.set_eq_take_append_cons_drop, if_pos hjl]; simp
      rw [e1] at hs
      obtain ⟨C5, I5, m5⟩ := hs
      exact ⟨C5, I5, m5.put d (v := undef) trivial⟩) h
/-- one cell as it is -/
theorem R.stR {t bys o nn k j sz : Nat} {zz : Value} {l : Bool} {xs : List (List AV)} {c : List AV} {a : AV} [hi : HasI P t 1 bys zz] (hx : evA st x = .pt o nn k j) (hy : evA st y = a) (hca : cellB a = true) (hh : st.hp o = .live l sz xs) (hn : xs.length = nn) (hk : xs[k]? = some c) (hj : Nat.blt j c.length = true)
    (hw : awant n ops ⟨d, .store t x y, ty, pos, af, g⟩ st.E true = true) (hd : fits n d = true) (hlb : lb = false)
    (h : ARg P n w0 MP lb ops os Q (putA ⟨st.E, updA st.hp o (.live l sz (xs.set k (c.set j a))), st.nx⟩ d .no)) : ARg P n w0 MP lb ops (⟨d, .store t x y, ty, pos, af, g⟩ :: os) Q st :=
  R.stM hx hy hca hh hn hk hj (.at1 hca .nil) hh hw hd hlb h
theorem R.stE {α : Type} [Enc α] [Inhabited α] {t bys o nn k j sz : Nat} {zz : Value} {l oo : Bool} {ls : List α} {v : α} {a a' : AV} {hp' : Nat → Ob} [hi : HasI P t 1 bys zz] (hx : evA st x = .pt o nn k j) (hy : evA st y = a) (hca : cellB a = true) (hh : st.hp o = .live l sz (V.E oo ls)) (hn : ls.length = nn) (hk : k < ls.length) (hj : Nat.blt j (Enc.nc α) = true)
    (hmv : Mv l st.hp [a] [a'] hp') (hh' : hp' o = .live l sz (V.E oo ls)) (he : (enc oo (ls.getD k default)).set j a' = enc oo v) (hw : awant n ops ⟨d, .store t x y, ty, pos, af, g⟩ st.E true = true) (hd : fits n d = true) (hlb : lb = false)
    (h : ARg P n w0 MP lb ops os Q (putA ⟨st.E, updA hp' o (.live l sz (V.E oo (ls.set k v))), st.nx⟩ d .no)) : ARg P n w0 MP lb ops (⟨d, .store t x y, ty, pos, af, g⟩ :: os) Q st := by
  refine R.stM hx hy hca hh (by rw [E_length, hn]) (E_get oo ls hk) (by rw [Enc.len]; exact hj) hmv hh' hw hd hlb ?_
  rw [he, E_set]; exact h
/-- a number in a list of numbers -/
theorem R.stI {t bys o nn k sz : Nat} {zz : Value} {l oo : Bool} {ls : List Int} {v : Int} [hi : HasI P t 1 bys zz] (hx : evA st x = .pt o nn k 0) (hy : evA st y = .i v) (hh : st.hp o = .live l sz (V.E oo ls)) (hn : ls.length = nn) (hk : k < ls.length)
    (hw : awant n ops ⟨d, .store t x y, ty, pos, af, g⟩ st.E true = true) (hd : fits n d = true) (hlb : lb = false)
    (h : ARg P n w0 MP lb ops os Q (putA ⟨st.E, updA st.hp o (.live l sz (V.E oo (ls.set k v))), st.nx⟩ d .no)) : ARg P n w0 MP lb ops (⟨d, .store t x y, ty, pos, af, g⟩ :: os) Q st :=
  R.stE hx hy rfl hh hn hk rfl (.at1 rfl .nil) hh rfl hw hd hlb h
/-- a struct -/
theorem R.stG {t sz bys o nn k j esz : Nat} {zz : Value} {l : Bool} {xs : List (List AV)} {c cs ds : List AV} {hp' : Nat → Ob} [hi : HasI P t sz bys zz] (hx : evA st x = .pt o nn k j) (hy : evA st y = .agg cs) (hca : cs.all cellB = true) (hcl : cs.length = sz) (hh : st.hp o = .live l esz xs) (hn : xs.length = nn) (hk : xs[k]? = some c) (hj : Nat.ble (j + ds.length) c.length = true)
    (hmv : Mv l st.hp cs ds hp') (hh' : hp' o = .live l esz xs) (hw : awant n ops ⟨d, .store t x y, ty, pos, af, g⟩ st.E true = true) (hd : fits n d = true) (hlb : lb = false)
    (h : ARg P n w0 MP lb ops os Q (putA ⟨st.E, updA hp' o (.live l esz (xs.set k (c.take j ++ ds ++ c.drop (j + ds.length)))), st.nx⟩ d .no)) : ARg P n w0 MP lb ops (⟨d, .store t x y, ty, pos, af, g⟩ :: os) Q st :=
  ARg.unit hw hd (fun C Im E w hm => by
    have hv := hm.ev y
    rw [hy] at hv
    obtain ⟨us, hv1, hv2⟩ := hv
    have hp := hm.ev x
    rw [hx] at hp
    obtain ⟨b, q, p1, p2, p3⟩ := hp
    obtain ⟨cc, hcc, hO⟩ := hm.obj o l esz xs hh
    obtain ⟨f1, rfl⟩ := (p3 cc hcc).2 (by rw [hO.len, hn])
    have l0 := LayC.cells hv2 hca
    obtain ⟨C1, Gb, f3, m1, l1, L1, le1⟩ := hmv.lay (H := []) (show Sm w0 MP ⟨st.E, st.hp, st.nx⟩ C Im E w from hm) l0 Loose.nil (fun _ k hk => by cases hk)
    rw [List.append_nil] at L1
    have hc1 : C1 o = some cc := by
      obtain ⟨cc1, q1, _⟩ := m1.obj o l esz xs hh'
      have := le1 o cc1 q1
      rw [hcc] at this; cases this; exact q1
    obtain ⟨w', hr, hs⟩ := R.stCore (P := P) (x := x) (y := y) (d := d) (ty := t) (pos := pos) (af := af) (g := g) (B' := ds) (k := k) (j := j) m1 hh' hc1 f1 hk (leB hj) l1 L1 f3 (fun cur e hB hfit =>
      run_stG (P := P) (d := d) (ty := t) (pos := pos) (af := af) (g := g) (t := t) p1 hv1 hB (by rw [hv2.length, hcl]) hfit l0.one)
    refine ⟨w', hr, (fun hl => by rw [hl] at hlb; cases hlb), ?_⟩
    obtain ⟨C5, I5, m5⟩ := hs
    exact ⟨C5, I5, m5.put d (v := undef) trivial⟩) h
/-- all of a variable -/
theorem R.stGW {t sz bys o esz : Nat} {zz : Value} {l : Bool} {c cs : List AV} [hi : HasI P t sz bys zz] (hx : evA st x = .pt o 1 0 0) (hy : evA st y = .agg cs) (hca : cs.all cellB = true) (hcl : cs.length = sz) (hh : st.hp o = .live l esz [c]) (hl : c.length = cs.length)
    (hw : awant n ops ⟨d, .store t x y, ty, pos, af, g⟩ st.E true = true) (hd : fits n d = true) (hlb : lb = false)
    (h : ARg P n w0 MP lb ops os Q (putA ⟨st.E, updA st.hp o (.live l esz [cs]), st.nx⟩ d .no)) : ARg P n w0 MP lb ops (⟨d, .store t x y, ty, pos, af, g⟩ :: os) Q st := by
  have hat : ∀ {cs : List AV}, cs.all cellB = true → Mv l st.hp cs cs st.hp := by
    intro cs
    induction cs with
    | nil => intro _; exact .nil
    | cons a cs ih => intro h; rw [List.all_cons, Bool.and_eq_true] at h; exact .at1 h.1 (ih h.2)
  refine R.stG hx hy hca hcl hh rfl (c := c) rfl (ds := cs) (by rw [Nat.zero_add, hl]; simp) (hat hca) hh hw hd hlb ?_
  have : [c].set 0 (c.take 0 ++ cs ++ c.drop (0 + cs.length)) = [cs] := by rw [Nat.zero_add, ← hl]; simp
  rw [this]; exact h
theorem R.stGE {α : Type} [Enc α] [Inhabited α] {t bys o nn k : Nat} {zz : Value} {l oo : Bool} {ls : List α} {v : α} {cs ds : List AV} {hp' : Nat → Ob} {esz : Nat} [hi : HasI P t (Enc.nc α) bys zz] (hx : evA st x = .pt o nn k 0) (hy : evA st y = .agg cs) (hca : cs.all cellB = true) (hcl : cs.length = Enc.nc α) (hh : st.hp o = .live l esz (V.E oo ls)) (hn : ls.length = nn) (hk : k < ls.length)
    (hmv : Mv l st.hp cs ds hp') (hh' : hp' o = .live l esz (V.E oo ls)) (he : enc oo v = ds) (hw : awant n ops ⟨d, .store t x y, ty, pos, af, g⟩ st.E true = true) (hd : fits n d = true) (hlb : lb = false)
    (h : ARg P n w0 MP lb ops os Q (putA ⟨st.E, updA hp' o (.live l esz (V.E oo (ls.set k v))), st.nx⟩ d .no)) : ARg P n w0 MP lb ops (⟨d, .store t x y, ty, pos, af, g⟩ :: os) Q st := by
  subst he
  refine R.stG hx hy hca hcl hh (by rw [E_length, hn]) (E_get oo ls hk) (by rw [Enc.len, Enc.len, Nat.zero_add]; simp) hmv hh' hw hd hlb ?_
  have : (enc oo (ls.getD k default)).take 0 ++ enc oo v ++ (enc oo (ls.getD k default)).drop (0 + (enc oo v).length) = enc oo v := by
    rw [Enc.len, Nat.zero_add, ← Enc.len oo (ls.getD k default)]; simp
  rw [this, E_set]; exact h
/-- an object's lists below are only read from here on -/
theorem AW.lend {c : Code} {o sz : Nat} {l : Bool} {xs : List (List AV)} (ho : st.hp o = .live l sz xs) (h : AW P n w0 MP c Q ⟨st.E, updA st.hp o (.live true sz xs), st.nx⟩) : AW P n w0 MP c Q st := fun E w ⟨C, Im, hm⟩ => by
  obtain ⟨Im', hm'⟩ := hm.lend o ho
  exact h E w ⟨C, Im', hm'⟩
/-- an empty slice in a slot, as an object to which may be appended -/
theorem AW.open {c : Code} (t sz : Nat) (ht : st.E t = .nl ∨ st.E t = .em) (h : AW P n w0 MP c Q ⟨updA st.E t (.sl st.nx 0 0 0), updA st.hp st.nx (.live false sz []), st.nx + 1⟩) : AW P n w0 MP c Q st := fun E w ⟨C, Im, hm⟩ => by
  have hv := hm.slot t
  have hdst : DstA st (st.E t) st.nx false sz [] (newS st sz []) := by rcases ht with ht | ht <;> rw [ht]; exact .nl _; exact .em _
  obtain ⟨C1, cc, m1, o1, c1, v1, e1, n1, le1, _⟩ := hdst.spec hm hv
  obtain ⟨cc1, q1, hO⟩ := m1.obj st.nx false sz [] o1
  rw [c1] at q1
  cases q1
  have h2 := RV.slNew hO c1 (Nat.lt_succ_self _)
  rw [v1] at h2
  have := m1.upd t h2
  rw [G.upd_eq_self rfl] at this
  exact h E w ⟨C1, Im, this⟩
end
end Go.Proofs.YtedjajokbdokhaaGreat.V
