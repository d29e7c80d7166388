/- How data lie in memory: a number, a list, a pair; what is read for them; that they stay while other memory changes. Over any program; nothing is claimed of the given one. -/
import Derived.Test.YtcalkmlaodjpaaaGc
namespace Go.Proofs.Ytcalkmlaodjpaaa.G
open Go.RowKit
set_option linter.unusedVariables false

/-- a block that is there -/
def There (w : World) (b : Nat) : Prop := ∃ cs e f, w.heap[b]? = some (.cells cs e f)
theorem There.lt {w : World} {b : Nat} (h : There w b) : b < w.heap.size := by
  obtain ⟨cs, e, f, h⟩ := h; exact (Array.getElem?_eq_some_iff.1 h).1
theorem There.same {w w' : World} {b : Nat} (h : There w b) (hs : w'.heap[b]? = w.heap[b]?) : There w' b := by
  obtain ⟨cs, e, f, h⟩ := h; exact ⟨cs, e, f, hs.trans h⟩
theorem Blk.there {w : World} {b : Nat} {cs : List Value} {e : Nat} (h : Blk w b cs e) : There w b := ⟨_, _, _, h⟩
theorem Cells.same {w w' : World} {b o : Nat} {vs : List Value} (h : Cells w b o vs) (hs : w'.heap[b]? = w.heap[b]?) : Cells w' b o vs := fun i v hv =>
  (World.cell?_of_block (w := w) (a := ⟨b, o + i, none⟩) hs).trans (h i v hv)
theorem Cells.there {w : World} {b o : Nat} {vs : List Value} (h : Cells w b o vs) (h0 : vs ≠ []) : There w b := by
  cases vs with
  | nil => exact absurd rfl h0
  | cons v vs =>
    have := h 0 v rfl
    unfold World.cell? at this
    split at this
    · rename_i cs e f hb; exact ⟨cs, e, f, hb⟩
    · cases this
theorem Cells.drop {w : World} {b o : Nat} {vs us : List Value} (h : Cells w b o (vs ++ us)) : Cells w b (o + vs.length) us := fun i v hv => by
  have := h (vs.length + i) v (by rw [List.getElem?_append_right (by omega)]; simpa using hv)
  rwa [← Nat.add_assoc] at this
theorem Cells.take {w : World} {b o : Nat} {vs us : List Value} (h : Cells w b o (vs ++ us)) : Cells w b o vs := fun i v hv =>
  h i v (by rw [List.getElem?_append_left (List.getElem?_eq_some_iff.1 hv).1]; exact hv)

/-- V w x vs F: in the world w the cells vs hold x; F: the blocks that are read for it, each as often as it is reached -/
structure Rp (α : Type) where
  nc : Nat
  V : World → α → List Value → List Nat → Prop
  len : ∀ {w x vs F}, V w x vs F → vs.length = nc
  one : ∀ {w x vs F}, V w x vs F → oneAll vs
  inb : ∀ {w x vs F}, V w x vs F → ∀ k ∈ F, There w k
  stab : ∀ {w w' x vs F}, V w x vs F → (∀ k ∈ F, w'.heap[k]? = w.heap[k]?) → V w' x vs F

section
variable {α β : Type}

theorem Rp.lt (R : Rp α) {w : World} {x : α} {vs : List Value} {F : List Nat} (h : R.V w x vs F) : ∀ k ∈ F, k < w.heap.size := fun k hk => (R.inb h k hk).lt
theorem Rp.later (R : Rp α) {w w' : World} {x : α} {vs : List Value} {F : List Nat} (h : R.V w x vs F) (hl : Later w w') : R.V w' x vs F :=
  R.stab h fun k hk => Below.block hl k (R.lt h k hk)
theorem Rp.below (R : Rp α) {w w' : World} {x : α} {vs : List Value} {F : List Nat} {B : Nat} (h : R.V w x vs F) (hB : ∀ k ∈ F, k < B) (hl : Below B w w') : R.V w' x vs F :=
  R.stab h fun k hk => Below.block hl k (hB k hk)
theorem Rp.wrote (R : Rp α) {w w' : World} {x : α} {vs : List Value} {F : List Nat} {b : Nat} (h : R.V w x vs F) (hb : b ∉ F) (hl : Wrote b w w') : R.V w' x vs F :=
  R.stab h fun k hk => hl.same k (fun e => hb (e ▸ hk))
theorem Rp.grew (R : Rp α) {w w' : World} {x : α} {vs : List Value} {F : List Nat} {v v' : Value} (h : R.V w x vs F) (hb : ∀ k ∈ F, own v ≠ some k) (hl : Grew w w' v v') : R.V w' x vs F :=
  R.stab h fun k hk => hl.same k (R.lt h k hk) (fun e => hb k hk e.symm)

/-- one number of type int -/
def intR : Rp Int where
  nc := 1
  V := fun w n vs F => vs = [.int .i64 n] ∧ F = [] ∧ In64 n
  len := fun h => by rw [h.1]; rfl
  one := fun h => by rw [h.1]; intro u hu; simp at hu; subst hu; rfl
  inb := fun h k hk => by rw [h.2.1] at hk; cases hk
  stab := fun h _ => h
def boolR : Rp Bool where
  nc := 1
  V := fun w b vs F => vs = [.bool b] ∧ F = []
  len := fun h => by rw [h.1]; rfl
  one := fun h => by rw [h.1]; intro u hu; simp at hu; subst hu; rfl
  inb := fun h k hk => by rw [h.2] at hk; cases hk
  stab := fun h _ => h
/-- two things beside each other -/
def seqR (R : Rp α) (S : Rp β) : Rp (α × β) where
  nc := R.nc + S.nc
  V := fun w x vs F => ∃ v1 v2 F1 F2, R.V w x.1 v1 F1 ∧ S.V w x.2 v2 F2 ∧ vs = v1 ++ v2 ∧ F = F1 ++ F2
  len := fun ⟨v1, v2, F1, F2, h1, h2, e1, e2⟩ => by rw [e1, List.length_append, R.len h1, S.len h2]
  one := fun ⟨v1, v2, F1, F2, h1, h2, e1, e2⟩ => by
    rw [e1]; intro u hu
    rcases List.mem_append.1 hu with h | h
    · exact R.one h1 u h
    · exact S.one h2 u h
  inb := fun ⟨v1, v2, F1, F2, h1, h2, e1, e2⟩ k hk => by
    rw [e2] at hk
    rcases List.mem_append.1 hk with h | h
    · exact R.inb h1 k h
    · exact S.inb h2 k h
  stab := fun ⟨v1, v2, F1, F2, h1, h2, e1, e2⟩ hs => ⟨v1, v2, F1, F2, R.stab h1 (fun k hk => hs k (by rw [e2]; exact List.mem_append_left _ hk)),
    S.stab h2 (fun k hk => hs k (by rw [e2]; exact List.mem_append_right _ hk)), e1, e2⟩
/-- read through a function -/
def mapR (g : β → α) (R : Rp α) : Rp β where
  nc := R.nc
  V := fun w x vs F => R.V w (g x) vs F
  len := R.len
  one := R.one
  inb := R.inb
  stab := R.stab

/-- what a slice of l holds, from an address on -/
def Elems (R : Rp α) (w : World) (b o : Nat) (l : List α) (Fs : List (List Nat)) : Prop :=
  Fs.length = l.length ∧ ∀ k x, l[k]? = some x → ∃ vs, Cells w b (o + k * R.nc) vs ∧ R.V w x vs (Fs.getD k [])
def LV (R : Rp α) (w : World) (p : Option Addr) (l : List α) (F : List Nat) : Prop :=
  (l = [] ∧ F = []) ∨ ∃ b o Fs, p = some ⟨b, o, none⟩ ∧ F = b :: Fs.flatten ∧ There w b ∧ Elems R w b o l Fs

theorem mem_getD_flatten {Fs : List (List Nat)} {k j : Nat} (h : j ∈ Fs.getD k []) : j ∈ Fs.flatten := by
  rw [List.getD_eq_getElem?_getD] at h
  cases hk : Fs[k]? with
  | none => rw [hk] at h; cases h
  | some L => rw [hk] at h; exact List.mem_flatten.2 ⟨L, List.mem_of_getElem? hk, h⟩

/-- a list, as a slice -/
def listR (R : Rp α) : Rp (List α) where
  nc := 1
  V := fun w l vs F => ∃ p c, vs = [.slice p l.length c] ∧ l.length ≤ c ∧ c ≤ maxLen ∧ LV R w p l F
  len := fun ⟨p, c, h, _⟩ => by rw [h]; rfl
  one := fun ⟨p, c, h, _⟩ => by rw [h]; intro u hu; simp at hu; subst hu; rfl
  inb := fun ⟨p, c, h, _, _, hl⟩ k hk => by
    rcases hl with ⟨_, rfl⟩ | ⟨b, o, Fs, rfl, rfl, ht, hlen, he⟩
    · cases hk
    · rcases List.mem_cons.1 hk with rfl | hk
      · exact ht
      · obtain ⟨L, hL, hkL⟩ := List.mem_flatten.1 hk
        obtain ⟨j, hj, rfl⟩ := List.getElem_of_mem hL
        have hx := he j _ (List.getElem?_eq_getElem (hlen ▸ hj))
        obtain ⟨vs, _, hv⟩ := hx
        exact R.inb hv k (by simpa [List.getD_eq_getElem?_getD, hj] using hkL)
  stab := fun ⟨p, c, h, h1, h2, hl⟩ hs => by
    refine ⟨p, c, h, h1, h2, ?_⟩
    rcases hl with hl | ⟨b, o, Fs, rfl, rfl, ht, hlen, he⟩
    · exact .inl hl
    · refine .inr ⟨b, o, Fs, rfl, rfl, ht.same (hs b (List.mem_cons_self ..)), hlen, fun k x hx => ?_⟩
      obtain ⟨vs, hc, hv⟩ := he k x hx
      exact ⟨vs, hc.same (hs b (List.mem_cons_self ..)), R.stab hv fun j hj => hs j (List.mem_cons_of_mem _ (mem_getD_flatten hj))⟩

theorem listR.open {R : Rp α} {w : World} {l : List α} {vs : List Value} {F : List Nat} (h : (listR R).V w l vs F) : ∃ p c, vs = [.slice p l.length c] ∧ l.length ≤ c ∧ c ≤ maxLen ∧ LV R w p l F := h

theorem listR.open1 {R : Rp α} {w : World} {l : List α} {v : Value} {F : List Nat} (h : (listR R).V w l [v] F) : ∃ p c, v = .slice p l.length c ∧ l.length ≤ c ∧ c ≤ 9223372036854775807 ∧ LV R w p l F := by
  obtain ⟨p, c, h1, h2, h3, h4⟩ := h
  exact ⟨p, c, by simpa using h1, h2, h3, h4⟩
/-- the element at k -/
theorem LV.at {R : Rp α} {w : World} {p : Option Addr} {l : List α} {F : List Nat} (h : LV R w p l F) {k : Nat} (hk : k < l.length) :
    ∃ b o vs Fk, p = some ⟨b, o, none⟩ ∧ Cells w b (o + k * R.nc) vs ∧ R.V w l[k] vs Fk ∧ b ∈ F ∧ ∀ j ∈ Fk, j ∈ F := by
  rcases h with ⟨rfl, _⟩ | ⟨b, o, Fs, rfl, rfl, ht, hlen, he⟩
  · simp at hk
  · obtain ⟨vs, hc, hv⟩ := he k l[k] (List.getElem?_eq_getElem hk)
    exact ⟨b, o, vs, _, rfl, hc, hv, List.mem_cons_self .., fun j hj => List.mem_cons_of_mem _ (mem_getD_flatten hj)⟩

/-! ### lists of numbers -/
abbrev intsR : Rp (List Int) := listR intR
theorem LV.int {w : World} {p : Option Addr} {l : List Int} {F : List Nat} (h : LV intR w p l F) {k : Nat} (hk : k < l.length) :
    ∃ b o, p = some ⟨b, o, none⟩ ∧ w.cell? ⟨b, o + k, none⟩ = some (.int .i64 l[k]) ∧ In64 l[k] ∧ b ∈ F := by
  obtain ⟨b, o, vs, Fk, hp, hc, ⟨rfl, _, hi⟩, hb, _⟩ := h.at hk
  have := hc 0 _ rfl
  exact ⟨b, o, hp, by simpa [intR] using this, hi, hb⟩
/-- elements that are slices -/
theorem LV.slc {R : Rp α} {w : World} {p : Option Addr} {l : List (List α)} {F : List Nat} (h : LV (listR R) w p l F) {k : Nat} (hk : k < l.length) :
    ∃ b o v Fk, p = some ⟨b, o, none⟩ ∧ w.cell? ⟨b, o + k, none⟩ = some v ∧ (listR R).V w l[k] [v] Fk ∧ b ∈ F ∧ ∀ j ∈ Fk, j ∈ F := by
  obtain ⟨b, o, vs, Fk, hp, hc, hv, hb, hF⟩ := h.at hk
  obtain ⟨q, c, rfl, h2⟩ := id hv
  have := hc 0 _ rfl
  exact ⟨b, o, _, Fk, hp, by simpa [listR] using this, hv, hb, hF⟩
theorem LV.intD {w : World} {p : Option Addr} {l : List Int} {F : List Nat} (h : LV intR w p l F) {k : Nat} (hk : k < l.length) :
    ∃ b o, p = some ⟨b, o, none⟩ ∧ w.cell? ⟨b, o + k, none⟩ = some (.int .i64 (l.getD k 0)) ∧ In64 (l.getD k 0) ∧ b ∈ F := by
  have e : l.getD k 0 = l[k] := by simp [hk]
  rw [e]; exact h.int hk
end

/-! ### a list that is being made: v the slice, l what it holds, F the blocks below -/
section
variable {α : Type}
/-- values, cells and blocks of a list's elements, side by side -/
def Each (R : Rp α) (w : World) : List α → List (List Value) → List (List Nat) → Prop
  | [], [], [] => True
  | x :: l, vs :: vss, F :: Fs => R.V w x vs F ∧ Each R w l vss Fs
  | _, _, _ => False
theorem Each.stab {R : Rp α} {w w' : World} : ∀ {l : List α} {vss : List (List Value)} {Fs : List (List Nat)}, Each R w l vss Fs → (∀ k ∈ Fs.flatten, w'.heap[k]? = w.heap[k]?) → Each R w' l vss Fs
  | [], [], [], _, _ => trivial
  | x :: l, vs :: vss, F :: Fs, ⟨h1, h2⟩, hs => ⟨R.stab h1 fun k hk => hs k (by simp [hk]), Each.stab h2 fun k hk => hs k (by simp only [List.flatten_cons, List.mem_append]; exact .inr hk)⟩
theorem Each.push {R : Rp α} {w : World} {x : α} {vs : List Value} {F : List Nat} (hx : R.V w x vs F) : ∀ {l : List α} {vss : List (List Value)} {Fs : List (List Nat)}, Each R w l vss Fs → Each R w (l ++ [x]) (vss ++ [vs]) (Fs ++ [F])
  | [], [], [], _ => ⟨hx, trivial⟩
  | y :: l, ws :: vss, G :: Fs, ⟨h1, h2⟩ => ⟨h1, Each.push hx h2⟩
theorem Each.lens {R : Rp α} {w : World} : ∀ {l : List α} {vss : List (List Value)} {Fs : List (List Nat)}, Each R w l vss Fs → vss.length = l.length ∧ Fs.length = l.length ∧ vss.flatten.length = l.length * R.nc
  | [], [], [], _ => ⟨rfl, rfl, by simp⟩
  | x :: l, vs :: vss, F :: Fs, ⟨h1, h2⟩ => by
    obtain ⟨a, b, c⟩ := Each.lens h2
    refine ⟨by simp [a], by simp [b], ?_⟩
    simp only [List.flatten_cons, List.length_append, List.length_cons, c, R.len h1, Nat.add_mul, Nat.one_mul]
    omega
theorem Each.inb {R : Rp α} {w : World} : ∀ {l : List α} {vss : List (List Value)} {Fs : List (List Nat)}, Each R w l vss Fs → ∀ k ∈ Fs.flatten, There w k
  | [], [], [], _, k, hk => by cases hk
  | x :: l, vs :: vss, F :: Fs, ⟨h1, h2⟩, k, hk => by
    rw [List.flatten_cons] at hk
    rcases List.mem_append.1 hk with h | h
    · exact R.inb h1 k h
    · exact Each.inb h2 k h
theorem Each.one {R : Rp α} {w : World} : ∀ {l : List α} {vss : List (List Value)} {Fs : List (List Nat)}, Each R w l vss Fs → oneAll vss.flatten
  | [], [], [], _ => fun u hu => by cases hu
  | x :: l, vs :: vss, F :: Fs, ⟨h1, h2⟩ => fun u hu => by
    rw [List.flatten_cons] at hu
    rcases List.mem_append.1 hu with h | h
    · exact R.one h1 u h
    · exact Each.one h2 u h
theorem Each.elems {R : Rp α} {w : World} {b : Nat} : ∀ {l : List α} {vss : List (List Value)} {Fs : List (List Nat)} {o : Nat}, Each R w l vss Fs → Cells w b o vss.flatten → Elems R w b o l Fs
  | [], [], [], o, _, _ => ⟨rfl, fun k x hx => by cases hx⟩
  | x :: l, vs :: vss, F :: Fs, o, ⟨h1, h2⟩, hc => by
    have hc' : Cells w b o (vs ++ vss.flatten) := by simpa using hc
    have ih := Each.elems h2 hc'.drop
    refine ⟨by simp [ih.1], fun k y hy => ?_⟩
    cases k with
    | zero =>
      simp only [List.getElem?_cons_zero, Option.some.injEq] at hy
      subst hy
      exact ⟨vs, by simpa using hc'.take, h1⟩
    | succ k =>
      obtain ⟨us, h3, h4⟩ := ih.2 k y (by simpa using hy)
      refine ⟨us, ?_, h4⟩
      rw [R.len h1] at h3
      have e : o + R.nc + k * R.nc = o + (k + 1) * R.nc := by rw [Nat.add_mul]; omega
      rwa [e] at h3

/-- the slice v holds l; below lie the blocks F, of which v's own is none -/
def Acc (R : Rp α) (w : World) (e : Nat) (v : Value) (l : List α) (F : List Nat) : Prop :=
  ∃ vss Fs, Buf w e R.nc v l.length vss.flatten ∧ F = Fs.flatten ∧ Each R w l vss Fs ∧ ∀ k ∈ F, own v ≠ some k

theorem Acc.nil (R : Rp α) (w : World) (e : Nat) : Acc R w e (.slice none 0 0) [] [] := ⟨[], [], Buf.nil w e R.nc, rfl, trivial, fun k hk => by cases hk⟩
theorem Acc.buf {R : Rp α} {w : World} {e : Nat} {v : Value} {l : List α} {F : List Nat} (h : Acc R w e v l F) : ∃ cs, Buf w e R.nc v l.length cs := by
  obtain ⟨vss, Fs, h1, _⟩ := h; exact ⟨_, h1⟩
theorem Acc.own_lt {R : Rp α} {w : World} {e : Nat} {v : Value} {l : List α} {F : List Nat} (h : Acc R w e v l F) : ∀ b, own v = some b → b < w.heap.size := by
  obtain ⟨vss, Fs, h1, _⟩ := h; exact h1.own_lt
theorem Acc.lt {R : Rp α} {w : World} {e : Nat} {v : Value} {l : List α} {F : List Nat} (h : Acc R w e v l F) : ∀ k ∈ F, k < w.heap.size := by
  obtain ⟨vss, Fs, h1, rfl, h2, _⟩ := h; exact fun k hk => (h2.inb k hk).lt
theorem Acc.same {R : Rp α} {w w' : World} {e : Nat} {v : Value} {l : List α} {F : List Nat} (h : Acc R w e v l F) (ho : ∀ b, own v = some b → w'.heap[b]? = w.heap[b]?) (hs : ∀ k ∈ F, w'.heap[k]? = w.heap[k]?) : Acc R w' e v l F := by
  obtain ⟨vss, Fs, h1, rfl, h2, h3⟩ := h
  exact ⟨vss, Fs, h1.same ho, rfl, h2.stab hs, h3⟩
theorem Acc.later {R : Rp α} {w w' : World} {e : Nat} {v : Value} {l : List α} {F : List Nat} (h : Acc R w e v l F) (hl : Later w w') : Acc R w' e v l F :=
  h.same (fun b hb => Below.block hl b (h.own_lt b hb)) (fun k hk => Below.block hl k (h.lt k hk))
theorem Acc.wrote {R : Rp α} {w w' : World} {e : Nat} {v : Value} {l : List α} {F : List Nat} {b : Nat} (h : Acc R w e v l F) (hl : Wrote b w w') (ho : own v ≠ some b) (hF : b ∉ F) : Acc R w' e v l F :=
  h.same (fun b' hb => hl.same b' (fun e => ho (e ▸ hb))) (fun k hk => hl.same k (fun e => hF (e ▸ hk)))
/-- a buffer of cells that hold numbers -/
theorem Acc.ofInts {w : World} {e : Nat} {v : Value} {l : List Int} (h : Buf w e 1 v l.length (l.map (.int .i64))) (hi : ∀ x ∈ l, In64 x) : Acc intR w e v l [] := by
  refine ⟨l.map (fun x => [.int .i64 x]), l.map (fun _ => []), ?_, ?_, ?_, fun k hk => by cases hk⟩
  · have : (l.map (fun x => [Value.int .i64 x])).flatten = l.map (.int .i64) := by
      clear h hi; induction l with
      | nil => rfl
      | cons x l ih => simp [ih]
    rw [this]; exact h
  · clear h hi; induction l with
    | nil => rfl
    | cons x l ih => simp
  · clear h; induction l with
    | nil => trivial
    | cons x l ih => exact ⟨⟨rfl, rfl, hi x (by simp)⟩, ih fun y hy => hi y (by simp [hy])⟩

/-- the list as it is handed on -/
theorem Acc.list {R : Rp α} {w : World} {e : Nat} {v : Value} {l : List α} {F : List Nat} (h : Acc R w e v l F) :
    ∃ F', (listR R).V w l [v] F' ∧ (F' = F ∨ ∃ b, own v = some b ∧ F' = b :: F) ∧ (∀ b, own v = some b → ∃ cur, Blk w b cur e) := by
  obtain ⟨vss, Fs, h1, rfl, h2, h3⟩ := h
  rcases h1.2 with ⟨h0, p, rfl⟩ | ⟨b, c, cur, rfl, hb, hm, hc, hl, ht⟩
  · have hl : l = [] := List.eq_nil_of_length_eq_zero h0
    subst hl
    cases vss <;> cases Fs <;> simp [Each] at h2
    exact ⟨[], ⟨p, 0, rfl, Nat.le_refl _, Nat.zero_le _, .inl ⟨rfl, rfl⟩⟩, .inl rfl, fun b hb => by cases p <;> simp [own] at hb⟩
  · by_cases hl0 : l = []
    · subst hl0
      cases vss <;> cases Fs <;> simp [Each] at h2
      exact ⟨[], ⟨_, _, rfl, hm, hc, .inl ⟨rfl, rfl⟩⟩, .inl rfl, fun b' hb' => by simp [own] at hb'; subst hb'; exact ⟨cur, hb⟩⟩
    · refine ⟨b :: Fs.flatten, ⟨_, _, rfl, hm, hc, .inr ⟨b, 0, Fs, rfl, rfl, hb.there, ?_⟩⟩, .inr ⟨b, rfl, rfl⟩, fun b' hb' => by simp [own] at hb'; subst hb'; exact ⟨cur, hb⟩⟩
      refine h2.elems fun i u hu => ?_
      have hcur : cur[i]? = some u := by
        rw [← ht, List.getElem?_take] at hu
        split at hu
        · exact hu
        · cases hu
      exact hb.cells i u hcur
end

/-! ### what is new and one's own -/
/-- blocks that may be written -/
def Opn (w : World) (F : List Nat) : Prop := ∀ k ∈ F, ∃ cur e, Blk w k cur e
/-- x in new memory, each block once -/
def New {α : Type} (R : Rp α) (w : World) (x : α) (vs : List Value) (w' : World) (F : List Nat) : Prop :=
  R.V w' x vs F ∧ F.Nodup ∧ (∀ k ∈ F, w.heap.size ≤ k) ∧ Opn w' F
theorem Opn.same {w w' : World} {F : List Nat} (h : Opn w F) (hs : ∀ k ∈ F, w'.heap[k]? = w.heap[k]?) : Opn w' F := fun k hk => by
  obtain ⟨c, e, h1⟩ := h k hk; exact ⟨c, e, h1.same (hs k hk)⟩
/-- a buffer of numbers, as a list in new memory -/
theorem New.ofAcc {α : Type} {R : Rp α} {w w' : World} {e : Nat} {v : Value} {l : List α} {F : List Nat} (h : Acc R w' e v l F) (ho : ∀ b, own v = some b → w.heap.size ≤ b) (hF : ∀ k ∈ F, w.heap.size ≤ k) (hn : F.Nodup) (hop : Opn w' F) :
    ∃ F', New (listR R) w l [v] w' F' ∧ (F' = F ∨ ∃ b, own v = some b ∧ F' = b :: F) := by
  obtain ⟨vss, Fs, h1, h2, h3, h4⟩ := id h
  obtain ⟨F', hV, hF', hB⟩ := h.list
  refine ⟨F', ⟨hV, ?_, ?_, ?_⟩, hF'⟩
  · rcases hF' with rfl | ⟨b, hb, rfl⟩
    · exact hn
    · exact List.nodup_cons.2 ⟨fun hm => h4 b hm hb, hn⟩
  · rcases hF' with rfl | ⟨b, hb, rfl⟩
    · exact hF
    · intro k hk
      rcases List.mem_cons.1 hk with rfl | hk
      · exact ho k hb
      · exact hF k hk
  · rcases hF' with rfl | ⟨b, hb, rfl⟩
    · exact hop
    · intro k hk
      rcases List.mem_cons.1 hk with rfl | hk
      · obtain ⟨cur, hc⟩ := hB k hb; exact ⟨cur, e, hc⟩
      · exact hop k hk
theorem newInts {w w' : World} {b e : Nat} {xs : List Int} (hB : Blk w' b (xs.map (.int .i64)) e) (hb : w.heap.size ≤ b) (hi : ∀ x ∈ xs, In64 x) (hn : xs.length ≤ 9223372036854775807) :
    ∃ F, New intsR w xs [.slice (some ⟨b, 0, none⟩) xs.length xs.length] w' F ∧ ∀ k ∈ F, k = b := by
  have hbuf : Buf w' e 1 (.slice (some ⟨b, 0, none⟩) xs.length xs.length) xs.length (xs.map (.int .i64)) := Buf.ofBlk hB hn (by simp)
  have hacc := Acc.ofInts hbuf hi
  have hown : ∀ b', own (.slice (some ⟨b, 0, none⟩) xs.length xs.length) = some b' → b' = b := fun b' h => by
    cases hx : xs.length with
    | zero => rw [hx] at h; simp [own] at h
    | succ n => rw [hx] at h; simp [own] at h; exact h.symm
  obtain ⟨F, h1, h2⟩ := New.ofAcc (w := w) hacc (fun b' h => by rw [hown b' h]; exact hb) (fun k hk => by cases hk) List.nodup_nil (fun k hk => by cases hk)
  refine ⟨F, h1, fun k hk => ?_⟩
  rcases h2 with rfl | ⟨b', h3, rfl⟩
  · cases hk
  · simp at hk; rw [hk]; exact hown _ h3
theorem intsR.bounds {w : World} {xs : List Int} {v : Value} {F : List Nat} (h : intsR.V w xs [v] F) : ∀ x ∈ xs, In64 x := by
  obtain ⟨p, c, _, _, _, hl⟩ := listR.open1 h
  intro x hx
  obtain ⟨k, hk, rfl⟩ := List.getElem_of_mem hx
  obtain ⟨b, o, _, _, hi, _⟩ := hl.int hk
  exact hi
/-- one number of a list is written -/
theorem intsR.set {w w2 : World} {xs : List Int} {b o l c : Nat} {F : List Nat} {cur : List Value} {e k : Nat} {y : Int} (h : intsR.V w xs [.slice (some ⟨b, o, none⟩) l c] F) (hk : k < xs.length) (hy : In64 y)
    (hB : Blk w b cur e) (hw : Wrote b w w2) (hB2 : Blk w2 b (cur.set (o + k) (.int .i64 y)) e) : intsR.V w2 (xs.set k y) [.slice (some ⟨b, o, none⟩) l c] F := by
  obtain ⟨p, c', h1, h2, h3, hl⟩ := h
  simp only [List.cons.injEq, Value.slice.injEq, and_true] at h1
  obtain ⟨rfl, rfl, rfl⟩ := h1
  refine ⟨some ⟨b, o, none⟩, c, by rw [List.length_set], by simpa using h2, h3, ?_⟩
  rcases hl with ⟨rfl, _⟩ | ⟨b', o', Fs, hp, rfl, ht, hlen, he⟩
  · simp at hk
  · simp only [Option.some.injEq, Addr.mk.injEq, and_true] at hp
    obtain ⟨rfl, rfl⟩ := hp
    refine .inr ⟨b, o, Fs, rfl, rfl, hB2.there, by simpa using hlen, fun j x hj => ?_⟩
    rw [List.getElem?_set] at hj
    have hkc : o + k < cur.length := by
      obtain ⟨vs, hc, hv, hv2, _⟩ := he k _ (List.getElem?_eq_getElem hk)
      have h5 := hc 0 _ (by rw [hv]; rfl)
      unfold World.cell? at h5
      unfold Blk at hB
      simp only [hB] at h5
      have h6 : cur[o + k]? = some (.int .i64 xs[k]) := by simpa [intR] using h5
      exact (List.getElem?_eq_some_iff.1 h6).1
    by_cases hjk : k = j
    · subst hjk
      simp only [hk, if_true, Option.some.injEq] at hj
      subst hj
      obtain ⟨vs, hc, hv, hv2, _⟩ := he k _ (List.getElem?_eq_getElem hk)
      refine ⟨[.int .i64 y], fun i v hi => ?_, rfl, hv2, hy⟩
      cases i with
      | zero =>
        simp only [List.getElem?_cons_zero, Option.some.injEq] at hi
        subst hi
        refine hB2.cell ?_
        simp [intR, hkc]
      | succ i => simp at hi
    · rw [if_neg hjk] at hj
      obtain ⟨vs, hc, rfl, hv2, hv3⟩ := he j x hj
      refine ⟨_, fun i v hi => ?_, rfl, hv2, hv3⟩
      cases i with
      | zero =>
        have h5 := hc 0 v hi
        unfold World.cell? at h5
        unfold Blk at hB
        simp only [hB] at h5
        refine hB2.cell ?_
        have h6 : o + k ≠ o + j := by omega
        simp only [intR, Nat.mul_one, Nat.add_zero, Option.isSome_none, Bool.false_eq_true, if_false] at h5 ⊢
        rw [List.getElem?_set_ne h6]
        simpa using h5
      | succ i => simp at hi
theorem Opn.wrote {w w2 : World} {F : List Nat} {b e : Nat} {cur : List Value} (h : Opn w F) (hw : Wrote b w w2) (hB : Blk w2 b cur e) : Opn w2 F := fun k hk => by
  by_cases hkb : k = b
  · subst hkb; exact ⟨cur, e, hB⟩
  · obtain ⟨c, e', h1⟩ := h k hk; exact ⟨c, e', h1.same (hw.same k hkb)⟩
/-- blocks of F alone have been written -/
structure Marked (F : List Nat) (w w' : World) : Prop where
  same : ∀ k, k ∉ F → w'.heap[k]? = w.heap[k]?
  size : w'.heap.size = w.heap.size
  os : w'.os = w.os
  tape : w'.tape = w.tape
  output : w'.output = w.output
theorem Marked.refl (F : List Nat) (w : World) : Marked F w w := ⟨fun _ _ => rfl, rfl, rfl, rfl, rfl⟩
theorem Marked.trans {F : List Nat} {a b c : World} (h : Marked F a b) (k : Marked F b c) : Marked F a c :=
  ⟨fun j hj => (k.same j hj).trans (h.same j hj), k.size.trans h.size, k.os.trans h.os, k.tape.trans h.tape, k.output.trans h.output⟩
theorem Marked.mono {F G : List Nat} {a b : World} (h : Marked F a b) (hs : ∀ k ∈ F, k ∈ G) : Marked G a b :=
  ⟨fun j hj => h.same j (fun hf => hj (hs j hf)), h.size, h.os, h.tape, h.output⟩
theorem Marked.wrote {F : List Nat} {a b : World} {k : Nat} (h : Wrote k a b) (hk : k ∈ F) : Marked F a b :=
  ⟨fun j hj => h.same j (fun e => hj (e ▸ hk)), h.size, h.os, h.tape, h.output⟩
theorem Marked.below {F : List Nat} {a b : World} {B : Nat} (h : Marked F a b) (hF : ∀ k ∈ F, B ≤ k) : Below B a b :=
  ⟨h.os, h.tape, h.output, by rw [h.size]; exact Nat.le_refl _, fun k hk => h.same k (fun hf => by have := hF k hf; omega)⟩
theorem Rp.marked {α : Type} (R : Rp α) {w w' : World} {x : α} {vs : List Value} {F G : List Nat} (h : R.V w x vs F) (hm : Marked G w w') (hd : ∀ k ∈ F, k ∉ G) : R.V w' x vs F :=
  R.stab h fun k hk => hm.same k (hd k hk)
/-! ### a call's own blocks, all together -/
/-- a block of cells of one's own -/
def Wb (w : World) (b : Nat) : Prop := ∃ cs e, Blk w b cs e
theorem Wb.lt {w : World} {b : Nat} (h : Wb w b) : b < w.heap.size := by obtain ⟨_, _, h⟩ := h; exact h.lt
theorem Wb.same {w w' : World} {b : Nat} (h : Wb w b) (hs : w'.heap[b]? = w.heap[b]?) : Wb w' b := by obtain ⟨c, e, h⟩ := h; exact ⟨c, e, h.same hs⟩
theorem Wb.later {w w' : World} {b : Nat} (h : Wb w b) (hl : Later w w') : Wb w' b := h.same (Below.block hl b h.lt)
/-- since w0 only new memory has been written; H: the call's own blocks; D: data in new memory, each with the world that it is told of and its blocks; S: slices to which is appended, each with the world that it is told of -/
structure Hp (w0 w : World) (H : List (Nat × List Value × Nat)) (D : List (World × List Nat)) (S : List (World × Value) := []) : Prop where
  low : Later w0 w
  own : ∀ x ∈ H, Blk w x.1 x.2.1 x.2.2 ∧ w0.heap.size ≤ x.1
  nes : ∀ (i j : Nat) x y, H[i]? = some x → H[j]? = some y → i ≠ j → x.1 ≠ y.1
  dat : ∀ d ∈ D, d.2.Nodup ∧ ∀ k ∈ d.2, Wb w k ∧ w0.heap.size ≤ k ∧ w.heap[k]? = d.1.heap[k]? ∧ ∀ x ∈ H, x.1 ≠ k
  dis : ∀ (i j : Nat) d d', D[i]? = some d → D[j]? = some d' → i ≠ j → ∀ k ∈ d.2, k ∉ d'.2
  spn : ∀ s ∈ S, ∀ b, G.own s.2 = some b → Wb w b ∧ w0.heap.size ≤ b ∧ w.heap[b]? = s.1.heap[b]? ∧ (∀ x ∈ H, x.1 ≠ b) ∧ ∀ d ∈ D, b ∉ d.2
  apt : ∀ (i j : Nat) s t, S[i]? = some s → S[j]? = some t → i ≠ j → ∀ b, G.own s.2 = some b → G.own t.2 ≠ some b
theorem Hp.init (w : World) : Hp w w [] [] :=
  ⟨Later.refl w, (fun x hx => by cases hx), (fun i j x y hi => by simp at hi), (fun d hd => by cases hd), (fun i j x y hi => by simp at hi), (fun s hs => by cases hs), fun i j s t hi => by simp at hi⟩
/-- a list's places behind one in front -/
theorem two_cons {α : Type} {x : α} {l : List α} {p : α → α → Prop} (h0 : ∀ y ∈ l, p x y ∧ p y x) (h : ∀ (i j : Nat) a b, l[i]? = some a → l[j]? = some b → i ≠ j → p a b) :
    ∀ (i j : Nat) a b, (x :: l)[i]? = some a → (x :: l)[j]? = some b → i ≠ j → p a b := fun i j a b hi hj hij => by
  cases i with
  | zero =>
    simp only [List.getElem?_cons_zero, Option.some.injEq] at hi
    subst hi
    cases j with
    | zero => exact absurd rfl hij
    | succ j => exact (h0 b (List.mem_of_getElem? (by simpa using hj))).1
  | succ i =>
    cases j with
    | zero =>
      simp only [List.getElem?_cons_zero, Option.some.injEq] at hj
      subst hj
      exact (h0 a (List.mem_of_getElem? (by simpa using hi))).2
    | succ j => exact h i j a b (by simpa using hi) (by simpa using hj) (by omega)
theorem two_tail {α : Type} {x : α} {l : List α} {p : α → α → Prop} (h : ∀ (i j : Nat) a b, (x :: l)[i]? = some a → (x :: l)[j]? = some b → i ≠ j → p a b) :
    ∀ (i j : Nat) a b, l[i]? = some a → l[j]? = some b → i ≠ j → p a b := fun i j a b hi hj hij => h (i + 1) (j + 1) a b (by simpa using hi) (by simpa using hj) (by omega)
theorem two_head {α : Type} {x : α} {l : List α} {p : α → α → Prop} (h : ∀ (i j : Nat) a b, (x :: l)[i]? = some a → (x :: l)[j]? = some b → i ≠ j → p a b) : ∀ y ∈ l, p x y ∧ p y x := fun y hy => by
  obtain ⟨i, hi⟩ := List.mem_iff_getElem?.1 hy
  exact ⟨h 0 (i + 1) x y rfl (by simpa using hi) (by omega), h (i + 1) 0 y x (by simpa using hi) rfl (by omega)⟩
theorem two_set {α : Type} {x : α} {l : List α} {n : Nat} {p : α → α → Prop} (h0 : ∀ (j : Nat) y, l[j]? = some y → j ≠ n → p x y ∧ p y x) (h : ∀ (i j : Nat) a b, l[i]? = some a → l[j]? = some b → i ≠ j → p a b) :
    ∀ (i j : Nat) a b, (l.set n x)[i]? = some a → (l.set n x)[j]? = some b → i ≠ j → p a b := fun i j a b hi hj hij => by
  rw [List.getElem?_set] at hi hj
  by_cases h1 : n = i
  · rw [if_pos h1] at hi
    split at hi
    · simp only [Option.some.injEq] at hi
      subst hi
      rw [if_neg (by omega)] at hj
      exact (h0 j b hj (by omega)).1
    · cases hi
  · rw [if_neg h1] at hi
    by_cases h2 : n = j
    · rw [if_pos h2] at hj
      split at hj
      · simp only [Option.some.injEq] at hj
        subst hj
        exact (h0 i a hi (by omega)).2
      · cases hj
    · rw [if_neg h2] at hj
      exact h i j a b hi hj hij
theorem mem_set' {α : Type} {x y : α} {l : List α} {n : Nat} (h : y ∈ l.set n x) : y = x ∨ ∃ j, j ≠ n ∧ l[j]? = some y := by
  obtain ⟨j, hj⟩ := List.mem_iff_getElem?.1 h
  rw [List.getElem?_set] at hj
  by_cases h1 : n = j
  · rw [if_pos h1] at hj
    split at hj
    · simp only [Option.some.injEq] at hj; exact .inl hj.symm
    · cases hj
  · rw [if_neg h1] at hj; exact .inr ⟨j, by omega, hj⟩
section
variable {w0 w w' : World} {H : List (Nat × List Value × Nat)} {D : List (World × List Nat)} {S : List (World × Value)}
theorem Hp.new (h : Hp w0 w H D S) (hl : Later w w') {b e : Nat} {cs : List Value} (hb : b = w.heap.size) (hB : Blk w' b cs e) : Hp w0 w' ((b, cs, e) :: H) D S := by
  have hsz := hl.size
  refine ⟨h.low.trans hl, fun x hx => ?_, two_cons (fun y hy => ?_) h.nes, fun d hd => ⟨(h.dat d hd).1, fun k hk => ?_⟩, h.dis, fun s hs k hk => ?_, h.apt⟩
  · rcases List.mem_cons.1 hx with rfl | hx
    · exact ⟨hB, by have := h.low.size; simp only; omega⟩
    · exact ⟨(h.own x hx).1.later hl, (h.own x hx).2⟩
  · have := (h.own y hy).1.lt
    simp only; omega
  · obtain ⟨h1, h2, h3, h4⟩ := (h.dat d hd).2 k hk
    refine ⟨h1.later hl, h2, (Below.block hl k h1.lt).trans h3, fun x hx => ?_⟩
    rcases List.mem_cons.1 hx with rfl | hx
    · have := h1.lt; simp only; omega
    · exact h4 x hx
  · obtain ⟨h1, h2, h3, h4, h5⟩ := h.spn s hs k hk
    refine ⟨h1.later hl, h2, (Below.block hl k h1.lt).trans h3, fun x hx => ?_, h5⟩
    rcases List.mem_cons.1 hx with rfl | hx
    · have := h1.lt; simp only; omega
    · exact h4 x hx
theorem Hp.later (h : Hp w0 w H D S) (hl : Later w w') : Hp w0 w' H D S :=
  ⟨h.low.trans hl, (fun x hx => ⟨(h.own x hx).1.later hl, (h.own x hx).2⟩), h.nes, (fun d hd => ⟨(h.dat d hd).1, fun k hk => by
    obtain ⟨h1, h2, h3, h4⟩ := (h.dat d hd).2 k hk
    exact ⟨h1.later hl, h2, (Below.block hl k h1.lt).trans h3, h4⟩⟩), h.dis, (fun s hs k hk => by
    obtain ⟨h1, h2, h3, h4⟩ := h.spn s hs k hk
    exact ⟨h1.later hl, h2, (Below.block hl k h1.lt).trans h3, h4⟩), h.apt⟩
theorem Hp.drew (h : Hp w0 w H D S) : Hp w0 w.drew H D S := h.later (Later.refl w).drew
theorem Hp.blk (h : Hp w0 w H D S) (i : Nat) {b e : Nat} {cs : List Value} (hi : H[i]? = some (b, cs, e)) : Blk w b cs e := (h.own _ (List.mem_of_getElem? hi)).1
theorem Hp.ge (h : Hp w0 w H D S) (i : Nat) {b e : Nat} {cs : List Value} (hi : H[i]? = some (b, cs, e)) : w0.heap.size ≤ b := (h.own _ (List.mem_of_getElem? hi)).2
theorem Hp.ne (h : Hp w0 w H D S) (i j : Nat) {b b' e e' : Nat} {cs cs' : List Value} (hi : H[i]? = some (b, cs, e)) (hj : H[j]? = some (b', cs', e')) (hij : i ≠ j) : b ≠ b' :=
  h.nes i j _ _ hi hj hij
theorem Hp.wrote (h : Hp w0 w H D S) (i : Nat) {b e e' : Nat} {cs cs' : List Value} (hi : H[i]? = some (b, cs, e)) (hw : Wrote b w w') (hB : Blk w' b cs' e') : Hp w0 w' (H.set i (b, cs', e')) D S := by
  refine ⟨h.low.trans' (hw.below (h.ge i hi)), fun x hx => ?_, two_set (fun j y hj hji => ?_) h.nes, fun d hd => ⟨(h.dat d hd).1, fun k hk => ?_⟩, h.dis, fun s hs k hk => ?_, h.apt⟩
  · rcases mem_set' hx with rfl | ⟨j, hji, hj⟩
    · exact ⟨hB, h.ge i hi⟩
    · have h1 := h.own x (List.mem_of_getElem? hj)
      exact ⟨h1.1.same (hw.same _ (h.nes j i x _ hj hi hji)), h1.2⟩
  · exact ⟨fun e => h.nes i j _ y hi hj (Ne.symm hji) e, fun e => h.nes j i y _ hj hi hji e⟩
  · obtain ⟨h1, h2, h3, h4⟩ := (h.dat d hd).2 k hk
    have hkb : k ≠ b := fun e => h4 _ (List.mem_of_getElem? hi) e.symm
    refine ⟨h1.same (hw.same k hkb), h2, (hw.same k hkb).trans h3, fun x hx => ?_⟩
    rcases mem_set' hx with rfl | ⟨j, hji, hj⟩
    · exact fun e => hkb e.symm
    · exact h4 x (List.mem_of_getElem? hj)
  · obtain ⟨h1, h2, h3, h4, h5⟩ := h.spn s hs k hk
    have hkb : k ≠ b := fun e => h4 _ (List.mem_of_getElem? hi) e.symm
    refine ⟨h1.same (hw.same k hkb), h2, (hw.same k hkb).trans h3, fun x hx => ?_, h5⟩
    rcases mem_set' hx with rfl | ⟨j, hji, hj⟩
    · exact fun e => hkb e.symm
    · exact h4 x (List.mem_of_getElem? hj)
/-- a result of a call, in new memory, is kept -/
theorem Hp.got (h : Hp w0 w H D S) (hl : Later w w') {α : Type} {R : Rp α} {x : α} {vs : List Value} {F : List Nat} (hN : New R w x vs w' F) : Hp w0 w' H ((w', F) :: D) S := by
  have h' := h.later hl
  have hsz := h.low.size
  refine ⟨h'.low, h'.own, h'.nes, (fun d hd => ?_), two_cons (fun d hd => ⟨fun k hk hm => ?_, fun k hm hk => ?_⟩) h'.dis, (fun s hs k hk => ?_), h.apt⟩
  · rcases List.mem_cons.1 hd with rfl | hd
    · exact ⟨hN.2.1, fun k hk => ⟨hN.2.2.2 k hk, by have := hN.2.2.1 k hk; omega, rfl, fun x hx => by have := (h.own x hx).1.lt; have := hN.2.2.1 k hk; omega⟩⟩
    · exact h'.dat d hd
  · have := ((h.dat d hd).2 k hm).1.lt; have := hN.2.2.1 k hk; omega
  · have := ((h.dat d hd).2 k hm).1.lt; have := hN.2.2.1 k hk; omega
  · obtain ⟨h1, h2, h3, h4, h5⟩ := h'.spn s hs k hk
    refine ⟨h1, h2, h3, h4, fun d hd hm => ?_⟩
    rcases List.mem_cons.1 hd with rfl | hd
    · have := hN.2.2.1 k hm; have := (h.spn s hs k hk).1.lt; omega
    · exact h5 d hd hm
theorem Hp.lt (h : Hp w0 w H D S) (j : Nat) {wk : World} {F : List Nat} (hj : D[j]? = some (wk, F)) : ∀ k ∈ F, k < w.heap.size := fun k hk => ((h.dat _ (List.mem_of_getElem? hj)).2 k hk).1.lt
theorem Hp.same (h : Hp w0 w H D S) (j : Nat) {wk : World} {F : List Nat} (hj : D[j]? = some (wk, F)) : ∀ k ∈ F, w.heap[k]? = wk.heap[k]? := fun k hk => ((h.dat _ (List.mem_of_getElem? hj)).2 k hk).2.2.1
theorem Hp.data (h : Hp w0 w H D S) (j : Nat) {wk : World} {F : List Nat} (hj : D[j]? = some (wk, F)) {α : Type} {R : Rp α} {x : α} {vs : List Value} (hV : R.V wk x vs F) : R.V w x vs F := R.stab hV (h.same j hj)
theorem Hp.opn (h : Hp w0 w H D S) (j : Nat) {wk : World} {F : List Nat} (hj : D[j]? = some (wk, F)) (hV : Opn wk F) : Opn w F := hV.same (h.same j hj)
/-- data of one's own, as the result -/
theorem Hp.fin (h : Hp w0 w H D S) (j : Nat) {wk : World} {F : List Nat} (hj : D[j]? = some (wk, F)) {α : Type} {R : Rp α} {x : α} {vs : List Value} (hV : R.V wk x vs F) : New R w0 x vs w F :=
  have h1 := h.dat _ (List.mem_of_getElem? hj)
  ⟨h.data j hj hV, h1.1, fun k hk => (h1.2 k hk).2.1, fun k hk => (h1.2 k hk).1⟩
/-- all is told of now -/
theorem Hp.base (h : Hp w0 w H D S) : Hp w0 w H (D.map fun d => (w, d.2)) (S.map fun s => (w, s.2)) := by
  refine ⟨h.low, h.own, h.nes, (fun d hd => ?_), (fun i j s t hi hj hij => ?_), (fun s hs k hk => ?_), fun i j s t hi hj hij b hb => ?_⟩
  · obtain ⟨d', hd', rfl⟩ := List.mem_map.1 hd
    exact ⟨(h.dat d' hd').1, fun k hk => by
      obtain ⟨h1, h2, h3, h4⟩ := (h.dat d' hd').2 k hk
      exact ⟨h1, h2, rfl, h4⟩⟩
  · rw [List.getElem?_map] at hi hj
    obtain ⟨s', hs', rfl⟩ := Option.map_eq_some_iff.1 hi
    obtain ⟨t', ht', rfl⟩ := Option.map_eq_some_iff.1 hj
    exact h.dis i j s' t' hs' ht' hij
  · obtain ⟨s', hs', rfl⟩ := List.mem_map.1 hs
    obtain ⟨h1, h2, h3, h4, h5⟩ := h.spn s' hs' k hk
    refine ⟨h1, h2, rfl, h4, fun d hd hm => ?_⟩
    obtain ⟨d', hd', rfl⟩ := List.mem_map.1 hd
    exact h5 d' hd' hm
  · rw [List.getElem?_map] at hi hj
    obtain ⟨s', hs', rfl⟩ := Option.map_eq_some_iff.1 hi
    obtain ⟨t', ht', rfl⟩ := Option.map_eq_some_iff.1 hj
    exact h.apt i j s' t' hs' ht' hij b hb
/-- fewer are looked at -/
theorem Hp.pop {d : World × List Nat} (h : Hp w0 w H (d :: D) S) : Hp w0 w H D S :=
  ⟨h.low, h.own, h.nes, (fun d hd => h.dat d (List.mem_cons_of_mem _ hd)), two_tail h.dis, (fun s hs k hk => by
    obtain ⟨h1, h2, h3, h4, h5⟩ := h.spn s hs k hk
    exact ⟨h1, h2, h3, h4, fun d hd => h5 d (List.mem_cons_of_mem _ hd)⟩), h.apt⟩
theorem Hp.drop {x : Nat × List Value × Nat} (h : Hp w0 w (x :: H) D S) : Hp w0 w H D S :=
  ⟨h.low, (fun y hy => h.own y (List.mem_cons_of_mem _ hy)), two_tail h.nes, (fun d hd => ⟨(h.dat d hd).1, fun k hk => by
    obtain ⟨h1, h2, h3, h4⟩ := (h.dat d hd).2 k hk
    exact ⟨h1, h2, h3, fun y hy => h4 y (List.mem_cons_of_mem _ hy)⟩⟩), h.dis, (fun s hs k hk => by
    obtain ⟨h1, h2, h3, h4, h5⟩ := h.spn s hs k hk
    exact ⟨h1, h2, h3, fun y hy => h4 y (List.mem_cons_of_mem _ hy), h5⟩), h.apt⟩
/-- two data as one, told of now -/
theorem Hp.join {wa wb : World} {F G' : List Nat} (h : Hp w0 w H ((wa, G') :: (wb, F) :: D) S) : Hp w0 w H ((w, F ++ G') :: D) S := by
  have h1 := h.dat _ (List.mem_cons_self ..)
  have h2 := h.dat _ (List.mem_cons_of_mem _ (List.mem_cons_self ..))
  have t1 := two_head h.dis
  have t2 := two_head (two_tail h.dis)
  refine ⟨h.low, h.own, h.nes, (fun d hd => ?_), two_cons (fun d hd => ⟨fun k hk => ?_, fun k hk hm => ?_⟩) (two_tail (two_tail h.dis)), (fun s hs k hk => ?_), h.apt⟩
  · rcases List.mem_cons.1 hd with rfl | hd
    · refine ⟨List.nodup_append.2 ⟨h2.1, h1.1, fun a ha b hb e => ?_⟩, fun k hk => ?_⟩
      · subst e; exact (t1 _ (List.mem_cons_self ..)).1 a hb ha
      · rcases List.mem_append.1 hk with hk | hk
        · obtain ⟨g1, g2, g3, g4⟩ := h2.2 k hk; exact ⟨g1, g2, rfl, g4⟩
        · obtain ⟨g1, g2, g3, g4⟩ := h1.2 k hk; exact ⟨g1, g2, rfl, g4⟩
    · exact h.dat d (List.mem_cons_of_mem _ (List.mem_cons_of_mem _ hd))
  · rcases List.mem_append.1 hk with hk | hk
    · exact (t2 d hd).1 k hk
    · exact (t1 d (List.mem_cons_of_mem _ hd)).1 k hk
  · rcases List.mem_append.1 hm with hm | hm
    · exact (t2 d hd).2 k hk hm
    · exact (t1 d (List.mem_cons_of_mem _ hd)).2 k hk hm
  · obtain ⟨h1, h2, h3, h4, h5⟩ := h.spn s hs k hk
    refine ⟨h1, h2, h3, h4, fun d hd hm => ?_⟩
    rcases List.mem_cons.1 hd with rfl | hd
    · rcases List.mem_append.1 hm with hm | hm
      · exact h5 _ (List.mem_cons_of_mem _ (List.mem_cons_self ..)) hm
      · exact h5 _ (List.mem_cons_self ..) hm
    · exact h5 d (List.mem_cons_of_mem _ (List.mem_cons_of_mem _ hd)) hm
/-- fewer blocks of the newest data -/
theorem Hp.like {wa : World} {F G' : List Nat} (h : Hp w0 w H ((wa, F) :: D) S) (hn : G'.Nodup) (hs : ∀ k ∈ G', k ∈ F) : Hp w0 w H ((wa, G') :: D) S := by
  have h1 := h.dat _ (List.mem_cons_self ..)
  have t1 := two_head h.dis
  refine ⟨h.low, h.own, h.nes, (fun d hd => ?_), two_cons (fun d hd => ⟨fun k hk => ?_, fun k hk hm => ?_⟩) (two_tail h.dis), (fun s hs' k hk => ?_), h.apt⟩
  · rcases List.mem_cons.1 hd with rfl | hd
    · exact ⟨hn, fun k hk => h1.2 k (hs k hk)⟩
    · exact h.dat d (List.mem_cons_of_mem _ hd)
  · exact (t1 d hd).1 k (hs k hk)
  · exact (t1 d hd).2 k hk (hs k hm)
  · obtain ⟨h1, h2, h3, h4, h5⟩ := h.spn s hs' k hk
    refine ⟨h1, h2, h3, h4, fun d hd hm => ?_⟩
    rcases List.mem_cons.1 hd with rfl | hd
    · exact h5 _ (List.mem_cons_self ..) (hs k hm)
    · exact h5 d (List.mem_cons_of_mem _ hd) hm
/-- no blocks -/
theorem Hp.empty (h : Hp w0 w H D S) (wk : World) : Hp w0 w H ((wk, []) :: D) S :=
  ⟨h.low, h.own, h.nes, (fun d hd => by
    rcases List.mem_cons.1 hd with rfl | hd
    · exact ⟨List.nodup_nil, fun k hk => by cases hk⟩
    · exact h.dat d hd), two_cons (fun d hd => ⟨(fun k hk => by cases hk), fun k hk hm => by cases hm⟩) h.dis, (fun s hs k hk => by
    obtain ⟨h1, h2, h3, h4, h5⟩ := h.spn s hs k hk
    refine ⟨h1, h2, h3, h4, fun d hd hm => ?_⟩
    rcases List.mem_cons.1 hd with rfl | hd
    · cases hm
    · exact h5 d hd hm), h.apt⟩
/-- an own block becomes data -/
theorem Hp.give {b e : Nat} {cs : List Value} (h : Hp w0 w ((b, cs, e) :: H) D S) {F : List Nat} (hF : F = [] ∨ F = [b]) : Hp w0 w H ((w, F) :: D) S := by
  have h' := h.drop
  rcases hF with rfl | rfl
  · exact h'.empty w
  have hb := h.own (b, cs, e) (List.mem_cons_self ..)
  have t1 := two_head h.nes
  refine ⟨h'.low, h'.own, h'.nes, (fun d hd => ?_), two_cons (fun d hd => ⟨fun k hk hm => ?_, fun k hm hk => ?_⟩) h'.dis, (fun s hs k hk => ?_), h'.apt⟩
  · rcases List.mem_cons.1 hd with rfl | hd
    · refine ⟨by simp, fun k hk => ?_⟩
      simp only [List.mem_singleton] at hk
      subst hk
      exact ⟨⟨_, _, hb.1⟩, hb.2, rfl, fun x hx => (t1 x hx).2⟩
    · exact h'.dat d hd
  · simp only [List.mem_singleton] at hk
    subst hk
    exact ((h.dat d hd).2 k hm).2.2.2 _ (List.mem_cons_self ..) rfl
  · simp only [List.mem_singleton] at hk
    subst hk
    exact ((h.dat d hd).2 k hm).2.2.2 _ (List.mem_cons_self ..) rfl
  · obtain ⟨h1, h2, h3, h4, h5⟩ := h'.spn s hs k hk
    refine ⟨h1, h2, h3, h4, fun d hd hm => ?_⟩
    rcases List.mem_cons.1 hd with rfl | hd
    · simp only [List.mem_singleton] at hm
      exact (h.spn s hs k hk).2.2.2.1 _ (List.mem_cons_self ..) hm.symm
    · exact h5 d hd hm
/-- a slice without a block of its own, to which may be appended -/
theorem Hp.open (h : Hp w0 w H D S) {v : Value} (hv : G.own v = none) : Hp w0 w H D ((w, v) :: S) := by
  refine ⟨h.low, h.own, h.nes, h.dat, h.dis, (fun s hs k hk => ?_), two_cons (fun s hs => ⟨fun b hb => ?_, fun b hb => ?_⟩) h.apt⟩
  · rcases List.mem_cons.1 hs with rfl | hs
    · rw [hv] at hk; cases hk
    · exact h.spn s hs k hk
  · rw [hv] at hb; cases hb
  · rw [hv]; simp
/-- an own block, to which may be appended -/
theorem Hp.openB {b e : Nat} {cs : List Value} (h : Hp w0 w ((b, cs, e) :: H) D S) {v : Value} (hv : ∀ k, G.own v = some k → k = b) : Hp w0 w H D ((w, v) :: S) := by
  have hb := h.own (b, cs, e) (List.mem_cons_self ..)
  have h' := h.drop
  refine ⟨h'.low, h'.own, h'.nes, h'.dat, h'.dis, (fun s hs k hk => ?_), two_cons (fun s hs => ⟨fun k hk hm => ?_, fun k hm hk => ?_⟩) h'.apt⟩
  · rcases List.mem_cons.1 hs with rfl | hs
    · have := hv k hk
      subst this
      exact ⟨⟨_, _, hb.1⟩, hb.2, rfl, fun x hx => (two_head h.nes x hx).2, fun d hd hm => ((h.dat d hd).2 k hm).2.2.2 _ (List.mem_cons_self ..) rfl⟩
    · exact h'.spn s hs k hk
  · have := hv k hk
    subst this
    exact (h.spn s hs k hm).2.2.2.1 _ (List.mem_cons_self ..) rfl
  · have := hv k hk
    subst this
    exact (h.spn s hs k hm).2.2.2.1 _ (List.mem_cons_self ..) rfl
/-- an append -/
theorem Hp.grew (h : Hp w0 w H D S) (i : Nat) {wk : World} {v v' : Value} (hi : S[i]? = some (wk, v)) (hg : Grew w w' v v') (hv : ∀ b, G.own v' = some b → Wb w' b) : Hp w0 w' H D (S.set i (w', v')) := by
  have hs0 := h.spn _ (List.mem_of_getElem? hi)
  have hsz := h.low.size
  have own' : ∀ b, G.own v' = some b → (G.own v = some b ∨ w.heap.size ≤ b) := fun b hb => by
    rcases hg.own with e | ⟨b', e, hb'⟩
    · exact .inl (by rw [← e]; exact hb)
    · rw [e] at hb; simp only [Option.some.injEq] at hb; subst hb; exact .inr hb'
  refine ⟨h.low.trans' (hg.below hsz fun b hb => (hs0 b hb).2.1), fun x hx => ?_, h.nes, fun d hd => ⟨(h.dat d hd).1, fun k hk => ?_⟩, h.dis, fun s hs k hk => ?_, two_set (fun j y hj hji => ⟨fun b hb hy => ?_, fun b hb hy => ?_⟩) h.apt⟩
  · obtain ⟨h1, h2⟩ := h.own x hx
    exact ⟨h1.same (hg.same _ h1.lt fun e => (hs0 x.1 e.symm).2.2.2.1 x hx rfl), h2⟩
  · obtain ⟨h1, h2, h3, h4⟩ := (h.dat d hd).2 k hk
    have e := hg.same k h1.lt fun e => (hs0 k e.symm).2.2.2.2 d hd hk
    exact ⟨h1.same e, h2, e.trans h3, h4⟩
  · rcases mem_set' hs with rfl | ⟨j, hji, hj⟩
    · refine ⟨hv k hk, ?_, rfl, fun x hx => ?_, fun d hd hm => ?_⟩
      · rcases own' k hk with e | e
        · exact (hs0 k e).2.1
        · omega
      · rcases own' k hk with e | e
        · exact (hs0 k e).2.2.2.1 x hx
        · have := (h.own x hx).1.lt; omega
      · rcases own' k hk with e | e
        · exact (hs0 k e).2.2.2.2 d hd hm
        · have := ((h.dat d hd).2 k hm).1.lt; omega
    · obtain ⟨h1, h2, h3, h4⟩ := h.spn s (List.mem_of_getElem? hj) k hk
      have e := hg.same k h1.lt fun e => h.apt j i s _ hj hi hji k hk e.symm
      exact ⟨h1.same e, h2, e.trans h3, h4⟩
  · rcases own' b hb with e | e
    · exact h.apt i j _ y hi hj (Ne.symm hji) b e hy
    · have := (h.spn y (List.mem_of_getElem? hj) b hy).1.lt; omega
  · rcases own' b hy with e | e
    · exact h.apt j i y _ hj hi hji b hb e
    · have := (h.spn y (List.mem_of_getElem? hj) b hb).1.lt; omega
/-- a slice that is done with becomes data -/
theorem Hp.close {wk : World} {v : Value} (h : Hp w0 w H D ((wk, v) :: S)) {F : List Nat} (hF : F = [] ∨ ∃ b, G.own v = some b ∧ F = [b]) : Hp w0 w H ((w, F) :: D) S := by
  have h' : Hp w0 w H D S := ⟨h.low, h.own, h.nes, h.dat, h.dis, (fun s hs => h.spn s (List.mem_cons_of_mem _ hs)), two_tail h.apt⟩
  rcases hF with rfl | ⟨b, hb, rfl⟩
  · exact h'.empty w
  obtain ⟨h1, h2, h3, h4, h5⟩ := h.spn _ (List.mem_cons_self ..) b hb
  refine ⟨h.low, h.own, h.nes, (fun d hd => ?_), two_cons (fun d hd => ⟨fun k hk hm => ?_, fun k hm hk => ?_⟩) h.dis, (fun s hs k hk => ?_), h'.apt⟩
  · rcases List.mem_cons.1 hd with rfl | hd
    · refine ⟨by simp, fun k hk => ?_⟩
      simp only [List.mem_singleton] at hk
      subst hk
      exact ⟨h1, h2, rfl, h4⟩
    · exact h.dat d hd
  · simp only [List.mem_singleton] at hk
    subst hk
    exact h5 d hd hm
  · simp only [List.mem_singleton] at hk
    subst hk
    exact h5 d hd hm
  · obtain ⟨g1, g2, g3, g4, g5⟩ := h'.spn s hs k hk
    refine ⟨g1, g2, g3, g4, fun d hd hm => ?_⟩
    rcases List.mem_cons.1 hd with rfl | hd
    · simp only [List.mem_singleton] at hm
      subst hm
      exact (two_head h.apt s hs).1 k hb hk
    · exact g5 d hd hm
/-- data of one's own are written -/
theorem Hp.mark (h : Hp w0 w H D S) (i : Nat) {wk : World} {F : List Nat} (hi : D[i]? = some (wk, F)) (hm : Marked F w w') (ho : Opn w' F) : Hp w0 w' H (D.set i (w', F)) S := by
  have hd0 := h.dat _ (List.mem_of_getElem? hi)
  refine ⟨h.low.trans' (hm.below fun k hk => (hd0.2 k hk).2.1), fun x hx => ?_, h.nes, fun d hd => ?_, two_set (fun j y hj hji => ⟨?_, ?_⟩) h.dis, fun s hs k hk => ?_, h.apt⟩
  · obtain ⟨h1, h2⟩ := h.own x hx
    exact ⟨h1.same (hm.same _ fun hf => (hd0.2 _ hf).2.2.2 x hx rfl), h2⟩
  · rcases mem_set' hd with rfl | ⟨j, hji, hj⟩
    · exact ⟨hd0.1, fun k hk => ⟨ho k hk, (hd0.2 k hk).2.1, rfl, (hd0.2 k hk).2.2.2⟩⟩
    · have h1 := h.dat d (List.mem_of_getElem? hj)
      refine ⟨h1.1, fun k hk => ?_⟩
      obtain ⟨g1, g2, g3, g4⟩ := h1.2 k hk
      have e := hm.same k (h.dis j i d _ hj hi hji k hk)
      exact ⟨g1.same e, g2, e.trans g3, g4⟩
  · exact h.dis i j (wk, F) y hi hj (Ne.symm hji)
  · exact h.dis j i y (wk, F) hj hi hji
  · obtain ⟨h1, h2, h3, h4, h5⟩ := h.spn s hs k hk
    have e := hm.same k (h5 _ (List.mem_of_getElem? hi))
    refine ⟨h1.same e, h2, e.trans h3, h4, fun d hd => ?_⟩
    rcases mem_set' hd with rfl | ⟨j, hji, hj⟩
    · exact h5 (wk, F) (List.mem_of_getElem? hi)
    · exact h5 d (List.mem_of_getElem? hj)
theorem Hp.acc (h : Hp w0 w H D S) (i : Nat) {wk : World} {v : Value} (hi : S[i]? = some (wk, v)) (j : Nat) {F : List Nat} (hj : D[j]? = some (wk, F)) {α : Type} {R : Rp α} {e : Nat} {l : List α} (hA : Acc R wk e v l F) : Acc R w e v l F :=
  hA.same (fun b hb => (h.spn _ (List.mem_of_getElem? hi) b hb).2.2.1) (h.same j hj)
/-- without blocks below -/
theorem Hp.acc0 (h : Hp w0 w H D S) (i : Nat) {wk : World} {v : Value} (hi : S[i]? = some (wk, v)) {α : Type} {R : Rp α} {e : Nat} {l : List α} (hA : Acc R wk e v l []) : Acc R w e v l [] :=
  hA.same (fun b hb => (h.spn _ (List.mem_of_getElem? hi) b hb).2.2.1) (fun k hk => by cases hk)
theorem Hp.off (h : Hp w0 w H D S) (i : Nat) {wk : World} {v : Value} (hi : S[i]? = some (wk, v)) (j : Nat) {wj : World} {F : List Nat} (hj : D[j]? = some (wj, F)) : ∀ k ∈ F, G.own v ≠ some k := fun k hk hv =>
  (h.spn _ (List.mem_of_getElem? hi) k hv).2.2.2.2 _ (List.mem_of_getElem? hj) hk
theorem Hp.buf (h : Hp w0 w H D S) (i : Nat) {wk : World} {v : Value} (hi : S[i]? = some (wk, v)) {e sz m : Nat} {cs : List Value} (hB : Buf wk e sz v m cs) : Buf w e sz v m cs :=
  hB.same fun b hb => (h.spn _ (List.mem_of_getElem? hi) b hb).2.2.1
/-- a list is done with -/
theorem Hp.shut {wk wj : World} {v : Value} {F : List Nat} (h : Hp w0 w H ((wj, F) :: D) ((wk, v) :: S)) {α : Type} {R : Rp α} {e : Nat} {l : List α} (hA : Acc R w e v l F) : ∃ F', (listR R).V w l [v] F' ∧ Hp w0 w H ((w, F') :: D) S := by
  obtain ⟨F', hV, hF', _⟩ := hA.list
  refine ⟨F', hV, ?_⟩
  have hc := h.close (F := if F' = F then [] else F'.take 1) (by
    split
    · exact .inl rfl
    · rename_i hne
      rcases hF' with rfl | ⟨b, hb, rfl⟩
      · exact absurd rfl hne
      · exact .inr ⟨b, hb, rfl⟩)
  have hj := hc.join
  refine hj.like ?_ ?_
  · rcases hF' with rfl | ⟨b, hb, rfl⟩
    · exact (h.dat _ (List.mem_cons_self ..)).1
    · exact List.nodup_cons.2 ⟨fun hm => (h.spn _ (List.mem_cons_self ..) b hb).2.2.2.2 _ (List.mem_cons_self ..) hm, (h.dat _ (List.mem_cons_self ..)).1⟩
  · intro k hk
    rcases hF' with rfl | ⟨b, hb, rfl⟩
    · exact List.mem_append_left _ hk
    · have hne : ¬ (b :: F = F) := fun e => by simpa using congrArg List.length e
      rw [if_neg hne]
      rcases List.mem_cons.1 hk with rfl | hk
      · exact List.mem_append_right _ (by simp)
      · exact List.mem_append_left _ hk
end
theorem nodup_append_lt {F G : List Nat} {m : Nat} (hF : F.Nodup) (hG : G.Nodup) (h1 : ∀ k ∈ F, k < m) (h2 : ∀ k ∈ G, m ≤ k) : (F ++ G).Nodup :=
  List.nodup_append.2 ⟨hF, hG, fun a ha b hb e => by have := h1 a ha; have := h2 b hb; omega⟩
theorem Opn.append {w : World} {F G : List Nat} (hF : Opn w F) (hG : Opn w G) : Opn w (F ++ G) := fun k hk => (List.mem_append.1 hk).elim (hF k) (hG k)
theorem all_append {F G : List Nat} {p : Nat → Prop} (hF : ∀ k ∈ F, p k) (hG : ∀ k ∈ G, p k) : ∀ k ∈ F ++ G, p k := fun k hk => (List.mem_append.1 hk).elim (hF k) (hG k)
/-- filling a list from its front -/
theorem fill_set {α β : Type} (f : α → β) (xs : List α) (z : β) (k : Nat) (hk : k < xs.length) :
    ((xs.take k).map f ++ List.replicate (xs.length - k) z).set k (f xs[k]) = (xs.take (k + 1)).map f ++ List.replicate (xs.length - (k + 1)) z := by
  have h1 : xs.length - k = (xs.length - (k + 1)) + 1 := by omega
  rw [h1, List.replicate_succ, List.set_append_right _ _ (by simp; omega), List.take_succ_eq_append_getElem hk]
  have h2 : k - (List.map f (List.take k xs)).length = 0 := by simp; omega
  rw [h2]; simp only [List.set_cons_zero, List.map_append, List.map_cons, List.map_nil, List.append_assoc, List.cons_append, List.nil_append]
end Go.Proofs.Ytcalkmlaodjpaaa.G
