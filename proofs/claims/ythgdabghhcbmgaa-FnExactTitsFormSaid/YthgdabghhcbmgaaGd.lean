/- How data lie in memory: a number, a list, a pair; what is read for them; that they stay while other memory changes. Over any program; nothing is claimed of the given one. -/
import Derived.Test.YthgdabghhcbmgaaGc
namespace Go.Proofs.Ythgdabghhcbmgaa.G
open Go.RowKit
set_option linter.unusedVariables false

/-- a block that is there -/
def There (w : World) (b : Nat) : Prop := ∃ cs e f, w.heap[b]? = some (.cells cs e f)
theorem There.lt {w : World} {b : Nat} (h : There w b) : b < w.heap.size := by
  obtain ⟨cs, e, f, h⟩ := h; exact (Array.getElem?_eq_some_iff.1 h).1
theorem There.same {w w' : World} {b : Nat} (h : There w b) (hs : w'.heap[b]? = w.heap[b]?) : There w' b := by
  obtain ⟨cs, e, f, h⟩ := h; exact ⟨cs, e, f, hs.trans h⟩
theorem Blk.there {w : World} {b : Nat} {cs : List Value} {e : Nat} (h : Blk w b cs e) : There w b := ⟨_, _, _, h⟩
theorem Cells.same {w w' : World} {b o : Nat} {vs : List Value} (h : Cells w b o vs) (hs : w'.heap[b]? = w.heap[b]?) : Cells w' b o vs := fun i v hv =>
  (World.cell?_of_block (w := w) (a := ⟨b, o + i, none⟩) hs).trans (h i v hv)
theorem Cells.there {w : World} {b o : Nat} {vs : List Value} (h : Cells w b o vs) (h0 : vs ≠ []) : There w b := by
  cases vs with
  | nil => exact absurd rfl h0
  | cons v vs =>
    have := h 0 v rfl
    unfold World.cell? at this
    split at this
    · rename_i cs e f hb; exact ⟨cs, e, f, hb⟩
    · cases this
theorem Cells.drop {w : World} {b o : Nat} {vs us : List Value} (h : Cells w b o (vs ++ us)) : Cells w b (o + vs.length) us := fun i v hv => by
  have := h (vs.length + i) v (by rw [List.getElem?_append_right (by omega)]; simpa using hv)
  rwa [← Nat.add_assoc] at this
theorem Cells.take {w : World} {b o : Nat} {vs us : List Value} (h : Cells w b o (vs ++ us)) : Cells w b o vs := fun i v hv =>
  h i v (by rw [List.getElem?_append_left (List.getElem?_eq_some_iff.1 hv).1]; exact hv)

/-- V w x vs F: in the world w the cells vs hold x; F: the blocks that are read for it, each as often as it is reached -/
structure Rp (α : Type) where
  nc : Nat
  V : World → α → List Value → List Nat → Prop
  len : ∀ {w x vs F}, V w x vs F → vs.length = nc
  one : ∀ {w x vs F}, V w x vs F → oneAll vs
  inb : ∀ {w x vs F}, V w x vs F → ∀ k ∈ F, There w k
  stab : ∀ {w w' x vs F}, V w x vs F → (∀ k ∈ F, w'.heap[k]? = w.heap[k]?) → V w' x vs F

section
variable {α β : Type}

theorem Rp.lt (R : Rp α) {w : World} {x : α} {vs : List Value} {F : List Nat} (h : R.V w x vs F) : ∀ k ∈ F, k < w.heap.size := fun k hk => (R.inb h k hk).lt
theorem Rp.later (R : Rp α) {w w' : World} {x : α} {vs : List Value} {F : List Nat} (h : R.V w x vs F) (hl : Later w w') : R.V w' x vs F :=
  R.stab h fun k hk => Below.block hl k (R.lt h k hk)
theorem Rp.below (R : Rp α) {w w' : World} {x : α} {vs : List Value} {F : List Nat} {B : Nat} (h : R.V w x vs F) (hB : ∀ k ∈ F, k < B) (hl : Below B w w') : R.V w' x vs F :=
  R.stab h fun k hk => Below.block hl k (hB k hk)
theorem Rp.wrote (R : Rp α) {w w' : World} {x : α} {vs : List Value} {F : List Nat} {b : Nat} (h : R.V w x vs F) (hb : b ∉ F) (hl : Wrote b w w') : R.V w' x vs F :=
  R.stab h fun k hk => hl.same k (fun e => hb (e ▸ hk))
theorem Rp.grew (R : Rp α) {w w' : World} {x : α} {vs : List Value} {F : List Nat} {v v' : Value} (h : R.V w x vs F) (hb : ∀ k ∈ F, own v ≠ some k) (hl : Grew w w' v v') : R.V w' x vs F :=
  R.stab h fun k hk => hl.same k (R.lt h k hk) (fun e => hb k hk e.symm)

/-- one number of type int -/
def intR : Rp Int where
  nc := 1
  V := fun w n vs F => vs = [.int .i64 n] ∧ F = [] ∧ In64 n
  len := fun h => by rw [h.1]; rfl
  one := fun h => by rw [h.1]; intro u hu; simp at hu; subst hu; rfl
  inb := fun h k hk => by rw [h.2.1] at hk; cases hk
  stab := fun h _ => h
def boolR : Rp Bool where
  nc := 1
  V := fun w b vs F => vs = [.bool b] ∧ F = []
  len := fun h => by rw [h.1]; rfl
  one := fun h => by rw [h.1]; intro u hu; simp at hu; subst hu; rfl
  inb := fun h k hk => by rw [h.2] at hk; cases hk
  stab := fun h _ => h
/-- two things beside each other -/
def seqR (R : Rp α) (S : Rp β) : Rp (α × β) where
  nc := R.nc + S.nc
  V := fun w x vs F => ∃ v1 v2 F1 F2, R.V w x.1 v1 F1 ∧ S.V w x.2 v2 F2 ∧ vs = v1 ++ v2 ∧ F = F1 ++ F2
  len := fun ⟨v1, v2, F1, F2, h1, h2, e1, e2⟩ => by rw [e1, List.length_append, R.len h1, S.len h2]
  one := fun ⟨v1, v2, F1, F2, h1, h2, e1, e2⟩ => by
    rw [e1]; intro u hu
    rcases List.mem_append.1 hu with h | h
    · exact R.one h1 u h
    · exact S.one h2 u h
  inb := fun ⟨v1, v2, F1, F2, h1, h2, e1, e2⟩ k hk => by
    rw [e2] at hk
    rcases List.mem_append.1 hk with h | h
    · exact R.inb h1 k h
    · exact S.inb h2 k h
  stab := fun ⟨v1, v2, F1, F2, h1, h2, e1, e2⟩ hs => ⟨v1, v2, F1, F2, R.stab h1 (fun k hk => hs k (by rw [e2]; exact List.mem_append_left _ hk)),
    S.stab h2 (fun k hk => hs k (by rw [e2]; exact List.mem_append_right _ hk)), e1, e2⟩
/-- read through a function -/
def mapR (g : β → α) (R : Rp α) : Rp β where
  nc := R.nc
  V := fun w x vs F => R.V w (g x) vs F
  len := R.len
  one := R.one
  inb := R.inb
  stab := R.stab

/-- what a slice of l holds, from an address on -/
def Elems (R : Rp α) (w : World) (b o : Nat) (l : List α) (Fs : List (List Nat)) : Prop :=
  Fs.length = l.length ∧ ∀ k x, l[k]? = some x → ∃ vs, Cells w b (o + k * R.nc) vs ∧ R.V w x vs (Fs.getD k [])
def LV (R : Rp α) (w : World) (p : Option Addr) (l : List α) (F : List Nat) : Prop :=
  (l = [] ∧ F = []) ∨ ∃ b o Fs, p = some ⟨b, o, none⟩ ∧ F = b :: Fs.flatten ∧ There w b ∧ Elems R w b o l Fs

theorem mem_getD_flatten {Fs : List (List Nat)} {k j : Nat} (h : j ∈ Fs.getD k []) : j ∈ Fs.flatten := by
  rw [List.getD_eq_getElem?_getD] at h
  cases hk : Fs[k]? with
  | none => rw [hk] at h; cases h
  | some L => rw [hk] at h; exact List.mem_flatten.2 ⟨L, List.mem_of_getElem? hk, h⟩

/-- a list, as a slice -/
def listR (R : Rp α) : Rp (List α) where
  nc := 1
  V := fun w l vs F => ∃ p c, vs = [.slice p l.length c] ∧ l.length ≤ c ∧ c ≤ maxLen ∧ LV R w p l F
  len := fun ⟨p, c, h, _⟩ => by rw [h]; rfl
  one := fun ⟨p, c, h, _⟩ => by rw [h]; intro u hu; simp at hu; subst hu; rfl
  inb := fun ⟨p, c, h, _, _, hl⟩ k hk => by
    rcases hl with ⟨_, rfl⟩ | ⟨b, o, Fs, rfl, rfl, ht, hlen, he⟩
    · cases hk
    · rcases List.mem_cons.1 hk with rfl | hk
      · exact ht
      · obtain ⟨L, hL, hkL⟩ := List.mem_flatten.1 hk
        obtain ⟨j, hj, rfl⟩ := List.getElem_of_mem hL
        have hx := he j _ (List.getElem?_eq_getElem (hlen ▸ hj))
        obtain ⟨vs, _, hv⟩ := hx
        exact R.inb hv k (by simpa [List.getD_eq_getElem?_getD, hj] using hkL)
  stab := fun ⟨p, c, h, h1, h2, hl⟩ hs => by
    refine ⟨p, c, h, h1, h2, ?_⟩
    rcases hl with hl | ⟨b, o, Fs, rfl, rfl, ht, hlen, he⟩
    · exact .inl hl
    · refine .inr ⟨b, o, Fs, rfl, rfl, ht.same (hs b (List.mem_cons_self ..)), hlen, fun k x hx => ?_⟩
      obtain ⟨vs, hc, hv⟩ := he k x hx
      exact ⟨vs, hc.same (hs b (List.mem_cons_self ..)), R.stab hv fun j hj => hs j (List.mem_cons_of_mem _ (mem_getD_flatten hj))⟩

theorem listR.open {R : Rp α} {w : World} {l : List α} {vs : List Value} {F : List Nat} (h : (listR R).V w l vs F) : ∃ p c, vs = [.slice p l.length c] ∧ l.length ≤ c ∧ c ≤ maxLen ∧ LV R w p l F := h

theorem listR.open1 {R : Rp α} {w : World} {l : List α} {v : Value} {F : List Nat} (h : (listR R).V w l [v] F) : ∃ p c, v = .slice p l.length c ∧ l.length ≤ c ∧ c ≤ 9223372036854775807 ∧ LV R w p l F := by
  obtain ⟨p, c, h1, h2, h3, h4⟩ := h
  exact ⟨p, c, by simpa using h1, h2, h3, h4⟩
/-- the element at k -/
theorem LV.at {R : Rp α} {w : World} {p : Option Addr} {l : List α} {F : List Nat} (h : LV R w p l F) {k : Nat} (hk : k < l.length) :
    ∃ b o vs Fk, p = some ⟨b, o, none⟩ ∧ Cells w b (o + k * R.nc) vs ∧ R.V w l[k] vs Fk ∧ b ∈ F ∧ ∀ j ∈ Fk, j ∈ F := by
  rcases h with ⟨rfl, _⟩ | ⟨b, o, Fs, rfl, rfl, ht, hlen, he⟩
  · simp at hk
  · obtain ⟨vs, hc, hv⟩ := he k l[k] (List.getElem?_eq_getElem hk)
    exact ⟨b, o, vs, _, rfl, hc, hv, List.mem_cons_self .., fun j hj => List.mem_cons_of_mem _ (mem_getD_flatten hj)⟩

/-! ### lists of numbers -/
abbrev intsR : Rp (List Int) := listR intR
theorem LV.int {w : World} {p : Option Addr} {l : List Int} {F : List Nat} (h : LV intR w p l F) {k : Nat} (hk : k < l.length) :
    ∃ b o, p = some ⟨b, o, none⟩ ∧ w.cell? ⟨b, o + k, none⟩ = some (.int .i64 l[k]) ∧ In64 l[k] ∧ b ∈ F := by
  obtain ⟨b, o, vs, Fk, hp, hc, ⟨rfl, _, hi⟩, hb, _⟩ := h.at hk
  have := hc 0 _ rfl
  exact ⟨b, o, hp, by simpa [intR] using this, hi, hb⟩
/-- elements that are slices -/
theorem LV.slc {R : Rp α} {w : World} {p : Option Addr} {l : List (List α)} {F : List Nat} (h : LV (listR R) w p l F) {k : Nat} (hk : k < l.length) :
    ∃ b o v Fk, p = some ⟨b, o, none⟩ ∧ w.cell? ⟨b, o + k, none⟩ = some v ∧ (listR R).V w l[k] [v] Fk ∧ b ∈ F ∧ ∀ j ∈ Fk, j ∈ F := by
  obtain ⟨b, o, vs, Fk, hp, hc, hv, hb, hF⟩ := h.at hk
  obtain ⟨q, c, rfl, h2⟩ := id hv
  have := hc 0 _ rfl
  exact ⟨b, o, _, Fk, hp, by simpa [listR] using this, hv, hb, hF⟩
theorem LV.intD {w : World} {p : Option Addr} {l : List Int} {F : List Nat} (h : LV intR w p l F) {k : Nat} (hk : k < l.length) :
    ∃ b o, p = some ⟨b, o, none⟩ ∧ w.cell? ⟨b, o + k, none⟩ = some (.int .i64 (l.getD k 0)) ∧ In64 (l.getD k 0) ∧ b ∈ F := by
  have e : l.getD k 0 = l[k] := by simp [hk]
  rw [e]; exact h.int hk
end

/-! ### a list that is being made: v the slice, l what it holds, F the blocks below -/
section
variable {α : Type}
/-- values, cells and blocks of a list's elements, side by side -/
def Each (R : Rp α) (w : World) : List α → List (List Value) → List (List Nat) → Prop
  | [], [], [] => True
  | x :: l, vs :: vss, F :: Fs => R.V w x vs F ∧ Each R w l vss Fs
  | _, _, _ => False
theorem Each.stab {R : Rp α} {w w' : World} : ∀ {l : List α} {vss : List (List Value)} {Fs : List (List Nat)}, Each R w l vss Fs → (∀ k ∈ Fs.flatten, w'.heap[k]? = w.heap[k]?) → Each R w' l vss Fs
  | [], [], [], _, _ => trivial
  | x :: l, vs :: vss, F :: Fs, ⟨h1, h2⟩, hs => ⟨R.stab h1 fun k hk => hs k (by simp [hk]), Each.stab h2 fun k hk => hs k (by simp only [List.flatten_cons, List.mem_append]; exact .inr hk)⟩
theorem Each.push {R : Rp α} {w : World} {x : α} {vs : List Value} {F : List Nat} (hx : R.V w x vs F) : ∀ {l : List α} {vss : List (List Value)} {Fs : List (List Nat)}, Each R w l vss Fs → Each R w (l ++ [x]) (vss ++ [vs]) (Fs ++ [F])
  | [], [], [], _ => ⟨hx, trivial⟩
  | y :: l, ws :: vss, G :: Fs, ⟨h1, h2⟩ => ⟨h1, Each.push hx h2⟩
theorem Each.lens {R : Rp α} {w : World} : ∀ {l : List α} {vss : List (List Value)} {Fs : List (List Nat)}, Each R w l vss Fs → vss.length = l.length ∧ Fs.length = l.length ∧ vss.flatten.length = l.length * R.nc
  | [], [], [], _ => ⟨rfl, rfl, by simp⟩
  | x :: l, vs :: vss, F :: Fs, ⟨h1, h2⟩ => by
    obtain ⟨a, b, c⟩ := Each.lens h2
    refine ⟨by simp [a], by simp [b], ?_⟩
    simp only [List.flatten_cons, List.length_append, List.length_cons, c, R.len h1, Nat.add_mul, Nat.one_mul]
    omega
theorem Each.inb {R : Rp α} {w : World} : ∀ {l : List α} {vss : List (List Value)} {Fs : List (List Nat)}, Each R w l vss Fs → ∀ k ∈ Fs.flatten, There w k
  | [], [], [], _, k, hk => by cases hk
  | x :: l, vs :: vss, F :: Fs, ⟨h1, h2⟩, k, hk => by
    rw [List.flatten_cons] at hk
    rcases List.mem_append.1 hk with h | h
    · exact R.inb h1 k h
    · exact Each.inb h2 k h
theorem Each.one {R : Rp α} {w : World} : ∀ {l : List α} {vss : List (List Value)} {Fs : List (List Nat)}, Each R w l vss Fs → oneAll vss.flatten
  | [], [], [], _ => fun u hu => by cases hu
  | x :: l, vs :: vss, F :: Fs, ⟨h1, h2⟩ => fun u hu => by
    rw [List.flatten_cons] at hu
    rcases List.mem_append.1 hu with h | h
    · exact R.one h1 u h
    · exact Each.one h2 u h
theorem Each.elems {R : Rp α} {w : World} {b : Nat} : ∀ {l : List α} {vss : List (List Value)} {Fs : List (List Nat)} {o : Nat}, Each R w l vss Fs → Cells w b o vss.flatten → Elems R w b o l Fs
  | [], [], [], o, _, _ => ⟨rfl, fun k x hx => by cases hx⟩
  | x :: l, vs :: vss, F :: Fs, o, ⟨h1, h2⟩, hc => by
    have hc' : Cells w b o (vs ++ vss.flatten) := by simpa using hc
    have ih := Each.elems h2 hc'.drop
    refine ⟨by simp [ih.1], fun k y hy => ?_⟩
    cases k with
    | zero =>
      simp only [List.getElem?_cons_zero, Option.some.injEq] at hy
      subst hy
      exact ⟨vs, by simpa using hc'.take, h1⟩
    | succ k =>
      obtain ⟨us, h3, h4⟩ := ih.2 k y (by simpa using hy)
      refine ⟨us, ?_, h4⟩
      rw [R.len h1] at h3
      have e : o + R.nc + k * R.nc = o + (k + 1) * R.nc := by rw [Nat.add_mul]; omega
      rwa [e] at h3

/-- the slice v holds l; below lie the blocks F, of which v's own is none -/
def Acc (R : Rp α) (w : World) (e : Nat) (v : Value) (l : List α) (F : List Nat) : Prop :=
  ∃ vss Fs, Buf w e R.nc v l.length vss.flatten ∧ F = Fs.flatten ∧ Each R w l vss Fs ∧ ∀ k ∈ F, own v ≠ some k

theorem Acc.nil (R : Rp α) (w : World) (e : Nat) : Acc R w e (.slice none 0 0) [] [] := ⟨[], [], Buf.nil w e R.nc, rfl, trivial, fun k hk => by cases hk⟩
theorem Acc.buf {R : Rp α} {w : World} {e : Nat} {v : Value} {l : List α} {F : List Nat} (h : Acc R w e v l F) : ∃ cs, Buf w e R.nc v l.length cs := by
  obtain ⟨vss, Fs, h1, _⟩ := h; exact ⟨_, h1⟩
theorem Acc.own_lt {R : Rp α} {w : World} {e : Nat} {v : Value} {l : List α} {F : List Nat} (h : Acc R w e v l F) : ∀ b, own v = some b → b < w.heap.size := by
  obtain ⟨vss, Fs, h1, _⟩ := h; exact h1.own_lt
theorem Acc.lt {R : Rp α} {w : World} {e : Nat} {v : Value} {l : List α} {F : List Nat} (h : Acc R w e v l F) : ∀ k ∈ F, k < w.heap.size := by
  obtain ⟨vss, Fs, h1, rfl, h2, _⟩ := h; exact fun k hk => (h2.inb k hk).lt
theorem Acc.same {R : Rp α} {w w' : World} {e : Nat} {v : Value} {l : List α} {F : List Nat} (h : Acc R w e v l F) (ho : ∀ b, own v = some b → w'.heap[b]? = w.heap[b]?) (hs : ∀ k ∈ F, w'.heap[k]? = w.heap[k]?) : Acc R w' e v l F := by
  obtain ⟨vss, Fs, h1, rfl, h2, h3⟩ := h
  exact ⟨vss, Fs, h1.same ho, rfl, h2.stab hs, h3⟩
theorem Acc.later {R : Rp α} {w w' : World} {e : Nat} {v : Value} {l : List α} {F : List Nat} (h : Acc R w e v l F) (hl : Later w w') : Acc R w' e v l F :=
  h.same (fun b hb => Below.block hl b (h.own_lt b hb)) (fun k hk => Below.block hl k (h.lt k hk))
theorem Acc.wrote {R : Rp α} {w w' : World} {e : Nat} {v : Value} {l : List α} {F : List Nat} {b : Nat} (h : Acc R w e v l F) (hl : Wrote b w w') (ho : own v ≠ some b) (hF : b ∉ F) : Acc R w' e v l F :=
  h.same (fun b' hb => hl.same b' (fun e => ho (e ▸ hb))) (fun k hk => hl.same k (fun e => hF (e ▸ hk)))
/-- a buffer of cells that hold numbers -/
theorem Acc.ofInts {w : World} {e : Nat} {v : Value} {l : List Int} (h : Buf w e 1 v l.length (l.map (.int .i64))) (hi : ∀ x ∈ l, In64 x) : Acc intR w e v l [] := by
  refine ⟨l.map (fun x => [.int .i64 x]), l.map (fun _ => []), ?_, ?_, ?_, fun k hk => by cases hk⟩
  · have : (l.map (fun x => [Value.int .i64 x])).flatten = l.map (.int .i64) := by
      clear h hi; induction l with
      | nil => rfl
      | cons x l ih => simp [ih]
    rw [this]; exact h
  · clear h hi; induction l with
    | nil => rfl
    | cons x l ih => simp
  · clear h; induction l with
    | nil => trivial
    | cons x l ih => exact ⟨⟨rfl, rfl, hi x (by simp)⟩, ih fun y hy => hi y (by simp [hy])⟩

/-- the list as it is handed on -/
theorem Acc.list {R : Rp α} {w : World} {e : Nat} {v : Value} {l : List α} {F : List Nat} (h : Acc R w e v l F) :
    ∃ F', (listR R).V w l [v] F' ∧ (F' = F ∨ ∃ b, own v = some b ∧ F' = b :: F) ∧ (∀ b, own v = some b → ∃ cur, Blk w b cur e) := by
  obtain ⟨vss, Fs, h1, rfl, h2, h3⟩ := h
  rcases h1.2 with ⟨h0, p, rfl⟩ | ⟨b, c, cur, rfl, hb, hm, hc, hl, ht⟩
  · have hl : l = [] := List.eq_nil_of_length_eq_zero h0
    subst hl
    cases vss <;> cases Fs <;> simp [Each] at h2
    exact ⟨[], ⟨p, 0, rfl, Nat.le_refl _, Nat.zero_le _, .inl ⟨rfl, rfl⟩⟩, .inl rfl, fun b hb => by cases p <;> simp [own] at hb⟩
  · by_cases hl0 : l = []
    · subst hl0
      cases vss <;> cases Fs <;> simp [Each] at h2
      exact ⟨[], ⟨_, _, rfl, hm, hc, .inl ⟨rfl, rfl⟩⟩, .inl rfl, fun b' hb' => by simp [own] at hb'; subst hb'; exact ⟨cur, hb⟩⟩
    · refine ⟨b :: Fs.flatten, ⟨_, _, rfl, hm, hc, .inr ⟨b, 0, Fs, rfl, rfl, hb.there, ?_⟩⟩, .inr ⟨b, rfl, rfl⟩, fun b' hb' => by simp [own] at hb'; subst hb'; exact ⟨cur, hb⟩⟩
      refine h2.elems fun i u hu => ?_
      have hcur : cur[i]? = some u := by
        rw [← ht, List.getElem?_take] at hu
        split at hu
        · exact hu
        · cases hu
      exact hb.cells i u hcur
end

/-! ### what is new and one's own -/
/-- blocks that may be written -/
def Opn (w : World) (F : List Nat) : Prop := ∀ k ∈ F, ∃ cur e, Blk w k cur e
/-- x in new memory, each block once -/
def New {α : Type} (R : Rp α) (w : World) (x : α) (vs : List Value) (w' : World) (F : List Nat) : Prop :=
  R.V w' x vs F ∧ F.Nodup ∧ (∀ k ∈ F, w.heap.size ≤ k) ∧ Opn w' F
theorem Opn.same {w w' : World} {F : List Nat} (h : Opn w F) (hs : ∀ k ∈ F, w'.heap[k]? = w.heap[k]?) : Opn w' F := fun k hk => by
  obtain ⟨c, e, h1⟩ := h k hk; exact ⟨c, e, h1.same (hs k hk)⟩
/-- a buffer of numbers, as a list in new memory -/
theorem New.ofAcc {α : Type} {R : Rp α} {w w' : World} {e : Nat} {v : Value} {l : List α} {F : List Nat} (h : Acc R w' e v l F) (ho : ∀ b, own v = some b → w.heap.size ≤ b) (hF : ∀ k ∈ F, w.heap.size ≤ k) (hn : F.Nodup) (hop : Opn w' F) :
    ∃ F', New (listR R) w l [v] w' F' ∧ (F' = F ∨ ∃ b, own v = some b ∧ F' = b :: F) := by
  obtain ⟨vss, Fs, h1, h2, h3, h4⟩ := id h
  obtain ⟨F', hV, hF', hB⟩ := h.list
  refine ⟨F', ⟨hV, ?_, ?_, ?_⟩, hF'⟩
  · rcases hF' with rfl | ⟨b, hb, rfl⟩
    · exact hn
    · exact List.nodup_cons.2 ⟨fun hm => h4 b hm hb, hn⟩
  · rcases hF' with rfl | ⟨b, hb, rfl⟩
    · exact hF
    · intro k hk
      rcases List.mem_cons.1 hk with rfl | hk
      · exact ho k hb
      · exact hF k hk
  · rcases hF' with rfl | ⟨b, hb, rfl⟩
    · exact hop
    · intro k hk
      rcases List.mem_cons.1 hk with rfl | hk
      · obtain ⟨cur, hc⟩ := hB k hb; exact ⟨cur, e, hc⟩
      · exact hop k hk
theorem newInts {w w' : World} {b e : Nat} {xs : List Int} (hB : Blk w' b (xs.map (.int .i64)) e) (hb : w.heap.size ≤ b) (hi : ∀ x ∈ xs, In64 x) (hn : xs.length ≤ 9223372036854775807) :
    ∃ F, New intsR w xs [.slice (some ⟨b, 0, none⟩) xs.length xs.length] w' F ∧ ∀ k ∈ F, k = b := by
  have hbuf : Buf w' e 1 (.slice (some ⟨b, 0, none⟩) xs.length xs.length) xs.length (xs.map (.int .i64)) := Buf.ofBlk hB hn (by simp)
  have hacc := Acc.ofInts hbuf hi
  have hown : ∀ b', own (.slice (some ⟨b, 0, none⟩) xs.length xs.length) = some b' → b' = b := fun b' h => by
    cases hx : xs.length with
    | zero => rw [hx] at h; simp [own] at h
    | succ n => rw [hx] at h; simp [own] at h; exact h.symm
  obtain ⟨F, h1, h2⟩ := New.ofAcc (w := w) hacc (fun b' h => by rw [hown b' h]; exact hb) (fun k hk => by cases hk) List.nodup_nil (fun k hk => by cases hk)
  refine ⟨F, h1, fun k hk => ?_⟩
  rcases h2 with rfl | ⟨b', h3, rfl⟩
  · cases hk
  · simp at hk; rw [hk]; exact hown _ h3
theorem intsR.bounds {w : World} {xs : List Int} {v : Value} {F : List Nat} (h : intsR.V w xs [v] F) : ∀ x ∈ xs, In64 x := by
  obtain ⟨p, c, _, _, _, hl⟩ := listR.open1 h
  intro x hx
  obtain ⟨k, hk, rfl⟩ := List.getElem_of_mem hx
  obtain ⟨b, o, _, _, hi, _⟩ := hl.int hk
  exact hi
/-- one number of a list is written -/
theorem intsR.set {w w2 : World} {xs : List Int} {b o l c : Nat} {F : List Nat} {cur : List Value} {e k : Nat} {y : Int} (h : intsR.V w xs [.slice (some ⟨b, o, none⟩) l c] F) (hk : k < xs.length) (hy : In64 y)
    (hB : Blk w b cur e) (hw : Wrote b w w2) (hB2 : Blk w2 b (cur.set (o + k) (.int .i64 y)) e) : intsR.V w2 (xs.set k y) [.slice (some ⟨b, o, none⟩) l c] F := by
  obtain ⟨p, c', h1, h2, h3, hl⟩ := h
  simp only [List.cons.injEq, Value.slice.injEq, and_true] at h1
  obtain ⟨rfl, rfl, rfl⟩ := h1
  refine ⟨some ⟨b, o, none⟩, c, by rw [List.length_set], by simpa using h2, h3, ?_⟩
  rcases hl with ⟨rfl, _⟩ | ⟨b', o', Fs, hp, rfl, ht, hlen, he⟩
  · simp at hk
  · simp only [Option.some.injEq, Addr.mk.injEq, and_true] at hp
    obtain ⟨rfl, rfl⟩ := hp
    refine .inr ⟨b, o, Fs, rfl, rfl, hB2.there, by simpa using hlen, fun j x hj => ?_⟩
    rw [List.getElem?_set] at hj
    have hkc : o + k < cur.length := by
      obtain ⟨vs, hc, hv, hv2, _⟩ := he k _ (List.getElem?_eq_getElem hk)
      have h5 := hc 0 _ (by rw [hv]; rfl)
      unfold World.cell? at h5
      unfold Blk at hB
      simp only [hB] at h5
      have h6 : cur[o + k]? = some (.int .i64 xs[k]) := by simpa [intR] using h5
      exact (List.getElem?_eq_some_iff.1 h6).1
    by_cases hjk : k = j
    · subst hjk
      simp only [hk, if_true, Option.some.injEq] at hj
      subst hj
      obtain ⟨vs, hc, hv, hv2, _⟩ := he k _ (List.getElem?_eq_getElem hk)
      refine ⟨[.int .i64 y], fun i v hi => ?_, rfl, hv2, hy⟩
      cases i with
      | zero =>
        simp only [List.getElem?_cons_zero, Option.some.injEq] at hi
        subst hi
        refine hB2.cell ?_
        simp [intR, hkc]
      | succ i => simp at hi
    · rw [if_neg hjk] at hj
      obtain ⟨vs, hc, rfl, hv2, hv3⟩ := he j x hj
      refine ⟨_, fun i v hi => ?_, rfl, hv2, hv3⟩
      cases i with
      | zero =>
        have h5 := hc 0 v hi
        unfold World.cell? at h5
        unfold Blk at hB
        simp only [hB] at h5
        refine hB2.cell ?_
        have h6 : o + k ≠ o + j := by omega
        simp only [intR, Nat.mul_one, Nat.add_zero, Option.isSome_none, Bool.false_eq_true, if_false] at h5 ⊢
        rw [List.getElem?_set_ne h6]
        simpa using h5
      | succ i => simp at hi
theorem Opn.wrote {w w2 : World} {F : List Nat} {b e : Nat} {cur : List Value} (h : Opn w F) (hw : Wrote b w w2) (hB : Blk w2 b cur e) : Opn w2 F := fun k hk => by
  by_cases hkb : k = b
  · subst hkb; exact ⟨cur, e, hB⟩
  · obtain ⟨c, e', h1⟩ := h k hk; exact ⟨c, e', h1.same (hw.same k hkb)⟩
/-- blocks of F alone have been written -/
structure Marked (F : List Nat) (w w' : World) : Prop where
  same : ∀ k, k ∉ F → w'.heap[k]? = w.heap[k]?
  size : w'.heap.size = w.heap.size
  os : w'.os = w.os
  tape : w'.tape = w.tape
  output : w'.output = w.output
theorem Marked.refl (F : List Nat) (w : World) : Marked F w w := ⟨fun _ _ => rfl, rfl, rfl, rfl, rfl⟩
theorem Marked.trans {F : List Nat} {a b c : World} (h : Marked F a b) (k : Marked F b c) : Marked F a c :=
  ⟨fun j hj => (k.same j hj).trans (h.same j hj), k.size.trans h.size, k.os.trans h.os, k.tape.trans h.tape, k.output.trans h.output⟩
theorem Marked.mono {F G : List Nat} {a b : World} (h : Marked F a b) (hs : ∀ k ∈ F, k ∈ G) : Marked G a b :=
  ⟨fun j hj => h.same j (fun hf => hj (hs j hf)), h.size, h.os, h.tape, h.output⟩
theorem Marked.wrote {F : List Nat} {a b : World} {k : Nat} (h : Wrote k a b) (hk : k ∈ F) : Marked F a b :=
  ⟨fun j hj => h.same j (fun e => hj (e ▸ hk)), h.size, h.os, h.tape, h.output⟩
theorem Marked.below {F : List Nat} {a b : World} {B : Nat} (h : Marked F a b) (hF : ∀ k ∈ F, B ≤ k) : Below B a b :=
  ⟨h.os, h.tape, h.output, by rw [h.size]; exact Nat.le_refl _, fun k hk => h.same k (fun hf => by have := hF k hf; omega)⟩
theorem Rp.marked {α : Type} (R : Rp α) {w w' : World} {x : α} {vs : List Value} {F G : List Nat} (h : R.V w x vs F) (hm : Marked G w w') (hd : ∀ k ∈ F, k ∉ G) : R.V w' x vs F :=
  R.stab h fun k hk => hm.same k (hd k hk)
/-! ### a call's own blocks, all together -/
/-- since w0 only new memory has been written; H: the call's own blocks; D: data that are there, each with the world that it is told of and its blocks -/
structure Hp (w0 w : World) (H : List (Nat × List Value × Nat)) (D : List (World × List Nat)) : Prop where
  low : Later w0 w
  own : ∀ x ∈ H, Blk w x.1 x.2.1 x.2.2 ∧ w0.heap.size ≤ x.1
  nes : ∀ (i j : Nat) x y, H[i]? = some x → H[j]? = some y → i ≠ j → x.1 ≠ y.1
  dat : ∀ d ∈ D, ∀ k ∈ d.2, k < w.heap.size ∧ w.heap[k]? = d.1.heap[k]? ∧ ∀ x ∈ H, x.1 ≠ k
theorem Hp.init (w : World) : Hp w w [] [] := ⟨Later.refl w, (fun x hx => by cases hx), (fun i j x y hi => by simp at hi), fun d hd => by cases hd⟩
section
variable {w0 w w' : World} {H : List (Nat × List Value × Nat)} {D : List (World × List Nat)}
theorem Hp.new (h : Hp w0 w H D) (hl : Later w w') {b e : Nat} {cs : List Value} (hb : b = w.heap.size) (hB : Blk w' b cs e) : Hp w0 w' ((b, cs, e) :: H) D := by
  have hlt : ∀ (i : Nat) x, H[i]? = some x → x.1 < b := fun i x hi => by have := (h.own x (List.mem_of_getElem? hi)).1.lt; omega
  have hsz := hl.size
  refine ⟨h.low.trans hl, fun x hx => ?_, fun i j x y hi hj hij => ?_, fun d hd k hk => ?_⟩
  · rcases List.mem_cons.1 hx with rfl | hx
    · exact ⟨hB, by have := h.low.size; simp only; omega⟩
    · exact ⟨(h.own x hx).1.later hl, (h.own x hx).2⟩
  · cases i with
    | zero =>
      cases j with
      | zero => exact absurd rfl hij
      | succ j =>
        simp only [List.getElem?_cons_zero, Option.some.injEq] at hi
        subst hi
        have := hlt j y (by simpa using hj)
        simp only; omega
    | succ i =>
      cases j with
      | zero =>
        simp only [List.getElem?_cons_zero, Option.some.injEq] at hj
        subst hj
        have := hlt i x (by simpa using hi)
        simp only; omega
      | succ j => exact h.nes i j x y (by simpa using hi) (by simpa using hj) (fun e => hij (by rw [e]))
  · obtain ⟨h1, h2, h3⟩ := h.dat d hd k hk
    refine ⟨by omega, (Below.block hl k h1).trans h2, fun x hx => ?_⟩
    rcases List.mem_cons.1 hx with rfl | hx
    · simp only; omega
    · exact h3 x hx
theorem Hp.later (h : Hp w0 w H D) (hl : Later w w') : Hp w0 w' H D :=
  ⟨h.low.trans hl, fun x hx => ⟨(h.own x hx).1.later hl, (h.own x hx).2⟩, h.nes, fun d hd k hk => by
    obtain ⟨h1, h2, h3⟩ := h.dat d hd k hk
    have := hl.size
    exact ⟨by omega, (Below.block hl k h1).trans h2, h3⟩⟩
theorem Hp.drew (h : Hp w0 w H D) : Hp w0 w.drew H D := h.later (Later.refl w).drew
theorem Hp.blk (h : Hp w0 w H D) (i : Nat) {b e : Nat} {cs : List Value} (hi : H[i]? = some (b, cs, e)) : Blk w b cs e := (h.own _ (List.mem_of_getElem? hi)).1
theorem Hp.ge (h : Hp w0 w H D) (i : Nat) {b e : Nat} {cs : List Value} (hi : H[i]? = some (b, cs, e)) : w0.heap.size ≤ b := (h.own _ (List.mem_of_getElem? hi)).2
theorem Hp.ne (h : Hp w0 w H D) (i j : Nat) {b b' e e' : Nat} {cs cs' : List Value} (hi : H[i]? = some (b, cs, e)) (hj : H[j]? = some (b', cs', e')) (hij : i ≠ j) : b ≠ b' :=
  h.nes i j _ _ hi hj hij
theorem Hp.wrote (h : Hp w0 w H D) (i : Nat) {b e e' : Nat} {cs cs' : List Value} (hi : H[i]? = some (b, cs, e)) (hw : Wrote b w w') (hB : Blk w' b cs' e') : Hp w0 w' (H.set i (b, cs', e')) D := by
  have key : ∀ (j : Nat) x, (H.set i (b, cs', e'))[j]? = some x → (j = i ∧ x = (b, cs', e')) ∨ (j ≠ i ∧ H[j]? = some x) := fun j x hj => by
    rw [List.getElem?_set] at hj
    by_cases hij : i = j
    · subst hij
      rw [if_pos rfl] at hj
      split at hj
      · simp only [Option.some.injEq] at hj; exact .inl ⟨rfl, hj.symm⟩
      · cases hj
    · rw [if_neg hij] at hj
      exact .inr ⟨fun e => hij e.symm, hj⟩
  refine ⟨h.low.trans' (hw.below (h.ge i hi)), fun x hx => ?_, fun j k x y hj hk hjk => ?_, fun d hd k hk => ?_⟩
  · obtain ⟨j, hj⟩ := List.mem_iff_getElem?.1 hx
    rcases key j x hj with ⟨_, rfl⟩ | ⟨hne, hj⟩
    · exact ⟨hB, h.ge i hi⟩
    · have hne2 := h.nes j i x (b, cs, e) hj hi hne
      exact ⟨(h.own x (List.mem_of_getElem? hj)).1.same (hw.same _ hne2), (h.own x (List.mem_of_getElem? hj)).2⟩
  · rcases key j x hj with ⟨rfl, rfl⟩ | ⟨hne, hj'⟩
    · rcases key k y hk with ⟨rfl, rfl⟩ | ⟨hne, hk'⟩
      · exact absurd rfl hjk
      · exact h.nes j k (b, cs, e) y hi hk' hjk
    · rcases key k y hk with ⟨rfl, rfl⟩ | ⟨hne, hk'⟩
      · exact h.nes j k x (b, cs, e) hj' hi hjk
      · exact h.nes j k x y hj' hk' hjk
  · obtain ⟨h1, h2, h3⟩ := h.dat d hd k hk
    have hkb : k ≠ b := fun e => h3 _ (List.mem_of_getElem? hi) e.symm
    refine ⟨by rw [hw.size]; exact h1, (hw.same k hkb).trans h2, fun x hx => ?_⟩
    obtain ⟨j, hj⟩ := List.mem_iff_getElem?.1 hx
    rcases key j x hj with ⟨_, rfl⟩ | ⟨hne, hj⟩
    · exact fun e => hkb e.symm
    · exact h3 x (List.mem_of_getElem? hj)
/-- data in memory that is newer than all of one's own blocks -/
theorem Hp.keep (h : Hp w0 w H D) (hl : Later w w') {F : List Nat} (hF : ∀ k ∈ F, w.heap.size ≤ k) (hF2 : ∀ k ∈ F, k < w'.heap.size) : Hp w0 w' H ((w', F) :: D) := by
  have h' := h.later hl
  refine ⟨h'.low, h'.own, h'.nes, fun d hd k hk => ?_⟩
  rcases List.mem_cons.1 hd with rfl | hd
  · exact ⟨hF2 k hk, rfl, fun x hx => by have := (h.own x hx).1.lt; have := hF k hk; omega⟩
  · exact h'.dat d hd k hk
theorem Hp.lt (h : Hp w0 w H D) (j : Nat) {wk : World} {F : List Nat} (hj : D[j]? = some (wk, F)) : ∀ k ∈ F, k < w.heap.size := fun k hk => (h.dat _ (List.mem_of_getElem? hj) k hk).1
theorem Hp.same (h : Hp w0 w H D) (j : Nat) {wk : World} {F : List Nat} (hj : D[j]? = some (wk, F)) : ∀ k ∈ F, w.heap[k]? = wk.heap[k]? := fun k hk => (h.dat _ (List.mem_of_getElem? hj) k hk).2.1
theorem Hp.data (h : Hp w0 w H D) (j : Nat) {wk : World} {F : List Nat} (hj : D[j]? = some (wk, F)) {α : Type} {R : Rp α} {x : α} {vs : List Value} (hV : R.V wk x vs F) : R.V w x vs F := R.stab hV (h.same j hj)
theorem Hp.opn (h : Hp w0 w H D) (j : Nat) {wk : World} {F : List Nat} (hj : D[j]? = some (wk, F)) (hV : Opn wk F) : Opn w F := hV.same (h.same j hj)
/-- a result of a call, in new memory, is kept -/
theorem Hp.got (h : Hp w0 w H D) (hl : Later w w') {α : Type} {R : Rp α} {x : α} {vs : List Value} {F : List Nat} (hN : New R w x vs w' F) : Hp w0 w' H ((w', F) :: D) :=
  h.keep hl hN.2.2.1 (R.lt hN.1)
end
theorem nodup_append_lt {F G : List Nat} {m : Nat} (hF : F.Nodup) (hG : G.Nodup) (h1 : ∀ k ∈ F, k < m) (h2 : ∀ k ∈ G, m ≤ k) : (F ++ G).Nodup :=
  List.nodup_append.2 ⟨hF, hG, fun a ha b hb e => by have := h1 a ha; have := h2 b hb; omega⟩
theorem Opn.append {w : World} {F G : List Nat} (hF : Opn w F) (hG : Opn w G) : Opn w (F ++ G) := fun k hk => (List.mem_append.1 hk).elim (hF k) (hG k)
theorem all_append {F G : List Nat} {p : Nat → Prop} (hF : ∀ k ∈ F, p k) (hG : ∀ k ∈ G, p k) : ∀ k ∈ F ++ G, p k := fun k hk => (List.mem_append.1 hk).elim (hF k) (hG k)
/-- filling a list from its front -/
theorem fill_set {α β : Type} (f : α → β) (xs : List α) (z : β) (k : Nat) (hk : k < xs.length) :
    ((xs.take k).map f ++ List.replicate (xs.length - k) z).set k (f xs[k]) = (xs.take (k + 1)).map f ++ List.replicate (xs.length - (k + 1)) z := by
  have h1 : xs.length - k = (xs.length - (k + 1)) + 1 := by omega
  rw [h1, List.replicate_succ, List.set_append_right _ _ (by simp; omega), List.take_succ_eq_append_getElem hk]
  have h2 : k - (List.map f (List.take k xs)).length = 0 := by simp; omega
  rw [h2]; simp only [List.set_cons_zero, List.map_append, List.map_cons, List.map_nil, List.append_assoc, List.cons_append, List.nil_append]
end Go.Proofs.Ythgdabghhcbmgaa.G
