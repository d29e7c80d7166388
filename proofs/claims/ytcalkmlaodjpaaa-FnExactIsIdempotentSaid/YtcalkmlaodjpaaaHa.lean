/- Abstract values: what the slots and the memory of a call hold, told without addresses. Over any program; nothing is claimed of the given one. -/
import Derived.Test.YtcalkmlaodjpaaaGj
namespace Go.Proofs.Ytcalkmlaodjpaaa.V
open Go.RowKit G
set_option linter.unusedVariables false
set_option linter.unusedSimpArgs false

/-- an abstract value: a number, a Bool; a slice told by what it holds (own: in memory that belongs to the place where it stands); a slice and a pointer of an object (v: how long the object was); a pointer to what does not change; a function with what it captured; a struct; several results; the nil slice; an empty slice without room; nothing known -/
inductive AV where
  | i (n : Int)
  | b (v : Bool)
  | dt (own : Bool) (sz : Nat) (xs : List (List AV))
  | sl (o v off m : Nat)
  | pt (o v k j : Nat)
  | ip (cs : List AV)
  | fn (f : Nat) (cs : List AV)
  | agg (cs : List AV)
  | tu (cs : List AV)
  | nl
  | em
  | no

mutual
/-- it speaks of objects below N alone -/
def Bnd (N : Nat) : AV → Prop
  | .sl o _ _ _ => o < N
  | .pt o _ _ _ => o < N
  | .fn _ cs => BndL N cs
  | .agg cs => BndL N cs
  | .tu cs => BndL N cs
  | _ => True
def BndL (N : Nat) : List AV → Prop
  | [] => True
  | a :: l => Bnd N a ∧ BndL N l
end
mutual
theorem Bnd.mono {N M : Nat} (h : N ≤ M) : ∀ (a : AV), Bnd N a → Bnd M a
  | .sl o _ _ _, hb => Nat.lt_of_lt_of_le hb h
  | .pt o _ _ _, hb => Nat.lt_of_lt_of_le hb h
  | .fn _ cs, hb => BndL.mono h cs hb
  | .agg cs, hb => BndL.mono h cs hb
  | .tu cs, hb => BndL.mono h cs hb
  | .i _, _ => trivial
  | .b _, _ => trivial
  | .dt _ _ _, _ => trivial
  | .ip _, _ => trivial
  | .nl, _ => trivial
  | .em, _ => trivial
  | .no, _ => trivial
theorem BndL.mono {N M : Nat} (h : N ≤ M) : ∀ (l : List AV), BndL N l → BndL M l
  | [], _ => trivial
  | a :: l, hb => ⟨Bnd.mono h a hb.1, BndL.mono h l hb.2⟩
end
theorem BndL.of_mem {N : Nat} : ∀ {l : List AV}, (∀ a ∈ l, Bnd N a) → BndL N l
  | [], _ => trivial
  | a :: l, h => ⟨h a (by simp), BndL.of_mem fun b hb => h b (by simp [hb])⟩
theorem BndL.mem {N : Nat} : ∀ {l : List AV}, BndL N l → ∀ a ∈ l, Bnd N a
  | [], _, a, ha => by cases ha
  | b :: l, h, a, ha => by
    rcases List.mem_cons.1 ha with rfl | ha
    · exact h.1
    · exact BndL.mem h.2 a ha

/-! ### what does not change -/
/-- cells that do not change; Im: the blocks that are not written -/
inductive Imm (Im : Nat → Prop) (w : World) : List AV → List Value → Prop
  | nil : Imm Im w [] []
  | int {n : Int} {cs : List AV} {vs : List Value} : In64 n → Imm Im w cs vs → Imm Im w (.i n :: cs) (.int .i64 n :: vs)
  | bool {x : Bool} {cs : List AV} {vs : List Value} : Imm Im w cs vs → Imm Im w (.b x :: cs) (.bool x :: vs)
  | no {v : Value} {cs : List AV} {vs : List Value} : v.oneCell' = true → Imm Im w cs vs → Imm Im w (.no :: cs) (v :: vs)
  | sl0 {p : Option Addr} {c sz : Nat} {cs : List AV} {vs : List Value} : c ≤ maxLen → Imm Im w cs vs → Imm Im w (.dt false sz [] :: cs) (.slice p 0 c :: vs)
  | sl {b o c sz : Nat} {xs : List (List AV)} {us : List Value} {cs : List AV} {vs : List Value} : xs.length ≤ c → c ≤ maxLen → Im b → Cells w b o us → Imm Im w xs.flatten us → (∀ x ∈ xs, x.length = sz) → Imm Im w cs vs →
      Imm Im w (.dt false sz xs :: cs) (.slice (some ⟨b, o, none⟩) xs.length c :: vs)

theorem Imm.mono {Im Im' : Nat → Prop} {w w' : World} (hI : ∀ k, Im k → Im' k) (hw : ∀ k, Im k → w'.heap[k]? = w.heap[k]?) {cs : List AV} {vs : List Value} (h : Imm Im w cs vs) : Imm Im' w' cs vs := by
  induction h with
  | nil => exact .nil
  | int h1 _ ih => exact .int h1 ih
  | bool _ ih => exact .bool ih
  | no h1 _ ih => exact .no h1 ih
  | sl0 h1 _ ih => exact .sl0 h1 ih
  | sl h1 h2 h3 h4 _ h6 _ ih1 ih2 => exact .sl h1 h2 (hI _ h3) (h4.same (hw _ h3)) ih1 h6 ih2
theorem Imm.length {Im : Nat → Prop} {w : World} {cs : List AV} {vs : List Value} (h : Imm Im w cs vs) : vs.length = cs.length := by
  induction h <;> simp_all
theorem oneAll_cons {v : Value} {vs : List Value} (h : v.oneCell' = true) (k : oneAll vs) : oneAll (v :: vs) := fun u hu => by
  rcases List.mem_cons.1 hu with rfl | hu
  · exact h
  · exact k u hu
theorem Imm.one {Im : Nat → Prop} {w : World} {cs : List AV} {vs : List Value} (h : Imm Im w cs vs) : oneAll vs := by
  induction h with
  | nil => exact oneAll_nil
  | int _ _ ih => exact oneAll_cons rfl ih
  | bool _ ih => exact oneAll_cons rfl ih
  | no h _ ih => exact oneAll_cons h ih
  | sl0 _ _ ih => exact oneAll_cons rfl ih
  | sl _ _ _ _ _ _ _ _ ih => exact oneAll_cons rfl ih
theorem Imm.append {Im : Nat → Prop} {w : World} {cs ds : List AV} {vs us : List Value} (h : Imm Im w cs vs) (k : Imm Im w ds us) : Imm Im w (cs ++ ds) (vs ++ us) := by
  induction h with
  | nil => exact k
  | int h1 _ ih => exact .int h1 ih
  | bool _ ih => exact .bool ih
  | no h1 _ ih => exact .no h1 ih
  | sl0 h1 _ ih => exact .sl0 h1 ih
  | sl h1 h2 h3 h4 h5 h6 _ _ ih => exact .sl h1 h2 h3 h4 h5 h6 ih
theorem Imm.split {Im : Nat → Prop} {w : World} : ∀ {cs ds : List AV} {vs : List Value}, Imm Im w (cs ++ ds) vs → ∃ v1 v2, vs = v1 ++ v2 ∧ Imm Im w cs v1 ∧ Imm Im w ds v2
  | [], ds, vs, h => ⟨[], vs, rfl, .nil, h⟩
  | a :: cs, ds, vs, h => by
    rw [List.cons_append] at h
    cases h with
    | int h1 h => obtain ⟨v1, v2, rfl, a, b⟩ := Imm.split h; exact ⟨_ :: v1, v2, rfl, .int h1 a, b⟩
    | bool h => obtain ⟨v1, v2, rfl, a, b⟩ := Imm.split h; exact ⟨_ :: v1, v2, rfl, .bool a, b⟩
    | no h1 h => obtain ⟨v1, v2, rfl, a, b⟩ := Imm.split h; exact ⟨_ :: v1, v2, rfl, .no h1 a, b⟩
    | sl0 h1 h => obtain ⟨v1, v2, rfl, a, b⟩ := Imm.split h; exact ⟨_ :: v1, v2, rfl, .sl0 h1 a, b⟩
    | sl h1 h2 h3 h4 h5 h6 h => obtain ⟨v1, v2, rfl, a, b⟩ := Imm.split h; exact ⟨_ :: v1, v2, rfl, .sl h1 h2 h3 h4 h5 h6 a, b⟩
theorem Imm.head {Im : Nat → Prop} {w : World} {a : AV} {cs : List AV} {v : Value} {vs : List Value} (h : Imm Im w (a :: cs) (v :: vs)) : Imm Im w [a] [v] := by
  cases h with
  | int h1 h => exact .int h1 .nil
  | bool h => exact .bool .nil
  | no h1 h => exact .no h1 .nil
  | sl0 h1 h => exact .sl0 h1 .nil
  | sl h1 h2 h3 h4 h5 h6 h => exact .sl h1 h2 h3 h4 h5 h6 .nil
theorem Imm.get {Im : Nat → Prop} {w : World} {cs : List AV} {vs : List Value} (h : Imm Im w cs vs) {i : Nat} {a : AV} (hi : cs[i]? = some a) : ∃ v, vs[i]? = some v ∧ Imm Im w [a] [v] := by
  have hlt : i < cs.length := (List.getElem?_eq_some_iff.1 hi).1
  have e : cs = cs.take i ++ (a :: cs.drop (i + 1)) := by
    rw [← (List.getElem?_eq_some_iff.1 hi).2, List.getElem_cons_drop, List.take_append_drop]
  rw [e] at h
  obtain ⟨v1, v2, rfl, h1, h2⟩ := h.split
  have hl := h1.length
  rw [List.length_take, Nat.min_eq_left (by omega)] at hl
  cases v2 with
  | nil => cases h2
  | cons v v2 => exact ⟨v, by rw [List.getElem?_append_right (by omega), hl]; simp, h2.head⟩

/-! ### what is one's own -/
def Buf' (w : World) (sz : Nat) (v : Value) (m : Nat) (us : List Value) : Prop := ∃ e, Buf w e sz v m us
def ownL (v : Value) : List Nat := (own v).toList
theorem mem_ownL {v : Value} {k : Nat} : k ∈ ownL v ↔ own v = some k := by
  unfold ownL; cases own v <;> simp [eq_comm]
theorem Buf'.same {w w' : World} {sz m : Nat} {v : Value} {us : List Value} (h : Buf' w sz v m us) (hs : ∀ b, own v = some b → w'.heap[b]? = w.heap[b]?) : Buf' w' sz v m us := by
  obtain ⟨e, h⟩ := h; exact ⟨e, h.same hs⟩
theorem Buf'.slice {w : World} {sz m : Nat} {v : Value} {us : List Value} (h : Buf' w sz v m us) : ∃ p c, v = .slice p m c ∧ m ≤ c ∧ c ≤ maxLen := by
  obtain ⟨e, h⟩ := h
  rcases h.2 with ⟨h0, p, rfl⟩ | ⟨b, c, cur, rfl, h2, h3, h4, _⟩
  · exact ⟨p, 0, by rw [h0], by omega, Nat.zero_le _⟩
  · exact ⟨_, _, rfl, h3, h4⟩
theorem Buf'.lt {w : World} {sz m : Nat} {v : Value} {us : List Value} (h : Buf' w sz v m us) : ∀ b, own v = some b → Wb w b := by
  obtain ⟨e, h⟩ := h
  intro b hb
  rcases h.2 with ⟨_, p, rfl⟩ | ⟨b', c, cur, rfl, h2, _⟩
  · cases p <;> simp [own] at hb
  · simp [own] at hb; subst hb; exact ⟨_, _, h2⟩

/-- cells with what lies below them in memory of one's own; F: the blocks of it -/
inductive OwnC (Im : Nat → Prop) (w : World) : List AV → List Value → List Nat → Prop
  | nil : OwnC Im w [] [] []
  | at1 {a : AV} {v : Value} {cs : List AV} {vs : List Value} {F : List Nat} : Imm Im w [a] [v] → OwnC Im w cs vs F → OwnC Im w (a :: cs) (v :: vs) F
  | ow {sz : Nat} {xs : List (List AV)} {v : Value} {us : List Value} {G : List Nat} {cs : List AV} {vs : List Value} {F : List Nat} : Buf' w sz v xs.length us → OwnC Im w xs.flatten us G → (∀ x ∈ xs, x.length = sz) → OwnC Im w cs vs F →
      OwnC Im w (.dt true sz xs :: cs) (v :: vs) (ownL v ++ G ++ F)

theorem OwnC.mono {Im Im' : Nat → Prop} {w w' : World} (hI : ∀ k, Im k → Im' k) {cs : List AV} {vs : List Value} {F : List Nat} (h : OwnC Im w cs vs F) (hw : ∀ k, Im k → w'.heap[k]? = w.heap[k]?) (hF : ∀ k ∈ F, w'.heap[k]? = w.heap[k]?) : OwnC Im' w' cs vs F := by
  induction h with
  | nil => exact .nil
  | at1 h1 _ ih => exact .at1 (h1.mono hI hw) (ih hF)
  | ow h1 _ h3 _ ih1 ih2 =>
    exact .ow (h1.same fun b hb => hF b (by simp [mem_ownL, hb])) (ih1 fun k hk => hF k (by simp [hk])) h3 (ih2 fun k hk => hF k (by simp [hk]))
theorem OwnC.length {Im : Nat → Prop} {w : World} {cs : List AV} {vs : List Value} {F : List Nat} (h : OwnC Im w cs vs F) : vs.length = cs.length := by
  induction h <;> simp_all
theorem Buf'.oneCell {w : World} {sz m : Nat} {v : Value} {us : List Value} (h : Buf' w sz v m us) : v.oneCell' = true := by
  obtain ⟨p, c, rfl, _⟩ := h.slice; rfl
theorem OwnC.one {Im : Nat → Prop} {w : World} {cs : List AV} {vs : List Value} {F : List Nat} (h : OwnC Im w cs vs F) : oneAll vs := by
  induction h with
  | nil => exact oneAll_nil
  | at1 h1 _ ih =>
    intro u hu
    rcases List.mem_cons.1 hu with rfl | hu
    · exact h1.one _ (by simp)
    · exact ih u hu
  | ow h1 _ h3 _ ih1 ih2 =>
    intro u hu
    rcases List.mem_cons.1 hu with rfl | hu
    · exact h1.oneCell
    · exact ih2 u hu
theorem OwnC.wb {Im : Nat → Prop} {w : World} {cs : List AV} {vs : List Value} {F : List Nat} (h : OwnC Im w cs vs F) : ∀ k ∈ F, Wb w k := by
  induction h with
  | nil => intro k hk; cases hk
  | at1 _ _ ih => exact ih
  | ow h1 _ _ _ ih1 ih2 =>
    intro k hk
    rcases List.mem_append.1 hk with hk | hk
    · rcases List.mem_append.1 hk with hk | hk
      · exact h1.lt k (mem_ownL.1 hk)
      · exact ih1 k hk
    · exact ih2 k hk
theorem OwnC.append {Im : Nat → Prop} {w : World} {cs ds : List AV} {vs us : List Value} {F G : List Nat} (h : OwnC Im w cs vs F) (k : OwnC Im w ds us G) : OwnC Im w (cs ++ ds) (vs ++ us) (F ++ G) := by
  induction h with
  | nil => exact k
  | at1 h1 _ ih => exact .at1 h1 ih
  | ow h1 h2 h3 _ _ ih => simpa using OwnC.ow h1 h2 h3 ih
mutual
/-- the same, not one's own -/
def frz : AV → AV
  | .i n => .i n
  | .b v => .b v
  | .dt _ sz xs => .dt false sz (frzLL xs)
  | .agg cs => .agg (frzL cs)
  | _ => .no
def frzL : List AV → List AV
  | [] => []
  | a :: l => frz a :: frzL l
def frzLL : List (List AV) → List (List AV)
  | [] => []
  | x :: l => frzL x :: frzLL l
end
theorem frzL_map : ∀ l : List AV, frzL l = l.map frz
  | [] => rfl
  | a :: l => by rw [frzL, frzL_map l]; rfl
theorem frzLL_map : ∀ l : List (List AV), frzLL l = l.map frzL
  | [] => rfl
  | a :: l => by rw [frzLL, frzLL_map l]; rfl
theorem frzLL_flatten : ∀ l : List (List AV), (frzLL l).flatten = frzL l.flatten
  | [] => rfl
  | x :: l => by rw [frzLL, List.flatten_cons, frzLL_flatten l, List.flatten_cons, frzL_map, frzL_map, frzL_map, List.map_append]
theorem frzLL_length (l : List (List AV)) : (frzLL l).length = l.length := by rw [frzLL_map, List.length_map]
theorem Imm.frz {Im : Nat → Prop} {w : World} {cs : List AV} {vs : List Value} (h : Imm Im w cs vs) : Imm Im w (frzL cs) vs := by
  induction h with
  | nil => exact .nil
  | int h1 _ ih => exact .int h1 ih
  | bool _ ih => exact .bool ih
  | no h1 _ ih => exact .no h1 ih
  | sl0 h1 _ ih => exact .sl0 h1 ih
  | @sl b o c sz xs us cs vs h1 h2 h3 h4 _ h6 _ ih1 ih2 =>
    have e : xs.length = (frzLL xs).length := (frzLL_length xs).symm
    rw [e]
    refine .sl (sz := sz) (by rw [← e]; exact h1) h2 h3 h4 (by rw [frzLL_flatten]; exact ih1) (fun x hx => ?_) ih2
    rw [frzLL_map] at hx
    obtain ⟨y, hy, rfl⟩ := List.mem_map.1 hx
    rw [frzL_map, List.length_map]; exact h6 y hy
/-- one's own, if it is not written any more -/
theorem OwnC.frz {Im : Nat → Prop} {w : World} {cs : List AV} {vs : List Value} {F : List Nat} (h : OwnC Im w cs vs F) : ∀ {Im' : Nat → Prop}, (∀ k, Im k → Im' k) → (∀ k ∈ F, Im' k) → Imm Im' w (frzL cs) vs := by
  induction h with
  | nil => intros; exact .nil
  | @at1 a v cs vs F h1 _ ih =>
    intro Im' hI hF
    exact (h1.mono hI (fun _ _ => rfl)).frz.append (ih hI hF)
  | @ow sz xs v us G cs vs F h1 _ h3 _ ih1 ih2 =>
    intro Im' hI hF
    have i2 := ih2 hI (fun k hk => hF k (by simp [hk]))
    have i1 := ih1 hI (fun k hk => hF k (by simp [hk]))
    have hlen : ∀ x ∈ frzLL xs, x.length = sz := by
      intro x hx
      rw [frzLL_map] at hx
      obtain ⟨y, hy, rfl⟩ := List.mem_map.1 hx
      rw [frzL_map, List.length_map]; exact h3 y hy
    obtain ⟨e, h1⟩ := h1
    rcases h1.2 with ⟨h0, p, rfl⟩ | ⟨b, c, cur, rfl, g2, g3, g4, g5, g6⟩
    · have : xs = [] := List.eq_nil_of_length_eq_zero h0
      subst this
      exact .sl0 (Nat.zero_le _) i2
    · have e : xs.length = (frzLL xs).length := (frzLL_length xs).symm
      rw [e] at g3 ⊢
      refine .sl (sz := sz) g3 g4 (hF b (by simp [ownL, own])) (fun j u hu => g2.cells j u ?_) (by rw [frzLL_flatten]; exact i1) hlen i2
      rw [← g6, List.getElem?_take] at hu
      split at hu
      · exact hu
      · cases hu
end Go.Proofs.Ytcalkmlaodjpaaa.V
