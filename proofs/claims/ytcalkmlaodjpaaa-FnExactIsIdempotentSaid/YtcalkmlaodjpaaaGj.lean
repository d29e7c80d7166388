/- Lists that are filled place by place, and lists of lists of which single numbers are written. Over any program; nothing is claimed of the given one. -/
import Derived.Test.YtcalkmlaodjpaaaGi
namespace Go.Proofs.Ytcalkmlaodjpaaa.G
open Go.RowKit
set_option linter.unusedVariables false

theorem set_rep {α : Type} {A : List α} {z v : α} {i n : Nat} (hA : A.length = i) (hi : i < n) : (A ++ List.replicate (n - i) z).set i v = (A ++ [v]) ++ List.replicate (n - (i + 1)) z := by
  have h1 : n - i = (n - (i + 1)) + 1 := by omega
  rw [h1, List.replicate_succ, List.set_append_right _ _ (by omega), hA, Nat.sub_self]
  simp
section
variable {w0 w w' : World} {H : List (Nat × List Value × Nat)} {D : List (World × List Nat)} {S : List (World × Value)} {α : Type} {R : Rp α}
theorem Hp.each (h : Hp w0 w H D S) (j : Nat) {wk : World} {l : List α} {vss : List (List Value)} {Fs : List (List Nat)} (hj : D[j]? = some (wk, Fs.flatten)) (hE : Each R wk l vss Fs) : Each R w l vss Fs := hE.stab (h.same j hj)
theorem Hp.nodup (h : Hp w0 w H D S) (j : Nat) {wk : World} {F : List Nat} (hj : D[j]? = some (wk, F)) : F.Nodup := (h.dat _ (List.mem_of_getElem? hj)).1
/-- a block of cells, all filled, as a list -/
theorem Hp.shutB {b e : Nat} {cs : List Value} {wj : World} {l : List α} {vss : List (List Value)} {Fs : List (List Nat)} (h : Hp w0 w ((b, cs, e) :: H) ((wj, Fs.flatten) :: D) S) (hcs : cs = vss.flatten) (hE : Each R w l vss Fs) (hn : l.length ≤ 9223372036854775807) :
    ∃ F', (listR R).V w l [.slice (some ⟨b, 0, none⟩) l.length l.length] F' ∧ Hp w0 w H ((w, F') :: D) S := by
  subst hcs
  have hB := h.blk 0 rfl
  have hbuf : Buf w e R.nc (.slice (some ⟨b, 0, none⟩) l.length l.length) l.length vss.flatten := Buf.ofBlk hB hn hE.lens.2.2
  have hown : ∀ k, G.own (.slice (some ⟨b, 0, none⟩) l.length l.length) = some k → k = b := fun k hk => by
    cases hx : l.length with
    | zero => rw [hx] at hk; simp [G.own] at hk
    | succ n => rw [hx] at hk; simp [G.own] at hk; exact hk.symm
  have hA : Acc R w e (.slice (some ⟨b, 0, none⟩) l.length l.length) l Fs.flatten := ⟨vss, Fs, hbuf, rfl, hE, fun k hk hk2 => by
    have := hown k hk2
    subst this
    exact ((h.dat _ (List.mem_cons_self ..)).2 k hk).2.2.2 _ (List.mem_cons_self ..) rfl⟩
  exact (h.openB hown).shut hA
/-- a block of numbers, as a list -/
theorem Hp.shutI {b e : Nat} {xs : List Int} (h : Hp w0 w ((b, xs.map (.int .i64), e) :: H) D S) (hi : ∀ x ∈ xs, In64 x) (hn : xs.length ≤ 9223372036854775807) :
    ∃ F', intsR.V w xs [.slice (some ⟨b, 0, none⟩) xs.length xs.length] F' ∧ Hp w0 w H ((w, F') :: D) S := by
  have hB := h.blk 0 rfl
  obtain ⟨F, h1, h2⟩ := newInts (w := w0) hB (h.ge 0 rfl) hi hn
  refine ⟨F, h1.1, h.give ?_⟩
  cases F with
  | nil => exact .inl rfl
  | cons k F =>
    have e1 := h2 k (by simp)
    subst e1
    cases F with
    | nil => exact .inr rfl
    | cons j F =>
      have e2 := h2 j (by simp)
      subst e2
      have := h1.2.1
      simp at this
end

/-! blocks of F have been written, and new ones made -/
structure Touched (F : List Nat) (w w' : World) : Prop where
  same : ∀ k, k < w.heap.size → k ∉ F → w'.heap[k]? = w.heap[k]?
  size : w.heap.size ≤ w'.heap.size
  os : w'.os = w.os
  tape : w'.tape = w.tape
  output : w'.output = w.output
theorem Touched.later {F : List Nat} {w w' : World} (h : Later w w') : Touched F w w' := ⟨fun k hk _ => Below.block h k hk, h.size, h.os, h.tape, h.output⟩
theorem Touched.marked {F : List Nat} {w w' : World} (h : Marked F w w') : Touched F w w' := ⟨fun k _ hk => h.same k hk, by rw [h.size]; exact Nat.le_refl _, h.os, h.tape, h.output⟩
theorem Touched.trans {F : List Nat} {a b c : World} (h : Touched F a b) (k : Touched F b c) : Touched F a c :=
  ⟨fun j hj hf => (k.same j (by have := h.size; omega) hf).trans (h.same j hj hf), Nat.le_trans h.size k.size, k.os.trans h.os, k.tape.trans h.tape, k.output.trans h.output⟩
theorem Touched.mono {F G' : List Nat} {a b : World} (h : Touched F a b) (hs : ∀ k ∈ F, k ∈ G') : Touched G' a b := ⟨fun j hj hf => h.same j hj fun hm => hf (hs j hm), h.size, h.os, h.tape, h.output⟩
theorem Touched.below {F : List Nat} {a b : World} {B : Nat} (h : Touched F a b) (hB : B ≤ a.heap.size) (hF : ∀ k ∈ F, B ≤ k) : Below B a b :=
  ⟨h.os, h.tape, h.output, h.size, fun k hk => h.same k (by omega) fun hf => by have := hF k hf; omega⟩
theorem Hp.touch {w0 w w' : World} {H : List (Nat × List Value × Nat)} {D : List (World × List Nat)} {S : List (World × Value)} (h : Hp w0 w H D S) (i : Nat) {wk : World} {F : List Nat} (hi : D[i]? = some (wk, F)) (hm : Touched F w w') (ho : Opn w' F) : Hp w0 w' H (D.set i (w', F)) S := by
  have hd0 := h.dat _ (List.mem_of_getElem? hi)
  have hsz := h.low.size
  refine ⟨h.low.trans' (hm.below hsz fun k hk => (hd0.2 k hk).2.1), fun x hx => ?_, h.nes, fun d hd => ?_, two_set (fun j y hj hji => ⟨?_, ?_⟩) h.dis, fun s hs k hk => ?_, h.apt⟩
  · obtain ⟨h1, h2⟩ := h.own x hx
    exact ⟨h1.same (hm.same _ h1.lt fun hf => (hd0.2 _ hf).2.2.2 x hx rfl), h2⟩
  · rcases mem_set' hd with rfl | ⟨j, hji, hj⟩
    · exact ⟨hd0.1, fun k hk => ⟨ho k hk, (hd0.2 k hk).2.1, rfl, (hd0.2 k hk).2.2.2⟩⟩
    · have h1 := h.dat d (List.mem_of_getElem? hj)
      refine ⟨h1.1, fun k hk => ?_⟩
      obtain ⟨g1, g2, g3, g4⟩ := h1.2 k hk
      have e := hm.same k g1.lt (h.dis j i d _ hj hi hji k hk)
      exact ⟨g1.same e, g2, e.trans g3, g4⟩
  · exact h.dis i j (wk, F) y hi hj (Ne.symm hji)
  · exact h.dis j i y (wk, F) hj hi hji
  · obtain ⟨h1, h2, h3, h4, h5⟩ := h.spn s hs k hk
    have e := hm.same k h1.lt (h5 _ (List.mem_of_getElem? hi))
    refine ⟨h1.same e, h2, e.trans h3, h4, fun d hd => ?_⟩
    rcases mem_set' hd with rfl | ⟨j, hji, hj⟩
    · exact h5 (wk, F) (List.mem_of_getElem? hi)
    · exact h5 d (List.mem_of_getElem? hj)

/-! a list of lists of numbers, of which one number is read or written -/
abbrev matR : Rp (List (List Int)) := listR intsR
def get2 (m : List (List Int)) (i k : Nat) : Int := (m.getD i []).getD k 0
def set2 (m : List (List Int)) (i k : Nat) (y : Int) : List (List Int) := m.set i ((m.getD i []).set k y)
theorem set2_length (m : List (List Int)) (i k : Nat) (y : Int) : (set2 m i k y).length = m.length := by simp [set2]
theorem matR.row {w : World} {m : List (List Int)} {p : Option Addr} {l c : Nat} {F : List Nat} (h : matR.V w m [.slice p l c] F) (hn : F.Nodup) {i k : Nat} (hi : i < m.length) (hk : k < (m.getD i []).length) :
    ∃ b o rb ro rc, p = some ⟨b, o, none⟩ ∧ w.cell? ⟨b, o + i, none⟩ = some (.slice (some ⟨rb, ro, none⟩) (m.getD i []).length rc) ∧ w.cell? ⟨rb, ro + k, none⟩ = some (.int .i64 (get2 m i k)) ∧ In64 (get2 m i k) ∧ rb ∈ F ∧
      ∀ w2 y cur e, In64 y → Blk w rb cur e → Wrote rb w w2 → Blk w2 rb (cur.set (ro + k) (.int .i64 y)) e → matR.V w2 (set2 m i k y) [.slice p l c] F := by
  obtain ⟨b, o, us, Fi, rfl, hc, hv, hb, hFi, hni, hbi, hcont⟩ := listR.lens h hn hi
  have hmi : m.getD i [] = m[i] := by simp [hi]
  rw [hmi] at hk ⊢
  obtain ⟨rp, rc, rfl, h1, h2, hl⟩ := id hv
  obtain ⟨rb, ro, rfl, hcell, hin, hrb⟩ := hl.int hk
  have hg : get2 m i k = m[i][k] := by simp [get2, hi, hk]
  rw [hg]
  refine ⟨b, o, rb, ro, rc, rfl, ?_, hcell, hin, hFi rb hrb, fun w2 y cur e hy hB hw hB2 => ?_⟩
  · have := hc 0 _ rfl
    simpa [intsR, listR] using this
  · have h3 := intsR.set hv hk hy hB hw hB2
    have h4 := hcont w2 _ (Marked.wrote hw hrb) h3
    rw [← hmi] at h4; exact h4
section
variable {P : Program} {n : Nat} {Q : Exit → Env → World → Prop} {E : Env} {w : World} {ops : Array Oper} {os : List Oper}
variable {d : Option Tmp} {ty : TypeId} {pos : String} {af : Array Edge} {g : Option (Nat × Bool)} {x y z : Operand}
variable {w0 : World} {H : Own} {D : List (World × List Nat)} {S : List (World × Value)}
/-- any value of one cell into an own block -/
theorem sK (hH : Hp w0 w H D S) {t bys : Nat} {zz : Value} [hi : HasI P t 1 bys zz] {b o : Nat} {cs : List Value} {e : Nat} {U : List Value → Own} {v : Value} (hx : ev E x = .pointer (some ⟨b, o, none⟩)) (hy : ev E y = v) (hb : At1 H b cs e U) (ho : o < cs.length) (hv : v.oneCell' = true)
    (hw : want n ops ⟨d, .store t x y, ty, pos, af, g⟩ E = true) (hd : fits n d = true)
    (h : ∀ w', Hp w0 w' (U (cs.set o v)) D S → Rg P n ops os Q (put E d undef) w') : Rg P n ops (⟨d, .store t x y, ty, pos, af, g⟩ :: os) Q E w :=
  Rg.store hx hy (hH.at1 hb) ho hv hw hd fun w' hW hB => h w' (hH.put1 hb hW hB)
theorem sL (hH : Hp w0 w H D S) {t bys : Nat} {zz : Value} [hi : HasI P t 1 bys zz] {b o : Nat} {cs : List Value} {e : Nat} {U : List Value → Own} {p : Option Addr} {l c : Nat} (hx : ev E x = .pointer (some ⟨b, o, none⟩)) (hy : ev E y = .slice p l c) (hb : At1 H b cs e U) (ho : o < cs.length)
    (hw : want n ops ⟨d, .store t x y, ty, pos, af, g⟩ E = true) (hd : fits n d = true)
    (h : ∀ w', Hp w0 w' (U (cs.set o (.slice p l c))) D S → Rg P n ops os Q (put E d undef) w') : Rg P n ops (⟨d, .store t x y, ty, pos, af, g⟩ :: os) Q E w := sK hH hx hy hb ho rfl hw hd h
/-- a number into data of one's own -/
theorem sD (hH : Hp w0 w H D S) (j : Nat) {wk : World} {F : List Nat} (hj : D[j]? = some (wk, F)) {t bys : Nat} {zz : Value} [hi : HasI P t 1 bys zz] {b o : Nat} {k : IntKind} {a : Int} {v : Value} (hb : b ∈ F) (hc : w.cell? ⟨b, o, none⟩ = some v) (hx : ev E x = .pointer (some ⟨b, o, none⟩)) (hy : ev E y = .int k a)
    (hw : want n ops ⟨d, .store t x y, ty, pos, af, g⟩ E = true) (hd : fits n d = true)
    (h : ∀ w' cur e, Hp w0 w' H (D.set j (w', F)) S → Blk w b cur e → Wrote b w w' → Blk w' b (cur.set o (.int k a)) e → Rg P n ops os Q (put E d undef) w') : Rg P n ops (⟨d, .store t x y, ty, pos, af, g⟩ :: os) Q E w := by
  obtain ⟨⟨cur, e, hB⟩, h2⟩ := (hH.dat _ (List.mem_of_getElem? hj)).2 b hb
  have ho : o < cur.length := by
    unfold World.cell? at hc
    unfold Blk at hB
    simp only [hB] at hc
    exact (List.getElem?_eq_some_iff.1 (by simpa using hc)).1
  refine Rg.storeI hx hy hB ho hw hd fun w' hW hB2 => h w' cur e (hH.mark j hj (Marked.wrote hW hb) ?_) hB hW hB2
  exact Opn.wrote (fun k hk => ((hH.dat _ (List.mem_of_getElem? hj)).2 k hk).1) hW hB2 |>.same fun _ _ => rfl
end
end Go.Proofs.Ytcalkmlaodjpaaa.G
