/- Rules for the operations that make or write memory: new blocks, slices, append, stores. Over any program; nothing is claimed of the given one. -/
import Derived.Test.YtcalkmlaodjpaaaGb
namespace Go.Proofs.Ytcalkmlaodjpaaa.G
open Go.RowKit
set_option linter.unusedVariables false

/-- a block of cells that may be written -/
def Blk (w : World) (b : Nat) (cs : List Value) (e : Nat) : Prop := w.heap[b]? = some (.cells cs.toArray e (0, 0))

theorem Blk.lt {w : World} {b : Nat} {cs : List Value} {e : Nat} (h : Blk w b cs e) : b < w.heap.size := (Array.getElem?_eq_some_iff.1 h).1
theorem Blk.later {w w' : World} {b : Nat} {cs : List Value} {e : Nat} (h : Blk w b cs e) (hl : Later w w') : Blk w' b cs e := (Below.block hl b h.lt).trans h
theorem Blk.cell {w : World} {b : Nat} {cs : List Value} {e : Nat} (h : Blk w b cs e) {o : Nat} {v : Value} (ho : cs[o]? = some v) : w.cell? ⟨b, o, none⟩ = some v := by
  unfold Blk at h; simp [World.cell?, h, ho]
theorem Blk.cells {w : World} {b : Nat} {cs : List Value} {e : Nat} (h : Blk w b cs e) : Cells w b 0 cs := fun i v hv => h.cell (by simpa using hv)
theorem Blk.same {w w' : World} {b : Nat} {cs : List Value} {e : Nat} (h : Blk w b cs e) (hs : w'.heap[b]? = w.heap[b]?) : Blk w' b cs e := hs.trans h
theorem Blk.unfrozen {w : World} {b : Nat} {cs : List Value} {e : Nat} (h : Blk w b cs e) (o : Nat) : w.frozen? ⟨b, o, none⟩ = false := by
  unfold Blk at h; simp [World.frozen?, h]

/-- a new block -/
theorem Later.alloc (w : World) (o : Obj) : Later w (w.alloc o) := Below.alloc (Below.refl _ _) (Nat.le_refl _) o
theorem Blk.new (w : World) (cs : List Value) (e : Nat) : Blk (w.alloc (.cells cs.toArray e)) w.heap.size cs e := heap_alloc_new w _
theorem size_alloc' (w : World) (o : Obj) : (w.alloc o).heap.size = w.heap.size + 1 := by simp

section
variable {P : Program} {n : Nat} {Q : Exit → Env → World → Prop} {E : Env} {w : World} {ops : Array Oper} {os : List Oper}
variable {d : Option Tmp} {ty : TypeId} {pos : String} {af : Array Edge} {g : Option (Nat × Bool)} {x y z : Operand}

theorem run_box {e : TypeId} {v : Value} {cs : List Value} (hx : ev E x = v) (hv : v.cells = cs.toArray) (w : World) :
    (execOp (ev E) ⟨d, .box e x, ty, pos, af, g⟩).run P w = .ok (.value (.pointer (some ⟨w.heap.size, 0, none⟩))) (w.alloc (.cells cs.toArray e)) := by
  subst hx
  simp [execOp, Instr.box, newVar, newRow, hv]
theorem Rg.box {e : TypeId} {v : Value} {cs : List Value} (hx : ev E x = v) (hv : v.cells = cs.toArray) (hw : want n ops ⟨d, .box e x, ty, pos, af, g⟩ E = true) (hd : fits n d = true)
    (h : ∀ b w', b = w.heap.size → w'.heap.size = b + 1 → Later w w' → Blk w' b cs e → Rg P n ops os Q (put E d (.pointer (some ⟨b, 0, none⟩))) w') :
    Rg P n ops (⟨d, .box e x, ty, pos, af, g⟩ :: os) Q E w :=
  Rg.val hw (run_box hx hv w) hd (h _ _ rfl (size_alloc' _ _) (Later.alloc _ _) (Blk.new _ _ _))

theorem run_alloc {e sz bys : Nat} {zz : Value} [hi : HasI P e sz bys zz] {cs : List Value} (hv : zz.cells = cs.toArray) (w : World) :
    (execOp (ev E) ⟨d, .alloc e, ty, pos, af, g⟩).run P w = .ok (.value (.pointer (some ⟨w.heap.size, 0, none⟩))) (w.alloc (.cells cs.toArray e)) := by
  have h1 := hi.zeroV w
  simp [execOp, Instr.alloc, h1, newVar, newRow, hv]
theorem Rg.alloc {e sz bys : Nat} {zz : Value} [hi : HasI P e sz bys zz] {cs : List Value} (hv : zz.cells = cs.toArray) (hw : want n ops ⟨d, .alloc e, ty, pos, af, g⟩ E = true) (hd : fits n d = true)
    (h : ∀ b w', b = w.heap.size → w'.heap.size = b + 1 → Later w w' → Blk w' b cs e → Rg P n ops os Q (put E d (.pointer (some ⟨b, 0, none⟩))) w') :
    Rg P n ops (⟨d, .alloc e, ty, pos, af, g⟩ :: os) Q E w :=
  Rg.val hw (run_alloc hv w) hd (h _ _ rfl (size_alloc' _ _) (Later.alloc _ _) (Blk.new _ _ _))

theorem Rg.allocG {e sz bys : Nat} {zs : List Value} [hi : HasI P e sz bys (.agg zs.toArray)] (hw : want n ops ⟨d, .alloc e, ty, pos, af, g⟩ E = true) (hd : fits n d = true)
    (h : ∀ b w', b = w.heap.size → w'.heap.size = b + 1 → Later w w' → Blk w' b zs e → Rg P n ops os Q (put E d (.pointer (some ⟨b, 0, none⟩))) w') :
    Rg P n ops (⟨d, .alloc e, ty, pos, af, g⟩ :: os) Q E w := Rg.alloc (zz := .agg zs.toArray) (cs := zs) rfl hw hd h
theorem Rg.alloc1 {e bys : Nat} {zz : Value} [hi : HasI P e 1 bys zz] (hz : zz.cells = #[zz]) (hw : want n ops ⟨d, .alloc e, ty, pos, af, g⟩ E = true) (hd : fits n d = true)
    (h : ∀ b w', b = w.heap.size → w'.heap.size = b + 1 → Later w w' → Blk w' b [zz] e → Rg P n ops os Q (put E d (.pointer (some ⟨b, 0, none⟩))) w') :
    Rg P n ops (⟨d, .alloc e, ty, pos, af, g⟩ :: os) Q E w := Rg.alloc (cs := [zz]) hz hw hd h
theorem Rg.boxG {e : TypeId} {vs : List Value} (hx : ev E x = .agg vs.toArray) (hw : want n ops ⟨d, .box e x, ty, pos, af, g⟩ E = true) (hd : fits n d = true)
    (h : ∀ b w', b = w.heap.size → w'.heap.size = b + 1 → Later w w' → Blk w' b vs e → Rg P n ops os Q (put E d (.pointer (some ⟨b, 0, none⟩))) w') :
    Rg P n ops (⟨d, .box e x, ty, pos, af, g⟩ :: os) Q E w := Rg.box (cs := vs) hx rfl hw hd h
theorem Rg.boxI {e : TypeId} {k : IntKind} {a : Int} (hx : ev E x = .int k a) (hw : want n ops ⟨d, .box e x, ty, pos, af, g⟩ E = true) (hd : fits n d = true)
    (h : ∀ b w', b = w.heap.size → w'.heap.size = b + 1 → Later w w' → Blk w' b [.int k a] e → Rg P n ops os Q (put E d (.pointer (some ⟨b, 0, none⟩))) w') :
    Rg P n ops (⟨d, .box e x, ty, pos, af, g⟩ :: os) Q E w := Rg.box (cs := [.int k a]) hx rfl hw hd h
theorem Rg.boxS {e : TypeId} {p : Option Addr} {l c : Nat} (hx : ev E x = .slice p l c) (hw : want n ops ⟨d, .box e x, ty, pos, af, g⟩ E = true) (hd : fits n d = true)
    (h : ∀ b w', b = w.heap.size → w'.heap.size = b + 1 → Later w w' → Blk w' b [.slice p l c] e → Rg P n ops os Q (put E d (.pointer (some ⟨b, 0, none⟩))) w') :
    Rg P n ops (⟨d, .box e x, ty, pos, af, g⟩ :: os) Q E w := Rg.box (cs := [.slice p l c]) hx rfl hw hd h
theorem madeCells_one (z : Value) (n : Nat) : (madeCells #[z] n).toList = List.replicate n z := by
  simp only [madeCells, Array.toList_map, Array.toList_range]
  apply List.ext_getElem
  · simp
  · intro i h1 h2
    simp [Nat.mod_one]

/-- make([]T, n), T of one cell -/
theorem Rg.make1 {t e bys : Nat} {zz : Value} [hu : HasU P t (.slice e)] [hi : HasI P e 1 bys zz] {m : Nat} {l : Int} (hx : ev E x = .int .i64 l) (hy : ev E y = .int .i64 l) (hl : l = (m : Int)) (hz : zz.cells = #[zz])
    (hb : bys * m ≤ 281474976710656) (hm : m ≤ 9223372036854775807) (hw : want n ops ⟨d, .makeSlice t x y, ty, pos, af, g⟩ E = true) (hd : fits n d = true)
    (h : ∀ b w', b = w.heap.size → w'.heap.size = b + 1 → Later w w' → Blk w' b (List.replicate m zz) e → Rg P n ops os Q (put E d (.slice (some ⟨b, 0, none⟩) m m)) w') :
    Rg P n ops (⟨d, .makeSlice t x y, ty, pos, af, g⟩ :: os) Q E w := by
  subst hl
  obtain ⟨i, h1, h2, h3, h4⟩ := hi.ex
  have hb' : (i.bytes : Int) * (m : Int) ≤ 281474976710656 := by
    rw [h4, ← Int.natCast_mul]; exact Int.ofNat_le.2 hb
  have hr := run_make (P := P) w t e i zz hu.u h1 h2 .i64 .i64 (m : Int) (m : Int) (by omega) (by omega) hb' (by omega)
  have hr' : (execOp (ev E) ⟨d, .makeSlice t x y, ty, pos, af, g⟩).run P w = .ok (.value (.slice (some ⟨w.heap.size, 0, none⟩) m m)) (w.alloc (.cells (List.replicate m zz).toArray e)) := by
    have e1 : madeCells zz.cells ((m : Int).toNat * i.size) = (List.replicate m zz).toArray := by
      apply Array.ext'
      rw [hz, h3, madeCells_one]; simp
    rw [e1] at hr
    simp [execOp, hx, hy, hr]
  exact Rg.val hw hr' hd (h _ _ rfl (size_alloc' _ _) (Later.alloc _ _) (Blk.new _ _ _))

/-- a slice literal: its cells by 'fill' -/
theorem Rg.lit {t e sz bys len : Nat} {zz : Value} {ps : Array (Nat × Operand)} [hu : HasU P t (.slice e)] [hi : HasI P e sz bys zz] {vs : List (Nat × Value)} {cs : List Value}
    (hvs : ps.toList.map (fun p => (p.1, ev E p.2)) = vs) (hsz : len * sz ≤ 16777216)
    (hf : Instr.fill (fun i => some (i * sz, sz)) ((Array.range (len * sz)).map (zz.cells[· % zz.cells.size]!)) vs = some cs.toArray)
    (hw : want n ops ⟨d, .buildSlice t len ps, ty, pos, af, g⟩ E = true) (hd : fits n d = true)
    (h : ∀ b w', b = w.heap.size → w'.heap.size = b + 1 → Later w w' → Blk w' b cs e → Rg P n ops os Q (put E d (.slice (some ⟨b, 0, none⟩) len len)) w') :
    Rg P n ops (⟨d, .buildSlice t len ps, ty, pos, af, g⟩ :: os) Q E w := by
  have h1 := hu.und w
  have h2 := hi.sizeOf w
  have h3 := hi.zeroV w
  have hr' : (execOp (ev E) ⟨d, .buildSlice t len ps, ty, pos, af, g⟩).run P w = .ok (.value (.slice (some ⟨w.heap.size, 0, none⟩) len len)) (w.alloc (.cells cs.toArray e)) := by
    have e1 : (Array.map (fun p => (p.1, ev E p.2)) ps).toList = vs := by rw [← hvs]; simp
    have e2 : ¬ (len * sz > 2 ^ 24) := by omega
    have e3 : (Array.map (fun x : Nat × Operand => match x with | (i, x) => (i, ev E x)) ps).toList = vs := e1
    simp only [execOp, Instr.buildSlice, Sem.run_bind, h1, h2, Result.andThen_ok, Sem.run_ite, e2, if_false, e3, Sem.run_pure]
    by_cases e0 : len * sz = 0
    · simp only [e0, if_true]
      have : (Array.map (fun x => (#[] : Array Value)[x % (#[] : Array Value).size]!) (Array.range 0)) = (Array.range (len * sz)).map (zz.cells[· % zz.cells.size]!) := by rw [e0]; simp
      rw [this, hf]
      simp [newRow]
    · simp only [e0, if_false, Sem.run_bind, h3, Result.andThen_ok, Sem.run_pure, hf]
      simp [newRow]
  exact Rg.val hw hr' hd (h _ _ rfl (size_alloc' _ _) (Later.alloc _ _) (Blk.new _ _ _))

/-! ### a slice to which one may append -/
def oneAll (cs : List Value) : Prop := ∀ u ∈ cs, u.oneCell' = true
def own : Value → Option Nat
  | .slice (some a) _ (_ + 1) => some a.block
  | _ => none
def Buf (w : World) (e sz : Nat) (v : Value) (m : Nat) (cs : List Value) : Prop :=
  cs.length = m * sz ∧ ((m = 0 ∧ ∃ p, v = .slice p 0 0) ∨
    ∃ b c cur, v = .slice (some ⟨b, 0, none⟩) m (c + 1) ∧ Blk w b cur e ∧ m ≤ c + 1 ∧ c + 1 ≤ maxLen ∧ cur.length = (c + 1) * sz ∧ cur.take (m * sz) = cs)
/-- what is appended -/
def Src (w : World) (v : Value) (m : Nat) (news : List Value) : Prop :=
  ∃ p c, v = .slice p m c ∧ (news = [] ∨ ∃ b o, p = some ⟨b, o, none⟩ ∧ Cells w b o news)

theorem Buf.nil (w : World) (e sz : Nat) : Buf w e sz (.slice none 0 0) 0 [] := ⟨by simp, .inl ⟨rfl, none, rfl⟩⟩
theorem Buf.ofBlk {w : World} {b e sz m : Nat} {cs : List Value} (h : Blk w b cs e) (hm : m ≤ maxLen) (hl : cs.length = m * sz) : Buf w e sz (.slice (some ⟨b, 0, none⟩) m m) m cs := by
  refine ⟨hl, ?_⟩
  cases m with
  | zero => exact .inl ⟨rfl, _, rfl⟩
  | succ c => exact .inr ⟨b, c, cs, rfl, h, Nat.le_refl _, hm, hl, by rw [← hl]; exact List.take_length⟩
theorem Buf.later {w w' : World} {e sz m : Nat} {v : Value} {cs : List Value} (h : Buf w e sz v m cs) (hl : Later w w') : Buf w' e sz v m cs := by
  refine ⟨h.1, ?_⟩
  rcases h.2 with h | ⟨b, c, cur, h1, h2, h3⟩
  · exact .inl h
  · exact .inr ⟨b, c, cur, h1, h2.later hl, h3⟩
theorem Buf.own_lt {w : World} {e sz m : Nat} {v : Value} {cs : List Value} (h : Buf w e sz v m cs) : ∀ b, own v = some b → b < w.heap.size := by
  intro b hb
  rcases h.2 with ⟨_, p, rfl⟩ | ⟨b', c, cur, rfl, h2, _⟩
  · cases p <;> simp [own] at hb
  · simp [own] at hb; subst hb; exact h2.lt
/-- blocks other than the buffer's own stay -/
theorem Buf.same {w w' : World} {e sz m : Nat} {v : Value} {cs : List Value} (h : Buf w e sz v m cs) (hs : ∀ b, own v = some b → w'.heap[b]? = w.heap[b]?) : Buf w' e sz v m cs := by
  refine ⟨h.1, ?_⟩
  rcases h.2 with h | ⟨b, c, cur, rfl, h2, h3⟩
  · exact .inl h
  · exact .inr ⟨b, c, cur, rfl, h2.same (hs b rfl), h3⟩
theorem Buf.src {w : World} {e sz m : Nat} {v : Value} {cs : List Value} (h : Buf w e sz v m cs) : Src w v m cs := by
  rcases h.2 with ⟨rfl, p, rfl⟩ | ⟨b, c, cur, rfl, h2, h3, h4, h5, h6⟩
  · exact ⟨p, 0, rfl, .inl (List.eq_nil_of_length_eq_zero (by simpa using h.1))⟩
  · refine ⟨_, _, rfl, .inr ⟨b, 0, rfl, fun i u hu => h2.cells i u ?_⟩⟩
    rw [← h6, List.getElem?_take] at hu
    split at hu
    · exact hu
    · cases hu

/-- what an append may have done -/
structure Grew (w w' : World) (v v' : Value) : Prop where
  same : ∀ k, k < w.heap.size → some k ≠ own v → w'.heap[k]? = w.heap[k]?
  size : w.heap.size ≤ w'.heap.size
  os : w'.os = w.os
  tape : w'.tape = w.tape
  output : w'.output = w.output
  own : own v' = own v ∨ ∃ b, own v' = some b ∧ w.heap.size ≤ b

theorem Grew.below {w w' : World} {v v' : Value} {B : Nat} (h : Grew w w' v v') (hB : B ≤ w.heap.size) (ho : ∀ b, G.own v = some b → B ≤ b) : Below B w w' :=
  ⟨h.os, h.tape, h.output, h.size, fun k hk => h.same k (by omega) (fun e => by have := ho k e.symm; omega)⟩
theorem Grew.own_ge {w w' : World} {v v' : Value} {B : Nat} (h : Grew w w' v v') (hB : B ≤ w.heap.size) (ho : ∀ b, G.own v = some b → B ≤ b) : ∀ b, G.own v' = some b → B ≤ b := by
  intro b hb
  rcases h.own with e | ⟨b', e, h1⟩
  · exact ho b (e ▸ hb)
  · rw [e] at hb; cases hb; omega

theorem run_append_buf {t e sz bys : Nat} {zz : Value} [hu : HasU P t (.slice e)] [hi : HasI P e sz bys zz] (hz : zz.cells.size = sz) (hs0 : 0 < sz) {ty : Nat} {w : World} {v x : Value} {m k : Nat} {cs news : List Value}
    (hb : Buf w e sz v m cs) (hx : Src w x k news) (hl : news.length = k * sz) (h1 : oneAll news) (h63 : m + k ≤ maxLen) (hby : (m + k) * bys ≤ 140737488355328) :
    ∃ v' w', (Builtin.append_ #[t, t] ty #[v, x]).run P w = .ok v' w' ∧ Buf w' e sz v' (m + k) (cs ++ news) ∧ Grew w w' v v' := by
  obtain ⟨i, i1, i2, i3, i4⟩ := hi.ex
  subst i3
  subst i4
  obtain ⟨p, c, rfl, hx⟩ := hx
  have hsmall : m + k ≤ 9223372036854775807 := by simp only [maxLen] at h63; omega
  have hlen : (cs ++ news).length = (m + k) * i.size := by rw [List.length_append, hb.1, hl, Nat.add_mul]
  -- the same slice, nothing appended
  by_cases hk : k = 0
  · subst hk
    have hn : news = [] := List.eq_nil_of_length_eq_zero (by simpa using hl)
    subst hn
    simp only [Nat.add_zero, List.append_nil]
    refine ⟨v, w, ?_, hb, ⟨fun _ _ _ => rfl, Nat.le_refl _, rfl, rfl, rfl, .inl rfl⟩⟩
    rcases hb.2 with ⟨rfl, q, rfl⟩ | ⟨b, c', cur, rfl, h2, h3, h4, h5, h6⟩
    · cases p <;> cases q <;> simp [Builtin.append_, run_underlying hu.u, sizeOf, typeInfo, i1, Builtin.lenOf, Builtin.firstCells, loadCells, loadCellsFrom, storeCells]
    · cases p <;> simp [Builtin.append_, run_underlying hu.u, sizeOf, typeInfo, i1, Builtin.lenOf, h3, Builtin.firstCells, loadCells, loadCellsFrom, storeCells]
  obtain ⟨ab, ao, rfl, hcells⟩ : ∃ b o, p = some ⟨b, o, none⟩ ∧ Cells w b o news := by
    rcases hx with rfl | h
    · have h0 : 0 < k * i.size := Nat.mul_pos (by omega) hs0
      rw [← hl] at h0; exact absurd h0 (by simp)
    · exact h
  have hnews : ∀ j u, news[j]? = some u → w.cell? ((⟨ab, ao, none⟩ : Addr).add j) = some u := fun j u hj => by rw [add_none]; exact hcells j u hj
  have grown : ∀ (old : Nat) (v : Value), old < m + k →
      Buf (w.drew.alloc (.cells (cs.toArray ++ news.toArray ++ Builtin.zeroCells zz.cells (grownCap w (m + k) old e - (m + k))) e)) e i.size
        (.slice (some ⟨w.heap.size, 0, none⟩) (m + k) (grownCap w (m + k) old e)) (m + k) (cs ++ news) ∧
      Grew w (w.drew.alloc (.cells (cs.toArray ++ news.toArray ++ Builtin.zeroCells zz.cells (grownCap w (m + k) old e - (m + k))) e)) v (.slice (some ⟨w.heap.size, 0, none⟩) (m + k) (grownCap w (m + k) old e)) := by
    intro old v ho
    have hge := grownCap_ge w (m + k) old e
    have hcm : grownCap w (m + k) old e ≤ maxLen := grownCap_le_maxLen w (m + k) old e h63
    obtain ⟨gc, hgc⟩ : ∃ gc, grownCap w (m + k) old e = gc + 1 := ⟨grownCap w (m + k) old e - 1, by omega⟩
    rw [hgc] at hge hcm ⊢
    have hb' : (cs.toArray ++ news.toArray ++ Builtin.zeroCells zz.cells (gc + 1 - (m + k))) = (cs ++ news ++ (Builtin.zeroCells zz.cells (gc + 1 - (m + k))).toList).toArray := by
      apply Array.ext'; simp
    refine ⟨⟨hlen, .inr ⟨w.heap.size, gc, cs ++ news ++ (Builtin.zeroCells zz.cells (gc + 1 - (m + k))).toList, rfl, ?_, hge, hcm, ?_, ?_⟩⟩, ⟨fun j hj _ => Below.heap_alloc w.drew _ j hj, by simp, rfl, rfl, rfl, .inr ⟨w.heap.size, rfl, Nat.le_refl _⟩⟩⟩
    · rw [hb']; exact Blk.new w.drew _ e
    · simp only [List.length_append, Array.length_toList, size_zeroCells, hz, hb.1, hl, ← Nat.add_mul]
      congr 1
      omega
    · rw [← hlen]
      exact List.take_left
  rcases hb.2 with ⟨rfl, q, rfl⟩ | ⟨b, c', cur, rfl, h2, h3, h4, h5, h6⟩
  · have hcs : cs = [] := List.eq_nil_of_length_eq_zero (by simpa using hb.1)
    subst hcs
    have hgr := grown 0 (.slice q 0 0) (by omega)
    cases q with
    | none =>
      have hr := run_append_nil (P := P) w t ty e i zz hu.u i1 i2 ⟨ab, ao, none⟩ k c news hl hnews (by omega) (by omega) (by simp only [Nat.zero_add] at hby; omega)
      simp only [Nat.zero_add, List.nil_append, Array.empty_append] at hgr ⊢
      exact ⟨_, _, hr, hgr.1, hgr.2⟩
    | some q =>
      have hr := run_append_grow (P := P) w t ty e i zz hu.u i1 i2 q 0 0 [] (by simp) (fun j u hj => by simp at hj) ⟨ab, ao, none⟩ k c news hl hnews (by omega) (by omega) (growslice_fits (by omega) hby)
      exact ⟨_, _, hr, hgr.1, hgr.2⟩
  · by_cases hroom : m + k ≤ c' + 1
    · have hfit : m * i.size + news.length ≤ cur.toArray.size := by
        simp only [List.size_toArray]
        rw [hl, h5, ← Nat.add_mul]; exact Nat.mul_le_mul_right _ hroom
      have hr := run_append_room (P := P) w t ty e i hu.u i1 b m (c' + 1) cur.toArray h2 ⟨ab, ao, none⟩ k c news hl hnews h1 hroom hfit
      have hset := setRow_heap w b cur.toArray (cur.toArray.toList.take (m * i.size) ++ news ++ cur.toArray.toList.drop (m * i.size + news.length)).toArray e _ h2
      refine ⟨_, _, hr, ⟨hlen, .inr ⟨b, c', _, rfl, hset, hroom, h4, ?_, ?_⟩⟩, ⟨fun k _ hk => setRow_other w b k _ (fun e => hk (by simp [G.own, e])), by simp, rfl, rfl, rfl, .inl rfl⟩⟩
      · simp only [List.length_append, List.length_take, List.length_drop]
        simp only [List.size_toArray] at hfit
        omega
      · simp only
        rw [h6, ← hlen]
        exact List.take_left
    · have holds : ∀ j u, cs[j]? = some u → w.cell? ((⟨b, 0, none⟩ : Addr).add j) = some u := fun j u hj => by
        rw [add_none]
        refine h2.cells j u ?_
        rw [← h6, List.getElem?_take] at hj
        split at hj
        · exact hj
        · cases hj
      have hr := run_append_grow (P := P) w t ty e i zz hu.u i1 i2 ⟨b, 0, none⟩ m (c' + 1) cs hb.1 holds ⟨ab, ao, none⟩ k c news hl hnews (by omega) (by omega) (growslice_fits (by omega) hby)
      have hgr := grown (c' + 1) (.slice (some ⟨b, 0, none⟩) m (c' + 1)) (by omega)
      exact ⟨_, _, hr, hgr.1, hgr.2⟩

theorem Rg.append {t e sz bys : Nat} {zz : Value} [hu : HasU P t (.slice e)] [hi : HasI P e sz bys zz] {v u : Value} {m k : Nat} {cs news : List Value} (hx : ev E x = v) (hy : ev E y = u)
    (hb : Buf w e sz v m cs) (hs : Src w u k news) (hz : zz.cells.size = sz) (hs0 : 0 < sz) (hl : news.length = k * sz) (h1 : oneAll news) (h63 : m + k ≤ maxLen) (hby : (m + k) * bys ≤ 140737488355328)
    (hw : want n ops ⟨d, .call ⟨.builtin .append, #[x, y], #[t, t]⟩, ty, pos, af, g⟩ E = true) (hd : fits n d = true)
    (h : ∀ v' w', Buf w' e sz v' (m + k) (cs ++ news) → Grew w w' v v' → Rg P n ops os Q (put E d v') w') :
    Rg P n ops (⟨d, .call ⟨.builtin .append, #[x, y], #[t, t]⟩, ty, pos, af, g⟩ :: os) Q E w := by
  obtain ⟨v', w', hr, h2, h3⟩ := run_append_buf (P := P) (t := t) (ty := ty) hz hs0 hb hs hl h1 h63 hby
  have hr' : (execOp (ev E) ⟨d, .call ⟨.builtin .append, #[x, y], #[t, t]⟩, ty, pos, af, g⟩).run P w = .ok (.value v') w' := by
    simp [execOp, resolve, invoke, builtin, hx, hy, hr]
  exact Rg.val hw hr' hd (h v' w' h2 h3)

/-! ### a store of one cell -/
theorem Blk.set {w : World} {b : Nat} {cs : List Value} {e : Nat} (h : Blk w b cs e) (o : Nat) (v : Value) : Blk (w.setCell ⟨b, o, none⟩ v) b (cs.set o v) e := by
  unfold Blk at *
  simp only [World.setCell, Array.getElem?_modify, h, if_true, Option.map_some]
  simp
theorem setCell_other (w : World) (a : Addr) (v : Value) (k : Nat) (h : k ≠ a.block) : (w.setCell a v).heap[k]? = w.heap[k]? := Below.heap_setCell w a v k h
/-- block b alone has changed -/
structure Wrote (b : Nat) (w w' : World) : Prop where
  same : ∀ k, k ≠ b → w'.heap[k]? = w.heap[k]?
  size : w'.heap.size = w.heap.size
  os : w'.os = w.os
  tape : w'.tape = w.tape
  output : w'.output = w.output
theorem Wrote.setCell (w : World) (b o : Nat) (v : Value) : Wrote b w (w.setCell ⟨b, o, none⟩ v) :=
  ⟨fun k hk => setCell_other w _ v k hk, by simp [World.setCell], rfl, rfl, rfl⟩
theorem Wrote.below {b B : Nat} {w w' : World} (h : Wrote b w w') (hB : B ≤ b) : Below B w w' :=
  ⟨h.os, h.tape, h.output, by rw [h.size]; exact Nat.le_refl _, fun k hk => h.same k (by omega)⟩
theorem Rg.store {t bys : Nat} {zz : Value} [hi : HasI P t 1 bys zz] {b o : Nat} {cs : List Value} {e : Nat} {v : Value} (hx : ev E x = .pointer (some ⟨b, o, none⟩)) (hy : ev E y = v) (hb : Blk w b cs e) (ho : o < cs.length) (hv : v.oneCell' = true)
    (hw : want n ops ⟨d, .store t x y, ty, pos, af, g⟩ E = true) (hd : fits n d = true)
    (h : ∀ w', Wrote b w w' → Blk w' b (cs.set o v) e → Rg P n ops os Q (put E d undef) w') : Rg P n ops (⟨d, .store t x y, ty, pos, af, g⟩ :: os) Q E w := by
  have h1 := hi.sizeOf w
  have hc : w.cell? ⟨b, o, none⟩ = some cs[o] := hb.cell (by simp [ho])
  have hf := hb.unfrozen o
  have hcs : v.cells = #[v] := by cases v <;> first | rfl | cases hv
  have hr : (execOp (ev E) ⟨d, .store t x y, ty, pos, af, g⟩).run P w = .ok .skip (w.setCell ⟨b, o, none⟩ v) := by
    have hst : (Go.store (⟨b, o, none⟩ : Addr) v).run P w = .ok () (w.setCell ⟨b, o, none⟩ v) := by
      rw [run_store P w _ v _ hv]
      simp [hc, hf]
    simp [execOp, hx, hy, Instr.storeAt, Instr.sureAddr, storeVar, hcs, h1, storeCells, add_none, hst]
  exact Rg.unit hw hr hd (h _ (Wrote.setCell w b o v) (hb.set o v))
/-- a store of several cells -/
theorem Rg.storeAgg {t sz bys : Nat} {zz : Value} [hi : HasI P t sz bys zz] {b o : Nat} {cs vs : List Value} {e : Nat} (hx : ev E x = .pointer (some ⟨b, o, none⟩)) (hy : ev E y = .agg vs.toArray) (hb : Blk w b cs e) (hl : vs.length = sz) (ho : o + vs.length ≤ cs.length) (hv : oneAll vs)
    (hw : want n ops ⟨d, .store t x y, ty, pos, af, g⟩ E = true) (hd : fits n d = true)
    (h : ∀ w', Wrote b w w' → Blk w' b (cs.take o ++ vs ++ cs.drop (o + vs.length)) e → Rg P n ops os Q (put E d undef) w') : Rg P n ops (⟨d, .store t x y, ty, pos, af, g⟩ :: os) Q E w := by
  have h1 := hi.sizeOf w
  have hst := run_storeCells_at P b o e vs 0 cs.toArray w hb (by simpa using ho) hv
  simp only [Nat.add_zero] at hst
  have hr : (execOp (ev E) ⟨d, .store t x y, ty, pos, af, g⟩).run P w = .ok .skip (w.setRow b (cs.take o ++ vs ++ cs.drop (o + vs.length)).toArray) := by
    have hs : ¬ (vs.toArray.size ≠ sz) := by simpa using hl
    simp [execOp, hx, hy, Instr.storeAt, Instr.sureAddr, storeVar, Value.cells, h1, hl, hst]
  have hset := setRow_heap w b cs.toArray (cs.take o ++ vs ++ cs.drop (o + vs.length)).toArray e _ hb
  exact Rg.unit hw hr hd (h _ ⟨fun k hk => setRow_other w b k _ hk, by simp, rfl, rfl, rfl⟩ hset)
theorem Rg.storeI {t bys : Nat} {zz : Value} [hi : HasI P t 1 bys zz] {b o : Nat} {cs : List Value} {e : Nat} {k : IntKind} {a : Int} (hx : ev E x = .pointer (some ⟨b, o, none⟩)) (hy : ev E y = .int k a) (hb : Blk w b cs e) (ho : o < cs.length)
    (hw : want n ops ⟨d, .store t x y, ty, pos, af, g⟩ E = true) (hd : fits n d = true)
    (h : ∀ w', Wrote b w w' → Blk w' b (cs.set o (.int k a)) e → Rg P n ops os Q (put E d undef) w') : Rg P n ops (⟨d, .store t x y, ty, pos, af, g⟩ :: os) Q E w :=
  Rg.store hx hy hb ho rfl hw hd h
theorem Rg.storeS {t bys : Nat} {zz : Value} [hi : HasI P t 1 bys zz] {b o : Nat} {cs : List Value} {e : Nat} {p : Option Addr} {l c : Nat} (hx : ev E x = .pointer (some ⟨b, o, none⟩)) (hy : ev E y = .slice p l c) (hb : Blk w b cs e) (ho : o < cs.length)
    (hw : want n ops ⟨d, .store t x y, ty, pos, af, g⟩ E = true) (hd : fits n d = true)
    (h : ∀ w', Wrote b w w' → Blk w' b (cs.set o (.slice p l c)) e → Rg P n ops os Q (put E d undef) w') : Rg P n ops (⟨d, .store t x y, ty, pos, af, g⟩ :: os) Q E w :=
  Rg.store hx hy hb ho rfl hw hd h
theorem oneAll_nil : oneAll [] := fun u hu => by cases hu
theorem oneAll_dec {vs : List Value} (h : vs.all (fun u => u.oneCell') = true := by rfl) : oneAll vs := fun u hu => List.all_eq_true.1 h u hu
/-! ### which goal it is -/
theorem jW {P : Program} {n : Nat} {Q : Exit → Env → World → Prop} {E : Env} {w : World} {c : Code} (h : Wp P n c Q E w) : Wp P n c Q E w := h
theorem jR {P : Program} {n : Nat} {Q : Exit → Env → World → Prop} {E : Env} {w : World} {ops : Array Oper} {os : List Oper} (h : Rg P n ops os Q E w) : Rg P n ops os Q E w := h
theorem jD {P : Program} {n : Nat} {Q : Exit → Env → World → Prop} {E : Env} {w : World} {c : Operand} {x y : Code} (h : Wp P n (.cond c x y) Q E w) : Wp P n (.cond c x y) Q E w := h
theorem wA {P : Program} {n : Nat} {Q : Exit → Env → World → Prop} {E : Env} {w : World} {c : Operand} {x y : Code} {p : Prop} [Decidable p] (hc : ev E c = .bool (decide p)) (hp : p) (h : Wp P n x Q E w) : Wp P n (.cond c x y) Q E w := Wp.condD hc (fun _ => h) (fun hn => absurd hp hn)
theorem wB {P : Program} {n : Nat} {Q : Exit → Env → World → Prop} {E : Env} {w : World} {c : Operand} {x y : Code} {p : Prop} [Decidable p] (hc : ev E c = .bool (decide p)) (hp : ¬ p) (h : Wp P n y Q E w) : Wp P n (.cond c x y) Q E w := Wp.condD hc (fun hn => absurd hn hp) (fun _ => h)
theorem gA {P : Program} {n : Nat} {Q : Exit → Env → World → Prop} {E : Env} {w : World} {ops : Array Oper} {os : List Oper} {x : Option Tmp} {op : Op} {ty : TypeId} {pos : String} {af : Array Edge} {j : Nat} {c : Bool} {d : Nat} {p : Prop} [Decidable p]
    (hj : (ops[j]?).bind (·.dst) = some d) (hE : E d = .bool (decide p)) (hp : p) (h : Rg P n ops (⟨x, op, ty, pos, af, some (j, c)⟩ :: os) Q (upd E d (.bool true)) w) : Rg P n ops (⟨x, op, ty, pos, af, some (j, c)⟩ :: os) Q E w := Rg.splitD hj hE (fun _ => h) (fun hn => absurd hp hn)
theorem gB {P : Program} {n : Nat} {Q : Exit → Env → World → Prop} {E : Env} {w : World} {ops : Array Oper} {os : List Oper} {x : Option Tmp} {op : Op} {ty : TypeId} {pos : String} {af : Array Edge} {j : Nat} {c : Bool} {d : Nat} {p : Prop} [Decidable p]
    (hj : (ops[j]?).bind (·.dst) = some d) (hE : E d = .bool (decide p)) (hp : ¬ p) (h : Rg P n ops (⟨x, op, ty, pos, af, some (j, c)⟩ :: os) Q (upd E d (.bool false)) w) : Rg P n ops (⟨x, op, ty, pos, af, some (j, c)⟩ :: os) Q E w := Rg.splitD hj hE (fun hn => absurd hn hp) (fun _ => h)
/-! ### which operation comes next -/
theorem jY {P : Program} {n : Nat} {Q : Exit → Env → World → Prop} {E : Env} {w : World} {ops : Array Oper} {os : List Oper} {d : Option Tmp} {ty : TypeId} {pos : String} {af : Array Edge} {g : Option (Nat × Bool)} {t : TypeId} {m : Nat} {ps : Array (Nat × Operand)} (h : Rg P n ops (⟨d, .buildSlice t m ps, ty, pos, af, g⟩ :: os) Q E w) : Rg P n ops (⟨d, .buildSlice t m ps, ty, pos, af, g⟩ :: os) Q E w := h
theorem jM {P : Program} {n : Nat} {Q : Exit → Env → World → Prop} {E : Env} {w : World} {ops : Array Oper} {os : List Oper} {d : Option Tmp} {ty : TypeId} {pos : String} {af : Array Edge} {g : Option (Nat × Bool)} {x : Operand} (h : Rg P n ops (⟨d, .move x, ty, pos, af, g⟩ :: os) Q E w) : Rg P n ops (⟨d, .move x, ty, pos, af, g⟩ :: os) Q E w := h
theorem jA {P : Program} {n : Nat} {Q : Exit → Env → World → Prop} {E : Env} {w : World} {ops : Array Oper} {os : List Oper} {d : Option Tmp} {ty : TypeId} {pos : String} {af : Array Edge} {g : Option (Nat × Bool)} {x : Operand} (h : Rg P n ops (⟨d, .assign x, ty, pos, af, g⟩ :: os) Q E w) : Rg P n ops (⟨d, .assign x, ty, pos, af, g⟩ :: os) Q E w := h
theorem jP {P : Program} {n : Nat} {Q : Exit → Env → World → Prop} {E : Env} {w : World} {ops : Array Oper} {os : List Oper} {d : Option Tmp} {ty : TypeId} {pos : String} {af : Array Edge} {g : Option (Nat × Bool)} {x y z : Operand} (h : Rg P n ops (⟨d, .pick x y z, ty, pos, af, g⟩ :: os) Q E w) : Rg P n ops (⟨d, .pick x y z, ty, pos, af, g⟩ :: os) Q E w := h
theorem jB {P : Program} {n : Nat} {Q : Exit → Env → World → Prop} {E : Env} {w : World} {ops : Array Oper} {os : List Oper} {d : Option Tmp} {ty : TypeId} {pos : String} {af : Array Edge} {g : Option (Nat × Bool)} {bo : BinOp} {t t' : TypeId} {x y : Operand} (h : Rg P n ops (⟨d, .binOp bo t x y t', ty, pos, af, g⟩ :: os) Q E w) : Rg P n ops (⟨d, .binOp bo t x y t', ty, pos, af, g⟩ :: os) Q E w := h
theorem jU {P : Program} {n : Nat} {Q : Exit → Env → World → Prop} {E : Env} {w : World} {ops : Array Oper} {os : List Oper} {d : Option Tmp} {ty : TypeId} {pos : String} {af : Array Edge} {g : Option (Nat × Bool)} {uo : UnOp} {t : TypeId} {x : Operand} (h : Rg P n ops (⟨d, .unOp uo t x, ty, pos, af, g⟩ :: os) Q E w) : Rg P n ops (⟨d, .unOp uo t x, ty, pos, af, g⟩ :: os) Q E w := h
theorem jF {P : Program} {n : Nat} {Q : Exit → Env → World → Prop} {E : Env} {w : World} {ops : Array Oper} {os : List Oper} {d : Option Tmp} {ty : TypeId} {pos : String} {af : Array Edge} {g : Option (Nat × Bool)} {t i : Nat} {x : Operand} (h : Rg P n ops (⟨d, .fieldAddr t x i, ty, pos, af, g⟩ :: os) Q E w) : Rg P n ops (⟨d, .fieldAddr t x i, ty, pos, af, g⟩ :: os) Q E w := h
theorem jL {P : Program} {n : Nat} {Q : Exit → Env → World → Prop} {E : Env} {w : World} {ops : Array Oper} {os : List Oper} {d : Option Tmp} {ty : TypeId} {pos : String} {af : Array Edge} {g : Option (Nat × Bool)} {t : TypeId} {x : Operand} (h : Rg P n ops (⟨d, .load t x, ty, pos, af, g⟩ :: os) Q E w) : Rg P n ops (⟨d, .load t x, ty, pos, af, g⟩ :: os) Q E w := h
theorem jS {P : Program} {n : Nat} {Q : Exit → Env → World → Prop} {E : Env} {w : World} {ops : Array Oper} {os : List Oper} {d : Option Tmp} {ty : TypeId} {pos : String} {af : Array Edge} {g : Option (Nat × Bool)} {t : TypeId} {x y : Operand} (h : Rg P n ops (⟨d, .store t x y, ty, pos, af, g⟩ :: os) Q E w) : Rg P n ops (⟨d, .store t x y, ty, pos, af, g⟩ :: os) Q E w := h
theorem jI {P : Program} {n : Nat} {Q : Exit → Env → World → Prop} {E : Env} {w : World} {ops : Array Oper} {os : List Oper} {d : Option Tmp} {ty : TypeId} {pos : String} {af : Array Edge} {g : Option (Nat × Bool)} {t : TypeId} {x y : Operand} (h : Rg P n ops (⟨d, .indexAddr t x y, ty, pos, af, g⟩ :: os) Q E w) : Rg P n ops (⟨d, .indexAddr t x y, ty, pos, af, g⟩ :: os) Q E w := h
theorem jC {P : Program} {n : Nat} {Q : Exit → Env → World → Prop} {E : Env} {w : World} {ops : Array Oper} {os : List Oper} {d : Option Tmp} {ty : TypeId} {pos : String} {af : Array Edge} {g : Option (Nat × Bool)} {c : Call} (h : Rg P n ops (⟨d, .call c, ty, pos, af, g⟩ :: os) Q E w) : Rg P n ops (⟨d, .call c, ty, pos, af, g⟩ :: os) Q E w := h
theorem jX {P : Program} {n : Nat} {Q : Exit → Env → World → Prop} {E : Env} {w : World} {ops : Array Oper} {os : List Oper} {d : Option Tmp} {ty : TypeId} {pos : String} {af : Array Edge} {g : Option (Nat × Bool)} {t : TypeId} {x : Operand} (h : Rg P n ops (⟨d, .box t x, ty, pos, af, g⟩ :: os) Q E w) : Rg P n ops (⟨d, .box t x, ty, pos, af, g⟩ :: os) Q E w := h
theorem jN {P : Program} {n : Nat} {Q : Exit → Env → World → Prop} {E : Env} {w : World} {ops : Array Oper} {os : List Oper} {d : Option Tmp} {ty : TypeId} {pos : String} {af : Array Edge} {g : Option (Nat × Bool)} {t : TypeId} (h : Rg P n ops (⟨d, .alloc t, ty, pos, af, g⟩ :: os) Q E w) : Rg P n ops (⟨d, .alloc t, ty, pos, af, g⟩ :: os) Q E w := h
theorem jE {P : Program} {n : Nat} {Q : Exit → Env → World → Prop} {E : Env} {w : World} {ops : Array Oper} {os : List Oper} {d : Option Tmp} {ty : TypeId} {pos : String} {af : Array Edge} {g : Option (Nat × Bool)} {x : Operand} {i : Nat} (h : Rg P n ops (⟨d, .extract x i, ty, pos, af, g⟩ :: os) Q E w) : Rg P n ops (⟨d, .extract x i, ty, pos, af, g⟩ :: os) Q E w := h
theorem jK {P : Program} {n : Nat} {Q : Exit → Env → World → Prop} {E : Env} {w : World} {ops : Array Oper} {os : List Oper} {d : Option Tmp} {ty : TypeId} {pos : String} {af : Array Edge} {g : Option (Nat × Bool)} {f : Go.Fn} {a b : Array Operand} (h : Rg P n ops (⟨d, .makeFunc f a b, ty, pos, af, g⟩ :: os) Q E w) : Rg P n ops (⟨d, .makeFunc f a b, ty, pos, af, g⟩ :: os) Q E w := h
theorem jG {P : Program} {n : Nat} {Q : Exit → Env → World → Prop} {E : Env} {w : World} {ops : Array Oper} {os : List Oper} {d : Option Tmp} {op : Op} {ty : TypeId} {pos : String} {af : Array Edge} {g : Nat × Bool} (h : Rg P n ops (⟨d, op, ty, pos, af, some g⟩ :: os) Q E w) : Rg P n ops (⟨d, op, ty, pos, af, some g⟩ :: os) Q E w := h
/-! ### short names, for the walks -/
section
variable {P : Program} {n : Nat} {Q : Exit → Env → World → Prop} {E : Env} {w : World} {ops : Array Oper} {os : List Oper} {d : Option Tmp} {ty : TypeId} {pos : String} {af : Array Edge} {g : Option (Nat × Bool)} {x y z : Operand}
theorem mI {k : IntKind} {a : Int} (hx : ev E x = .int k a) (hw : want n ops ⟨d, .move x, ty, pos, af, g⟩ E = true) (hd : fits n d = true) (h : Rg P n ops os Q (put E d (.int k a)) w) : Rg P n ops (⟨d, .move x, ty, pos, af, g⟩ :: os) Q E w := Rg.sil (Sil.movI hx) hw hd h
theorem mS {p : Option Addr} {l c : Nat} (hx : ev E x = .slice p l c) (hw : want n ops ⟨d, .move x, ty, pos, af, g⟩ E = true) (hd : fits n d = true) (h : Rg P n ops os Q (put E d (.slice p l c)) w) : Rg P n ops (⟨d, .move x, ty, pos, af, g⟩ :: os) Q E w := Rg.sil (Sil.movS hx) hw hd h
theorem mB {b : Bool} (hx : ev E x = .bool b) (hw : want n ops ⟨d, .move x, ty, pos, af, g⟩ E = true) (hd : fits n d = true) (h : Rg P n ops os Q (put E d (.bool b)) w) : Rg P n ops (⟨d, .move x, ty, pos, af, g⟩ :: os) Q E w := Rg.sil (Sil.movB hx) hw hd h
theorem mP {p : Option Addr} (hx : ev E x = .pointer p) (hw : want n ops ⟨d, .move x, ty, pos, af, g⟩ E = true) (hd : fits n d = true) (h : Rg P n ops os Q (put E d (.pointer p)) w) : Rg P n ops (⟨d, .move x, ty, pos, af, g⟩ :: os) Q E w := Rg.sil (Sil.movP hx) hw hd h
theorem mF {fn : Go.Fn} {fs cs : Array Value} (hx : ev E x = .func fn fs cs) (hw : want n ops ⟨d, .move x, ty, pos, af, g⟩ E = true) (hd : fits n d = true) (h : Rg P n ops os Q (put E d (.func fn fs cs)) w) : Rg P n ops (⟨d, .move x, ty, pos, af, g⟩ :: os) Q E w := Rg.sil (Sil.movF hx) hw hd h
theorem mG {cs : Array Value} (hx : ev E x = .agg cs) (hw : want n ops ⟨d, .move x, ty, pos, af, g⟩ E = true) (hd : fits n d = true) (h : Rg P n ops os Q (put E d (.agg cs)) w) : Rg P n ops (⟨d, .move x, ty, pos, af, g⟩ :: os) Q E w := Rg.sil (Sil.movG hx) hw hd h
theorem mV {v : Value} (hx : ev E x = v) (hw : want n ops ⟨d, .move x, ty, pos, af, g⟩ E = true) (hd : fits n d = true) (h : Rg P n ops os Q (put E d (v)) w) : Rg P n ops (⟨d, .move x, ty, pos, af, g⟩ :: os) Q E w := Rg.sil (Sil.move hx) hw hd h
theorem aI {k : IntKind} {a : Int} (hx : ev E x = .int k a) (hw : want n ops ⟨d, .assign x, ty, pos, af, g⟩ E = true) (hd : fits n d = true) (h : Rg P n ops os Q (put E d (.int k a)) w) : Rg P n ops (⟨d, .assign x, ty, pos, af, g⟩ :: os) Q E w := Rg.sil (Sil.asgI hx) hw hd h
theorem aS {p : Option Addr} {l c : Nat} (hx : ev E x = .slice p l c) (hw : want n ops ⟨d, .assign x, ty, pos, af, g⟩ E = true) (hd : fits n d = true) (h : Rg P n ops os Q (put E d (.slice p l c)) w) : Rg P n ops (⟨d, .assign x, ty, pos, af, g⟩ :: os) Q E w := Rg.sil (Sil.asgS hx) hw hd h
theorem aB {b : Bool} (hx : ev E x = .bool b) (hw : want n ops ⟨d, .assign x, ty, pos, af, g⟩ E = true) (hd : fits n d = true) (h : Rg P n ops os Q (put E d (.bool b)) w) : Rg P n ops (⟨d, .assign x, ty, pos, af, g⟩ :: os) Q E w := Rg.sil (Sil.asgB hx) hw hd h
theorem aP {p : Option Addr} (hx : ev E x = .pointer p) (hw : want n ops ⟨d, .assign x, ty, pos, af, g⟩ E = true) (hd : fits n d = true) (h : Rg P n ops os Q (put E d (.pointer p)) w) : Rg P n ops (⟨d, .assign x, ty, pos, af, g⟩ :: os) Q E w := Rg.sil (Sil.asgP hx) hw hd h
theorem aF {fn : Go.Fn} {fs cs : Array Value} (hx : ev E x = .func fn fs cs) (hw : want n ops ⟨d, .assign x, ty, pos, af, g⟩ E = true) (hd : fits n d = true) (h : Rg P n ops os Q (put E d (.func fn fs cs)) w) : Rg P n ops (⟨d, .assign x, ty, pos, af, g⟩ :: os) Q E w := Rg.sil (Sil.asgF hx) hw hd h
theorem aG {cs : Array Value} (hx : ev E x = .agg cs) (hw : want n ops ⟨d, .assign x, ty, pos, af, g⟩ E = true) (hd : fits n d = true) (h : Rg P n ops os Q (put E d (.agg cs)) w) : Rg P n ops (⟨d, .assign x, ty, pos, af, g⟩ :: os) Q E w := Rg.sil (Sil.asgG hx) hw hd h
theorem aV {v : Value} (hx : ev E x = v) (hw : want n ops ⟨d, .assign x, ty, pos, af, g⟩ E = true) (hd : fits n d = true) (h : Rg P n ops os Q (put E d (v)) w) : Rg P n ops (⟨d, .assign x, ty, pos, af, g⟩ :: os) Q E w := Rg.sil (Sil.assign hx) hw hd h
theorem uT {t : TypeId} (hx : ev E x = .bool true) (hw : want n ops ⟨d, .unOp .not t x, ty, pos, af, g⟩ E = true) (hd : fits n d = true) (h : Rg P n ops os Q (put E d (.bool false)) w) : Rg P n ops (⟨d, .unOp .not t x, ty, pos, af, g⟩ :: os) Q E w := Rg.sil (Sil.notT hx) hw hd h
theorem uF {t : TypeId} (hx : ev E x = .bool false) (hw : want n ops ⟨d, .unOp .not t x, ty, pos, af, g⟩ E = true) (hd : fits n d = true) (h : Rg P n ops os Q (put E d (.bool true)) w) : Rg P n ops (⟨d, .unOp .not t x, ty, pos, af, g⟩ :: os) Q E w := Rg.sil (Sil.notF hx) hw hd h
theorem uN {t : TypeId} {b : Bool} (hx : ev E x = .bool b) (hw : want n ops ⟨d, .unOp .not t x, ty, pos, af, g⟩ E = true) (hd : fits n d = true) (h : Rg P n ops os Q (put E d (.bool (!b))) w) : Rg P n ops (⟨d, .unOp .not t x, ty, pos, af, g⟩ :: os) Q E w := Rg.sil (Sil.not hx) hw hd h
theorem pY {b : Bool} (hx : ev E x = .bool true) (hy : ev E y = .bool b) (hw : want n ops ⟨d, .pick x y z, ty, pos, af, g⟩ E = true) (hd : fits n d = true) (h : Rg P n ops os Q (put E d (.bool b)) w) : Rg P n ops (⟨d, .pick x y z, ty, pos, af, g⟩ :: os) Q E w := Rg.sil (Sil.pickYB hx hy) hw hd h
theorem pN {b : Bool} (hx : ev E x = .bool false) (hy : ev E z = .bool b) (hw : want n ops ⟨d, .pick x y z, ty, pos, af, g⟩ E = true) (hd : fits n d = true) (h : Rg P n ops os Q (put E d (.bool b)) w) : Rg P n ops (⟨d, .pick x y z, ty, pos, af, g⟩ :: os) Q E w := Rg.sil (Sil.pickNB hx hy) hw hd h
theorem bL {t t' : TypeId} {k : IntKind} {a b : Int} (hx : ev E x = .int k a) (hy : ev E y = .int k b) (hw : want n ops ⟨d, .binOp .lss t x y t', ty, pos, af, g⟩ E = true) (hd : fits n d = true) (h : Rg P n ops os Q (put E d (.bool (decide (a < b)))) w) : Rg P n ops (⟨d, .binOp .lss t x y t', ty, pos, af, g⟩ :: os) Q E w := Rg.sil (Sil.lss hx hy) hw hd h
theorem bQ {t t' : TypeId} {k : IntKind} {a b : Int} (hx : ev E x = .int k a) (hy : ev E y = .int k b) (hw : want n ops ⟨d, .binOp .leq t x y t', ty, pos, af, g⟩ E = true) (hd : fits n d = true) (h : Rg P n ops os Q (put E d (.bool (decide (a ≤ b)))) w) : Rg P n ops (⟨d, .binOp .leq t x y t', ty, pos, af, g⟩ :: os) Q E w := Rg.sil (Sil.leq hx hy) hw hd h
theorem bG {t t' : TypeId} {k : IntKind} {a b : Int} (hx : ev E x = .int k a) (hy : ev E y = .int k b) (hw : want n ops ⟨d, .binOp .gtr t x y t', ty, pos, af, g⟩ E = true) (hd : fits n d = true) (h : Rg P n ops os Q (put E d (.bool (decide (b < a)))) w) : Rg P n ops (⟨d, .binOp .gtr t x y t', ty, pos, af, g⟩ :: os) Q E w := Rg.sil (Sil.gtr hx hy) hw hd h
theorem bH {t t' : TypeId} {k : IntKind} {a b : Int} (hx : ev E x = .int k a) (hy : ev E y = .int k b) (hw : want n ops ⟨d, .binOp .geq t x y t', ty, pos, af, g⟩ E = true) (hd : fits n d = true) (h : Rg P n ops os Q (put E d (.bool (decide (b ≤ a)))) w) : Rg P n ops (⟨d, .binOp .geq t x y t', ty, pos, af, g⟩ :: os) Q E w := Rg.sil (Sil.geq hx hy) hw hd h
theorem bE {t t' : TypeId} {k : IntKind} {a b : Int} (hx : ev E x = .int k a) (hy : ev E y = .int k b) (hw : want n ops ⟨d, .binOp .eql t x y t', ty, pos, af, g⟩ E = true) (hd : fits n d = true) (h : Rg P n ops os Q (put E d (.bool (decide (a = b)))) w) : Rg P n ops (⟨d, .binOp .eql t x y t', ty, pos, af, g⟩ :: os) Q E w := Rg.sil (Sil.eql hx hy) hw hd h
theorem bN {t t' : TypeId} {k : IntKind} {a b : Int} (hx : ev E x = .int k a) (hy : ev E y = .int k b) (hw : want n ops ⟨d, .binOp .neq t x y t', ty, pos, af, g⟩ E = true) (hd : fits n d = true) (h : Rg P n ops os Q (put E d (.bool (decide (a ≠ b)))) w) : Rg P n ops (⟨d, .binOp .neq t x y t', ty, pos, af, g⟩ :: os) Q E w := Rg.sil (Sil.neq hx hy) hw hd h
theorem bA {t t' : TypeId} {a b : Int} (hx : ev E x = .int .i64 a) (hy : ev E y = .int .i64 b) (h1 : -9223372036854775808 ≤ a + b ∧ a + b ≤ 9223372036854775807) (hw : want n ops ⟨d, .binOp .add t x y t', ty, pos, af, g⟩ E = true) (hd : fits n d = true) (h : Rg P n ops os Q (put E d (.int .i64 (a + b))) w) : Rg P n ops (⟨d, .binOp .add t x y t', ty, pos, af, g⟩ :: os) Q E w := Rg.sil (Sil.add hx hy h1) hw hd h
theorem bS {t t' : TypeId} {a b : Int} (hx : ev E x = .int .i64 a) (hy : ev E y = .int .i64 b) (h1 : -9223372036854775808 ≤ a - b ∧ a - b ≤ 9223372036854775807) (hw : want n ops ⟨d, .binOp .sub t x y t', ty, pos, af, g⟩ E = true) (hd : fits n d = true) (h : Rg P n ops os Q (put E d (.int .i64 (a - b))) w) : Rg P n ops (⟨d, .binOp .sub t x y t', ty, pos, af, g⟩ :: os) Q E w := Rg.sil (Sil.sub hx hy h1) hw hd h
theorem bM {t t' : TypeId} {a b : Int} (hx : ev E x = .int .i64 a) (hy : ev E y = .int .i64 b) (h1 : -9223372036854775808 ≤ a * b ∧ a * b ≤ 9223372036854775807) (hw : want n ops ⟨d, .binOp .mul t x y t', ty, pos, af, g⟩ E = true) (hd : fits n d = true) (h : Rg P n ops os Q (put E d (.int .i64 (a * b))) w) : Rg P n ops (⟨d, .binOp .mul t x y t', ty, pos, af, g⟩ :: os) Q E w := Rg.sil (Sil.mul hx hy h1) hw hd h
theorem fA {s i off : Nat} [hf : HasF P s i off] {b o : Nat} (hx : ev E x = .pointer (some ⟨b, o, none⟩)) (hw : want n ops ⟨d, .fieldAddr s x i, ty, pos, af, g⟩ E = true) (hd : fits n d = true) (h : Rg P n ops os Q (put E d (.pointer (some ⟨b, o + off, none⟩))) w) : Rg P n ops (⟨d, .fieldAddr s x i, ty, pos, af, g⟩ :: os) Q E w := Rg.sil (Sil.fieldAddr hx) hw hd h
theorem lC {t : TypeId} [h1 : One P t] {a : Addr} {v : Value} (hx : ev E x = .pointer (some a)) (hc : w.cell? a = some v) (hw : want n ops ⟨d, .load t x, ty, pos, af, g⟩ E = true) (hd : fits n d = true) (h : Rg P n ops os Q (put E d v) w) : Rg P n ops (⟨d, .load t x, ty, pos, af, g⟩ :: os) Q E w := Rg.sil (Sil.load hx hc) hw hd h
theorem lB {t : TypeId} [h1 : One P t] {b o e : Nat} {cs : List Value} {v : Value} (hx : ev E x = .pointer (some ⟨b, o, none⟩)) (hB : Blk w b cs e) (ho : cs[o]? = some v) (hw : want n ops ⟨d, .load t x, ty, pos, af, g⟩ E = true) (hd : fits n d = true) (h : Rg P n ops os Q (put E d v) w) : Rg P n ops (⟨d, .load t x, ty, pos, af, g⟩ :: os) Q E w := Rg.sil (Sil.load hx (hB.cell ho)) hw hd h
theorem lG {t sz bys : Nat} {zz : Value} [h1 : Agg P t] [hi : HasI P t sz bys zz] {b e : Nat} {vs : List Value} (hx : ev E x = .pointer (some ⟨b, 0, none⟩)) (hB : Blk w b vs e) (hl : vs.length = sz) (hw : want n ops ⟨d, .load t x, ty, pos, af, g⟩ E = true) (hd : fits n d = true) (h : Rg P n ops os Q (put E d (.agg vs.toArray)) w) : Rg P n ops (⟨d, .load t x, ty, pos, af, g⟩ :: os) Q E w := Rg.sil (Sil.loadAgg hx hB.cells hl) hw hd h
theorem iX {t e bys : Nat} {zz : Value} [hu : HasU P t (.slice e)] [hi : HasI P e 1 bys zz] {b o l c k : Nat} {kd : IntKind} {i : Int} (hx : ev E x = .slice (some ⟨b, o, none⟩) l c) (hy : ev E y = .int kd i) (hk : i = (k : Int)) (hlt : k < l) (hw : want n ops ⟨d, .indexAddr t x y, ty, pos, af, g⟩ E = true) (hd : fits n d = true) (h : Rg P n ops os Q (put E d (.pointer (some ⟨b, o + k, none⟩))) w) : Rg P n ops (⟨d, .indexAddr t x y, ty, pos, af, g⟩ :: os) Q E w := Rg.sil (Sil.index1 hx hy hk hlt) hw hd h
theorem iG {t e sz bys : Nat} {zz : Value} [hu : HasU P t (.slice e)] [hi : HasI P e sz bys zz] {b o l c k : Nat} {kd : IntKind} {i : Int} (hx : ev E x = .slice (some ⟨b, o, none⟩) l c) (hy : ev E y = .int kd i) (hk : i = (k : Int)) (hlt : k < l) (hw : want n ops ⟨d, .indexAddr t x y, ty, pos, af, g⟩ E = true) (hd : fits n d = true) (h : Rg P n ops os Q (put E d (.pointer (some ⟨b, o + k * sz, none⟩))) w) : Rg P n ops (⟨d, .indexAddr t x y, ty, pos, af, g⟩ :: os) Q E w := Rg.sil (Sil.indexAddr hx hy hk hlt) hw hd h
theorem nL {t : TypeId} {e : TypeId} [hu : HasU P t (.slice e)] {p : Option Addr} {l c : Nat} (hx : ev E x = .slice p l c) (hw : want n ops ⟨d, .call ⟨.builtin .len, #[x], #[t]⟩, ty, pos, af, g⟩ E = true) (hd : fits n d = true) (h : Rg P n ops os Q (put E d (.int .i64 (l : Int))) w) : Rg P n ops (⟨d, .call ⟨.builtin .len, #[x], #[t]⟩, ty, pos, af, g⟩ :: os) Q E w := Rg.sil (Sil.len hx) hw hd h
theorem nC {t : TypeId} {e : TypeId} [hu : HasU P t (.slice e)] {p : Option Addr} {l c : Nat} (hx : ev E x = .slice p l c) (hw : want n ops ⟨d, .call ⟨.builtin .cap, #[x], #[t]⟩, ty, pos, af, g⟩ E = true) (hd : fits n d = true) (h : Rg P n ops os Q (put E d (.int .i64 (c : Int))) w) : Rg P n ops (⟨d, .call ⟨.builtin .cap, #[x], #[t]⟩, ty, pos, af, g⟩ :: os) Q E w := Rg.sil (Sil.cap hx) hw hd h
theorem eX {i : Nat} {vs : Array Value} {v : Value} (hx : ev E x = .tuple vs) (hv : vs[i]? = some v) (hw : want n ops ⟨d, .extract x i, ty, pos, af, g⟩ E = true) (hd : fits n d = true) (h : Rg P n ops os Q (put E d v) w) : Rg P n ops (⟨d, .extract x i, ty, pos, af, g⟩ :: os) Q E w := Rg.sil (Sil.extract hx hv) hw hd h
theorem kF {fn : Go.Fn} {fs cs : Array Operand} {vs us : List Value} (hf : fs.toList.map (ev E) = vs) (hc : cs.toList.map (ev E) = us) (hw : want n ops ⟨d, .makeFunc fn fs cs, ty, pos, af, g⟩ E = true) (hd : fits n d = true) (h : Rg P n ops os Q (put E d (.func fn vs.toArray us.toArray)) w) : Rg P n ops (⟨d, .makeFunc fn fs cs, ty, pos, af, g⟩ :: os) Q E w := Rg.sil (Sil.makeFunc hf hc) hw hd h
end
/-! ### results -/
def Res (P : Program) (E : Env) (w : World) : ResultVar → Value → Prop
  | .tmp t, v => E t = v
  | .cell t ty, v => ∃ a, E t = .pointer (some a) ∧ (loadVar ty a).run P w = .ok v w
theorem Res.int {t : Nat} {k : IntKind} {a : Int} (h : E t = .int k a) : Res P E w (.tmp t) (.int k a) := h
theorem Res.bool {t : Nat} {b : Bool} (h : E t = .bool b) : Res P E w (.tmp t) (.bool b) := h
theorem Res.slc {t : Nat} {p : Option Addr} {l c : Nat} (h : E t = .slice p l c) : Res P E w (.tmp t) (.slice p l c) := h
theorem Res.val {t : Nat} : Res P E w (.tmp t) (E t) := rfl
theorem Res.agg {t ty sz bys b o : Nat} {zz : Value} {vs : List Value} [h1 : Agg P ty] [hi : HasI P ty sz bys zz] (h : E t = .pointer (some ⟨b, o, none⟩)) (hc : Cells w b o vs) (hl : vs.length = sz) : Res P E w (.cell t ty) (.agg vs.toArray) := by
  refine ⟨_, h, ?_⟩
  have h2 := h1.h w
  have h3 := run_loadCells (P := P) hc hl
  have h4 := hi.sizeOf w
  simp [loadVar, h2, h3, h4]
theorem Res.one {t ty b o : Nat} {v : Value} [h1 : One P ty] (h : E t = .pointer (some ⟨b, o, none⟩)) (hc : w.cell? ⟨b, o, none⟩ = some v) : Res P E w (.cell t ty) v := by
  refine ⟨_, h, ?_⟩
  have h2 := h1.h w
  simp [loadVar, h2, hc]
def resOf (tmps : Array Value) : ResultVar → Sem Value
  | .tmp t => pure (tmps.getD t undef)
  | .cell a t => do loadVar t (← asAddr (tmps.getD a undef))
theorem results_eq (fn : Func) (tmps : Array Value) : results fn tmps = (do
    let vs ← fn.results.mapM (resOf tmps)
    pure (if h : vs.size = 1 then vs[0] else .tuple vs)) := by
  unfold results
  congr 1
theorem Res.run {r : ResultVar} {v : Value} (h : Res P E w r v) (tmps : Array Value) (ht : ∀ t, tmps.getD t undef = E t) : (resOf tmps r).run P w = .ok v w := by
  cases r with
  | tmp t => simp only [Res] at h; simp only [resOf, ht, h]; rfl
  | cell t ty =>
    obtain ⟨a, h1, h2⟩ := h
    simp only [resOf, ht, h1, Sem.run_bind]
    simp [asAddr, h2]
theorem Fin.of1 {fn : Func} {R : Value → World → Prop} {r : ResultVar} {v : Value} (hr : fn.results = #[r]) (h : Res P E w r v) (hR : R v w) : Fin P fn R .ret E w :=
  ⟨v, fun tmps ht => by
    have e1 := h.run tmps ht
    rw [results_eq, hr]
    simp only [List.mapM_toArray, List.mapM_cons, List.mapM_nil, Sem.run_bind, Sem.run_map, e1, Result.andThen_ok, Sem.run_pure]
    rfl, hR⟩
theorem Fin.of2 {fn : Func} {R : Value → World → Prop} {r1 r2 : ResultVar} {v1 v2 : Value} (hr : fn.results = #[r1, r2]) (h1 : Res P E w r1 v1) (h2 : Res P E w r2 v2) (hR : R (.tuple #[v1, v2]) w) : Fin P fn R .ret E w :=
  ⟨.tuple #[v1, v2], fun tmps ht => by
    have e1 := h1.run tmps ht
    have e2 := h2.run tmps ht
    rw [results_eq, hr]
    simp only [List.mapM_toArray, List.mapM_cons, List.mapM_nil, Sem.run_bind, Sem.run_map, e1, e2, Result.andThen_ok, Sem.run_pure]
    rfl, hR⟩
theorem Fin.of3 {fn : Func} {R : Value → World → Prop} {r1 r2 r3 : ResultVar} {v1 v2 v3 : Value} (hr : fn.results = #[r1, r2, r3]) (h1 : Res P E w r1 v1) (h2 : Res P E w r2 v2) (h3 : Res P E w r3 v3) (hR : R (.tuple #[v1, v2, v3]) w) : Fin P fn R .ret E w :=
  ⟨.tuple #[v1, v2, v3], fun tmps ht => by
    have e1 := h1.run tmps ht
    have e2 := h2.run tmps ht
    have e3 := h3.run tmps ht
    rw [results_eq, hr]
    simp only [List.mapM_toArray, List.mapM_cons, List.mapM_nil, Sem.run_bind, Sem.run_map, e1, e2, e3, Result.andThen_ok, Sem.run_pure]
    rfl, hR⟩
end
end Go.Proofs.Ytcalkmlaodjpaaa.G
