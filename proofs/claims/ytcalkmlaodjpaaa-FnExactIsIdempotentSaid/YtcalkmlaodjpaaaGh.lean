/- Rules for operations on a call's own memory, with the book that is kept of it. Over any program; nothing is claimed of the given one. -/
import Derived.Test.YtcalkmlaodjpaaaGd
namespace Go.Proofs.Ytcalkmlaodjpaaa.G
open Go.RowKit
set_option linter.unusedVariables false

abbrev Own := List (Nat × List Value × Nat)
/-- block b is one of H's: what it holds, and H with other contents for it -/
class At1 (H : Own) (b : Nat) (cs : outParam (List Value)) (e : outParam Nat) (U : outParam (List Value → Own)) : Prop where
  h : ∃ i, H[i]? = some (b, cs, e) ∧ ∀ c, U c = H.set i (b, c, e)
instance (priority := high) At1.here (b : Nat) (cs : List Value) (e : Nat) (H : Own) : At1 ((b, cs, e) :: H) b cs e (fun c => (b, c, e) :: H) := ⟨0, rfl, fun _ => rfl⟩
instance At1.there (x : Nat × List Value × Nat) (H : Own) (b : Nat) (cs : List Value) (e : Nat) (U : List Value → Own) [h : At1 H b cs e U] : At1 (x :: H) b cs e (fun c => x :: U c) := by
  obtain ⟨i, h1, h2⟩ := h.h
  exact ⟨i + 1, by simpa using h1, fun c => by rw [h2]; rfl⟩
theorem ii {H : Own} {b e : Nat} {cs : List Value} {U : List Value → Own} [h : At1 H b cs e U] : At1 H b cs e U := h

section
variable {P : Program} {n : Nat} {Q : Exit → Env → World → Prop} {E : Env} {w : World} {ops : Array Oper} {os : List Oper}
variable {d : Option Tmp} {ty : TypeId} {pos : String} {af : Array Edge} {g : Option (Nat × Bool)} {x y z : Operand}
variable {w0 : World} {H : Own} {D : List (World × List Nat)} {S : List (World × Value)}

theorem Hp.at1 (hH : Hp w0 w H D S) {b e : Nat} {cs : List Value} {U : List Value → Own} (h : At1 H b cs e U) : Blk w b cs e := by
  obtain ⟨i, h1, _⟩ := h.h; exact hH.blk i h1
theorem Hp.put1 (hH : Hp w0 w H D S) {b e : Nat} {cs cs' : List Value} {U : List Value → Own} (h : At1 H b cs e U) {w' : World} (hw : Wrote b w w') (hB : Blk w' b cs' e) : Hp w0 w' (U cs') D S := by
  obtain ⟨i, h1, h2⟩ := h.h; rw [h2]; exact hH.wrote i h1 hw hB
/-! loads -/
theorem Sil.loadO (hH : Hp w0 w H D S) {t : TypeId} [h1 : One P t] {b o e : Nat} {cs : List Value} {U : List Value → Own} {v : Value} (hx : ev E x = .pointer (some ⟨b, o, none⟩)) (hi : At1 H b cs e U) (ho : cs[o]? = some v) :
    Sil P E ⟨d, .load t x, ty, pos, af, g⟩ v w := Sil.load hx ((hH.at1 hi).cell ho)
theorem Sil.loadGO (hH : Hp w0 w H D S) {t sz bys : Nat} {zz : Value} [h1 : Agg P t] [hz : HasI P t sz bys zz] {b e : Nat} {vs : List Value} {U : List Value → Own} (hx : ev E x = .pointer (some ⟨b, 0, none⟩)) (hi : At1 H b vs e U) (hl : vs.length = sz) :
    Sil P E ⟨d, .load t x, ty, pos, af, g⟩ (.agg vs.toArray) w := Sil.loadAgg hx (hH.at1 hi).cells hl
theorem lH (hH : Hp w0 w H D S) {t : TypeId} [h1 : One P t] {b o e : Nat} {cs : List Value} {U : List Value → Own} {v : Value} (hx : ev E x = .pointer (some ⟨b, o, none⟩)) (hi : At1 H b cs e U) (ho : cs[o]? = some v)
    (hw : want n ops ⟨d, .load t x, ty, pos, af, g⟩ E = true) (hd : fits n d = true) (h : Rg P n ops os Q (put E d v) w) : Rg P n ops (⟨d, .load t x, ty, pos, af, g⟩ :: os) Q E w := Rg.sil (Sil.loadO hH hx hi ho) hw hd h
theorem lA (hH : Hp w0 w H D S) {t sz bys : Nat} {zz : Value} [h1 : Agg P t] [hz : HasI P t sz bys zz] {b e : Nat} {vs : List Value} {U : List Value → Own} (hx : ev E x = .pointer (some ⟨b, 0, none⟩)) (hi : At1 H b vs e U) (hl : vs.length = sz)
    (hw : want n ops ⟨d, .load t x, ty, pos, af, g⟩ E = true) (hd : fits n d = true) (h : Rg P n ops os Q (put E d (.agg vs.toArray)) w) : Rg P n ops (⟨d, .load t x, ty, pos, af, g⟩ :: os) Q E w := Rg.sil (Sil.loadGO hH hx hi hl) hw hd h
/-! new blocks -/
theorem xG (hH : Hp w0 w H D S) {e : TypeId} {vs : List Value} (hx : ev E x = .agg vs.toArray) (hw : want n ops ⟨d, .box e x, ty, pos, af, g⟩ E = true) (hd : fits n d = true)
    (h : ∀ b w', Hp w0 w' ((b, vs, e) :: H) D S → Rg P n ops os Q (put E d (.pointer (some ⟨b, 0, none⟩))) w') : Rg P n ops (⟨d, .box e x, ty, pos, af, g⟩ :: os) Q E w :=
  Rg.boxG hx hw hd fun b w' hb _ hl hB => h b w' (hH.new hl hb hB)
theorem xI (hH : Hp w0 w H D S) {e : TypeId} {k : IntKind} {a : Int} (hx : ev E x = .int k a) (hw : want n ops ⟨d, .box e x, ty, pos, af, g⟩ E = true) (hd : fits n d = true)
    (h : ∀ b w', Hp w0 w' ((b, [.int k a], e) :: H) D S → Rg P n ops os Q (put E d (.pointer (some ⟨b, 0, none⟩))) w') : Rg P n ops (⟨d, .box e x, ty, pos, af, g⟩ :: os) Q E w :=
  Rg.boxI hx hw hd fun b w' hb _ hl hB => h b w' (hH.new hl hb hB)
theorem xS (hH : Hp w0 w H D S) {e : TypeId} {p : Option Addr} {l c : Nat} (hx : ev E x = .slice p l c) (hw : want n ops ⟨d, .box e x, ty, pos, af, g⟩ E = true) (hd : fits n d = true)
    (h : ∀ b w', Hp w0 w' ((b, [.slice p l c], e) :: H) D S → Rg P n ops os Q (put E d (.pointer (some ⟨b, 0, none⟩))) w') : Rg P n ops (⟨d, .box e x, ty, pos, af, g⟩ :: os) Q E w :=
  Rg.boxS hx hw hd fun b w' hb _ hl hB => h b w' (hH.new hl hb hB)
theorem nG (hH : Hp w0 w H D S) {e sz bys : Nat} {zs : List Value} [hi : HasI P e sz bys (.agg zs.toArray)] (hw : want n ops ⟨d, .alloc e, ty, pos, af, g⟩ E = true) (hd : fits n d = true)
    (h : ∀ b w', Hp w0 w' ((b, zs, e) :: H) D S → Rg P n ops os Q (put E d (.pointer (some ⟨b, 0, none⟩))) w') : Rg P n ops (⟨d, .alloc e, ty, pos, af, g⟩ :: os) Q E w :=
  Rg.allocG hw hd fun b w' hb _ hl hB => h b w' (hH.new hl hb hB)
theorem nO (hH : Hp w0 w H D S) {e bys : Nat} {zz : Value} [hi : HasI P e 1 bys zz] (hz : zz.cells = #[zz]) (hw : want n ops ⟨d, .alloc e, ty, pos, af, g⟩ E = true) (hd : fits n d = true)
    (h : ∀ b w', Hp w0 w' ((b, [zz], e) :: H) D S → Rg P n ops os Q (put E d (.pointer (some ⟨b, 0, none⟩))) w') : Rg P n ops (⟨d, .alloc e, ty, pos, af, g⟩ :: os) Q E w :=
  Rg.alloc1 hz hw hd fun b w' hb _ hl hB => h b w' (hH.new hl hb hB)
/-- make([]T, m), T of one cell -/
theorem kM (hH : Hp w0 w H D S) {t e bys : Nat} {zz : Value} [hu : HasU P t (.slice e)] [hi : HasI P e 1 bys zz] {m : Nat} {l : Int} (hx : ev E x = .int .i64 l) (hy : ev E y = .int .i64 l) (hl : l = (m : Int)) (hz : zz.cells = #[zz])
    (hb : bys * m ≤ 281474976710656) (hw : want n ops ⟨d, .makeSlice t x y, ty, pos, af, g⟩ E = true) (hd : fits n d = true) (hm : m ≤ 9223372036854775807)
    (h : ∀ b w', Hp w0 w' ((b, List.replicate m zz, e) :: H) D S → Rg P n ops os Q (put E d (.slice (some ⟨b, 0, none⟩) m m)) w') : Rg P n ops (⟨d, .makeSlice t x y, ty, pos, af, g⟩ :: os) Q E w :=
  Rg.make1 hx hy hl hz hb hm hw hd fun b w' hb _ hl hB => h b w' (hH.new hl hb hB)
/-- []T{} -/
theorem t0 (hH : Hp w0 w H D S) {t e sz bys : Nat} {zz : Value} [hu : HasU P t (.slice e)] [hi : HasI P e sz bys zz] (hw : want n ops ⟨d, .buildSlice t 0 #[], ty, pos, af, g⟩ E = true) (hd : fits n d = true)
    (h : ∀ b w', Hp w0 w' ((b, [], e) :: H) D S → Rg P n ops os Q (put E d (.slice (some ⟨b, 0, none⟩) 0 0)) w') : Rg P n ops (⟨d, .buildSlice t 0 #[], ty, pos, af, g⟩ :: os) Q E w :=
  Rg.lit (cs := []) (vs := []) rfl (by simp) (by simp [Instr.fill]) hw hd fun b w' hb _ hl hB => h b w' (hH.new hl hb hB)
/-! a literal whose elements are all given, in order -/
def idx : Nat → List Value → List (Nat × Value)
  | _, [] => []
  | k, v :: vs => (k, v) :: idx (k + 1) vs
theorem overlay (c : List Value) : ∀ (o : Nat) (i : Nat) (A : List Value), o + i + c.length ≤ A.length →
    ((c.zipIdx i).foldl (fun (cs : Array Value) (x : Value × Nat) => cs.setIfInBounds (o + x.2) x.1) A.toArray) = (A.take (o + i) ++ c ++ A.drop (o + i + c.length)).toArray := by
  induction c with
  | nil => intro o i A h; simp
  | cons u c ih =>
    intro o i A h
    simp only [List.zipIdx_cons, List.foldl_cons]
    simp only [List.length_cons] at h
    rw [List.setIfInBounds_toArray, ih o (i + 1) (A.set (o + i) u) (by simp; omega)]
    congr 1
    have h1 : (A.set (o + i) u).take (o + (i + 1)) = A.take (o + i) ++ [u] := by
      rw [← Nat.add_assoc, List.take_succ_eq_append_getElem (by simp; omega), List.take_set, List.set_eq_of_length_le (by simp; omega)]
      simp
    have h2 : (A.set (o + i) u).drop (o + (i + 1) + c.length) = A.drop (o + i + (u :: c).length) := by
      rw [List.drop_set_of_lt (by omega)]
      congr 1
      simp; omega
    rw [h1, h2]; simp
theorem fill_all {sz : Nat} : ∀ (vs : List Value) (k : Nat) (A : List Value), (∀ v ∈ vs, v.cells.size = sz) → A.length = (k + vs.length) * sz →
    Instr.fill (fun i => some (i * sz, sz)) A.toArray (idx k vs) = some (A.take (k * sz) ++ vs.flatMap (·.cells.toList)).toArray
  | [], k, A, _, hA => by
    simp only [idx, Instr.fill, List.flatMap_nil, List.append_nil]
    rw [List.take_of_length_le (by simp at hA; omega)]
  | v :: vs, k, A, hv, hA => by
    have h1 := hv v (by simp)
    have hle : k * sz + sz ≤ A.length := by
      rw [hA, ← Nat.succ_mul]; exact Nat.mul_le_mul_right _ (by simp)
    have hov := overlay v.cells.toList (k * sz) 0 A (by simp [h1]; omega)
    simp only [idx, Instr.fill, h1]
    rw [if_neg (by simp; omega)]
    have e : (v.cells.zipIdx.foldl (fun (cs : Array Value) (x : Value × Nat) => cs.setIfInBounds (k * sz + x.2) x.1) A.toArray) = (A.take (k * sz) ++ v.cells.toList ++ A.drop (k * sz + sz)).toArray := by
      rw [← Array.foldl_toList, Array.toList_zipIdx]
      exact hov.trans (by simp [h1])
    have e' : (v.cells.zipIdx.foldl (fun (cs : Array Value) x => match x with | (c, j) => cs.setIfInBounds (k * sz + j) c) A.toArray) = (A.take (k * sz) ++ v.cells.toList ++ A.drop (k * sz + sz)).toArray := e
    rw [e']
    have hl : (A.take (k * sz) ++ v.cells.toList).length = (k + 1) * sz := by
      simp [h1, Nat.succ_mul]; omega
    rw [fill_all vs (k + 1) _ (fun u hu => hv u (by simp [hu])) (by simp [h1, Nat.min_eq_left (show k * sz ≤ A.length by omega)]; rw [hA]; simp [Nat.add_mul]; omega)]
    rw [List.take_append_of_le_length (by omega), List.take_of_length_le (by omega)]
    simp
/-- []T{x, ..} -/
theorem tL (hH : Hp w0 w H D S) {t e sz bys len : Nat} {zz : Value} {ps : Array (Nat × Operand)} [hu : HasU P t (.slice e)] [hi : HasI P e sz bys zz] {vs : List Value}
    (hvs : ps.toList.map (fun p => (p.1, ev E p.2)) = idx 0 vs) (hlen : vs.length = len) (hsz : len * sz ≤ 16777216) (hc : ∀ v ∈ vs, v.cells.size = sz)
    (hw : want n ops ⟨d, .buildSlice t len ps, ty, pos, af, g⟩ E = true) (hd : fits n d = true)
    (h : ∀ b w', Hp w0 w' ((b, vs.flatMap (·.cells.toList), e) :: H) D S → Rg P n ops os Q (put E d (.slice (some ⟨b, 0, none⟩) len len)) w') : Rg P n ops (⟨d, .buildSlice t len ps, ty, pos, af, g⟩ :: os) Q E w := by
  refine Rg.lit (cs := vs.flatMap (·.cells.toList)) (vs := idx 0 vs) hvs hsz ?_ hw hd fun b w' hb _ hl hB => h b w' (hH.new hl hb hB)
  subst hlen
  generalize hA : (Array.range (vs.length * sz)).map (zz.cells[· % zz.cells.size]!) = A
  have hs : A.size = vs.length * sz := by rw [← hA]; simp
  obtain ⟨A⟩ := A
  have := fill_all vs 0 A hc (by simpa using hs)
  simpa using this
/-- []T{x}, T of one cell -/
theorem tI (hH : Hp w0 w H D S) {t e bys : Nat} {zz : Value} [hu : HasU P t (.slice e)] [hi : HasI P e 1 bys zz] {k : IntKind} {a : Int} (hx : ev E x = .int k a)
    (hw : want n ops ⟨d, .buildSlice t 1 #[(0, x)], ty, pos, af, g⟩ E = true) (hd : fits n d = true)
    (h : ∀ b w', Hp w0 w' ((b, [.int k a], e) :: H) D S → Rg P n ops os Q (put E d (.slice (some ⟨b, 0, none⟩) 1 1)) w') : Rg P n ops (⟨d, .buildSlice t 1 #[(0, x)], ty, pos, af, g⟩ :: os) Q E w :=
  tL hH (vs := [.int k a]) (by simp [idx, hx]) rfl (by omega) (by intro v hv; simp at hv; subst hv; rfl) hw hd h
theorem tS (hH : Hp w0 w H D S) {t e bys : Nat} {zz : Value} [hu : HasU P t (.slice e)] [hi : HasI P e 1 bys zz] {p : Option Addr} {l c : Nat} (hx : ev E x = .slice p l c)
    (hw : want n ops ⟨d, .buildSlice t 1 #[(0, x)], ty, pos, af, g⟩ E = true) (hd : fits n d = true)
    (h : ∀ b w', Hp w0 w' ((b, [.slice p l c], e) :: H) D S → Rg P n ops os Q (put E d (.slice (some ⟨b, 0, none⟩) 1 1)) w') : Rg P n ops (⟨d, .buildSlice t 1 #[(0, x)], ty, pos, af, g⟩ :: os) Q E w :=
  tL hH (vs := [.slice p l c]) (by simp [idx, hx]) rfl (by omega) (by intro v hv; simp at hv; subst hv; rfl) hw hd h
theorem tG (hH : Hp w0 w H D S) {t e sz bys : Nat} {zz : Value} [hu : HasU P t (.slice e)] [hi : HasI P e sz bys zz] {vs : List Value} (hx : ev E x = .agg vs.toArray) (hl : vs.length = sz) (hs : Nat.ble sz 16777216 = true)
    (hw : want n ops ⟨d, .buildSlice t 1 #[(0, x)], ty, pos, af, g⟩ E = true) (hd : fits n d = true)
    (h : ∀ b w', Hp w0 w' ((b, vs, e) :: H) D S → Rg P n ops os Q (put E d (.slice (some ⟨b, 0, none⟩) 1 1)) w') : Rg P n ops (⟨d, .buildSlice t 1 #[(0, x)], ty, pos, af, g⟩ :: os) Q E w := by
  have := leB hs
  refine tL hH (vs := [.agg vs.toArray]) (by simp [idx, hx]) rfl (by omega) (by intro v hv; simp at hv; subst hv; simpa [Value.cells] using hl) hw hd fun b w' hH => h b w' (by simpa [Value.cells] using hH)
/-! stores -/
theorem sI (hH : Hp w0 w H D S) {t bys : Nat} {zz : Value} [hi : HasI P t 1 bys zz] {b o : Nat} {cs : List Value} {e : Nat} {U : List Value → Own} {k : IntKind} {a : Int} (hx : ev E x = .pointer (some ⟨b, o, none⟩)) (hy : ev E y = .int k a) (hb : At1 H b cs e U) (ho : Nat.blt o cs.length = true)
    (hw : want n ops ⟨d, .store t x y, ty, pos, af, g⟩ E = true) (hd : fits n d = true)
    (h : ∀ w', Hp w0 w' (U (cs.set o (.int k a))) D S → Rg P n ops os Q (put E d undef) w') : Rg P n ops (⟨d, .store t x y, ty, pos, af, g⟩ :: os) Q E w :=
  Rg.storeI hx hy (hH.at1 hb) (ltB ho) hw hd fun w' hW hB => h w' (hH.put1 hb hW hB)
theorem sS (hH : Hp w0 w H D S) {t bys : Nat} {zz : Value} [hi : HasI P t 1 bys zz] {b o : Nat} {cs : List Value} {e : Nat} {U : List Value → Own} {p : Option Addr} {l c : Nat} (hx : ev E x = .pointer (some ⟨b, o, none⟩)) (hy : ev E y = .slice p l c) (hb : At1 H b cs e U) (ho : Nat.blt o cs.length = true)
    (hw : want n ops ⟨d, .store t x y, ty, pos, af, g⟩ E = true) (hd : fits n d = true)
    (h : ∀ w', Hp w0 w' (U (cs.set o (.slice p l c))) D S → Rg P n ops os Q (put E d undef) w') : Rg P n ops (⟨d, .store t x y, ty, pos, af, g⟩ :: os) Q E w :=
  Rg.storeS hx hy (hH.at1 hb) (ltB ho) hw hd fun w' hW hB => h w' (hH.put1 hb hW hB)
theorem sG (hH : Hp w0 w H D S) {t sz bys : Nat} {zz : Value} [hi : HasI P t sz bys zz] {b o : Nat} {cs vs : List Value} {e : Nat} {U : List Value → Own} (hx : ev E x = .pointer (some ⟨b, o, none⟩)) (hy : ev E y = .agg vs.toArray) (hb : At1 H b cs e U) (hl : vs.length = sz) (ho : Nat.ble (o + vs.length) cs.length = true) (hv : vs.all (fun u => u.oneCell') = true)
    (hw : want n ops ⟨d, .store t x y, ty, pos, af, g⟩ E = true) (hd : fits n d = true)
    (h : ∀ w', Hp w0 w' (U (cs.take o ++ vs ++ cs.drop (o + vs.length))) D S → Rg P n ops os Q (put E d undef) w') : Rg P n ops (⟨d, .store t x y, ty, pos, af, g⟩ :: os) Q E w :=
  Rg.storeAgg hx hy (hH.at1 hb) hl (leB ho) (oneAll_dec hv) hw hd fun w' hW hB => h w' (hH.put1 hb hW hB)
/-- into an own block of cells at a place that is known as a number -/
theorem sJ (hH : Hp w0 w H D S) {t bys : Nat} {zz : Value} [hi : HasI P t 1 bys zz] {b o : Nat} {cs : List Value} {e : Nat} {U : List Value → Own} {k : IntKind} {a : Int} (hx : ev E x = .pointer (some ⟨b, o, none⟩)) (hy : ev E y = .int k a) (hb : At1 H b cs e U) (ho : o < cs.length)
    (hw : want n ops ⟨d, .store t x y, ty, pos, af, g⟩ E = true) (hd : fits n d = true)
    (h : ∀ w', Hp w0 w' (U (cs.set o (.int k a))) D S → Rg P n ops os Q (put E d undef) w') : Rg P n ops (⟨d, .store t x y, ty, pos, af, g⟩ :: os) Q E w :=
  Rg.storeI hx hy (hH.at1 hb) ho hw hd fun w' hW hB => h w' (hH.put1 hb hW hB)
/-! append -/
theorem Acc.slice {α : Type} {R : Rp α} {e : Nat} {v : Value} {l : List α} {F : List Nat} (h : Acc R w e v l F) : ∃ p c, v = .slice p l.length c := by
  obtain ⟨vss, Fs, h1, _⟩ := h
  rcases h1.2 with ⟨h0, p, rfl⟩ | ⟨b, c, cur, rfl, _⟩
  · exact ⟨p, 0, by rw [h0]⟩
  · exact ⟨_, _, rfl⟩
/-- one thing more -/
theorem Acc.grew {α : Type} {R : Rp α} {e : Nat} {v v' : Value} {l : List α} {F Fx : List Nat} {a : α} {vs : List Value} {w' : World} (h : Acc R w e v l F) (hV : R.V w a vs Fx) (hn : ∀ k ∈ Fx, own v ≠ some k) (hg : Grew w w' v v')
    (hB : ∀ cs, Buf w e R.nc v l.length cs → Buf w' e R.nc v' (l.length + 1) (cs ++ vs)) : Acc R w' e v' (l ++ [a]) (F ++ Fx) := by
  obtain ⟨vss, Fs, h1, rfl, h2, h3⟩ := h
  have hF := h2.inb
  refine ⟨vss ++ [vs], Fs ++ [Fx], by simpa using hB _ h1, by simp, ?_, fun k hk hv => ?_⟩
  · have s1 : Each R w' l vss Fs := h2.stab fun k hk => hg.same k (hF k hk).lt fun e => h3 k hk e.symm
    exact s1.push (R.grew hV hn hg)
  · have hlt : k < w.heap.size ∧ own v ≠ some k := by
      rcases List.mem_append.1 hk with hk | hk
      · exact ⟨(hF k hk).lt, h3 k hk⟩
      · exact ⟨R.lt hV k hk, hn k hk⟩
    rcases hg.own with e | ⟨b, e, hb⟩
    · exact hlt.2 (e ▸ hv)
    · rw [e] at hv; simp only [Option.some.injEq] at hv; omega
/-- append(v, x): the one thing lies in a block of its own, which is forgotten -/
theorem Rg.app {wk : World} {v : Value} {b' e' : Nat} {vs : List Value} (hH : Hp w0 w ((b', vs, e') :: H) D ((wk, v) :: S)) {α : Type} {R : Rp α} {t e sz bys : Nat} {zz : Value} [hu : HasU P t (.slice e)] [hi : HasI P e sz bys zz] {c : Nat} {l : List α} {F Fx : List Nat} {a : α}
    (hA : Acc R w e v l F) (hV : R.V w a vs Fx) (hn : ∀ k ∈ Fx, own v ≠ some k) (hx : ev E x = v) (hy : ev E y = .slice (some ⟨b', 0, none⟩) 1 c) (hsz : R.nc = sz) (hz : zz.cells.size = sz) (hs0 : Nat.blt 0 sz = true) (hby : (l.length + 1) * bys ≤ 140737488355328) (hm : l.length < 9223372036854775807)
    (hw : want n ops ⟨d, .call ⟨.builtin .append, #[x, y], #[t, t]⟩, ty, pos, af, g⟩ E = true) (hd : fits n d = true)
    (h : ∀ p c w', Hp w0 w' H D ((w', .slice p (l.length + 1) c) :: S) → Acc R w' e (.slice p (l.length + 1) c) (l ++ [a]) (F ++ Fx) → Rg P n ops os Q (put E d (.slice p (l.length + 1) c)) w') :
    Rg P n ops (⟨d, .call ⟨.builtin .append, #[x, y], #[t, t]⟩, ty, pos, af, g⟩ :: os) Q E w := by
  have hblk := hH.blk 0 rfl
  have hvl := R.len hV
  obtain ⟨vss, Fs, h1, h2, h3, h4⟩ := id hA
  subst hsz
  refine Rg.append (k := 1) (news := vs) hx hy h1 ⟨_, _, rfl, .inr ⟨b', 0, rfl, hblk.cells⟩⟩ hz (ltB hs0) (by rw [hvl]; simp) (R.one hV) (by simp only [maxLen]; omega) hby hw hd fun v' w' hB hg => ?_
  have hA' := hA.grew hV hn hg (a := a) fun cs hb => by
    obtain ⟨_, hb2⟩ := hb
    have : cs = vss.flatten := by
      rcases hb2 with ⟨h0, p, e1⟩ | ⟨b, c, cur, e1, hb, hm, hc, hl, ht⟩
      · have e2 : cs = [] := List.eq_nil_of_length_eq_zero (by rw [‹cs.length = _›, h0]; simp)
        have e3 : vss.flatten = [] := List.eq_nil_of_length_eq_zero (by rw [h1.1, h0]; simp)
        rw [e2, e3]
      · rcases h1.2 with ⟨g0, p, e2⟩ | ⟨b2, c2, cur2, e2, gb, gm, gc, gl, gt⟩
        · rw [e1] at e2; simp at e2
        · rw [e1] at e2
          simp only [Value.slice.injEq, Option.some.injEq, Addr.mk.injEq] at e2
          obtain ⟨⟨rfl, _⟩, _, _⟩ := e2
          unfold Blk at hb gb
          rw [hb] at gb
          simp only [Option.some.injEq, Obj.cells.injEq] at gb
          have : cur = cur2 := by simpa using congrArg Array.toList gb.1
          rw [← ht, ← gt, this]
    rw [this]; exact hB
  obtain ⟨p, c, rfl⟩ := hA'.slice
  rw [List.length_append, List.length_singleton] at hA' ⊢
  refine h p c w' ?_ hA'
  have := (hH.drop).grew 0 rfl hg (fun k hk => ?_)
  · simpa using this
  · obtain ⟨_, _, hl3⟩ := hA'.list
    obtain ⟨cur, hc⟩ := hl3.2 k (by simpa using hk)
    exact ⟨cur, e, hc⟩
/-! a list of which one element is written -/
theorem flat_apart {Fs : List (List Nat)} : Fs.flatten.Nodup → ∀ (i j k : Nat), i ≠ j → k ∈ Fs.getD i [] → k ∉ Fs.getD j [] := by
  induction Fs with
  | nil => intro _ i j k _ h; simp at h
  | cons L Fs ih =>
    intro hn i j k hij hk hj
    rw [List.flatten_cons] at hn
    obtain ⟨h1, h2, h3⟩ := List.nodup_append.1 hn
    cases i with
    | zero =>
      cases j with
      | zero => exact hij rfl
      | succ j => exact h3 k (by simpa using hk) k (mem_getD_flatten (by simpa using hj)) rfl
    | succ i =>
      cases j with
      | zero => exact h3 k (by simpa using hj) k (mem_getD_flatten (by simpa using hk)) rfl
      | succ j => exact ih h2 i j k (by omega) (by simpa using hk) (by simpa using hj)
theorem flat_nodup {Fs : List (List Nat)} : Fs.flatten.Nodup → ∀ i, (Fs.getD i []).Nodup := by
  induction Fs with
  | nil => intro _ i; simp
  | cons L Fs ih =>
    intro hn i
    rw [List.flatten_cons] at hn
    obtain ⟨h1, h2, h3⟩ := List.nodup_append.1 hn
    cases i with
    | zero => simpa using h1
    | succ i => simpa using ih h2 i
theorem listR.lens {α : Type} {R : Rp α} {l : List α} {p : Option Addr} {m c : Nat} {F : List Nat} (h : (listR R).V w l [.slice p m c] F) (hn : F.Nodup) {i : Nat} (hi : i < l.length) :
    ∃ b o us Fi, p = some ⟨b, o, none⟩ ∧ Cells w b (o + i * R.nc) us ∧ R.V w l[i] us Fi ∧ b ∈ F ∧ (∀ k ∈ Fi, k ∈ F) ∧ Fi.Nodup ∧ b ∉ Fi ∧
      ∀ w' x', Marked Fi w w' → R.V w' x' us Fi → (listR R).V w' (l.set i x') [.slice p m c] F := by
  obtain ⟨p', c', h1, h2, h3, hl⟩ := h
  simp only [List.cons.injEq, Value.slice.injEq, and_true] at h1
  obtain ⟨rfl, rfl, rfl⟩ := h1
  rcases hl with ⟨rfl, _⟩ | ⟨b, o, Fs, rfl, rfl, ht, hlen, he⟩
  · simp at hi
  · obtain ⟨us, hc, hv⟩ := he i _ (List.getElem?_eq_getElem hi)
    obtain ⟨hb, hfl⟩ := List.nodup_cons.1 hn
    refine ⟨b, o, us, Fs.getD i [], rfl, hc, hv, List.mem_cons_self .., fun k hk => List.mem_cons_of_mem _ (mem_getD_flatten hk), flat_nodup hfl i, fun hk => hb (mem_getD_flatten hk), fun w' x' hm hv' => ?_⟩
    have hbs : w'.heap[b]? = w.heap[b]? := hm.same b fun hk => hb (mem_getD_flatten hk)
    refine ⟨some ⟨b, o, none⟩, c, by rw [List.length_set], by simpa using h2, h3, .inr ⟨b, o, Fs, rfl, rfl, ht.same hbs, by simpa using hlen, fun j y hj => ?_⟩⟩
    rw [List.getElem?_set] at hj
    by_cases hij : i = j
    · subst hij
      rw [if_pos rfl, if_pos hi] at hj
      simp only [Option.some.injEq] at hj
      subst hj
      exact ⟨us, hc.same hbs, hv'⟩
    · rw [if_neg hij] at hj
      obtain ⟨ws, hc2, hv2⟩ := he j y hj
      exact ⟨ws, hc2.same hbs, R.stab hv2 fun k hk => hm.same k (flat_apart hfl j i k (Ne.symm hij) hk)⟩
end
end Go.Proofs.Ytcalkmlaodjpaaa.G
