/- Rules for operations that make or write memory, by abstract states. Over any program; nothing is claimed of the given one. -/
import Derived.Test.YtcalkmlaodjpaaaHe
namespace Go.Proofs.Ytcalkmlaodjpaaa.V
open V.Enc (enc)
open Go.RowKit G
set_option linter.unusedVariables false
set_option linter.unusedSimpArgs false

/-! ### runs -/
section
variable {P : Program} {E : Env} {w : World} {d : Option Tmp} {ty : TypeId} {pos : String} {af : Array Edge} {g : Option (Nat × Bool)} {x y : Operand}
theorem made_flat (us : List Value) (h0 : us ≠ []) (m : Nat) : (madeCells us.toArray (m * us.length)).toList = (List.replicate m us).flatten := by
  have hpos : 0 < us.length := by cases us with | nil => exact absurd rfl h0 | cons _ _ => simp
  simp only [madeCells, Array.toList_map, Array.toList_range]
  induction m with
  | zero => simp
  | succ m ih =>
    rw [List.replicate_succ', List.flatten_append, ← ih, Nat.add_mul, Nat.one_mul, List.range_add, List.map_append]
    congr 1
    simp only [List.map_map, List.flatten_cons, List.flatten_nil, List.append_nil]
    apply List.ext_getElem
    · simp
    · intro i h1 h2
      simp only [List.getElem_map, List.getElem_range, Function.comp, List.size_toArray]
      have : (m * us.length + i) % us.length = i := by rw [Nat.mul_comm, Nat.mul_add_mod]; exact Nat.mod_eq_of_lt h2
      rw [this]; simp [h2]
theorem run_mk {t e sz bys : Nat} {zz : Value} [hu : HasU P t (.slice e)] [hi : HasI P e sz bys zz] {m : Nat} {l : Int} {us : List Value} (hx : ev E x = .int .i64 l) (hy : ev E y = .int .i64 l) (hl : l = (m : Int)) (hz : zz.cells = us.toArray) (h0 : us.length = sz) (hs : us ≠ [])
    (hb : bys * m ≤ 281474976710656) (hm : m ≤ 9223372036854775807) :
    (execOp (ev E) ⟨d, .makeSlice t x y, ty, pos, af, g⟩).run P w = .ok (.value (.slice (some ⟨w.heap.size, 0, none⟩) m m)) (w.alloc (.cells (List.replicate m us).flatten.toArray e)) := by
  subst hl
  obtain ⟨i, h1, h2, h3, h4⟩ := hi.ex
  have hb' : (i.bytes : Int) * (m : Int) ≤ 281474976710656 := by
    rw [h4, ← Int.natCast_mul]; exact Int.ofNat_le.2 hb
  have hr := run_make (P := P) w t e i zz hu.u h1 h2 .i64 .i64 (m : Int) (m : Int) (by omega) (by omega) hb' (by omega)
  have e1 : madeCells zz.cells ((m : Int).toNat * i.size) = (List.replicate m us).flatten.toArray := by
    apply Array.ext'
    rw [hz, h3, ← h0, Int.toNat_natCast, made_flat us hs]
  rw [e1] at hr
  simp [execOp, hx, hy, hr]
theorem run_lit {t e sz bys len : Nat} {zz : Value} {ps : Array (Nat × Operand)} [hu : HasU P t (.slice e)] [hi : HasI P e sz bys zz] {vs : List Value}
    (hvs : ps.toList.map (fun p => (p.1, ev E p.2)) = idx 0 vs) (hlen : vs.length = len) (hsz : len * sz ≤ 16777216) (hc : ∀ v ∈ vs, v.cells.size = sz) :
    (execOp (ev E) ⟨d, .buildSlice t len ps, ty, pos, af, g⟩).run P w = .ok (.value (.slice (some ⟨w.heap.size, 0, none⟩) len len)) (w.alloc (.cells (vs.flatMap (·.cells.toList)).toArray e)) := by
  have h1 := hu.und w
  have h2 := hi.sizeOf w
  have h3 := hi.zeroV w
  have hf : Instr.fill (fun i => some (i * sz, sz)) ((Array.range (len * sz)).map (zz.cells[· % zz.cells.size]!)) (idx 0 vs) = some (vs.flatMap (·.cells.toList)).toArray := by
    subst hlen
    generalize hA : (Array.range (vs.length * sz)).map (zz.cells[· % zz.cells.size]!) = A
    have hs : A.size = vs.length * sz := by rw [← hA]; simp
    obtain ⟨A⟩ := A
    have := fill_all vs 0 A hc (by simpa using hs)
    simpa using this
  have e1 : (Array.map (fun p => (p.1, ev E p.2)) ps).toList = idx 0 vs := by rw [← hvs]; simp
  have e2 : ¬ (len * sz > 2 ^ 24) := by omega
  have e3 : (Array.map (fun x : Nat × Operand => match x with | (i, x) => (i, ev E x)) ps).toList = idx 0 vs := e1
  simp only [execOp, Instr.buildSlice, Sem.run_bind, h1, h2, Result.andThen_ok, Sem.run_ite, e2, if_false, e3, Sem.run_pure]
  by_cases e0 : len * sz = 0
  · simp only [e0, if_true]
    have : (Array.map (fun x => (#[] : Array Value)[x % (#[] : Array Value).size]!) (Array.range 0)) = (Array.range (len * sz)).map (zz.cells[· % zz.cells.size]!) := by rw [e0]; simp
    rw [this, hf]
    simp [newRow]
  · simp only [e0, if_false, Sem.run_bind, h3, Result.andThen_ok, Sem.run_pure, hf]
    simp [newRow]
theorem run_st {t bys : Nat} {zz : Value} [hi : HasI P t 1 bys zz] {b o : Nat} {cs : List Value} {e : Nat} {v : Value} (hx : ev E x = .pointer (some ⟨b, o, none⟩)) (hy : ev E y = v) (hb : Blk w b cs e) (ho : o < cs.length) (hv : v.oneCell' = true) :
    ∃ w', (execOp (ev E) ⟨d, .store t x y, ty, pos, af, g⟩).run P w = .ok .skip w' ∧ Wrote b w w' ∧ Blk w' b (cs.set o v) e := by
  have h1 := hi.sizeOf w
  have hc : w.cell? ⟨b, o, none⟩ = some cs[o] := hb.cell (by simp [ho])
  have hf := hb.unfrozen o
  have hcs : v.cells = #[v] := by cases v <;> first | rfl | cases hv
  refine ⟨_, ?_, Wrote.setCell w b o v, hb.set o v⟩
  have hst : (Go.store (⟨b, o, none⟩ : Addr) v).run P w = .ok () (w.setCell ⟨b, o, none⟩ v) := by
    rw [run_store P w _ v _ hv]
    simp [hc, hf]
  simp [execOp, hx, hy, Instr.storeAt, Instr.sureAddr, storeVar, hcs, h1, storeCells, add_none, hst]
theorem run_stG {t sz bys : Nat} {zz : Value} [hi : HasI P t sz bys zz] {b o : Nat} {cs vs : List Value} {e : Nat} (hx : ev E x = .pointer (some ⟨b, o, none⟩)) (hy : ev E y = .agg vs.toArray) (hb : Blk w b cs e) (hl : vs.length = sz) (ho : o + vs.length ≤ cs.length) (hv : oneAll vs) :
    ∃ w', (execOp (ev E) ⟨d, .store t x y, ty, pos, af, g⟩).run P w = .ok .skip w' ∧ Wrote b w w' ∧ Blk w' b (cs.take o ++ vs ++ cs.drop (o + vs.length)) e := by
  have h1 := hi.sizeOf w
  have hst := run_storeCells_at P b o e vs 0 cs.toArray w hb (by simpa using ho) hv
  simp only [Nat.add_zero] at hst
  have hset := setRow_heap w b cs.toArray (cs.take o ++ vs ++ cs.drop (o + vs.length)).toArray e _ hb
  refine ⟨w.setRow b (cs.take o ++ vs ++ cs.drop (o + vs.length)).toArray, ?_, ⟨fun k hk => setRow_other w b k _ hk, by simp, rfl, rfl, rfl⟩, hset⟩
  simp [execOp, hx, hy, Instr.storeAt, Instr.sureAddr, storeVar, Value.cells, h1, hl, hst]
end

/-! ### rules -/
/-- zeros of a type, as abstract cells -/
class HasZ (P : Program) (e : Nat) (sz : outParam Nat) (cs : outParam (List AV)) : Prop where
  h : ∃ (bys : Nat) (zz : Value) (us : List Value), HasI P e sz bys zz ∧ zz.cells = us.toArray ∧ us.map cst1 = cs ∧ cs.all cellB = true ∧ us.length = sz
theorem HasZ.of {P : Program} {e sz bys : Nat} {zz : Value} {cs : List AV} (us : List Value) (hi : HasI P e sz bys zz) (h1 : zz.cells = us.toArray) (h2 : us.map cst1 = cs) (h3 : cs.all cellB = true) (h4 : us.length = sz) : HasZ P e sz cs := ⟨bys, zz, us, hi, h1, h2, h3, h4⟩
def cellsA : AV → List AV
  | .agg cs => cs
  | a => [a]
section
variable {P : Program} {n : Nat} {w0 : World} {MP : Fr} {Q : Exit → St → Prop} {st : St} {lb : Bool} {ops : Array Oper} {os : List Oper} {d : Option Tmp} {ty : TypeId} {pos : String} {af : Array Edge} {g : Option (Nat × Bool)} {x y : Operand}
def newS (st : St) (sz : Nat) (xs : List (List AV)) : St := ⟨st.E, updA st.hp st.nx (.live false sz xs), st.nx + 1⟩
theorem blks_blk (b m sz : Nat) (us : List Value) (len : Nat) : ∀ k ∈ blks ⟨.slice (some ⟨b, 0, none⟩) m m, len, sz, us, []⟩, k = b := by
  intro k hk
  simp only [blks, List.append_nil] at hk
  have := mem_ownL.1 hk
  cases m with
  | zero => simp [own] at this
  | succ m => simpa [own, eq_comm] using this
theorem nd_blk (b m sz : Nat) (us : List Value) (len : Nat) : (blks ⟨.slice (some ⟨b, 0, none⟩) m m, len, sz, us, []⟩).Nodup := by
  simp only [blks, List.append_nil]
  unfold ownL; cases own _ <;> simp
/-- a fresh block of cells as an object -/
theorem Sm.freshB {C : Nat → Option Conc} {Im : Nat → Prop} {E : Env} {w w' : World} (hm : Sm w0 MP st C Im E w) (hl : Later w w') {b e sz m : Nat} {us : List Value} {xs : List (List AV)} (hb : b = w.heap.size) (hB : Blk w' b us e) (hxm : xs.length = m) (hmx : m ≤ maxLen) (hus : us.length = m * sz)
    (hlay : LayC st.nx C Im w' xs.flatten us []) (hx : ∀ x ∈ xs, x.length = sz) :
    ∃ C', Sm w0 MP (newS st sz xs) C' Im E w' ∧ RV (st.nx + 1) C' Im w' (.sl st.nx xs.length 0 xs.length) (.slice (some ⟨b, 0, none⟩) m m) ∧ (m = 1 → RV (st.nx + 1) C' Im w' (.pt st.nx 1 0 0) (.pointer (some ⟨b, 0, none⟩))) := by
  let cc : Conc := ⟨.slice (some ⟨b, 0, none⟩) m m, m, sz, us, []⟩
  have hS := hm.fresh hl (cc := cc) (sz := sz) (xs := xs) rfl hxm.symm ⟨e, Buf.ofBlk hB hmx hus⟩ hlay hx (nd_blk b m sz us m) (fun k hk => by rw [blks_blk b m sz us m k hk, hb]; exact Nat.le_refl _)
  refine ⟨_, hS, ?_, fun h1 => ?_⟩
  · obtain ⟨c2, q1, q2⟩ := hS.obj st.nx false sz xs (updA_same ..)
    have := RV.slNew q2 q1 (Nat.lt_succ_self _)
    rw [updA_same] at q1
    cases q1
    exact this
  · subst h1
    exact RV.ptNew (cc := cc) (updA_same ..) (Nat.lt_succ_self _) rfl rfl
theorem putS {C : Nat → Option Conc} {Im : Nat → Prop} {E : Env} {w : World} {st : St} (hm : Sm w0 MP st C Im E w) (d : Option Tmp) {a : AV} {v : Value} (hv : RV st.nx C Im w a v) : Sim w0 MP (putA st d a) (G.put E d v) w := ⟨C, Im, hm.put d hv⟩
theorem R.boxG {e : TypeId} {cs : List AV} (hx : evA st x = .agg cs) (hc : cs.all cellB = true) (hw : awant n ops ⟨d, .box e x, ty, pos, af, g⟩ st.E true = true) (hd : fits n d = true)
    (h : ARg P n w0 MP lb ops os Q (putA (newS st cs.length [cs]) d (.pt st.nx 1 0 0))) : ARg P n w0 MP lb ops (⟨d, .box e x, ty, pos, af, g⟩ :: os) Q st :=
  ARg.val hw hd (fun C Im E w hm => by
    have hv := hm.ev x
    rw [hx] at hv
    obtain ⟨us, h1, h2⟩ := hv
    refine ⟨_, _, run_box (cs := us) h1 rfl w, fun _ => Later.alloc _ _, ?_⟩
    have hl : Later w (w.alloc (.cells us.toArray e)) := Later.alloc _ _
    have hm' := hm.later hl
    have h3 : LayC st.nx C Im (w.alloc (.cells us.toArray e)) [cs].flatten us [] := by
      simpa using (LayC.cells h2 hc).mono (fun _ h => h) (fun k hk => Below.block hl k (hm.im k hk)) (Nat.le_refl _) (CLe.refl _ _) (fun k hk => by cases hk)
    obtain ⟨C', g1, g2, g3⟩ := hm.freshB hl (m := 1) (sz := cs.length) (xs := [cs]) rfl (Blk.new w us e) rfl (by decide) (by rw [Nat.one_mul]; exact h2.length) h3 (fun x hx => by simp at hx; rw [hx])
    exact putS g1 d (g3 rfl)) h
theorem R.boxC {e : TypeId} {a : AV} (hx : evA st x = a) (hc : cellB a = true) (hw : awant n ops ⟨d, .box e x, ty, pos, af, g⟩ st.E true = true) (hd : fits n d = true)
    (h : ARg P n w0 MP lb ops os Q (putA (newS st 1 [[a]]) d (.pt st.nx 1 0 0))) : ARg P n w0 MP lb ops (⟨d, .box e x, ty, pos, af, g⟩ :: os) Q st :=
  ARg.val hw hd (fun C Im E w hm => by
    have hv := hm.ev x
    rw [hx] at hv
    have hone := hv.one hc
    have hcs : (G.ev E x).cells = [G.ev E x].toArray := by generalize G.ev E x = v at *; cases v <;> first | rfl | cases hone
    refine ⟨_, _, run_box (cs := [G.ev E x]) rfl hcs w, fun _ => Later.alloc _ _, ?_⟩
    have hl : Later w (w.alloc (.cells [G.ev E x].toArray e)) := Later.alloc _ _
    have h3 : LayC st.nx C Im (w.alloc (.cells [G.ev E x].toArray e)) [[a]].flatten [G.ev E x] [] := by
      have : LayC st.nx C Im w [a] [G.ev E x] [] := .at1 hv hone .nil
      simpa using this.mono (fun _ h => h) (fun k hk => Below.block hl k (hm.im k hk)) (Nat.le_refl _) (CLe.refl _ _) (fun k hk => by cases hk)
    obtain ⟨C', g1, g2, g3⟩ := hm.freshB hl (m := 1) (sz := 1) (xs := [[a]]) rfl (Blk.new w [G.ev E x] e) rfl (by decide) rfl h3 (fun x hx => by simp at hx; rw [hx]; rfl)
    exact putS g1 d (g3 rfl)) h
theorem R.alloc {e sz : Nat} {cs : List AV} [hz : HasZ P e sz cs] (hw : awant n ops ⟨d, .alloc e, ty, pos, af, g⟩ st.E true = true) (hd : fits n d = true)
    (h : ARg P n w0 MP lb ops os Q (putA (newS st sz [cs]) d (.pt st.nx 1 0 0))) : ARg P n w0 MP lb ops (⟨d, .alloc e, ty, pos, af, g⟩ :: os) Q st :=
  ARg.val hw hd (fun C Im E w hm => by
    obtain ⟨bys, zz, us, hi, h1, h2, h3, h4⟩ := hz.h
    subst h2
    refine ⟨_, _, run_alloc (cs := us) h1 w, fun _ => Later.alloc _ _, ?_⟩
    have hl : Later w (w.alloc (.cells us.toArray e)) := Later.alloc _ _
    have h5 : LayC st.nx C Im (w.alloc (.cells us.toArray e)) [us.map cst1].flatten us [] := by
      simpa using LayC.cells (RVL.cst1 us) h3
    obtain ⟨C', g1, g2, g3⟩ := hm.freshB hl (m := 1) (sz := sz) (xs := [us.map cst1]) rfl (Blk.new w us e) rfl (by decide) (by omega) h5 (fun x hx => by simp at hx; rw [hx]; simp [h4])
    exact putS g1 d (g3 rfl)) h
/-- make([]T, m): z: what zero cells of T stand for -/
class ZeroE (P : Program) (e : Nat) (α : Type) [Enc α] (z : outParam α) : Prop where
  h : ∃ (bys : Nat) (zz : Value) (us : List Value), HasI P e (Enc.nc α) bys zz ∧ zz.cells = us.toArray ∧ us ≠ [] ∧ us.length = Enc.nc α ∧ ∀ Im w, OwnC Im w (enc true z) us []
theorem OwnC.rep {Im : Nat → Prop} {w : World} {α : Type} [Enc α] {z : α} {us : List Value} (h : OwnC Im w (enc true z) us []) (m : Nat) : OwnC Im w (V.E true (List.replicate m z)).flatten (List.replicate m us).flatten [] := by
  induction m with
  | zero => exact .nil
  | succ m ih => simpa [List.replicate_succ, V.E] using h.append ih
theorem R.mk {t e m : Nat} {l : Int} (α : Type) [Enc α] {z : α} [hu : HasU P t (.slice e)] [hz : ZeroE P e α z] (hx : evA st x = .i l) (hy : evA st y = .i l) (hl : l = (m : Int)) (hb : ∀ sz bys zz, HasI P e sz bys zz → bys * m ≤ 281474976710656) (hmx : m ≤ 9223372036854775807)
    (hw : awant n ops ⟨d, .makeSlice t x y, ty, pos, af, g⟩ st.E true = true) (hd : fits n d = true)
    (h : ARg P n w0 MP lb ops os Q (putA (newS st (Enc.nc α) (V.E true (List.replicate m z))) d (.sl st.nx m 0 m))) : ARg P n w0 MP lb ops (⟨d, .makeSlice t x y, ty, pos, af, g⟩ :: os) Q st :=
  ARg.val hw hd (fun C Im E w hm => by
    obtain ⟨bys, zz, us, hi, h1, h2, h3, h4⟩ := hz.h
    refine ⟨_, _, run_mk (us := us) (hm.evI hx).1 (hm.evI hy).1 hl h1 h3 h2 (hb _ _ _ hi) hmx, fun _ => Later.alloc _ _, ?_⟩
    have hll : Later w (w.alloc (.cells (List.replicate m us).flatten.toArray e)) := Later.alloc _ _
    have hlen : (V.E true (List.replicate m z)).length = m := by simp [E_length]
    obtain ⟨C', g1, g2, g3⟩ := hm.freshB hll (m := m) (sz := Enc.nc α) (xs := V.E true (List.replicate m z)) rfl (Blk.new w _ e) hlen (by rw [maxLen_le]; exact hmx)
      (by rw [flatten_len (sz := us.length) (fun x hx => by rw [(List.eq_of_mem_replicate hx)]), List.length_replicate, h3]) (LayC.own ((h4 Im _).rep m)) (E_len true _)
    rw [hlen] at g2
    exact putS g1 d g2) h
theorem R.lit0 {t e sz bys : Nat} {zz : Value} [hu : HasU P t (.slice e)] [hi : HasI P e sz bys zz] (hw : awant n ops ⟨d, .buildSlice t 0 #[], ty, pos, af, g⟩ st.E true = true) (hd : fits n d = true)
    (h : ARg P n w0 MP lb ops os Q (putA st d .em)) : ARg P n w0 MP lb ops (⟨d, .buildSlice t 0 #[], ty, pos, af, g⟩ :: os) Q st :=
  ARg.val hw hd (fun C Im E w hm => by
    refine ⟨_, _, run_lit (vs := []) rfl rfl (by omega) (fun v hv => by cases hv), fun _ => Later.alloc _ _, ?_⟩
    exact putS (hm.later (Later.alloc w _)) d ⟨_, rfl⟩) h
theorem RV.cells {N : Nat} {C : Nat → Option Conc} {Im : Nat → Prop} {w : World} {a : AV} {v : Value} (h : RV N C Im w a v) (hc : (cellsA a).all cellB = true) : ∃ us, v.cells = us.toArray ∧ RVL N C Im w (cellsA a) us := by
  cases a with
  | agg cs => obtain ⟨us, rfl, h2⟩ := h; exact ⟨us, rfl, h2⟩
  | _ =>
    refine ⟨[v], ?_, ⟨v, [], rfl, h, rfl⟩⟩
    have := h.one (by simpa [cellsA] using hc)
    cases v <;> first | rfl | cases this
theorem lit_vals {C : Nat → Option Conc} {Im : Nat → Prop} {E : Env} {w : World} (hm : Sm w0 MP st C Im E w) (sz : Nat) : ∀ (ps : List (Nat × Operand)) (k : Nat), ps.map (·.1) = (List.range' k ps.length) → (∀ p ∈ ps, (cellsA (evA st p.2)).all cellB = true ∧ (cellsA (evA st p.2)).length = sz) →
    ∃ vs : List Value, ps.map (fun p => (p.1, G.ev E p.2)) = idx k vs ∧ vs.length = ps.length ∧ (∀ v ∈ vs, v.cells.size = sz) ∧ LayC st.nx C Im w (ps.map fun p => cellsA (evA st p.2)).flatten (vs.flatMap (·.cells.toList)) []
  | [], k, _, _ => ⟨[], rfl, rfl, (fun v hv => by cases hv), .nil⟩
  | (i, o) :: ps, k, hk, hp => by
    simp only [List.map_cons, List.length_cons, List.range'_succ, List.cons.injEq] at hk
    obtain ⟨vs, h1, h2, h3, h4⟩ := lit_vals hm sz ps (k + 1) hk.2 (fun p hp' => hp p (by simp [hp']))
    obtain ⟨c1, c2⟩ := hp (i, o) (by simp)
    obtain ⟨us, u1, u2⟩ := (hm.ev o).cells c1
    refine ⟨G.ev E o :: vs, ?_, by simp [h2], fun v hv => ?_, ?_⟩
    · simp only [List.map_cons, idx, h1, hk.1]
    · rcases List.mem_cons.1 hv with rfl | hv
      · rw [u1]; simp only [List.size_toArray]; rw [u2.length]; exact c2
      · exact h3 v hv
    · have : LayC st.nx C Im w (cellsA (evA st o)) us [] := LayC.cells u2 c1
      simp only [List.map_cons, List.flatten_cons, List.flatMap_cons, u1]
      exact this.append h4
theorem R.lit {t e sz bys len : Nat} {zz : Value} {ps : Array (Nat × Operand)} [hu : HasU P t (.slice e)] [hi : HasI P e sz bys zz] {xs : List (List AV)} (hxs : (ps.toList.map fun p => cellsA (evA st p.2)) = xs) (hk : ps.toList.map (·.1) = List.range' 0 ps.toList.length) (hlen : ps.toList.length = len) (hsz : Nat.ble (len * sz) 16777216 = true) (hs0 : Nat.blt 0 sz = true)
    (hc : (ps.toList.all fun p => (cellsA (evA st p.2)).all cellB && Nat.beq (cellsA (evA st p.2)).length sz) = true)
    (hw : awant n ops ⟨d, .buildSlice t len ps, ty, pos, af, g⟩ st.E true = true) (hd : fits n d = true)
    (h : ARg P n w0 MP lb ops os Q (putA (newS st sz xs) d (.sl st.nx len 0 len))) : ARg P n w0 MP lb ops (⟨d, .buildSlice t len ps, ty, pos, af, g⟩ :: os) Q st :=
  ARg.val hw hd (fun C Im E w hm => by
    subst hxs
    have hp : ∀ p ∈ ps.toList, (cellsA (evA st p.2)).all cellB = true ∧ (cellsA (evA st p.2)).length = sz := fun p hp => by
      have := List.all_eq_true.1 hc p hp
      rw [Bool.and_eq_true] at this
      exact ⟨this.1, Nat.eq_of_beq_eq_true this.2⟩
    obtain ⟨vs, h1, h2, h3, h4⟩ := lit_vals hm sz ps.toList 0 hk hp
    refine ⟨_, _, run_lit h1 (by rw [h2, hlen]) (leB hsz) h3, fun _ => Later.alloc _ _, ?_⟩
    have hll : Later w (w.alloc (.cells (vs.flatMap (·.cells.toList)).toArray e)) := Later.alloc _ _
    have hx : ∀ x ∈ ps.toList.map (fun p => cellsA (evA st p.2)), x.length = sz := fun x hx => by
      obtain ⟨p, hp', rfl⟩ := List.mem_map.1 hx; exact (hp p hp').2
    have hll2 : (ps.toList.map fun p => cellsA (evA st p.2)).length = len := by rw [List.length_map, hlen]
    have hmx : len ≤ maxLen := by
      have h5 := leB hsz
      have h6 : len ≤ len * sz := Nat.le_mul_of_pos_right _ (ltB hs0)
      rw [maxLen_le]; omega
    obtain ⟨C', g1, g2, g3⟩ := hm.freshB hll (m := len) (sz := sz) rfl (Blk.new w _ e) hll2 hmx (by rw [h4.length, flatten_len hx, hll2]) (h4.mono (fun _ h => h) (fun k hk => Below.block hll k (hm.im k hk)) (Nat.le_refl _) (CLe.refl _ _) (fun k hk => by cases hk)) hx
    rw [hll2] at g2
    exact putS g1 d g2) h
end
end Go.Proofs.Ytcalkmlaodjpaaa.V
