/- Texts that the proof needs: A146, A147, A148. -/
import Derived.Test.YtoilkinagffhiaaQffA145
import Derived.RangeFuncRecord
namespace Go.Proofs.Ytoilkinagffhiaa.V
open Go.RowKit G D
set_option linter.unusedVariables false
set_option linter.unusedSimpArgs false
set_option maxHeartbeats 4000000
set_option maxRecDepth 4000
section
variable {w0 w w' : World} {MP : Fr} {st st' : St} {C C' : Nat → Option Conc} {Im Im' : Nat → Prop} {E E' : Env}
def blsN (C : Nat → Option Conc) (N : Nat) : List Nat := blsOf C (List.range N)
theorem mem_blsN {N k : Nat} : k ∈ blsN C N ↔ ∃ o cc, o < N ∧ C o = some cc ∧ k ∈ blks cc := by
 unfold blsN
 rw [mem_blsOf]
 simp
theorem OR.mono {w1 : World} {MP' : Fr} {N : Nat} {l : Bool} {sz : Nat} {xs : List (List AV)} {cc : Conc} (h : OR w0 MP N C Im w l sz xs cc) (hg : ∀ k ∈ blks cc, w1.heap.size ≤ k ∨ k ∈ MP'.bl) : OR w1 MP' N C Im w l sz xs cc :=
 ⟨h.esz, h.len, h.buf, h.lay, h.lens, h.nd, hg, h.nim, h.lent⟩
theorem Sm.lt_nx (hm : Sm w0 MP st C Im E w) {o : Nat} {cc : Conc} (hc : C o = some cc) : o < st.nx := by
 obtain ⟨l, sz, xs, h1, _⟩ := hm.objOf hc
 rcases Nat.lt_or_ge o st.nx with h | h
 ·exact h
 ·rw [hm.lt o h] at h1; cases h1
theorem Sm.bls (hm : Sm w0 MP st C Im E w) {k : Nat} (hk : k ∈ blsN C st.nx) : Wb w k ∧ (w0.heap.size ≤ k ∨ k ∈ MP.bl) := by
 obtain ⟨o, cc, _, hc, hk⟩ := mem_blsN.1 hk
 obtain ⟨l, sz, xs, _, hO⟩ := hm.objOf hc
 exact ⟨hO.wb k hk, hO.ge k hk⟩
theorem Sm.rebase (hm : Sm w0 MP st C Im E w) : Sm w ⟨blsN C st.nx, Im, MP.gh⟩ st C Im E w := by
 refine ⟨⟨fun _ _ _ => rfl, Nat.le_refl _, rfl, rfl, rfl⟩, hm.im, hm.slot, hm.nod, fun o l sz xs ho => ?_, hm.lt, hm.dis, fun k hk => .inl hk, hm.gst⟩
 obtain ⟨cc, h1, h2⟩ := hm.obj o l sz xs ho
 exact ⟨cc, h1, h2.mono fun k hk => .inr (mem_blsN.2 ⟨o, cc, hm.lt_nx h1, h1, hk⟩)⟩
theorem Sm.unbase (hm : Sm w0 MP st C Im E w) (h : Sm w ⟨blsN C st.nx, Im, MP.gh⟩ st' C' Im' E' w') : Sm w0 MP st' C' Im' E' w' := by
 have B := fun k (hk : k ∈ blsN C st.nx) => (hm.bls hk).2
 have hz := hm.tch.size
 refine ⟨⟨fun k hk hf => ?_, Nat.le_trans hz h.tch.size, h.tch.os.trans hm.tch.os, h.tch.tape.trans hm.tch.tape, h.tch.output.trans hm.tch.output⟩, h.im, h.slot, h.nod, fun o l sz xs ho => ?_, h.lt, h.dis, fun k hk => ?_, h.gst⟩
 ·refine (h.tch.same k (by omega) fun hb => ?_).trans (hm.tch.same k hk hf)
  rcases B k hb with h1 | h1
  ·omega
  ·exact hf h1
 ·obtain ⟨cc, h1, h2⟩ := h.obj o l sz xs ho
  refine ⟨cc, h1, h2.mono fun k hk => ?_⟩
  rcases h2.ge k hk with h3 | h3
  ·exact .inl (by omega)
  ·exact B k h3
 ·rcases h.imJ k hk with h1 | h1 | h1
  ·exact hm.imJ k h1
  ·exact .inr (.inl (by omega))
  ·exact .inr (B k h1)
theorem Sm.switch (hm : Sm w0 MP st C Im E w) {E2 : Env} {S2 : Nat → AV} {gh : List (AV × Value)} (hs : ∀ t, RV st.nx C Im w (S2 t) (E2 t)) (hg : ∀ p ∈ gh, RV st.nx C Im w p.1 p.2) : Sm w0 ⟨MP.bl, MP.J, gh⟩ ⟨S2, st.hp, st.nx⟩ C Im E2 w := by
 refine ⟨hm.tch, hm.im, hs, hm.nod, fun o l sz xs ho => ?_, hm.lt, hm.dis, hm.imJ, hg⟩
 obtain ⟨cc, h1, h2⟩ := hm.obj o l sz xs ho
 exact ⟨cc, h1, h2.mono h2.ge⟩
def SimB (bk : List Nat) (w0 : World) (MP : Fr) (st : St) (E : Env) (w : World) : Prop := ∃ C Im, Sm w0 MP st C Im E w ∧ ∀ k ∈ bk, ¬ Im k ∧ ∃ o, w.heap[k]? = some o ∧ o.isCells = false
theorem wb_cells {k : Nat} {o : Obj} (h : Wb w k) (ho : w.heap[k]? = some o) : o.isCells = true := by
 obtain ⟨cs, e, h⟩ := h
 unfold Blk at h
 rw [ho] at h
 cases h
 rfl
theorem Sm.segB (hm : Sm w0 MP st C Im E w) (h : Sm w ⟨blsN C st.nx, Im, MP.gh⟩ st' C' Im' E' w') {bk : List Nat} (hb : ∀ k ∈ bk, ¬ Im k ∧ ∃ o, w.heap[k]? = some o ∧ o.isCells = false) : SimB bk w0 MP st' E' w' ∧ ∀ k ∈ bk, w'.heap[k]? = w.heap[k]? := by
 have key : ∀ k ∈ bk, k ∉ blsN C st.nx ∧ k < w.heap.size := fun k hk => by
  obtain ⟨_, o, ho, hc⟩ := hb k hk
  refine ⟨fun hx => ?_, ?_⟩
  ·rw [wb_cells (hm.bls hx).1 ho] at hc; cases hc
  ·rcases Nat.lt_or_ge k w.heap.size with h | h
   ·exact h
   ·simp [h] at ho
 have hs : ∀ k ∈ bk, w'.heap[k]? = w.heap[k]? := fun k hk => h.tch.same k (key k hk).2 (key k hk).1
 refine ⟨⟨C', Im', hm.unbase h, fun k hk => ⟨fun hi => ?_, ?_⟩⟩, hs⟩
 ·rcases h.imJ k hi with h1 | h1 | h1
  ·exact (hb k hk).1 h1
  ·have := (key k hk).2; omega
  ·exact (key k hk).1 h1
 ·obtain ⟨_, o, ho, hc⟩ := hb k hk
  exact ⟨o, by rw [hs k hk]; exact ho, hc⟩
theorem SimB.put {bk : List Nat} (h : SimB bk w0 MP st E w) {k : Nat} (hk : k ∈ bk) (hz : w0.heap.size ≤ k) {o' : Obj} (ho : o'.isCells = false) : SimB bk w0 MP st E (w.putObj k o') := by
 obtain ⟨C, Im, hm, hb⟩ := h
 have hne : ∀ j o, w.heap[j]? = some o → o.isCells = true → j ≠ k := fun j o hj hc e => by
  subst e
  obtain ⟨_, o2, h2, h3⟩ := hb j hk
  rw [hj] at h2
  cases h2
  rw [hc] at h3
  cases h3
 have hother : ∀ j, j ≠ k → (w.putObj k o').heap[j]? = w.heap[j]? := fun j hj => World.putObj_heap_other hj
 refine ⟨C, Im, hm.frame ⟨fun j hj hf => (hother j (by omega)).trans (hm.tch.same j hj hf), by have := hm.tch.size; simpa using this, hm.tch.os, hm.tch.tape, hm.tch.output⟩ (by simp) (fun j hj => hother j fun e => (hb k hk).1 (e ▸ hj)) fun o cc hc j hj => ?_, fun j hj => ⟨(hb j hj).1, ?_⟩⟩
 ·obtain ⟨l, sz, xs, _, hO⟩ := hm.objOf hc
  obtain ⟨cs, e, hB⟩ := hO.wb j hj
  unfold Blk at hB
  exact hother j (hne j _ hB rfl)
 ·by_cases e : j = k
  ·subst e
   obtain ⟨_, o2, h2, h3⟩ := hb j hk
   exact ⟨o', World.putObj_heap_same (by rcases Nat.lt_or_ge j w.heap.size with h | h; exact h; simp [h] at h2), ho⟩
  ·obtain ⟨_, o2, h2, h3⟩ := hb j hj
   exact ⟨o2, by rw [hother j e]; exact h2, h3⟩
theorem SimB.sim {bk : List Nat} (h : SimB bk w0 MP st E w) : Sim w0 MP st E w := by
 obtain ⟨C, Im, hm, _⟩ := h
 exact ⟨C, Im, hm⟩
theorem Sim.book (h : Sim w0 MP st E w) {o : Obj} (ho : o.isCells = false) : SimB [w.heap.size] w0 MP st E (w.alloc o) := by
 obtain ⟨C, Im, hm⟩ := h
 refine ⟨C, Im, hm.later (Later.alloc w o), fun k hk => ?_⟩
 obtain rfl : k = w.heap.size := by simpa using hk
 exact ⟨fun hi => absurd (hm.im _ hi) (Nat.lt_irrefl _), o, World.alloc_heap_new w o, ho⟩
theorem SimB.book {bk : List Nat} (h : SimB bk w0 MP st E w) {o : Obj} (ho : o.isCells = false) : SimB (w.heap.size :: bk) w0 MP st E (w.alloc o) := by
 obtain ⟨C, Im, hm, hb⟩ := h
 refine ⟨C, Im, hm.later (Later.alloc w o), fun k hk => ?_⟩
 rcases List.mem_cons.1 hk with rfl | hk
 ·exact ⟨fun hi => absurd (hm.im _ hi) (Nat.lt_irrefl _), o, World.alloc_heap_new w o, ho⟩
 ·obtain ⟨h1, o2, h2, h3⟩ := hb k hk
  refine ⟨h1, o2, ?_, h3⟩
  have hlt : k < w.heap.size := by
   rcases Nat.lt_or_ge k w.heap.size with h | h
   ·exact h
   ·simp [h] at h2
  exact (Below.block (Later.alloc w o) k hlt).trans h2
theorem AW.seg {P : Program} {n : Nat} {c : Code} {Q : Exit → St → Prop} {bk : List Nat} (h : ∀ w0 mp, mp.gh = MP.gh → AW P n w0 mp c Q st) (hs : SimB bk w0 MP st E w) :
  Wp P n c (fun e E' w' => ∃ st', SimB bk w0 MP st' E' w' ∧ Q e st' ∧ ∀ k ∈ bk, w'.heap[k]? = w.heap[k]?) E w := by
 obtain ⟨C, Im, hm, hb⟩ := hs
 have h1 := h w ⟨blsN C st.nx, Im, MP.gh⟩ rfl
 unfold AW at h1
 refine (h1 E w ⟨C, Im, hm.rebase⟩).mono ?_
 rintro e E' w' ⟨st', ⟨C', Im', hm'⟩, hq⟩
 obtain ⟨g1, g2⟩ := hm.segB hm' hb
 exact ⟨st', g1, hq, g2⟩
theorem AWR.seg {P : Program} {n l : Nat} {c : Code} {Q : Exit → St → Prop} {bk : List Nat} (h : ∀ w0 mp, mp.gh = MP.gh → AWR P n l w0 mp c Q st) (hs : SimB bk w0 MP st E w) :
  WpR P n l c (fun e E' w' => ∃ st', SimB bk w0 MP st' E' w' ∧ Q e st' ∧ ∀ k ∈ bk, w'.heap[k]? = w.heap[k]?) E w := by
 obtain ⟨C, Im, hm, hb⟩ := hs
 have h1 := h w ⟨blsN C st.nx, Im, MP.gh⟩ rfl
 unfold AWR at h1
 intro d a ha
 refine wpIn_mono (h1 E w ⟨C, Im, hm.rebase⟩ d a ha) ?_
 rintro e a' w' ⟨E', hf, st', ⟨C', Im', hm'⟩, hq⟩
 obtain ⟨g1, g2⟩ := hm.segB hm' hb
 exact ⟨E', hf, st', g1, hq, g2⟩
end
section
variable {P : Program} {n l : Nat} {Ec : Env} {w : World}
theorem round_of {m : Nat} {r : Loop} {a : Act} {p : Tmp} {v : Value} {R : World → Prop} (hl : w.heap[l]? = some (.loop r)) (hr : r.state = .ready) (hpe : r.pending = none) (ht : r.tmps = a.tmps) (hf : Fits n a Ec) (hp : p < n)
  (h : WpR P n l r.assign (fun e E1 W1 => e = .normal ∧ W1.heap[l]? = some (.loop r) ∧
   WpR P n l r.body (fun e _ W3 => e = .normal ∧ W3.heap[l]? = some (.loop { r with state := .busy }) ∧ R (W3.putObj l (.loop r))) E1 (W1.putObj l (.loop { r with state := .busy }))) (upd Ec p v) w) :
  RoundIn Fence.wide m P l r.fn ((#[p].zip #[v]).foldl (fun tmps (t, a) => tmps.setIfInBounds t a) r.tmps) r.assign r.body w (fun e W' => e = .returned (.bool true) ∧ R W') := by
 refine roundIn_of_wpIn trivial ?_
 have hf1 : Fits n { tmps := (#[p].zip #[v]).foldl (fun tmps (t, a) => tmps.setIfInBounds t a) r.tmps, defers := [] } (upd Ec p v) := by
  have := hf.put hp v
  refine ⟨?_, rfl, ?_⟩
  ·have h1 := this.size
   simp only [Act.put] at h1
   rw [ht]
   simpa using h1
  ·intro t
   have h1 := this.get t
   simp only [Act.put] at h1
   rw [ht]
   simpa using h1
 refine wpIn_mono (h m _ hf1) ?_
 rintro e a1 w1 ⟨E1, hf2, rfl, hl1, hb⟩
 refine ⟨_, run_beginRound hl1 hr, ?_⟩
 refine wpIn_mono (hb m a1 hf2) ?_
 rintro e a2 w2 ⟨E2, hf3, rfl, hl2, hR⟩
 have he := run_endRound (P := P) none hl2
 refine ⟨_, _, he, rfl, ?_⟩
 have : ({ ({ r with state := .busy } : Loop) with state := .ready, pending := none } : Loop) = r := by
  cases r
  dsimp only at hr hpe
  subst hr hpe
  rfl
 rw [show (if (none : Option Code).isNone = true then LoopState.ready else LoopState.done) = LoopState.ready from rfl, this]
 exact hR
theorem Wp.yield {Q : Exit → Env → World → Prop} {E : Env} {id d1 d2 d3 s1 s2 : Nat} {r : Loop} {p : Tmp} {ats : Array TypeId} {t1 t2 t3 : TypeId} {p1 p2 p3 : String} {f1 f2 f3 : Array Edge} {K : Value → World → Prop}
  (hx : E s1 = .func (.yield l) #[] #[]) (hl : w.heap[l]? = some (.loop r)) (hps : r.params = #[p]) (h1 : d1 < n) (h2 : d2 < n) (h3 : d3 < n) (h12 : d1 ≠ d2) (hs : s2 ≠ d1)
  (hR : RoundIn Fence.wide 0 P l r.fn ((#[p].zip #[E s2]).foldl (fun tmps (t, a) => tmps.setIfInBounds t a) r.tmps) r.assign r.body w (fun e W' => ∃ b, e = .returned b ∧ K b W'))
  (h : ∀ b W', K b W' → Q .normal (upd (upd (upd E d1 (E s1)) d2 (E s2)) d3 b) W') :
  Wp P n (.region id #[⟨some d1, .move (.tmp s1), t1, p1, f1, none⟩, ⟨some d2, .move (.tmp s2), t2, p2, f2, none⟩, ⟨some d3, .call ⟨.value (.tmp d1), #[.tmp d2], ats⟩, t3, p3, f3, none⟩] false) Q E w := by
 unfold Wp
 intro a ha
 refine (wpIn_wide (n := 1)).1 ?_
 refine wpIn_region_lit ?_
 refine wpListIn_plain rfl fun K1 hK1 => ?_
 refine ⟨fun _ _ => trivial, ?_⟩
 rw [Fence.wide_round, Oper.semAt_none]
 rw [ha.eval]
 simp only [execOp, ev]
 refine hK1 _ _ ?_
 have ha1 := ha.put h1 (E s1)
 refine wpListIn_plain rfl fun K2 hK2 => ?_
 refine ⟨fun _ _ => trivial, ?_⟩
 rw [Fence.wide_round, Oper.semAt_none]
 rw [ha1.eval]
 simp only [execOp, ev]
 rw [upd_ne _ _ hs]
 refine hK2 _ _ ?_
 have ha2 := ha1.put h2 (E s2)
 refine wpListIn_plain rfl fun K3 hK3 => ?_
 refine ⟨fun _ _ => trivial, ?_⟩
 rw [Fence.wide_round, Oper.semAt_none]
 rw [ha2.eval]
 have hy := run_yield (P := P) (args := #[E s2]) hl (by rw [hps]; rfl)
 rw [hps] at hy
 have hrun : (execOp (ev (upd (upd E d1 (E s1)) d2 (E s2))) ⟨some d3, .call ⟨.value (.tmp d1), #[.tmp d2], ats⟩, t3, p3, f3, none⟩).run P w = .ok (.round l r.fn ((#[p].zip #[E s2]).foldl (fun tmps (t, a) => tmps.setIfInBounds t a) r.tmps) r.assign r.body) w := by
  simp only [execOp, resolve, ev, upd_same, upd_ne _ _ h12, hx]
  simp [Deferred.ofValue, invoke]
  rw [show ev (upd (upd E d1 (Value.func (Fn.yield l) #[] #[])) d2 (E s2)) (Operand.tmp d2) = E s2 from upd_same _ _ _]
  simpa using hy
 rw [hrun]
 refine ⟨fun x => (by cases x), hR.mono ?_⟩
 rintro e W' ⟨b, rfl, hb⟩
 exact hK3 _ _ ⟨_, ha2.put h3 b, h b W' hb⟩
end
section
variable {w0 w w' : World} {MP : Fr} {st st' : St} {C C' : Nat → Option Conc} {Im Im' : Nat → Prop} {E E' : Env} {bk : List Nat} {P : Program} {n l : Nat} {c : Code}
theorem segF {ι : Type} {S : List Nat} {sl : ι → List (Nat × AV)} {ob : ι → List (Nat × Ob)} {i : ι} (hm : Sm w0 MP st C Im E w) (hb : ∀ k ∈ bk, ¬ Im k ∧ ∃ o, w.heap[k]? = some o ∧ o.isCells = false) (hB : BndS st.nx (sl i) ∧ BndH st.nx (ob i))
  (hs : Sim w ⟨blsN C st.nx, Im, MP.gh⟩ st' E' w') (hf : Fit S (sl i) (ob i) st st') : SimB bk w0 MP (head S (sl i) (ob i) st) E' w' ∧ ∀ k ∈ bk, w'.heap[k]? = w.heap[k]? := by
 obtain ⟨C2, Im2, h2⟩ := hf.sim ⟨C, Im, hm.rebase⟩ hB.1 hB.2 hs
 exact hm.segB h2 hb
theorem AW.segF {ι : Type} {S : List Nat} {sl : ι → List (Nat × AV)} {ob : ι → List (Nat × Ob)} {K : Exit → ι → Prop} (hB : ∀ i, BndS st.nx (sl i) ∧ BndH st.nx (ob i)) (h : ∀ w0 mp, mp.gh = MP.gh → AW P n w0 mp c (fun e st' => ∃ i, K e i ∧ Fit S (sl i) (ob i) st st') st) (hs : SimB bk w0 MP st E w) :
  Wp P n c (fun e E' w' => ∃ i, K e i ∧ SimB bk w0 MP (head S (sl i) (ob i) st) E' w' ∧ ∀ k ∈ bk, w'.heap[k]? = w.heap[k]?) E w := by
 obtain ⟨C, Im, hm, hb⟩ := hs
 have h1 := h w ⟨blsN C st.nx, Im, MP.gh⟩ rfl
 unfold AW at h1
 refine (h1 E w ⟨C, Im, hm.rebase⟩).mono ?_
 rintro e E' w' ⟨st', hm', i, hk, hf⟩
 obtain ⟨g1, g2⟩ := V.segF hm hb (hB i) hm' hf
 exact ⟨i, hk, g1, g2⟩
theorem AWR.segF {ι : Type} {S : List Nat} {sl : ι → List (Nat × AV)} {ob : ι → List (Nat × Ob)} {K : Exit → ι → Prop} (hB : ∀ i, BndS st.nx (sl i) ∧ BndH st.nx (ob i)) (h : ∀ w0 mp, mp.gh = MP.gh → AWR P n l w0 mp c (fun e st' => ∃ i, K e i ∧ Fit S (sl i) (ob i) st st') st) (hs : SimB bk w0 MP st E w) :
  WpR P n l c (fun e E' w' => ∃ i, K e i ∧ SimB bk w0 MP (head S (sl i) (ob i) st) E' w' ∧ ∀ k ∈ bk, w'.heap[k]? = w.heap[k]?) E w := by
 obtain ⟨C, Im, hm, hb⟩ := hs
 have h1 := h w ⟨blsN C st.nx, Im, MP.gh⟩ rfl
 unfold AWR at h1
 intro d a ha
 refine wpIn_mono (h1 E w ⟨C, Im, hm.rebase⟩ d a ha) ?_
 rintro e a' w' ⟨E', hfi, st', hm', i, hk, hf⟩
 obtain ⟨g1, g2⟩ := V.segF hm hb (hB i) hm' hf
 exact ⟨E', hfi, i, hk, g1, g2⟩
theorem WpR.mono {Q Q' : Exit → Env → World → Prop} (h : WpR P n l c Q E w) (hq : ∀ e E w, Q e E w → Q' e E w) : WpR P n l c Q' E w :=
 fun d a ha => wpIn_mono (h d a ha) fun e a w ⟨E', hf, hq'⟩ => ⟨E', hf, hq e E' w hq'⟩
theorem SimB.switch (h : SimB bk w0 MP st E w) {E2 : Env} {S2 : Nat → AV} {gh : List (AV × Value)} (hs : ∀ C Im, Sm w0 MP st C Im E w → (∀ t, RV st.nx C Im w (S2 t) (E2 t)) ∧ ∀ p ∈ gh, RV st.nx C Im w p.1 p.2) : SimB bk w0 ⟨MP.bl, MP.J, gh⟩ ⟨S2, st.hp, st.nx⟩ E2 w := by
 obtain ⟨C, Im, hm, hb⟩ := h
 obtain ⟨h1, h2⟩ := hs C Im hm
 exact ⟨C, Im, hm.switch h1 h2, hb⟩
def ghS (n : Nat) (S : Nat → AV) (E : Env) : List (AV × Value) := (List.range n).map fun t => (S t, E t)
theorem ghS_mem {S : Nat → AV} {t : Nat} (h : t < n) : (S t, E t) ∈ ghS n S E := List.mem_map.2 ⟨t, by simpa using h, rfl⟩
theorem ghS_of {S : Nat → AV} {R : AV → Value → Prop} (h : ∀ t, R (S t) (E t)) : ∀ p ∈ ghS n S E, R p.1 p.2 := fun p hp => by
 obtain ⟨t, _, rfl⟩ := List.mem_map.1 hp
 exact h t
variable {nI p s2 d1 d2 d3 : Nat} {r : Loop} {a : Act} {Ec : Env} {Sc Si : Nat → AV} {N : Nat} {σ : Type}
theorem roundI {id : Nat} {ats : Array TypeId} {t1 t2 t3 : TypeId} {p1 p2 p3 : String} {f1 f2 f3 : Array Edge} {hp hp' : Nat → Ob} {SA SB : List Nat} {slA : List (Nat × AV)} {obB : List (Nat × Ob)}
  (hlb : l ∈ bk) (hz : w0.heap.size ≤ l) (hr : r.state = .ready) (hpe : r.pending = none) (ht : r.tmps = a.tmps) (hfi : Fits n a Ec) (hps : r.params = #[p]) (hpn : p < n) (hSc : ∀ t, n ≤ t → Sc t = .no) (hSi : ∀ t, nI ≤ t → Si t = .no)
  (h0 : Si 0 = .q (fun v => v = .func (.yield l) #[] #[])) (h1 : d1 < nI) (h2 : d2 < nI) (h3 : d3 < nI) (h12 : d1 ≠ d2) (hs : s2 ≠ d1)
  (hBA : BndS N slA ∧ BndH N []) (hBB : BndS N [] ∧ BndH N obB)
  (hasg : ∀ v0 mp, AWR P n l v0 mp r.assign (fun e st' => ∃ _ : Unit, e = .normal ∧ Fit SA slA [] ⟨updA Sc p (Si s2), hp, N⟩ st') ⟨updA Sc p (Si s2), hp, N⟩)
  (hbody : ∀ v0 mp, AWR P n l v0 mp r.body (fun e st' => ∃ _ : Unit, e = .normal ∧ Fit SB [] obB (head SA slA [] ⟨updA Sc p (Si s2), hp, N⟩) st') (head SA slA [] ⟨updA Sc p (Si s2), hp, N⟩))
  (hhp : hp' = upsA obB (head SA slA [] ⟨updA Sc p (Si s2), hp, N⟩).hp) {D : Nat} {X : Option Obj} (hDb : D ∈ bk) (hDl : D ≠ l) (hD : w.heap[D]? = X)
  (hJ : SimB bk w0 ⟨MP.bl, MP.J, ghS n Sc Ec ++ MP.gh⟩ ⟨Si, hp, N⟩ E w) (hl : w.heap[l]? = some (.loop r)) :
  Wp P nI (.region id #[⟨some d1, .move (.tmp 0), t1, p1, f1, none⟩, ⟨some d2, .move (.tmp s2), t2, p2, f2, none⟩, ⟨some d3, .call ⟨.value (.tmp d1), #[.tmp d2], ats⟩, t3, p3, f3, none⟩] false)
   (fun e E' w' => e = .normal ∧ SimB bk w0 ⟨MP.bl, MP.J, ghS n Sc Ec ++ MP.gh⟩ ⟨updA (updA (updA Si d1 (Si 0)) d2 (Si s2)) d3 (.b true), hp', N⟩ E' w' ∧ w'.heap[l]? = some (.loop r) ∧ w'.heap[D]? = X) E w := by
 have hE0 : E 0 = .func (.yield l) #[] #[] := by
  obtain ⟨C, Im, hm, _⟩ := hJ
  have := hm.slot 0
  rw [show (⟨Si, hp, N⟩ : St).E 0 = Si 0 from rfl, h0] at this
  exact this.1
 have hB : SimB bk w0 ⟨MP.bl, MP.J, ghS nI Si E ++ (ghS n Sc Ec ++ MP.gh)⟩ ⟨updA Sc p (Si s2), hp, N⟩ (upd Ec p (E s2)) w := by
  refine hJ.switch (MP := ⟨MP.bl, MP.J, _⟩) fun C Im hm => ⟨fun t => ?_, fun q hq => ?_⟩
  ·by_cases e : t = p
   ·subst e; rw [updA_same, upd_same]; exact hm.slot s2
   ·rw [updA_ne _ _ e, upd_ne _ _ e]
    rcases Nat.lt_or_ge t n with hlt | hge
    ·exact hm.gst _ (List.mem_append.2 (.inl (ghS_mem hlt)))
    ·rw [hSc t hge]; trivial
  ·rcases List.mem_append.1 hq with hq | hq
   ·exact ghS_of (R := fun x y => RV N C Im w x y) hm.slot q hq
   ·exact hm.gst q hq
 refine Wp.yield (K := fun b W' => b = .bool true ∧ ∃ E3, SimB bk w0 ⟨MP.bl, MP.J, ghS nI Si E ++ (ghS n Sc Ec ++ MP.gh)⟩ (head SB [] obB (head SA slA [] ⟨updA Sc p (Si s2), hp, N⟩)) E3 W' ∧ W'.heap[l]? = some (.loop r) ∧ W'.heap[D]? = X) hE0 hl hps h1 h2 h3 h12 hs ?_ ?_
 ·refine (round_of (R := fun W' => ∃ E3, SimB bk w0 ⟨MP.bl, MP.J, ghS nI Si E ++ (ghS n Sc Ec ++ MP.gh)⟩ (head SB [] obB (head SA slA [] ⟨updA Sc p (Si s2), hp, N⟩)) E3 W' ∧ W'.heap[l]? = some (.loop r) ∧ W'.heap[D]? = X) hl hr hpe ht hfi hpn ?_).mono ?_
  ·refine (AWR.segF (ι := Unit) (K := fun e _ => e = .normal) (sl := fun _ => slA) (ob := fun _ => []) (fun _ => hBA) (fun v0 mp _ => hasg v0 mp) hB).mono ?_
   rintro e E1 W1 ⟨_, rfl, hS1, hk1⟩
   have hl1 : W1.heap[l]? = some (.loop r) := (hk1 l hlb).trans hl
   refine ⟨rfl, hl1, ?_⟩
   have hlt : l < W1.heap.size := (Array.getElem?_eq_some_iff.1 hl1).1
   have hl2 : (W1.putObj l (.loop { r with state := .busy })).heap[l]? = some (.loop { r with state := .busy }) := World.putObj_heap_same hlt
   refine (AWR.segF (ι := Unit) (K := fun e _ => e = .normal) (sl := fun _ => []) (ob := fun _ => obB) (fun _ => hBB) (fun v0 mp _ => hbody v0 mp) (hS1.put hlb hz (o' := .loop { r with state := .busy }) rfl)).mono ?_
   rintro e E3 W3 ⟨_, rfl, hS3, hk3⟩
   have hl3 := (hk3 l hlb).trans hl2
   have hlt3 : l < W3.heap.size := (Array.getElem?_eq_some_iff.1 hl3).1
   exact ⟨rfl, hl3, E3, hS3.put hlb hz rfl, World.putObj_heap_same hlt3, (World.putObj_heap_other hDl).trans ((hk3 D hDb).trans ((World.putObj_heap_other hDl).trans ((hk1 D hDb).trans hD)))⟩
  ·rintro e W' ⟨rfl, hR⟩
   exact ⟨_, rfl, rfl, hR⟩
 ·rintro b W' ⟨rfl, E3, hS3, hl3, hD3⟩
  refine ⟨rfl, ?_, hl3, hD3⟩
  subst hhp
  refine hS3.switch (MP := ⟨MP.bl, MP.J, _⟩) fun C Im hm => ⟨fun t => ?_, fun q hq => hm.gst q (List.mem_append.2 (.inr hq))⟩
  have hI : ∀ t, RV N C Im W' (Si t) (E t) := fun t => by
   rcases Nat.lt_or_ge t nI with hlt | hge
   ·exact hm.gst _ (List.mem_append.2 (.inl (ghS_mem hlt)))
   ·rw [hSi t hge]; trivial
  by_cases e3 : t = d3
  ·subst e3; rw [updA_same, upd_same]; rfl
  ·rw [updA_ne _ _ e3, upd_ne _ _ e3]
   by_cases e2 : t = d2
   ·subst e2; rw [updA_same, upd_same]; exact hI s2
   ·rw [updA_ne _ _ e2, upd_ne _ _ e2]
    by_cases e1 : t = d1
    ·subst e1; rw [updA_same, upd_same]; exact hI 0
    ·rw [updA_ne _ _ e1, upd_ne _ _ e1]; exact hI t
end
end Go.Proofs.Ytoilkinagffhiaa.V
