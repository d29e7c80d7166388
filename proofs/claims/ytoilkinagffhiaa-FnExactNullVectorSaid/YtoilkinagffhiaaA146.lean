/- Segments of a walk: a judgment that holds from every world on leaves the loops' records alone. -/
import Derived.Test.YtoilkinagffhiaaA145
namespace Go.Proofs.Ytoilkinagffhiaa.V
open Go.RowKit G D
set_option linter.unusedVariables false
set_option linter.unusedSimpArgs false
set_option maxHeartbeats 4000000
set_option maxRecDepth 4000

section
variable {w0 w w' : World} {MP : Fr} {st st' : St} {C C' : Nat → Option Conc} {Im Im' : Nat → Prop} {E E' : Env}
def blsN (C : Nat → Option Conc) (N : Nat) : List Nat := blsOf C (List.range N)
theorem mem_blsN {N k : Nat} : k ∈ blsN C N ↔ ∃ o cc, o < N ∧ C o = some cc ∧ k ∈ blks cc := by
  unfold blsN
  rw [mem_blsOf]
  simp
theorem OR.mono {w1 : World} {MP' : Fr} {N : Nat} {l : Bool} {sz : Nat} {xs : List (List AV)} {cc : Conc} (h : OR w0 MP N C Im w l sz xs cc) (hg : ∀ k ∈ blks cc, w1.heap.size ≤ k ∨ k ∈ MP'.bl) : OR w1 MP' N C Im w l sz xs cc :=
  ⟨h.esz, h.len, h.buf, h.lay, h.lens, h.nd, hg, h.nim, h.lent⟩
theorem Sm.lt_nx (hm : Sm w0 MP st C Im E w) {o : Nat} {cc : Conc} (hc : C o = some cc) : o < st.nx := by
  obtain ⟨l, sz, xs, h1, _⟩ := hm.objOf hc
  rcases Nat.lt_or_ge o st.nx with h | h
  · exact h
  · rw [hm.lt o h] at h1; cases h1
theorem Sm.bls (hm : Sm w0 MP st C Im E w) {k : Nat} (hk : k ∈ blsN C st.nx) : Wb w k ∧ (w0.heap.size ≤ k ∨ k ∈ MP.bl) := by
  obtain ⟨o, cc, _, hc, hk⟩ := mem_blsN.1 hk
  obtain ⟨l, sz, xs, _, hO⟩ := hm.objOf hc
  exact ⟨hO.wb k hk, hO.ge k hk⟩
/-- the same state, told from this world on -/
theorem Sm.rebase (hm : Sm w0 MP st C Im E w) : Sm w ⟨blsN C st.nx, Im, MP.gh⟩ st C Im E w := by
  refine ⟨⟨fun _ _ _ => rfl, Nat.le_refl _, rfl, rfl, rfl⟩, hm.im, hm.slot, hm.nod, fun o l sz xs ho => ?_, hm.lt, hm.dis, fun k hk => .inl hk, hm.gst⟩
  obtain ⟨cc, h1, h2⟩ := hm.obj o l sz xs ho
  exact ⟨cc, h1, h2.mono fun k hk => .inr (mem_blsN.2 ⟨o, cc, hm.lt_nx h1, h1, hk⟩)⟩
theorem Sm.unbase (hm : Sm w0 MP st C Im E w) (h : Sm w ⟨blsN C st.nx, Im, MP.gh⟩ st' C' Im' E' w') : Sm w0 MP st' C' Im' E' w' := by
  have B := fun k (hk : k ∈ blsN C st.nx) => (hm.bls hk).2
  have hz := hm.tch.size
  refine ⟨⟨fun k hk hf => ?_, Nat.le_trans hz h.tch.size, h.tch.os.trans hm.tch.os, h.tch.tape.trans hm.tch.tape, h.tch.output.trans hm.tch.output⟩, h.im, h.slot, h.nod, fun o l sz xs ho => ?_, h.lt, h.dis, fun k hk => ?_, h.gst⟩
  · refine (h.tch.same k (by omega) fun hb => ?_).trans (hm.tch.same k hk hf)
    rcases B k hb with h1 | h1
    · omega
    · exact hf h1
  · obtain ⟨cc, h1, h2⟩ := h.obj o l sz xs ho
    refine ⟨cc, h1, h2.mono fun k hk => ?_⟩
    rcases h2.ge k hk with h3 | h3
    · exact .inl (by omega)
    · exact B k h3
  · rcases h.imJ k hk with h1 | h1 | h1
    · exact hm.imJ k h1
    · exact .inr (.inl (by omega))
    · exact .inr (B k h1)
theorem Sm.switch (hm : Sm w0 MP st C Im E w) {E2 : Env} {S2 : Nat → AV} {gh : List (AV × Value)} (hs : ∀ t, RV st.nx C Im w (S2 t) (E2 t)) (hg : ∀ p ∈ gh, RV st.nx C Im w p.1 p.2) : Sm w0 ⟨MP.bl, MP.J, gh⟩ ⟨S2, st.hp, st.nx⟩ C Im E2 w := by
  refine ⟨hm.tch, hm.im, hs, hm.nod, fun o l sz xs ho => ?_, hm.lt, hm.dis, hm.imJ, hg⟩
  obtain ⟨cc, h1, h2⟩ := hm.obj o l sz xs ho
  exact ⟨cc, h1, h2.mono h2.ge⟩
/-- a state beside blocks that are no cells (the loops' records) -/
def SimB (bk : List Nat) (w0 : World) (MP : Fr) (st : St) (E : Env) (w : World) : Prop := ∃ C Im, Sm w0 MP st C Im E w ∧ ∀ k ∈ bk, ¬ Im k ∧ ∃ o, w.heap[k]? = some o ∧ o.isCells = false
theorem wb_cells {k : Nat} {o : Obj} (h : Wb w k) (ho : w.heap[k]? = some o) : o.isCells = true := by
  obtain ⟨cs, e, h⟩ := h
  unfold Blk at h
  rw [ho] at h
  cases h
  rfl
theorem Sm.segB (hm : Sm w0 MP st C Im E w) (h : Sm w ⟨blsN C st.nx, Im, MP.gh⟩ st' C' Im' E' w') {bk : List Nat} (hb : ∀ k ∈ bk, ¬ Im k ∧ ∃ o, w.heap[k]? = some o ∧ o.isCells = false) : SimB bk w0 MP st' E' w' ∧ ∀ k ∈ bk, w'.heap[k]? = w.heap[k]? := by
  have key : ∀ k ∈ bk, k ∉ blsN C st.nx ∧ k < w.heap.size := fun k hk => by
    obtain ⟨_, o, ho, hc⟩ := hb k hk
    refine ⟨fun hx => ?_, ?_⟩
    · rw [wb_cells (hm.bls hx).1 ho] at hc; cases hc
    · rcases Nat.lt_or_ge k w.heap.size with h | h
      · exact h
      · simp [h] at ho
  have hs : ∀ k ∈ bk, w'.heap[k]? = w.heap[k]? := fun k hk => h.tch.same k (key k hk).2 (key k hk).1
  refine ⟨⟨C', Im', hm.unbase h, fun k hk => ⟨fun hi => ?_, ?_⟩⟩, hs⟩
  · rcases h.imJ k hi with h1 | h1 | h1
    · exact (hb k hk).1 h1
    · have := (key k hk).2; omega
    · exact (key k hk).1 h1
  · obtain ⟨_, o, ho, hc⟩ := hb k hk
    exact ⟨o, by rw [hs k hk]; exact ho, hc⟩
/-- a record turns -/
theorem SimB.put {bk : List Nat} (h : SimB bk w0 MP st E w) {k : Nat} (hk : k ∈ bk) (hz : w0.heap.size ≤ k) {o' : Obj} (ho : o'.isCells = false) : SimB bk w0 MP st E (w.putObj k o') := by
  obtain ⟨C, Im, hm, hb⟩ := h
  have hne : ∀ j o, w.heap[j]? = some o → o.isCells = true → j ≠ k := fun j o hj hc e => by
    subst e
    obtain ⟨_, o2, h2, h3⟩ := hb j hk
    rw [hj] at h2
    cases h2
    rw [hc] at h3
    cases h3
  have hother : ∀ j, j ≠ k → (w.putObj k o').heap[j]? = w.heap[j]? := fun j hj => World.putObj_heap_other hj
  refine ⟨C, Im, hm.frame ⟨fun j hj hf => (hother j (by omega)).trans (hm.tch.same j hj hf), by have := hm.tch.size; simpa using this, hm.tch.os, hm.tch.tape, hm.tch.output⟩ (by simp) (fun j hj => hother j fun e => (hb k hk).1 (e ▸ hj)) fun o cc hc j hj => ?_, fun j hj => ⟨(hb j hj).1, ?_⟩⟩
  · obtain ⟨l, sz, xs, _, hO⟩ := hm.objOf hc
    obtain ⟨cs, e, hB⟩ := hO.wb j hj
    unfold Blk at hB
    exact hother j (hne j _ hB rfl)
  · by_cases e : j = k
    · subst e
      obtain ⟨_, o2, h2, h3⟩ := hb j hk
      exact ⟨o', World.putObj_heap_same (by rcases Nat.lt_or_ge j w.heap.size with h | h; exact h; simp [h] at h2), ho⟩
    · obtain ⟨_, o2, h2, h3⟩ := hb j hj
      exact ⟨o2, by rw [hother j e]; exact h2, h3⟩
theorem SimB.sim {bk : List Nat} (h : SimB bk w0 MP st E w) : Sim w0 MP st E w := by
  obtain ⟨C, Im, hm, _⟩ := h
  exact ⟨C, Im, hm⟩
/-- new blocks that are no cells -/
theorem Sim.book (h : Sim w0 MP st E w) {o : Obj} (ho : o.isCells = false) : SimB [w.heap.size] w0 MP st E (w.alloc o) := by
  obtain ⟨C, Im, hm⟩ := h
  refine ⟨C, Im, hm.later (Later.alloc w o), fun k hk => ?_⟩
  obtain rfl : k = w.heap.size := by simpa using hk
  exact ⟨fun hi => absurd (hm.im _ hi) (Nat.lt_irrefl _), o, World.alloc_heap_new w o, ho⟩
theorem SimB.book {bk : List Nat} (h : SimB bk w0 MP st E w) {o : Obj} (ho : o.isCells = false) : SimB (w.heap.size :: bk) w0 MP st E (w.alloc o) := by
  obtain ⟨C, Im, hm, hb⟩ := h
  refine ⟨C, Im, hm.later (Later.alloc w o), fun k hk => ?_⟩
  rcases List.mem_cons.1 hk with rfl | hk
  · exact ⟨fun hi => absurd (hm.im _ hi) (Nat.lt_irrefl _), o, World.alloc_heap_new w o, ho⟩
  · obtain ⟨h1, o2, h2, h3⟩ := hb k hk
    refine ⟨h1, o2, ?_, h3⟩
    have hlt : k < w.heap.size := by
      rcases Nat.lt_or_ge k w.heap.size with h | h
      · exact h
      · simp [h] at h2
    exact (Below.block (Later.alloc w o) k hlt).trans h2
/-- a segment in an ordinary frame -/
theorem AW.seg {P : Program} {n : Nat} {c : Code} {Q : Exit → St → Prop} {bk : List Nat} (h : ∀ w0 mp, mp.gh = MP.gh → AW P n w0 mp c Q st) (hs : SimB bk w0 MP st E w) :
    Wp P n c (fun e E' w' => ∃ st', SimB bk w0 MP st' E' w' ∧ Q e st' ∧ ∀ k ∈ bk, w'.heap[k]? = w.heap[k]?) E w := by
  obtain ⟨C, Im, hm, hb⟩ := hs
  have h1 := h w ⟨blsN C st.nx, Im, MP.gh⟩ rfl
  unfold AW at h1
  refine (h1 E w ⟨C, Im, hm.rebase⟩).mono ?_
  rintro e E' w' ⟨st', ⟨C', Im', hm'⟩, hq⟩
  obtain ⟨g1, g2⟩ := hm.segB hm' hb
  exact ⟨st', g1, hq, g2⟩
/-- a segment in a round's frame -/
theorem AWR.seg {P : Program} {n l : Nat} {c : Code} {Q : Exit → St → Prop} {bk : List Nat} (h : ∀ w0 mp, mp.gh = MP.gh → AWR P n l w0 mp c Q st) (hs : SimB bk w0 MP st E w) :
    WpR P n l c (fun e E' w' => ∃ st', SimB bk w0 MP st' E' w' ∧ Q e st' ∧ ∀ k ∈ bk, w'.heap[k]? = w.heap[k]?) E w := by
  obtain ⟨C, Im, hm, hb⟩ := hs
  have h1 := h w ⟨blsN C st.nx, Im, MP.gh⟩ rfl
  unfold AWR at h1
  intro d a ha
  refine wpIn_mono (h1 E w ⟨C, Im, hm.rebase⟩ d a ha) ?_
  rintro e a' w' ⟨E', hf, st', ⟨C', Im', hm'⟩, hq⟩
  obtain ⟨g1, g2⟩ := hm.segB hm' hb
  exact ⟨E', hf, st', g1, hq, g2⟩
end
end Go.Proofs.Ytoilkinagffhiaa.V
