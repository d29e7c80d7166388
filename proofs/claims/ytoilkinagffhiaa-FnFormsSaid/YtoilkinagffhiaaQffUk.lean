/- Texts that the proof needs: Uq, Ui, Uf, Ug, Uj, Uk. -/
import Derived.Test.YtoilkinagffhiaaQffUd
namespace Go.Proofs.Ytoilkinagffhiaa.V
open Go.RowKit G D
set_option linter.unusedVariables false
set_option linter.unusedSimpArgs false
theorem q1 {p p' : Prop} (h : p') (hs : p' → p := by
 intro h
 (refine kR ?_; first
  | exact F.sil (A.idxQ rfl rfl rfl (by omega) (by omega) (by first | rfl | (simp [tab_len]; done)) (by first | rfl | (simp [tab_len]; done))) rfl rfl h
  | exact F.sil (A.ldQ rfl rfl (by omega) (by omega) (by first | rfl | (simp [tab_len]; done))) rfl rfl h
  | exact F.sil (A.idxQD rfl rfl (by omega) (by omega)) rfl rfl h
  | exact F.sil (A.idxRD rfl rfl (by omega)) rfl rfl h
  | exact F.stQ rfl rfl rfl (by omega) (by omega) (by first | rfl | (simp [tab_len]; done)) rfl rfl rfl h)) : p := hs h
end Go.Proofs.Ytoilkinagffhiaa.V
namespace Go.Proofs.Ytoilkinagffhiaa.G
open Go.RowKit
set_option linter.unusedVariables false
section
variable {P : Program} {ops : Array Oper} {Q : Exit → Act → World → Prop} {md : Region.Mode} {I : Nat → Prop}
def KeepI (I : Nat → Prop) (w w' : World) : Prop := ∀ k, I k → w'.heap[k]? = w.heap[k]?
theorem KeepI.refl (w : World) : KeepI I w w := fun _ _ => rfl
theorem KeepI.trans {a b c : World} (h : KeepI I a b) (k : KeepI I b c) : KeepI I a c := fun j hj => (k j hj).trans (h j hj)
def YieldsI (I : Nat → Prop) (P : Program) (ops : Array Oper) (o : Oper) (v : Value) (a : Act) (w : World) : Prop :=
 (Region.wanted o (yielded ops a.tmps) = true ∧ ∀ w', KeepI I w w' → (execOp a.eval o).run P w' = .ok (.value v) w') ∨
 (Region.wanted o (yielded ops a.tmps) = false ∧ v = undef)
theorem YieldsI.keep {o : Oper} {v : Value} {a : Act} {w w' : World} (h : YieldsI I P ops o v a w) (hl : KeepI I w w') : YieldsI I P ops o v a w' :=
 h.imp (fun ⟨hw, hv⟩ => ⟨hw, fun w2 h2 => hv w2 (hl.trans h2)⟩) id
theorem YieldsI.wpOp {i : Nat} {o : Oper} {v : Value} {a : Act} {w : World} (hi : ops[i]? = some o) (hy : YieldsI I P ops o v a w)
  {K : Act → World → Prop} (h : K (a.put o.dst v) w) : wpOp P ops Q i K a w := by
 unfold Go.wpOp
 simp only [hi]
 rcases hy with ⟨hw, hv⟩ | ⟨hw, rfl⟩
 ·simp only [hw, if_true, Oper.wp, hv w (KeepI.refl w), Oper.upon]; exact .inl h
 ·simp only [hw, Bool.false_eq_true, if_false]; exact h
theorem YieldsI.of_same {o : Oper} {v : Value} {a a' : Act} {w : World} (hy : YieldsI I P ops o v a w) (he : execOp a'.eval o = execOp a.eval o)
  (hw : Region.wanted o (yielded ops a'.tmps) = Region.wanted o (yielded ops a.tmps)) : YieldsI I P ops o v a' w := by
 unfold YieldsI at *
 rw [he, hw]
 exact hy
theorem wpOp_putI {j : Nat} {oi oj : Oper} {v : Value} (hj : ops[j]? = some oj) (hap : oi.apart ops oj = true)
  (hsi : ∀ cs b, oi.op ≠ .select cs b) (hsj : ∀ cs b, oj.op ≠ .select cs b)
  (hQ : ∀ c a w, Q (.panic c) (a.put oi.dst v) w → Q (.panic c) a w) {K : Act → World → Prop} {a : Act} {w : World}
  (hy : YieldsI I P ops oi v a w) (h : wpOp P ops Q j K (a.put oi.dst v) w) :
  wpOp P ops Q j (fun a' w' => YieldsI I P ops oi v a' w ∧ K (a'.put oi.dst v) w') a w := by
 obtain ⟨h1, h2, h3⟩ := Oper.apart_spec hap
 refine wpOp_putY (fun a => YieldsI I P ops oi v a w) hj hap hsi hsj hQ (fun a hy u => ?_) (fun a hy d => ?_) hy h
 ·exact YieldsI.of_same hy (execOp_put oi hsi a oj.dst u h3) (wanted_put oi a oj.dst u h3)
 ·exact YieldsI.of_same hy rfl rfl
def wpAnyI (P : Program) (md : Region.Mode) (I : Nat → Prop) (ops : Array Oper) (Q : Exit → Act → World → Prop) : Nat → Array Bool → Act → World → Prop
 | 0, listed, a, w => Region.ready md ops listed = [] ∧ Q .normal a w
 | fuel + 1, listed, a, w =>
  (Region.ready md ops listed = [] → Q .normal a w) ∧
  ∀ i ∈ Region.ready md ops listed, wpOp P ops Q i (fun a' w' => KeepI I w w' ∧ wpAnyI P md I ops Q fuel (listed.setIfInBounds i true) a' w') a w
theorem wpAnyI_first {i : Nat} {oi : Oper} {v : Value} (hi : ops[i]? = some oi) (hsel : ∀ (j : Nat) (o : Oper) cs b, ops[j]? = some o → o.op ≠ .select cs b)
  (hQ : ∀ c a w, Q (.panic c) (a.put oi.dst v) w → Q (.panic c) a w) :
  ∀ (fuel : Nat) (listed : Array Bool) (a : Act) (w : World),
   (∀ j oj, ops[j]? = some oj → j ≠ i → listed.getD j true = false → (∀ e ∈ oj.after, Region.binds md e = true → e.on ≠ i) → oi.apart ops oj = true) →
   i ∈ Region.ready md ops listed → YieldsI I P ops oi v a w →
   wpAnyI P md I ops Q fuel (listed.setIfInBounds i true) (a.put oi.dst v) w → wpAnyI P md I ops Q (fuel + 1) listed a w := by
 intro fuel
 induction fuel with
 | zero =>
  intro listed a w _ hr hy H
  refine ⟨fun h => (by rw [h] at hr; cases hr), fun j hj => ?_⟩
  by_cases hji : j = i
  ·subst hji; exact hy.wpOp hi ⟨KeepI.refl w, H⟩
  ·have := ready_mono hj hji
   rw [H.1] at this
   cases this
 | succ fuel ih =>
  intro listed a w hfree hr hy H
  refine ⟨fun h => (by rw [h] at hr; cases hr), fun j hj => ?_⟩
  by_cases hji : j = i
  ·subst hji; exact hy.wpOp hi ⟨KeepI.refl w, H⟩
  ·have h1 := H.2 j (ready_mono hj hji)
   obtain ⟨hjun, oj, hoj, hall⟩ := mem_ready.1 hj
   have hun0 := (mem_ready.1 hr).1
   have hnot : ∀ e ∈ oj.after, Region.binds md e = true → e.on ≠ i := fun e he hb heq => by
    have h1 := hall e he hb
    rw [heq] at h1
    rcases Nat.lt_or_ge i listed.size with h' | h'
    ·simp [h'] at hun0 h1; rw [hun0] at h1; cases h1
    ·simp [Array.getElem?_eq_none h'] at h1
   have h2 := wpOp_putI hoj (hfree j oj hoj hji hjun hnot) (fun cs b => hsel i oi cs b hi) (fun cs b => hsel j oj cs b hoj) hQ hy h1
   have hfree' : ∀ k ok, ops[k]? = some ok → k ≠ i → (listed.setIfInBounds j true).getD k true = false →
     (∀ e ∈ ok.after, Region.binds md e = true → e.on ≠ i) → oi.apart ops ok = true := fun k ok hk hki hun hno => by
    refine hfree k ok hk hki ?_ hno
    by_cases hjk : j = k
    ·subst hjk; exact hjun
    ·rw [getD_set_ne true hjk] at hun; exact hun
   refine wpOp_mono (fun a' w' h3 => ?_) h2
   refine ⟨h3.2.1, ih (listed.setIfInBounds j true) a' w' hfree' (ready_mono hr (Ne.symm hji)) (h3.1.keep h3.2.1) ?_⟩
   rw [Array.setIfInBounds_comm _ _ hji]
   exact h3.2.2
end
def RgI (P : Program) (n : Nat) (I : Nat → Prop) (ops : Array Oper) (fuel : Nat) (listed : Array Bool) (Q : Exit → Env → World → Prop) (E : Env) (w : World) : Prop :=
 Region.noSelect ops = true → ∀ a, Fits n a E → wpAnyI P .any I ops (Up n Q) fuel listed a w
section
variable {P : Program} {ops : Array Oper} {I : Nat → Prop} {n : Nat} {fuel : Nat} {listed : Array Bool} {E : Env} {w : World}
theorem RgI.nil {Q : Exit → Env → World → Prop} (hr : Region.ready .any ops listed = []) (h : Q .normal E w) : RgI P n I ops fuel listed Q E w := fun hst a ha => by
 cases fuel with
 | zero => exact ⟨hr, E, ha, h⟩
 | succ f => exact ⟨fun _ => ⟨E, ha, h⟩, by rw [hr]; simp⟩
theorem RgI.take {Q : Exit → Env → World → Prop} [hQ : NoPan Q] (i : Nat) {o : Oper} {v : Value} (ho : ops[i]? = some o)
  (hc : (Region.free .any ops listed i && (Region.ready .any ops listed).contains i) = true)
  (hs : ∀ w', KeepI I w w' → (execOp (ev E) o).run P w' = .ok (.value v) w') (hw : want n ops o E = true) (hd : fits n o.dst = true) (h : RgI P n I ops fuel (listed.setIfInBounds i true) Q (put E o.dst v) w) :
  RgI P n I ops (fuel + 1) listed Q E w := fun hst a ha => by
 simp only [Bool.and_eq_true] at hc
 obtain ⟨h4, h5⟩ := hc
 refine wpAnyI_first ho (Region.noSelect_spec hst) ?_ fuel listed a w (Region.free_spec ho h4) (by simpa using h5) ?_ (h hst _ (ha.put' hd v))
 ·intro c a w ⟨E, _, hp⟩; exact absurd hp (hQ.h _ _ _)
 ·refine .inl ⟨by rw [want_eq ha]; exact hw, fun w' hl => ?_⟩
  rw [ha.eval]
  exact hs w' hl
theorem RgI.skip {Q : Exit → Env → World → Prop} [hQ : NoPan Q] (i : Nat) {o : Oper} (ho : ops[i]? = some o)
  (hc : (Region.free .any ops listed i && (Region.ready .any ops listed).contains i) = true)
  (hw : want n ops o E = false) (hd : fits n o.dst = true) (h : RgI P n I ops fuel (listed.setIfInBounds i true) Q (put E o.dst undef) w) :
  RgI P n I ops (fuel + 1) listed Q E w := fun hst a ha => by
 simp only [Bool.and_eq_true] at hc
 obtain ⟨h4, h5⟩ := hc
 refine wpAnyI_first ho (Region.noSelect_spec hst) ?_ fuel listed a w (Region.free_spec ho h4) (by simpa using h5) ?_ (h hst _ (ha.put' hd undef))
 ·intro c a w ⟨E, _, hp⟩; exact absurd hp (hQ.h _ _ _)
 ·exact .inr ⟨by rw [want_eq ha]; exact hw, rfl⟩
theorem RgI.any {Q : Exit → Env → World → Prop} (hne : Region.ready .any ops listed ≠ [])
  (h : ∀ i ∈ Region.ready .any ops listed, ∃ o, ops[i]? = some o ∧ Rg P n ops [o] (Th (fun E' w' => KeepI I w w' ∧ RgI P n I ops fuel (listed.setIfInBounds i true) Q E' w') Q) E w) : RgI P n I ops (fuel + 1) listed Q E w := by
 intro hst a ha
 refine ⟨fun h0 => absurd h0 hne, fun i hi => ?_⟩
 obtain ⟨o, ho, h⟩ := h i hi
 unfold Rg at h
 have h1 := h a ha
 unfold wpList at h1
 unfold wpOp
 simp only [ho]
 split
 ·rename_i hw
  rw [if_pos hw] at h1
  rcases h1 with h1 | ⟨h1, a0, w0, E0, hE0, hq⟩
  ·refine .inl ?_
   unfold Oper.wp at *
   refine upon_mono ?_ ?_ h1
   ·intro a' w' ⟨E', hf', hq⟩; exact ⟨hq.1, hq.2 hst a' hf'⟩
   ·intro e a' w' hne ⟨E', hf', hq⟩
    refine ⟨E', hf', ?_⟩
    cases e <;> first | exact hq | exact absurd rfl hne
  ·exact .inr ⟨h1, a0, w0, E0, hE0, hq⟩
 ·rename_i hw
  rw [if_neg hw] at h1
  obtain ⟨E', hf', hq⟩ := h1
  exact ⟨hq.1, hq.2 hst _ hf'⟩
end
attribute [irreducible] RgI
end Go.Proofs.Ytoilkinagffhiaa.G
namespace Go.Proofs.Ytoilkinagffhiaa.V
open Go.RowKit G
set_option linter.unusedVariables false
set_option linter.unusedSimpArgs false
def ARI (ph : Bool) (I0 : Nat → Prop) (T : Exit → Env → World → Prop) (P : Program) (n : Nat) (w0 : World) (MP : Fr) (ops : Array Oper) (fuel : Nat) (listed : Array Bool) (Q : Exit → St → Prop) (st : St) : Prop :=
 (∀ k, I0 k → k < w0.heap.size ∧ k ∉ MP.bl) → NoPan T → (∀ e E w, upQ w0 MP Q e E w → T e E w) → ∀ E w C Im, Sm w0 MP st C Im E w → (ph = true → ∀ k, Im k → I0 k) → RgI P n I0 ops fuel listed T E w
def ASilI (P : Program) (w0 : World) (MP : Fr) (st : St) (o : Oper) (a : AV) : Prop :=
 ∀ C Im E w, Sm w0 MP st C Im E w → ∃ v, (∀ w', KeepI Im w w' → (execOp (G.ev E) o).run P w' = .ok (.value v) w') ∧ RV st.nx C Im w a v
section
variable {P : Program} {n : Nat} {w0 : World} {MP : Fr} {Q : Exit → St → Prop} {st : St} {ph : Bool} {I0 : Nat → Prop} {T : Exit → Env → World → Prop} {fuel : Nat} {ops : Array Oper} {listed : Array Bool}
theorem ARI.nil (hr : Region.ready .any ops listed = []) (h : Q .normal st) : ARI ph I0 T P n w0 MP ops fuel listed Q st := fun _ _ hT E w C Im hs _ => RgI.nil hr (hT _ _ _ ⟨st, ⟨C, Im, hs⟩, h⟩)
theorem ARI.take (i : Nat) {o : Oper} {a : AV} (ho : ops[i]? = some o) (hc : (Region.free .any ops listed i && (Region.ready .any ops listed).contains i) = true)
  (hs : ASilI P w0 MP st o a) (hw : awant n ops o st.E true = true) (hd : fits n o.dst = true) (h : ARI true I0 T P n w0 MP ops fuel (listed.setIfInBounds i true) Q (putA st o.dst a)) : ARI true I0 T P n w0 MP ops (fuel + 1) listed Q st := fun h0 hN hT E w C Im hm hI => by
 obtain ⟨v, h1, h2⟩ := hs C Im E w hm
 have := hN
 exact RgI.take i ho hc (fun w' hk => h1 w' fun k hk' => hk k (hI rfl k hk')) (awant_spec hm hw) hd (h h0 hN hT _ _ C Im (hm.put _ h2) hI)
theorem ARI.pure (i : Nat) {o : Oper} {a : AV} (ho : ops[i]? = some o) (hc : (Region.free .any ops listed i && (Region.ready .any ops listed).contains i) = true)
  (hs : ASil true P w0 MP st o a) (hw : awant n ops o st.E true = true) (hd : fits n o.dst = true) (h : ARI ph I0 T P n w0 MP ops fuel (listed.setIfInBounds i true) Q (putA st o.dst a)) : ARI ph I0 T P n w0 MP ops (fuel + 1) listed Q st := fun h0 hN hT E w C Im hm hI => by
 obtain ⟨v, h1, h2⟩ := hs C Im E w hm
 have := hN
 exact RgI.take i ho hc (fun w' hk => by have h3 := h1 w'; unfold Sil at h3; exact h3 w' (Later.refl w')) (awant_spec hm hw) hd (h h0 hN hT _ _ C Im (hm.put _ h2) hI)
theorem ARI.skip (i : Nat) {o : Oper} (ho : ops[i]? = some o) (hc : (Region.free .any ops listed i && (Region.ready .any ops listed).contains i) = true)
  (hw : awant n ops o st.E false = true) (hd : fits n o.dst = true) (h : ARI ph I0 T P n w0 MP ops fuel (listed.setIfInBounds i true) Q (putA st o.dst (.tu []))) : ARI ph I0 T P n w0 MP ops (fuel + 1) listed Q st := fun h0 hN hT E w C Im hm hI => by
 have := hN
 exact RgI.skip i ho hc (awant_spec hm hw) hd (h h0 hN hT _ _ C Im (hm.put _ ⟨[], rfl, rfl⟩) hI)
theorem Sm.keepI (h0 : ∀ k, I0 k → k < w0.heap.size ∧ k ∉ MP.bl) {st' : St} {C C' : Nat → Option Conc} {Im Im' : Nat → Prop} {E E' : Env} {w w' : World} (h : Sm w0 MP st C Im E w) (h' : Sm w0 MP st' C' Im' E' w') : KeepI I0 w w' := fun k hk => by
 obtain ⟨a, b⟩ := h0 k hk
 rw [h.tch.same k a b, h'.tch.same k a b]
theorem ARI.any (is : List Nat) (hr : Region.ready .any ops listed = is) (hne : is ≠ [])
  (h : ∀ i ∈ is, ∃ o, ops[i]? = some o ∧ ARg P n w0 MP false ops [o] (ATh (ARI false I0 T P n w0 MP ops fuel (listed.setIfInBounds i true) Q) Q) st) : ARI ph I0 T P n w0 MP ops (fuel + 1) listed Q st := fun h0 hN hT E w C Im hm hI =>
 RgI.any (by rw [hr]; exact hne) fun i hi => by
  obtain ⟨o, ho, h⟩ := h i (by rw [← hr]; exact hi)
  refine ⟨o, ho, (h E w ⟨C, Im, hm⟩).mono fun e E' w' ⟨h1, st', hs', hq⟩ => ?_⟩
  cases e with
  | normal =>
   obtain ⟨C', Im', hm'⟩ := hs'
   exact ⟨Sm.keepI h0 hm hm', hq h0 hN hT E' w' C' Im' hm' fun hh => by cases hh⟩
  | _ => exact hT _ _ _ ⟨st', hs', hq⟩
theorem ARI.split (d : Nat) {b : Bool} (hE : st.E d = .b b) (ht : b = true → ARI ph I0 T P n w0 MP ops fuel listed Q ⟨updA st.E d (.b true), st.hp, st.nx⟩) (hf : b = false → ARI ph I0 T P n w0 MP ops fuel listed Q ⟨updA st.E d (.b false), st.hp, st.nx⟩) : ARI ph I0 T P n w0 MP ops fuel listed Q st := fun h0 hN hT E w C Im hm hI => by
 have hv := hm.slot d
 rw [hE] at hv
 have e : E d = .bool b := hv
 cases b with
 | true => exact ht rfl h0 hN hT E w C Im (by have := hm.upd d (a := .b true) (v := .bool true) rfl; rwa [G.upd_eq_self e] at this) hI
 | false => exact hf rfl h0 hN hT E w C Im (by have := hm.upd d (a := .b false) (v := .bool false) rfl; rwa [G.upd_eq_self e] at this) hI
end
section
variable {P : Program} {n : Nat} {w0 : World} {MP : Fr} {Q : Exit → St → Prop} {E : Nat → AV} {hp : Nat → Ob} {nx : Nat}
theorem AW.putC {c : Code} {o k j sz sz2 m o2 : Nat} {xs : List (List AV)} {cs : List AV} {ys : List (List AV)} (ho : hp o = .live false sz xs) (hk : xs[k]? = some cs) (hj : cs[j]? = some (.sl o2 m 0 m)) (ho2 : hp o2 = .live false sz2 ys) (hm : ys.length = m) (hpu : ys.flatten.all pureB = true) (hne : (updA hp o2 .dead) o = .live false sz xs)
  (h : AW P n w0 MP c Q ⟨E, updA (updA hp o2 .dead) o (.live false sz (xs.set k (cs.set j (.dt true sz2 ys)))), nx⟩) : AW P n w0 MP c Q ⟨E, hp, nx⟩ :=
 AW.ghost (fun E' w hs => Sim.put (st := ⟨E, hp, nx⟩) ho (k := k) (c := cs) (j := j) (a := .sl o2 m 0 m) (a' := .dt true sz2 ys) hk hj rfl (.mv ho2 rfl hm hpu .nil) hne hs) h
end
section
variable {w0 : World} {MP : Fr} {st : St} {C : Nat → Option Conc} {Im : Nat → Prop} {E' : Env} {w : World}
theorem Sm.killAll (h : Sm w0 MP st C Im E' w) (f : Nat → Bool) : Sm w0 MP ⟨st.E, fun o => bif f o then st.hp o else .dead, st.nx⟩ (fun o => bif f o then C o else Option.none) Im E' w := by
 have hle : CLe st.nx C (fun o => bif f o then C o else Option.none) := fun o1 ho1 c hc => by
  cases e : f o1 with
  | false => simp [e] at hc
  | true => simp [e] at hc; exact ⟨c, hc, .inl ⟨rfl, rfl, rfl⟩⟩
 refine ⟨h.tch, h.im, fun t => RV.mono (fun _ h => h) (fun _ _ => rfl) (Nat.le_refl _) hle _ _ (h.slot t), fun o1 h1 => ?_, fun o1 l1 sz1 xs1 h1 => ?_, fun o1 h1 => ?_, fun o1 o2 c1 c2 hoo hc1 hc2 => ?_, h.imJ, fun p hp => RV.mono (fun _ h => h) (fun _ _ => rfl) (Nat.le_refl _) hle _ _ (h.gst p hp)⟩
 ·cases e : f o1 with
  | false => rfl
  | true => simp only [e, cond_true] at h1; simp only [cond_true]; exact h.nod o1 h1
 ·cases e : f o1 with
  | false => simp [e] at h1
  | true =>
   simp only [e, cond_true] at h1
   obtain ⟨c, g1, g2⟩ := h.obj o1 l1 sz1 xs1 h1
   exact ⟨c, by simp only [cond_true]; exact g1, g2.esz, g2.len, g2.buf, g2.lay.mono (fun _ h => h) (fun _ _ => rfl) (Nat.le_refl _) hle (fun _ _ => rfl), g2.lens, g2.nd, g2.ge, g2.nim, g2.lent⟩
 ·cases e : f o1 with
  | false => simp only [e, cond_false]
  | true => simp only [e, cond_true]; exact h.lt o1 h1
 ·cases e : f o1 with
  | false => simp [e] at hc1
  | true =>
   cases e2 : f o2 with
   | false => simp [e2] at hc2
   | true =>
    simp only [e, cond_true] at hc1
    simp only [e2, cond_true] at hc2
    exact h.dis o1 o2 c1 c2 hoo hc1 hc2
theorem Sm.slots (h : Sm w0 MP st C Im E' w) {F : Nat → AV} (hF : ∀ t, F t = .no ∨ F t = st.E t) : Sm w0 MP ⟨F, st.hp, st.nx⟩ C Im E' w :=
 ⟨h.tch, h.im, fun t => by
  rcases hF t with e | e
  ·simp only [e]; exact trivial
  ·simp only [e]; exact h.slot t, h.nod, h.obj, h.lt, h.dis, h.imJ, h.gst⟩
theorem Sim.only {E : Nat → AV} {hp : Nat → Ob} {nx : Nat} (sl : List (Nat × AV)) (ob : List (Nat × Ob)) (h1 : AtA E sl) (h2 : AtA hp ob) (hs : Sim w0 MP ⟨E, hp, nx⟩ E' w) : Sim w0 MP ⟨upsA sl fun _ => .no, upsA ob fun _ => .dead, nx⟩ E' w := by
 obtain ⟨C, Im, hm⟩ := hs
 have h3 := (hm.killAll (mem (keys ob))).slots (F := upsA sl fun _ => .no) fun t => by
  cases e : mem (keys sl) t with
  | false => exact .inl (upsA_out _ e)
  | true => exact .inr (upsA_in h1 t e)
 have e : (fun o => bif mem (keys ob) o then hp o else .dead) = upsA ob fun _ => .dead := by
  funext o
  cases e : mem (keys ob) o with
  | false => rw [upsA_out _ e]; rfl
  | true => rw [upsA_in h2 o e]; rfl
 simp only at h3
 rw [e] at h3
 exact ⟨_, Im, h3⟩
end
section
variable {P : Program} {n : Nat} {w0 : World} {MP : Fr} {Q : Exit → St → Prop} {E : Nat → AV} {hp : Nat → Ob} {nx : Nat}
theorem AW.only {c : Code} (sl : List (Nat × AV)) (ob : List (Nat × Ob)) (nx' : Nat) (h1 : AtA E sl) (h2 : AtA hp ob) (hn : nx = nx') (h : AW P n w0 MP c Q ⟨upsA sl fun _ => .no, upsA ob fun _ => .dead, nx'⟩) : AW P n w0 MP c Q ⟨E, hp, nx⟩ := by
 subst hn
 exact AW.ghost (fun E' w hs => Sim.only sl ob h1 h2 hs) h
theorem AW.putV {c : Code} (t j : Nat) {o sz sz2 m o2 : Nat} {cs : List AV} {ys : List (List AV)} (ht : E t = .pt o 1 0 0) (ho : hp o = .live false sz [cs]) (hj : cs[j]? = some (.sl o2 m 0 m)) (ho2 : hp o2 = .live false sz2 ys) (hm : ys.length = m) (hpu : ys.flatten.all pureB = true) (hne : (updA hp o2 .dead) o = .live false sz [cs])
  (h : AW P n w0 MP c Q ⟨E, updA (updA hp o2 .dead) o (.live false sz [cs.set j (.dt true sz2 ys)]), nx⟩) : AW P n w0 MP c Q ⟨E, hp, nx⟩ :=
 AW.putC (k := 0) ho rfl hj ho2 hm hpu hne h
end
end Go.Proofs.Ytoilkinagffhiaa.V
namespace Go.Proofs.Ytoilkinagffhiaa.V
open Go.RowKit G D
set_option linter.unusedVariables false
set_option linter.unusedSimpArgs false
section
variable {P : Program} {n : Nat} {w0 : World} {MP : Fr} {Q : Exit → St → Prop} {E : Nat → AV} {hp : Nat → Ob} {nx : Nat} {I0 : Nat → Prop} {T : Exit → Env → World → Prop} {fuel : Nat} {ops : Array Oper} {listed : Array Bool}
theorem ARI.ghost {st st' : St} (hs : ∀ E w, Sim w0 MP st E w → Sim w0 MP st' E w) (h : ARI false I0 T P n w0 MP ops fuel listed Q st') : ARI false I0 T P n w0 MP ops fuel listed Q st := fun h0 hN hT E w C Im hm _ => by
 obtain ⟨C', Im', hm'⟩ := hs E w ⟨C, Im, hm⟩
 exact h h0 hN hT E w C' Im' hm' fun hh => by cases hh
end
theorem upsA_flt {β : Type} {S : List Nat} {E : Nat → β} : ∀ (l : List (Nat × β)) (t : Nat), mem S t = false → upsA l E t = upsA (l.filter fun p => !mem S p.1) E t
 | [], _, _ => rfl
 | (d, v) :: l, t, ht => by
  have ih := upsA_flt (S := S) (E := E) l t ht
  cases hd : mem S d with
  | true =>
   have hne : t ≠ d := by rintro rfl; rw [hd] at ht; cases ht
   rw [List.filter_cons_of_neg (by simp [hd]), ← ih]
   exact updA_ne _ _ hne
  | false =>
   rw [List.filter_cons_of_pos (by simp [hd])]
   by_cases e : t = d
   ·subst e; exact (updA_same _ _ _).trans (updA_same _ _ _).symm
   ·exact (updA_ne _ _ e).trans (ih.trans (updA_ne _ _ e).symm)
theorem AgrA.lit {S : List Nat} {l1 l0 : List (Nat × AV)} (h : (l1.filter fun p => !mem S p.1) = l0.filter fun p => !mem S p.1) : AgrA S (upsA l1 fun _ => .no) (upsA l0 fun _ => .no) := fun t ht => by
 rw [upsA_flt l1 t ht, h, ← upsA_flt l0 t ht]
theorem AgrH.lit {m : Nat} {l l0 : List (Nat × Ob)} (h0 : ((keys l0).all fun o => mem (keys l) o || Nat.ble m o) = true) : AgrH m l (fun _ => .dead) (upsA l0 fun _ => .dead) := by
 have a := AgrH.head (l' := l0) h0 (AgrH.refl (m := m) (l := l) (h := fun _ => Ob.dead))
 exact fun o ho hk => (a o ho hk).symm
structure Tl (T : Prop) : Prop where
 t : T
theorem tailedT {T G : Prop} (h : Tl T → G) (t : T) : G := h ⟨t⟩
end Go.Proofs.Ytoilkinagffhiaa.V
