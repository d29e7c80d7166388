/- Texts that the proof needs: A149, A150, A151. -/
import Derived.Test.YtoilkinagffhiaaQffA148
import Derived.RangeFuncLeaves
namespace Go.Proofs.Ytoilkinagffhiaa.V
open Go.RowKit G D
set_option linter.unusedVariables false
set_option linter.unusedSimpArgs false
set_option maxHeartbeats 4000000
set_option maxRecDepth 4000
theorem upsA_upsA {β : Type} {l1 l2 : List (Nat × β)} {f : Nat → β} (h : ∀ t, mem (keys l1) t = true → mem (keys l2) t = true) : upsA l2 (upsA l1 f) = upsA l2 f := by
 funext t
 cases h2 : mem (keys l2) t with
 | true =>
  clear h
  induction l2 with
  | nil => cases h2
  | cons x l2 ih =>
   obtain ⟨d, v⟩ := x
   simp only [upsA]
   by_cases e : t = d
   ·subst e; rw [updA_same, updA_same]
   ·rw [updA_ne _ _ e, updA_ne _ _ e]
    refine ih ?_
    simp only [keys, mem] at h2
    have : Nat.beq t d = false := by rw [← Bool.not_eq_true]; intro hb; exact e (Nat.eq_of_beq_eq_true hb)
    rw [this] at h2
    exact h2
 | false =>
  rw [upsA_out t h2, upsA_out t h2]
  cases h1 : mem (keys l1) t with
  | true => rw [h t h1] at h2; cases h2
  | false => exact upsA_out t h1
section
variable {w0 w : World} {MP : Fr} {E : Env} {bk : List Nat} {P : Program} {l nI N : Nat} {r : Loop} {Si Sx : Nat → AV} {hp0 : Nat → Ob} {σ : Type}
theorem iterLoop (I Fin : σ → Prop) (μ : σ → Nat) (ob obB : σ → List (Nat × Ob)) {SX : List Nat} {d3 id0 : Nat} {Y XB : Code} (hlb : l ∈ bk) {D : Nat} {X : Option Obj} (hDb : D ∈ bk) (hD : w.heap[D]? = X)
  (hSx : ∀ t, mem SX t = false → Sx t = Si t) (hSi : ∀ t, mem SX t = true → Si t = .no) (h3 : Sx d3 = .b true)
  (hB : ∀ i, BndS N [] ∧ BndH N (ob i)) (hk : ∀ s i t, mem (keys (obB s)) t = true → mem (keys (ob i)) t = true) (hk2 : ∀ s i t, mem (keys (ob s)) t = true → mem (keys (ob i)) t = true)
  (hround : ∀ s, I s → ∀ E w, SimB bk w0 MP ⟨Si, upsA (ob s) hp0, N⟩ E w → w.heap[l]? = some (.loop r) → w.heap[D]? = X → Wp P nI Y (fun e E' w' => e = .normal ∧ SimB bk w0 MP ⟨Sx, upsA (obB s) (upsA (ob s) hp0), N⟩ E' w' ∧ w'.heap[l]? = some (.loop r) ∧ w'.heap[D]? = X) E w)
  (hX : ∀ s, I s → ∀ v0 mp, AW P nI v0 mp XB (fun e st' => ∃ i, ((e = .normal ∧ μ i < μ s ∧ I i) ∨ (e = .ret ∧ Fin i)) ∧ Fit SX [] (ob i) ⟨Sx, upsA (obB s) (upsA (ob s) hp0), N⟩ st') ⟨Sx, upsA (obB s) (upsA (ob s) hp0), N⟩)
  (s0 : σ) (hI : I s0) (hJ : SimB bk w0 MP ⟨Si, upsA (ob s0) hp0, N⟩ E w) (hl : w.heap[l]? = some (.loop r)) :
  Wp P nI (.loop ((Y.seq (.cond (.tmp d3) .skip (.exit id0))).seq XB)) (fun e E' w' => e = .ret ∧ ∃ i, Fin i ∧ SimB bk w0 MP ⟨Si, upsA (ob i) hp0, N⟩ E' w' ∧ w'.heap[l]? = some (.loop r) ∧ w'.heap[D]? = X) E w := by
 refine Wp.loopG (fun s E w => I s ∧ SimB bk w0 MP ⟨Si, upsA (ob s) hp0, N⟩ E w ∧ w.heap[l]? = some (.loop r) ∧ w.heap[D]? = X) μ s0 ⟨hI, hJ, hl, hD⟩ ?_
 rintro s E1 w1 ⟨hI1, hJ1, hl1, hD1⟩
 refine Wp.seq (Wp.seq ((hround s hI1 E1 w1 hJ1 hl1 hD1).mono ?_))
 rintro e E2 w2 ⟨rfl, hS2, hl2, hD2⟩
 have hd : ev E2 (.tmp d3) = .bool true := by
  obtain ⟨C, Im, hm, _⟩ := hS2
  have := hm.slot d3
  rw [show (⟨Sx, upsA (obB s) (upsA (ob s) hp0), N⟩ : St).E d3 = Sx d3 from rfl, h3] at this
  exact this
 refine Wp.cond hd (fun _ => ?_) (fun h => by cases h)
 refine Wp.skip ?_
 show Wp P nI XB _ E2 w2
 refine (AW.segF (ι := σ) (K := fun e i => (e = .normal ∧ μ i < μ s ∧ I i) ∨ (e = .ret ∧ Fin i)) (sl := fun _ => []) (ob := ob) hB (fun v0 mp _ => hX s hI1 v0 mp) hS2).mono ?_
 rintro e E3 w3 ⟨i, hq, hS3, hk3⟩
 have hl3 := (hk3 l hlb).trans hl2
 have hD3 := (hk3 D hDb).trans hD2
 have hst : head SX [] (ob i) ⟨Sx, upsA (obB s) (upsA (ob s) hp0), N⟩ = ⟨Si, upsA (ob i) hp0, N⟩ := by
  unfold head
  have e1 : upsA [] (noS SX Sx) = Si := by
   funext t
   show noS SX Sx t = Si t
   unfold noS
   cases hm : mem SX t with
   | true => exact (hSi t hm).symm
   | false => exact hSx t hm
  have e2 : upsA (ob i) (upsA (obB s) (upsA (ob s) hp0)) = upsA (ob i) hp0 := by
   rw [upsA_upsA (hk s i), upsA_upsA (hk2 s i)]
  dsimp only
  rw [e1, e2]
 rw [hst] at hS3
 rcases hq with ⟨rfl, hlt, hi⟩ | ⟨rfl, hf⟩
 ·exact ⟨i, ⟨hi, hS3, hl3, hD3⟩, hlt⟩
 ·exact ⟨rfl, i, hf, hS3, hl3, hD3⟩
end
def dput (ds : List Deferred) (a : Act) : Act := { a with defers := a.defers ++ ds }
theorem dput_put {ds : List Deferred} {a : Act} {d : Option Tmp} {v : Value} : (dput ds a).put d v = dput ds (a.put d v) := by cases d <;> rfl
theorem dput_eval {ds : List Deferred} {a : Act} : (dput ds a).eval = a.eval := by funext x; cases x <;> rfl
section
variable {P : Program} {d : Nat} {ops : Array Oper} {ds : List Deferred} {Q : Exit → Act → World → Prop}
def QD (ds : List Deferred) (Q : Exit → Act → World → Prop) : Exit → Act → World → Prop := fun e a w => ∃ a0, a = dput ds a0 ∧ Q e a0 w
def KD (ds : List Deferred) (K : Act → World → Prop) : Act → World → Prop := fun a w => ∃ a0, a = dput ds a0 ∧ K a0 w
theorem opD_of {o : Oper} {a : Act} {w : World} {K : Act → World → Prop} (hL : ¬ LetsOut Q) (h : o.wp P a w K Q) : o.wp P (dput ds a) w (KD ds K) (QD ds Q) := by
 unfold Oper.wp at h ⊢
 rw [dput_eval]
 generalize (execOp a.eval o).run P w = r at h ⊢
 cases r with
 | ok nx w' =>
  cases nx with
  | value v => exact ⟨_, dput_put, h⟩
  | skip => exact ⟨_, dput_put, h⟩
  | defer x => exact ⟨({ a with defers := x :: a.defers } : Act).put o.dst undef, by rw [← dput_put]; rfl, h⟩
  | enter f args =>
   refine Calls.mono h fun e w'' he => ?_
   cases e with
   | returned v => exact ⟨_, dput_put, he⟩
   | panicked c => exact ⟨_, rfl, he⟩
   | outgrown => exact absurd he hL
  | row row args => exact Rows.mono h fun v w'' he => ⟨_, dput_put, he⟩
  | _ => exact h.elim
 | halt x w' =>
  cases x <;> first | exact ⟨_, rfl, h⟩ | exact h.elim
theorem listD_of (hL : ¬ LetsOut Q) : ∀ {os : List Oper} {a : Act} {w : World}, wpList P ops Q os a w → wpList P ops (QD ds Q) os (dput ds a) w
 | [], a, w, h => ⟨a, rfl, h⟩
 | o :: os, a, w, h => by
  unfold wpList at h
  unfold wpList
  split at h
  ·rename_i hw
   rw [if_pos (show Region.wanted o (yielded ops (dput ds a).tmps) = true from hw)]
   rcases h with h | h
   ·exact .inl (Oper.wp_mono (fun a' w' ⟨a0, ha, h'⟩ => by subst ha; exact listD_of hL h') (opD_of hL h))
   ·exact absurd h.2 hL
  ·rename_i hw
   rw [if_neg (show ¬ Region.wanted o (yielded ops (dput ds a).tmps) = true from hw), dput_put]
   exact listD_of hL h
theorem wpOpD_of (hL : ¬ LetsOut Q) {i : Nat} {a : Act} {w : World} {K K' : Act → World → Prop} (hK : ∀ a w, K a w → K' (dput ds a) w) (h : wpOp P ops Q i K a w) : wpOp P ops (QD ds Q) i K' (dput ds a) w := by
 unfold wpOp at h ⊢
 cases ho : ops[i]? with
 | none => rw [ho] at h; exact hK _ _ h
 | some o =>
  rw [ho] at h
  dsimp only at h ⊢
  split at h
  ·rename_i hw
   rw [if_pos (show Region.wanted o (yielded ops (dput ds a).tmps) = true from hw)]
   rcases h with h | h
   ·exact .inl (Oper.wp_mono (fun a' w' ⟨a0, ha, h'⟩ => by subst ha; exact hK _ _ h') (opD_of hL h))
   ·exact absurd h.2 hL
  ·rename_i hw
   rw [if_neg (show ¬ Region.wanted o (yielded ops (dput ds a).tmps) = true from hw), dput_put]
   exact hK _ _ h
theorem anyD_of (hL : ¬ LetsOut Q) {md : Region.Mode} : ∀ (fuel : Nat) (listed : Array Bool) (a : Act) (w : World), wpAny P md ops Q fuel listed a w → wpAny P md ops (QD ds Q) fuel listed (dput ds a) w
 | 0, _, a, _, h => ⟨h.1, a, rfl, h.2⟩
 | fuel + 1, listed, a, w, h => ⟨fun hr => ⟨a, rfl, h.1 hr⟩, fun i hi => wpOpD_of hL (fun a' w' h' => anyD_of hL fuel _ a' w' h') (h.2 i hi)⟩
end
def WpD (P : Program) (n : Nat) (ds : List Deferred) (c : Code) (Q : Exit → Env → World → Prop) (E : Env) (w : World) : Prop := ∀ a, Fits n a E → c.wp P (QD ds (Up n Q)) (dput ds a) w
def AWD (P : Program) (n : Nat) (ds : List Deferred) (w0 : World) (MP : Fr) (c : Code) (Q : Exit → St → Prop) (st : St) : Prop := ∀ E w, Sim w0 MP st E w → WpD P n ds c (upQ w0 MP Q) E w
section
variable {P : Program} {n : Nat} {ds : List Deferred} {w0 : World} {MP : Fr} {Q : Exit → St → Prop} {st : St}
theorem AWD.ret (h : Q .ret st) : AWD P n ds w0 MP .ret Q st := fun E w hs a ha => wp_ret ⟨a, rfl, E, ha, st, hs, h⟩
theorem AWD.seq {x y : Code} (h : AWD P n ds w0 MP x (ATh (AWD P n ds w0 MP y Q) Q) st) : AWD P n ds w0 MP (.seq x y) Q st := fun E w hs a ha =>
 wp_seq (wp_mono (h E w hs a ha) fun e a' w' ⟨a0, ha0, E', hf, st', hs', hq⟩ => by
  subst ha0
  cases e <;> first | exact hq E' w' hs' a0 hf | exact ⟨a0, rfl, E', hf, st', hs', hq⟩)
theorem AWD.region [ANoOut Q] {id : Nat} {os : List Oper} (h : ARg P n w0 MP false os.toArray os Q st) : AWD P n ds w0 MP (.region id os.toArray false) Q st := fun E w hs a ha => by
 have h1 := h E w hs
 unfold Rg at h1
 exact wp_mono (wp_region_lit (listD_of (noOut' (R := fun _ _ => True) (lb := false) (w := w)) (h1 a ha))) fun e a' w' ⟨a0, ha0, E', hf, _, hq⟩ => ⟨a0, ha0, E', hf, hq⟩
theorem AWD.draw [ANoOut Q] {ops : Array Oper} {id : Nat} (m : Nat) (hm : P.follows .mixedOrders = true) (hst : (Region.noSelect ops && tailOk .any m ops) = true)
  (h : ARA P n w0 MP m ops ops.size (Array.replicate ops.size false) Q st) : AWD P n ds w0 MP (.region id ops true) Q st := fun E w ⟨C, Im, hs⟩ a ha => by
 have h1 := h E w.drew ⟨C, Im, hs.later (Later.refl w).drew⟩
 unfold RgA at h1
 exact wp_region_any hm (anyD_of noOut _ _ _ _ (wpAny_of_later _ _ _ _ (h1 hst Closed.start a ha)))
end
section
variable {P : Program} {n : Nat} {E : Env} {w : World}
def recL (fn : FuncId) (a : Act) (ps : Array Tmp) (assign body : Code) (D : Nat) : Loop := { state := .ready, pending := none, fn, tmps := a.tmps, params := ps, assign, body, defers := D }
def markL (D : Nat) : Deferred := { target := .collected D, args := #[] }
theorem wp_rangeF {g : Operand} {ps : Array Tmp} {assign body : Code} {gf : FuncId} {lb : List Value} {a : Act} {R : World → Prop} [hf : IsFn P gf] (ha : Fits n a E) (hg : ev E g = .func (.func gf) #[] lb.toArray)
    (hit : ∀ fn, Run P gf (.func (.yield (w.heap.size + 1)) #[] #[] :: lb) ((w.alloc (.deferred (some []))).alloc (.loop (recL fn a ps assign body w.heap.size))) (fun _ W' => W'.heap[w.heap.size + 1]? = some (.loop (recL fn a ps assign body w.heap.size)) ∧ R (W'.putObj (w.heap.size + 1) (.loop { recL fn a ps assign body w.heap.size with state := .exhausted })))) :
    (Code.rangeFunc g ps assign body).wp P (fun e a' w' => e = .normal ∧ a' = dput [markL w.heap.size] a ∧ R w') a w := by
  refine (wpIn_wide (n := 1)).1 ?_
  refine wpIn_rangeFunc fun fn _ => ?_
  obtain ⟨fx, h1, h2, h3⟩ := hf.h
  have hn' : ¬ fx.name = "runtime.NumGoroutine" := by simpa using h2
  have hb' : ¬ fx.body = none := fun h => by rw [h] at h3; cases h3
  refine ⟨w.heap.size + 1, [markL w.heap.size], (w.alloc (.deferred (some []))).alloc (.loop (recL fn a ps assign body w.heap.size)), { target := .fn (.func gf) lb.toArray, args := #[.func (.yield (w.heap.size + 1)) #[] #[]] }, (w.alloc (.deferred (some []))).alloc (.loop (recL fn a ps assign body w.heap.size)), gf, (.func (.yield (w.heap.size + 1)) #[] #[] :: lb).toArray, (w.alloc (.deferred (some []))).alloc (.loop (recL fn a ps assign body w.heap.size)), run_enterLoop_outer _ _ _ _ _, ?_, fun _ _ => trivial, ?_, fun x => (by cases x), ?_⟩
  · rw [ha.eval]
    have e : ev E (.const (.func (.yield (w.heap.size + 1)) #[] #[])) = .func (.yield (w.heap.size + 1)) #[] #[] := rfl
    simp [resolve, hg, Deferred.ofValue, e]
  · simp [invoke, callFunc, h1, hn', hb']
  · refine callsIn_wide.2 (Calls.mono (Run.calls (hit fn)) ?_)
    rintro e W' ⟨v, rfl, hl, hR⟩
    refine ⟨none, _, run_endLoop hl (by simp [recL]), rfl, ?_, hR⟩
    unfold dput
    rw [ha.defers]
    rfl
theorem Run.goM {f : FuncId} {fn : Func} {c : Code} {args : List Value} {R : Value → World → Prop} (hf : P.funcs[f]? = some fn) (hn : fn.ntmps = n) (hb : fn.body = some c) (hal : Nat.ble args.length n = true)
  (h : ∀ a, Fits n a (fr args) → c.wp P (fun e a' w' => e = .ret ∧ ∃ D a0, a' = dput [markL D] a0 ∧ a0.defers = [] ∧ w'.heap[D]? = some (.deferred (some [])) ∧
   ∃ v, (results fn a0.tmps).run P (w'.putObj D (.deferred none)) = .ok v (w'.putObj D (.deferred none)) ∧ R v (w'.putObj D (.deferred none))) a w) : Run P f args w R := by
 unfold Run
 refine callsIn_wide.1 (callsIn_of_wp_marks (n := 1) hf hb trivial ?_ rfl)
 refine wpIn_wide.2 (wp_mono (h _ ?_) ?_)
 ·subst hn
  have ha := Nat.le_of_ble_eq_true hal
  refine ⟨by simp; omega, rfl, fun t => ?_⟩
  simp only [fr, Array.getD_eq_getD_getElem?, List.getD_eq_getElem?_getD, Array.getElem?_append, List.size_toArray, List.getElem?_toArray]
  by_cases h1 : t < args.length
  ·rw [if_pos h1]
  ·have h2 : args[t]? = none := by rw [List.getElem?_eq_none_iff]; omega
   rw [if_neg h1, h2]
   simp only [Array.getElem?_replicate]
   split <;> rfl
 ·rintro e a' w' ⟨rfl, D, a0, rfl, hd, hD, v, hv, hR⟩
  show LeavesInM _ _ _ _ _ _ (a0.defers ++ [markL D]) _ _
  rw [hd]
  exact ⟨by simp, .inl ⟨D, _, rfl, run_takeDeferred hD, v, hv, v, rfl, hR⟩⟩
end
end Go.Proofs.Ytoilkinagffhiaa.V
