/- Walks of an activation that bears deferred calls (behind a range over a function). -/
import Derived.Test.YtoilkinagffhiaaA149
namespace Go.Proofs.Ytoilkinagffhiaa.V
open Go.RowKit G D
set_option linter.unusedVariables false
set_option linter.unusedSimpArgs false
set_option maxHeartbeats 4000000
set_option maxRecDepth 4000

def dput (ds : List Deferred) (a : Act) : Act := { a with defers := a.defers ++ ds }
theorem dput_put {ds : List Deferred} {a : Act} {d : Option Tmp} {v : Value} : (dput ds a).put d v = dput ds (a.put d v) := by cases d <;> rfl
theorem dput_eval {ds : List Deferred} {a : Act} : (dput ds a).eval = a.eval := by funext x; cases x <;> rfl
section
variable {P : Program} {d : Nat} {ops : Array Oper} {ds : List Deferred} {Q : Exit → Act → World → Prop}
def QD (ds : List Deferred) (Q : Exit → Act → World → Prop) : Exit → Act → World → Prop := fun e a w => ∃ a0, a = dput ds a0 ∧ Q e a0 w
def KD (ds : List Deferred) (K : Act → World → Prop) : Act → World → Prop := fun a w => ∃ a0, a = dput ds a0 ∧ K a0 w
/-- no operation looks at an activation's deferred calls -/
theorem opD_of {o : Oper} {a : Act} {w : World} {K : Act → World → Prop} (hL : ¬ LetsOut Q) (h : o.wp P a w K Q) : o.wp P (dput ds a) w (KD ds K) (QD ds Q) := by
  unfold Oper.wp at h ⊢
  rw [dput_eval]
  generalize (execOp a.eval o).run P w = r at h ⊢
  cases r with
  | ok nx w' =>
    cases nx with
    | value v => exact ⟨_, dput_put, h⟩
    | skip => exact ⟨_, dput_put, h⟩
    | defer x => exact ⟨({ a with defers := x :: a.defers } : Act).put o.dst undef, by rw [← dput_put]; rfl, h⟩
    | enter f args =>
      refine Calls.mono h fun e w'' he => ?_
      cases e with
      | returned v => exact ⟨_, dput_put, he⟩
      | panicked c => exact ⟨_, rfl, he⟩
      | outgrown => exact absurd he hL
    | row row args => exact Rows.mono h fun v w'' he => ⟨_, dput_put, he⟩
    | _ => exact h.elim
  | halt x w' =>
    cases x <;> first | exact ⟨_, rfl, h⟩ | exact h.elim
theorem listD_of (hL : ¬ LetsOut Q) : ∀ {os : List Oper} {a : Act} {w : World}, wpList P ops Q os a w → wpList P ops (QD ds Q) os (dput ds a) w
  | [], a, w, h => ⟨a, rfl, h⟩
  | o :: os, a, w, h => by
    unfold wpList at h
    unfold wpList
    split at h
    · rename_i hw
      rw [if_pos (show Region.wanted o (yielded ops (dput ds a).tmps) = true from hw)]
      rcases h with h | h
      · exact .inl (Oper.wp_mono (fun a' w' ⟨a0, ha, h'⟩ => by subst ha; exact listD_of hL h') (opD_of hL h))
      · exact absurd h.2 hL
    · rename_i hw
      rw [if_neg (show ¬ Region.wanted o (yielded ops (dput ds a).tmps) = true from hw), dput_put]
      exact listD_of hL h
theorem wpOpD_of (hL : ¬ LetsOut Q) {i : Nat} {a : Act} {w : World} {K K' : Act → World → Prop} (hK : ∀ a w, K a w → K' (dput ds a) w) (h : wpOp P ops Q i K a w) : wpOp P ops (QD ds Q) i K' (dput ds a) w := by
  unfold wpOp at h ⊢
  cases ho : ops[i]? with
  | none => rw [ho] at h; exact hK _ _ h
  | some o =>
    rw [ho] at h
    dsimp only at h ⊢
    split at h
    · rename_i hw
      rw [if_pos (show Region.wanted o (yielded ops (dput ds a).tmps) = true from hw)]
      rcases h with h | h
      · exact .inl (Oper.wp_mono (fun a' w' ⟨a0, ha, h'⟩ => by subst ha; exact hK _ _ h') (opD_of hL h))
      · exact absurd h.2 hL
    · rename_i hw
      rw [if_neg (show ¬ Region.wanted o (yielded ops (dput ds a).tmps) = true from hw), dput_put]
      exact hK _ _ h
theorem anyD_of (hL : ¬ LetsOut Q) {md : Region.Mode} : ∀ (fuel : Nat) (listed : Array Bool) (a : Act) (w : World), wpAny P md ops Q fuel listed a w → wpAny P md ops (QD ds Q) fuel listed (dput ds a) w
  | 0, _, a, _, h => ⟨h.1, a, rfl, h.2⟩
  | fuel + 1, listed, a, w, h => ⟨fun hr => ⟨a, rfl, h.1 hr⟩, fun i hi => wpOpD_of hL (fun a' w' h' => anyD_of hL fuel _ a' w' h') (h.2 i hi)⟩
end
/-- a walk behind a range over a function -/
def WpD (P : Program) (n : Nat) (ds : List Deferred) (c : Code) (Q : Exit → Env → World → Prop) (E : Env) (w : World) : Prop := ∀ a, Fits n a E → c.wp P (QD ds (Up n Q)) (dput ds a) w
def AWD (P : Program) (n : Nat) (ds : List Deferred) (w0 : World) (MP : Fr) (c : Code) (Q : Exit → St → Prop) (st : St) : Prop := ∀ E w, Sim w0 MP st E w → WpD P n ds c (upQ w0 MP Q) E w
section
variable {P : Program} {n : Nat} {ds : List Deferred} {w0 : World} {MP : Fr} {Q : Exit → St → Prop} {st : St}
theorem AWD.ret (h : Q .ret st) : AWD P n ds w0 MP .ret Q st := fun E w hs a ha => wp_ret ⟨a, rfl, E, ha, st, hs, h⟩
theorem AWD.seq {x y : Code} (h : AWD P n ds w0 MP x (ATh (AWD P n ds w0 MP y Q) Q) st) : AWD P n ds w0 MP (.seq x y) Q st := fun E w hs a ha =>
  wp_seq (wp_mono (h E w hs a ha) fun e a' w' ⟨a0, ha0, E', hf, st', hs', hq⟩ => by
    subst ha0
    cases e <;> first | exact hq E' w' hs' a0 hf | exact ⟨a0, rfl, E', hf, st', hs', hq⟩)
theorem AWD.region [ANoOut Q] {id : Nat} {os : List Oper} (h : ARg P n w0 MP false os.toArray os Q st) : AWD P n ds w0 MP (.region id os.toArray false) Q st := fun E w hs a ha => by
  have h1 := h E w hs
  unfold Rg at h1
  exact wp_mono (wp_region_lit (listD_of (noOut' (R := fun _ _ => True) (lb := false) (w := w)) (h1 a ha))) fun e a' w' ⟨a0, ha0, E', hf, _, hq⟩ => ⟨a0, ha0, E', hf, hq⟩
theorem AWD.draw [ANoOut Q] {ops : Array Oper} {id : Nat} (m : Nat) (hm : P.follows .mixedOrders = true) (hst : (Region.noSelect ops && tailOk .any m ops) = true)
    (h : ARA P n w0 MP m ops ops.size (Array.replicate ops.size false) Q st) : AWD P n ds w0 MP (.region id ops true) Q st := fun E w ⟨C, Im, hs⟩ a ha => by
  have h1 := h E w.drew ⟨C, Im, hs.later (Later.refl w).drew⟩
  unfold RgA at h1
  exact wp_region_any hm (anyD_of noOut _ _ _ _ (wpAny_of_later _ _ _ _ (h1 hst Closed.start a ha)))
end
end Go.Proofs.Ytoilkinagffhiaa.V
