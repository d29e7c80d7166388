/- Walks in a round of a range over a function: what is proved of regions at the wide fence serves in a round, too. -/
import Derived.RangeFuncCalls
import Derived.RangeFuncIn
import Derived.OrdersIn
import Derived.TacticsIn
import Derived.Test.YtoilkinagffhiaaUc
namespace Go.Proofs.Ytoilkinagffhiaa.V
open Go.RowKit G D
set_option linter.unusedVariables false
set_option linter.unusedSimpArgs false
set_option maxHeartbeats 4000000
set_option maxRecDepth 4000

/-- an operation that neither defers nor goes to a row of the table -/
def calm : Oper → Bool
  | ⟨_, .defer _, _, _, _, _⟩ => false
  | _ => true
theorem calm_spec {o : Oper} (h : calm o = true) : ∀ c, o.op ≠ .defer c := fun c hc => by
  obtain ⟨_, op, _, _, _, _⟩ := o
  dsimp only at hc
  subst hc
  cases h
section
variable {P : Program} {n d l : Nat} {ops : Array Oper} {Q : Exit → Act → World → Prop}
theorem rowsIn_of {row : String} {args : Array Value} {w : World} {R : Value → World → Prop} (h : Rows P row args w R) : RowsIn (Fence.wide.inRound l) d P row args w R := by
  exact fun c cs _ => let ⟨v, w', r, s⟩ := h c cs; ⟨v, w', r, stepsIn_wide.2 s⟩
theorem opIn_of {o : Oper} {a : Act} {w : World} {K : Act → World → Prop} (hc : calm o = true) (h : o.wp P a w K Q) : o.wpIn (Fence.wide.inRound l) d P a w K Q := by
  refine ⟨fun _ _ => trivial, ?_⟩
  show o.uponIn _ d P a K Q ((o.semAt (some l) a.eval).run P w)
  rw [Oper.semAt_some l _ o (calm_spec hc)]
  unfold Oper.wp at h
  generalize (execOp a.eval o).run P w = r at h ⊢
  cases r with
  | ok nx w' =>
    cases nx with
    | value v => exact h
    | skip => exact h
    | defer x => exact h
    | enter f args => exact ⟨fun x => (by cases x), CallsIn.inRound l (callsIn_wide.2 h)⟩
    | row row args => exact ⟨fun x => (by cases x), rowsIn_of h⟩
    | _ => exact h.elim
  | halt x w' =>
    cases x <;> first | exact h | exact h.elim
theorem listIn_of (hL : ¬ LetsOut Q) : ∀ {os : List Oper} {a : Act} {w : World}, os.all calm = true → wpList P ops Q os a w → wpListIn (Fence.wide.inRound l) d P ops Q os a w
  | [], a, w, _, h => h
  | o :: os, a, w, hc, h => by
    simp only [List.all_cons, Bool.and_eq_true] at hc
    unfold wpList at h
    unfold wpListIn
    split at h
    · rename_i hw
      rw [if_pos hw]
      rcases h with h | h
      · exact Oper.wpIn_mono (fun a' w' h' => listIn_of hL hc.2 h') (opIn_of hc.1 h)
      · exact absurd h.2 hL
    · rename_i hw
      rw [if_neg hw]
      exact ⟨fun _ _ => trivial, listIn_of hL hc.2 h⟩
theorem wpOpIn_of (hL : ¬ LetsOut Q) (hc : ops.toList.all calm = true) {i : Nat} {a : Act} {w : World} {K K' : Act → World → Prop} (hK : ∀ a w, K a w → K' a w) (h : wpOp P ops Q i K a w) : wpOpIn (Fence.wide.inRound l) d P ops Q i K' a w := by
  unfold wpOp at h
  unfold wpOpIn
  cases ho : ops[i]? with
  | none => rw [ho] at h; exact hK _ _ h
  | some o =>
    rw [ho] at h
    dsimp only at h ⊢
    split at h
    · rename_i hw
      rw [if_pos hw]
      rcases h with h | h
      · have hm : o ∈ ops.toList := by
          obtain ⟨hi, he⟩ := Array.getElem?_eq_some_iff.1 ho
          rw [← he]
          exact Array.mem_toList_iff.2 (Array.getElem_mem hi)
        exact Oper.wpIn_mono hK (opIn_of (List.all_eq_true.1 hc o hm) h)
      · exact absurd h.2 hL
    · rename_i hw
      rw [if_neg hw]
      exact ⟨fun _ _ => trivial, hK _ _ h⟩
theorem anyIn_of (hL : ¬ LetsOut Q) (hc : ops.toList.all calm = true) {md : Region.Mode} : ∀ (fuel : Nat) (listed : Array Bool) (a : Act) (w : World), wpAny P md ops Q fuel listed a w → wpAnyIn (Fence.wide.inRound l) d P md ops Q fuel listed a w
  | 0, _, _, _, h => h
  | fuel + 1, listed, a, w, h => ⟨h.1, fun i hi => wpOpIn_of hL hc (fun a' w' h' => anyIn_of hL hc fuel _ a' w' h') (h.2 i hi)⟩
end

/-- a walk in round l, at every depth -/
def WpR (P : Program) (n l : Nat) (c : Code) (Q : Exit → Env → World → Prop) (E : Env) (w : World) : Prop :=
  ∀ d a, Fits n a E → c.wpIn (Fence.wide.inRound l) d P (Up n Q) a w
def AWR (P : Program) (n l : Nat) (w0 : World) (MP : Fr) (c : Code) (Q : Exit → St → Prop) (st : St) : Prop := ∀ E w, Sim w0 MP st E w → WpR P n l c (upQ w0 MP Q) E w
/-- nothing of Q speaks of a machine that has outgrown its bounds -/
class ANoOut (Q : Exit → St → Prop) : Prop where
  h : ∀ st, ¬ Q .outgrown st
instance (K : St → Prop) (Q : Exit → St → Prop) [hQ : ANoOut Q] : ANoOut (ATh K Q) := ⟨fun st h => hQ.h st h⟩
instance (id : Nat) (Q : Exit → St → Prop) [hQ : ANoOut Q] : ANoOut (ABk id Q) := ⟨fun st h => hQ.h st h⟩
section
variable {P : Program} {n l : Nat} {w0 : World} {MP : Fr} {Q : Exit → St → Prop} {st : St}
theorem noOut [hQ : ANoOut Q] : ¬ LetsOut (Up n (upQ w0 MP Q)) := fun ⟨_, _, _, _, st, _, h⟩ => hQ.h st h
theorem noOut' [hQ : ANoOut Q] {R : World → World → Prop} {lb : Bool} {w : World} : ¬ LetsOut (Up n (fun e E' w' => (lb = true → Later w w') ∧ upQ w0 MP Q e E' w')) := fun ⟨_, _, _, _, _, st, _, h⟩ => hQ.h st h
theorem AWR.skip (h : Q .normal st) : AWR P n l w0 MP .skip Q st := fun E w hs d a ha => wpIn_skip ⟨E, ha, st, hs, h⟩
theorem AWR.ret (h : Q .ret st) : AWR P n l w0 MP .ret Q st := fun E w hs d a ha => wpIn_ret ⟨E, ha, st, hs, h⟩
theorem AWR.exit {id : Nat} (h : Q (.exit id) st) : AWR P n l w0 MP (.exit id) Q st := fun E w hs d a ha => wpIn_exit ⟨E, ha, st, hs, h⟩
theorem AWR.seq {x y : Code} (h : AWR P n l w0 MP x (ATh (AWR P n l w0 MP y Q) Q) st) : AWR P n l w0 MP (.seq x y) Q st := fun E w hs d a ha =>
  wpIn_seq (wpIn_mono (h E w hs d a ha) fun e a' w' ⟨E', hf, st', hs', hq⟩ => by
    cases e <;> first | exact hq E' w' hs' d a' hf | exact ⟨E', hf, st', hs', hq⟩)
theorem AWR.block {id : Nat} {c : Code} (h : AWR P n l w0 MP c (ABk id Q) st) : AWR P n l w0 MP (.block id c) Q st := fun E w hs d a ha =>
  wpIn_block (wpIn_mono (h E w hs d a ha) fun e a' w' ⟨E', hf, st', hs', hq⟩ => by
    cases e with
    | exit id' =>
      simp only [Exit.inBlock]
      by_cases hid : id' = id
      · subst hid
        simp only [ABk, Nat.beq_refl, cond_true] at hq
        simp only [if_true]
        exact ⟨E', hf, st', hs', hq⟩
      · have hb : Nat.beq id' id = false := by rw [← Bool.not_eq_true]; intro hb; exact hid (Nat.eq_of_beq_eq_true hb)
        simp only [ABk, hb, cond_false] at hq
        simp only [hid, if_false]
        exact ⟨E', hf, st', hs', hq⟩
    | _ => exact ⟨E', hf, st', hs', hq⟩)
theorem AWR.cond {c : Operand} {x y : Code} {b : Bool} (hc : evA st c = .b b) (ht : b = true → AWR P n l w0 MP x Q st) (hf : b = false → AWR P n l w0 MP y Q st) : AWR P n l w0 MP (.cond c x y) Q st := fun E w hs d a ha => by
  have hs0 := hs
  obtain ⟨C, Im, hm⟩ := hs
  have h1 := hm.ev c
  rw [hc] at h1
  have hc' : a.eval c = .bool b := by rw [ha.eval]; exact h1
  exact wpIn_cond_split hc' (fun h => ht h E w hs0 d a ha) (fun h => hf h E w hs0 d a ha)
theorem AWR.region [ANoOut Q] {id : Nat} {os : List Oper} (hc : os.all calm = true) (h : ARg P n w0 MP false os.toArray os Q st) : AWR P n l w0 MP (.region id os.toArray false) Q st := fun E w hs d a ha => by
  have h1 := h E w hs
  unfold Rg at h1
  exact wpIn_mono (wpIn_region_lit (listIn_of (noOut' (R := fun _ _ => True) (lb := false) (w := w)) hc (h1 a ha))) fun e a' w' ⟨E', hf, _, hq⟩ => ⟨E', hf, hq⟩
theorem AWR.draw [ANoOut Q] {ops : Array Oper} {id : Nat} (m : Nat) (hm : P.follows .mixedOrders = true) (hst : (Region.noSelect ops && tailOk .any m ops) = true) (hc : ops.toList.all calm = true)
    (h : ARA P n w0 MP m ops ops.size (Array.replicate ops.size false) Q st) : AWR P n l w0 MP (.region id ops true) Q st := fun E w ⟨C, Im, hs⟩ d a ha => by
  have h1 := h E w.drew ⟨C, Im, hs.later (Later.refl w).drew⟩
  unfold RgA at h1
  exact wpIn_region_any hm (anyIn_of noOut hc _ _ _ _ (wpAny_of_later _ _ _ _ (h1 hst Closed.start a ha)))
end
end Go.Proofs.Ytoilkinagffhiaa.V
