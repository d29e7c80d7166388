/- One round of a range over a function; the call of yield. -/
import Derived.RangeFuncRecord
import Derived.Test.YtoilkinagffhiaaA146
namespace Go.Proofs.Ytoilkinagffhiaa.V
open Go.RowKit G D
set_option linter.unusedVariables false
set_option linter.unusedSimpArgs false
set_option maxHeartbeats 4000000
set_option maxRecDepth 4000

section
variable {P : Program} {n l : Nat} {Ec : Env} {w : World}
/-- a round of a loop with one variable whose body goes on -/
theorem round_of {m : Nat} {r : Loop} {a : Act} {p : Tmp} {v : Value} {R : World → Prop} (hl : w.heap[l]? = some (.loop r)) (hr : r.state = .ready) (hpe : r.pending = none) (ht : r.tmps = a.tmps) (hf : Fits n a Ec) (hp : p < n)
    (h : WpR P n l r.assign (fun e E1 W1 => e = .normal ∧ W1.heap[l]? = some (.loop r) ∧
      WpR P n l r.body (fun e _ W3 => e = .normal ∧ W3.heap[l]? = some (.loop { r with state := .busy }) ∧ R (W3.putObj l (.loop r))) E1 (W1.putObj l (.loop { r with state := .busy }))) (upd Ec p v) w) :
    RoundIn Fence.wide m P l r.fn ((#[p].zip #[v]).foldl (fun tmps (t, a) => tmps.setIfInBounds t a) r.tmps) r.assign r.body w (fun e W' => e = .returned (.bool true) ∧ R W') := by
  refine roundIn_of_wpIn trivial ?_
  have hf1 : Fits n { tmps := (#[p].zip #[v]).foldl (fun tmps (t, a) => tmps.setIfInBounds t a) r.tmps, defers := [] } (upd Ec p v) := by
    have := hf.put hp v
    refine ⟨?_, rfl, ?_⟩
    · have h1 := this.size
      simp only [Act.put] at h1
      rw [ht]
      simpa using h1
    · intro t
      have h1 := this.get t
      simp only [Act.put] at h1
      rw [ht]
      simpa using h1
  refine wpIn_mono (h m _ hf1) ?_
  rintro e a1 w1 ⟨E1, hf2, rfl, hl1, hb⟩
  refine ⟨_, run_beginRound hl1 hr, ?_⟩
  refine wpIn_mono (hb m a1 hf2) ?_
  rintro e a2 w2 ⟨E2, hf3, rfl, hl2, hR⟩
  have he := run_endRound (P := P) none hl2
  refine ⟨_, _, he, rfl, ?_⟩
  have : ({ ({ r with state := .busy } : Loop) with state := .ready, pending := none } : Loop) = r := by
    cases r
    dsimp only at hr hpe
    subst hr hpe
    rfl
  rw [show (if (none : Option Code).isNone = true then LoopState.ready else LoopState.done) = LoopState.ready from rfl, this]
  exact hR
/-- the call of yield, in its region -/
theorem Wp.yield {Q : Exit → Env → World → Prop} {E : Env} {id d1 d2 d3 s1 s2 : Nat} {r : Loop} {p : Tmp} {ats : Array TypeId} {t1 t2 t3 : TypeId} {p1 p2 p3 : String} {f1 f2 f3 : Array Edge} {K : Value → World → Prop}
    (hx : E s1 = .func (.yield l) #[] #[]) (hl : w.heap[l]? = some (.loop r)) (hps : r.params = #[p]) (h1 : d1 < n) (h2 : d2 < n) (h3 : d3 < n) (h12 : d1 ≠ d2) (hs : s2 ≠ d1)
    (hR : RoundIn Fence.wide 0 P l r.fn ((#[p].zip #[E s2]).foldl (fun tmps (t, a) => tmps.setIfInBounds t a) r.tmps) r.assign r.body w (fun e W' => ∃ b, e = .returned b ∧ K b W'))
    (h : ∀ b W', K b W' → Q .normal (upd (upd (upd E d1 (E s1)) d2 (E s2)) d3 b) W') :
    Wp P n (.region id #[⟨some d1, .move (.tmp s1), t1, p1, f1, none⟩, ⟨some d2, .move (.tmp s2), t2, p2, f2, none⟩, ⟨some d3, .call ⟨.value (.tmp d1), #[.tmp d2], ats⟩, t3, p3, f3, none⟩] false) Q E w := by
  unfold Wp
  intro a ha
  refine (wpIn_wide (n := 1)).1 ?_
  refine wpIn_region_lit ?_
  refine wpListIn_plain rfl fun K1 hK1 => ?_
  refine ⟨fun _ _ => trivial, ?_⟩
  rw [Fence.wide_round, Oper.semAt_none]
  rw [ha.eval]
  simp only [execOp, ev]
  refine hK1 _ _ ?_
  have ha1 := ha.put h1 (E s1)
  refine wpListIn_plain rfl fun K2 hK2 => ?_
  refine ⟨fun _ _ => trivial, ?_⟩
  rw [Fence.wide_round, Oper.semAt_none]
  rw [ha1.eval]
  simp only [execOp, ev]
  rw [upd_ne _ _ hs]
  refine hK2 _ _ ?_
  have ha2 := ha1.put h2 (E s2)
  refine wpListIn_plain rfl fun K3 hK3 => ?_
  refine ⟨fun _ _ => trivial, ?_⟩
  rw [Fence.wide_round, Oper.semAt_none]
  rw [ha2.eval]
  have hy := run_yield (P := P) (args := #[E s2]) hl (by rw [hps]; rfl)
  rw [hps] at hy
  have hrun : (execOp (ev (upd (upd E d1 (E s1)) d2 (E s2))) ⟨some d3, .call ⟨.value (.tmp d1), #[.tmp d2], ats⟩, t3, p3, f3, none⟩).run P w = .ok (.round l r.fn ((#[p].zip #[E s2]).foldl (fun tmps (t, a) => tmps.setIfInBounds t a) r.tmps) r.assign r.body) w := by
    simp only [execOp, resolve, ev, upd_same, upd_ne _ _ h12, hx]
    simp [Deferred.ofValue, invoke]
    rw [show ev (upd (upd E d1 (Value.func (Fn.yield l) #[] #[])) d2 (E s2)) (Operand.tmp d2) = E s2 from upd_same _ _ _]
    simpa using hy
  rw [hrun]
  refine ⟨fun x => (by cases x), hR.mono ?_⟩
  rintro e W' ⟨b, rfl, hb⟩
  exact hK3 _ _ ⟨_, ha2.put h3 b, h b W' hb⟩
end
end Go.Proofs.Ytoilkinagffhiaa.V
