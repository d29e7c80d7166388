/- The statement 'for .. := range g' in an ordinary frame. -/
import Derived.RangeFuncLeaves
import Derived.Test.YtoilkinagffhiaaA150
namespace Go.Proofs.Ytoilkinagffhiaa.V
open Go.RowKit G D
set_option linter.unusedVariables false
set_option linter.unusedSimpArgs false
set_option maxHeartbeats 4000000
set_option maxRecDepth 4000

section
variable {P : Program} {n : Nat} {E : Env} {w : World}
/-- the record of a loop at an outermost range over a function -/
def recL (fn : FuncId) (a : Act) (ps : Array Tmp) (assign body : Code) (D : Nat) : Loop := { state := .ready, pending := none, fn, tmps := a.tmps, params := ps, assign, body, defers := D }
def markL (D : Nat) : Deferred := { target := .collected D, args := #[] }
theorem wp_rangeF {g : Operand} {ps : Array Tmp} {assign body : Code} {gf : FuncId} {lb : List Value} {a : Act} {R : World → Prop} [hf : IsFn P gf] (ha : Fits n a E) (hg : ev E g = .func (.func gf) #[] lb.toArray)
    (hit : ∀ fn, Run P gf (.func (.yield (w.heap.size + 1)) #[] #[] :: lb) ((w.alloc (.deferred (some []))).alloc (.loop (recL fn a ps assign body w.heap.size))) (fun _ W' => W'.heap[w.heap.size + 1]? = some (.loop (recL fn a ps assign body w.heap.size)) ∧ R (W'.putObj (w.heap.size + 1) (.loop { recL fn a ps assign body w.heap.size with state := .exhausted })))) :
    (Code.rangeFunc g ps assign body).wp P (fun e a' w' => e = .normal ∧ a' = dput [markL w.heap.size] a ∧ R w') a w := by
  refine (wpIn_wide (n := 1)).1 ?_
  refine wpIn_rangeFunc fun fn _ => ?_
  obtain ⟨fx, h1, h2, h3⟩ := hf.h
  have hn' : ¬ fx.name = "runtime.NumGoroutine" := by simpa using h2
  have hb' : ¬ fx.body = none := fun h => by rw [h] at h3; cases h3
  refine ⟨w.heap.size + 1, [markL w.heap.size], (w.alloc (.deferred (some []))).alloc (.loop (recL fn a ps assign body w.heap.size)), { target := .fn (.func gf) lb.toArray, args := #[.func (.yield (w.heap.size + 1)) #[] #[]] }, (w.alloc (.deferred (some []))).alloc (.loop (recL fn a ps assign body w.heap.size)), gf, (.func (.yield (w.heap.size + 1)) #[] #[] :: lb).toArray, (w.alloc (.deferred (some []))).alloc (.loop (recL fn a ps assign body w.heap.size)), run_enterLoop_outer _ _ _ _ _, ?_, fun _ _ => trivial, ?_, fun x => (by cases x), ?_⟩
  · rw [ha.eval]
    have e : ev E (.const (.func (.yield (w.heap.size + 1)) #[] #[])) = .func (.yield (w.heap.size + 1)) #[] #[] := rfl
    simp [resolve, hg, Deferred.ofValue, e]
  · simp [invoke, callFunc, h1, hn', hb']
  · refine callsIn_wide.2 (Calls.mono (Run.calls (hit fn)) ?_)
    rintro e W' ⟨v, rfl, hl, hR⟩
    refine ⟨none, _, run_endLoop hl (by simp [recL]), rfl, ?_, hR⟩
    unfold dput
    rw [ha.defers]
    rfl
/-- a function whose body holds one range over a function -/
theorem Run.goM {f : FuncId} {fn : Func} {c : Code} {args : List Value} {R : Value → World → Prop} (hf : P.funcs[f]? = some fn) (hn : fn.ntmps = n) (hb : fn.body = some c) (hal : Nat.ble args.length n = true)
    (h : ∀ a, Fits n a (fr args) → c.wp P (fun e a' w' => e = .ret ∧ ∃ D a0, a' = dput [markL D] a0 ∧ a0.defers = [] ∧ w'.heap[D]? = some (.deferred (some [])) ∧
      ∃ v, (results fn a0.tmps).run P (w'.putObj D (.deferred none)) = .ok v (w'.putObj D (.deferred none)) ∧ R v (w'.putObj D (.deferred none))) a w) : Run P f args w R := by
  unfold Run
  refine callsIn_wide.1 (callsIn_of_wp_marks (n := 1) hf hb trivial ?_ rfl)
  refine wpIn_wide.2 (wp_mono (h _ ?_) ?_)
  · subst hn
    have ha := Nat.le_of_ble_eq_true hal
    refine ⟨by simp; omega, rfl, fun t => ?_⟩
    simp only [fr, Array.getD_eq_getD_getElem?, List.getD_eq_getElem?_getD, Array.getElem?_append, List.size_toArray, List.getElem?_toArray]
    by_cases h1 : t < args.length
    · rw [if_pos h1]
    · have h2 : args[t]? = none := by rw [List.getElem?_eq_none_iff]; omega
      rw [if_neg h1, h2]
      simp only [Array.getElem?_replicate]
      split <;> rfl
  · rintro e a' w' ⟨rfl, D, a0, rfl, hd, hD, v, hv, hR⟩
    show LeavesInM _ _ _ _ _ _ (a0.defers ++ [markL D]) _ _
    rw [hd]
    exact ⟨by simp, .inl ⟨D, _, rfl, run_takeDeferred hD, v, hv, v, rfl, hR⟩⟩
end
end Go.Proofs.Ytoilkinagffhiaa.V
