/- Contracts: the layers of the radical. -/
import Derived.Test.YtanembgijdkagaaGreatQzUf
import Derived.Test.YtanembgijdkagaaGreatQzA81
import Derived.Test.YtanembgijdkagaaGreatQzA83
import Derived.Test.YtanembgijdkagaaGreatQzUi
import Derived.Test.YtanembgijdkagaaGreatQzA78
import Derived.Test.YtanembgijdkagaaGreatQzA74
import Derived.Test.YtanembgijdkagaaGreatQzB6
import Derived.Test.YtanembgijdkagaaGreatQzB4
import Derived.Test.YtanembgijdkagaaGreatQzB1
import Derived.Test.YtanembgijdkagaaGreatQzUd
import Derived.Test.YtanembgijdkagaaGreatQzB8
import Derived.Test.YtanembgijdkagaaGreatQzA87
import Derived.Test.YtanembgijdkagaaGreatQzB2
import Derived.Test.YtanembgijdkagaaGreatQzC1
namespace Go.Proofs.YtanembgijdkagaaGreat.V
open V.Enc (enc)
open Go.RowKit G D
set_option linter.unusedVariables false
set_option linter.unusedSimpArgs false
set_option maxHeartbeats 4000000
set_option maxRecDepth 4000
attribute [local irreducible] AW ARg ARA ARet MRet ASil AC AM ARI
theorem take_sum {d : List Int} {k : Nat} (h : k < d.length) : (d.take (k + 1)).sum = (d.take k).sum + d.getD k default := by
  have e : d.getD k default = d[k] := by simp [h]
  rw [List.take_succ_eq_append_getElem h, List.sum_append, e]
  simp
theorem take_sum_bd {d : List Int} (h : ∀ j, j < d.length → 0 ≤ d.getD j default ∧ d.getD j default ≤ 4) : ∀ k, k ≤ d.length → 0 ≤ (d.take k).sum ∧ (d.take k).sum ≤ 4 * k
  | 0, _ => by simp
  | k + 1, hk => by
    have h1 := take_sum_bd h k (by omega)
    have h2 := h k (by omega)
    rw [take_sum (by omega)]
    push_cast
    omega
theorem totalOf_a (r : Rep) (h : isRep r = true) : AC Tryz.prog 83 [.agg (enc false r)] [.i r.d.sum] := by
  refine AC.go Tryz.func83 Tryz.ntmps83 rfl rfl fun w0 hw => ?_; simp [WfL, WfA, E_length, Enc.enc, In64] at hw
  have hF := specIsRep_a r
  rw [h] at hF
  obtain ⟨r1, r2, r3, r4⟩ := isRep_spec h
  obtain ⟨c1, c2, c3, c4⟩ := areDims_spec r2
  have h5 := okQ_spec c1
  have hd : ∀ j, j < r.d.length → 0 ≤ r.d.getD j default ∧ r.d.getD j default ≤ 4 := fun j hj => allIn_spec c3 hj
  have hb := take_sum_bd hd
  repeat' first | refine s1 ?_ | (refine kR ?_; first | refine F.c (hF) ?_) | fail
  refine F.loop (σ := Nat) [3, 4, 8, 9, 10, 11, 12, 13, 14, 15, 16, 17, 18, 19, 20, 21] (fun k => [(3, .i (r.d.take k).sum), (4, .i k)]) (fun _ => []) (fun k => k ≤ r.d.length) (fun k => r.d.length - k) 0 ⟨rfl, rfl, trivial⟩ trivial (Nat.zero_le _) ?_
  rintro k k1
  have hbk := hb k k1
  by_cases hk : k < r.d.length
  · have hs := take_sum hk
    have hdk := hd k hk
    have hi : In64 ((r.d.take k).sum + r.d.getD k default) := by unfold In64; omega
    repeat' first | refine s1 ?_ | fail
    exact ⟨k + 1, F.fit ⟨iE (by rw [hs]), rfl, trivial⟩ trivial, by omega, by omega⟩
  · obtain rfl : k = r.d.length := by omega
    rw [List.take_length]
    repeat' first | refine s1 ?_ | fail
    (refine kZ ?_; exact F.ret rfl)
end Go.Proofs.YtanembgijdkagaaGreat.V
