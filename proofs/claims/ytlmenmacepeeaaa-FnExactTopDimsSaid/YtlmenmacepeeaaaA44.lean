/- Contracts: rows, transposes, columns without a leading one. -/
import Derived.Test.YtlmenmacepeeaaaUq
import Derived.Test.YtlmenmacepeeaaaA36
import Derived.Test.YtlmenmacepeeaaaA38
import Derived.Test.YtlmenmacepeeaaaA18
namespace Go.Proofs.Ytlmenmacepeeaaa.V
open V.Enc (enc)
open Go.RowKit G D
set_option linter.unusedVariables false
set_option linter.unusedSimpArgs false
set_option maxHeartbeats 4000000
set_option maxRecDepth 4000
attribute [local irreducible] AW ARg ARA ARet MRet ASil AC AM

def rowsL (r c : Nat) (f : Nat → Nat → Int) : List (List Int) := (List.range r).map fun i => rowL c (f i)
theorem rowsL_len (r c : Nat) (f : Nat → Nat → Int) : (rowsL r c f).length = r := by simp [rowsL]
theorem rowsL_take {r : Nat} (c : Nat) (f : Nat → Nat → Int) {k : Nat} (h : k < r) : (rowsL r c f).take (k + 1) = (rowsL r c f).take k ++ [rowL c (f k)] := by
  simp only [rowsL, ← List.map_take, range_take h, List.map_append, List.map_cons, List.map_nil]
theorem rowsL_get {r : Nat} (c : Nat) (f : Nat → Nat → Int) {k : Nat} (h : k < r) : (rowsL r c f).getD k default = rowL c (f k) := by simp [rowsL, h]
theorem rows_a (r c : Nat) (f : Nat → Nat → Int) (hr : r ≤ 1024) (hc : c ≤ 1024) : AC Try.prog 136 [.agg (enc false (tm r c f))] [.dt true 1 (E true (rowsL r c f))] := by
  refine AC.go Try.func136 Try.ntmps136 rfl rfl fun w0 hw => ?_; simp [WfL, WfA, E_length, Enc.enc, In64] at hw
  repeat' first | refine s1 ?_ | refine q1 ?_ | fail
  refine AW.open 3 1 (.inl rfl) ?_
  refine F.loop (σ := Nat) [3, 4, 7, 8, 9, 10, 11, 12, 13, 14, 15, 16, 17] (fun k => [(3, .sl 1 k 0 k), (7, .i k)]) (fun k => [(1, .live false 1 (E true ((rowsL r c f).take k)))]) (fun k => k ≤ r) (fun k => r - k) 0 ⟨rfl, rfl, trivial⟩ ⟨rfl, trivial⟩ (Nat.zero_le _) ?_
  rintro k k1
  have hll := rowsL_len r c f
  have hp : ((rowsL r c f).take k).length = k := by rw [List.length_take]; omega
  by_cases hk : k < r
  · have hR := row_w r c k f hk hr hc
    have hC := clone_a (rowL c (f k)) (by simp; omega)
    have hts := rowsL_take c f hk
    have hrl := rowL_len c (f k)
    generalize rowL c (f k) = X at hR hC hts hrl
    repeat' first | refine s1 ?_ | refine q1 ?_ | (refine kR ?_; first | refine F.w (hR) ?_ | refine F.c (hC) ?_ | refine F.a1 (List Int) (a := X) ?_) | fail
    exact ⟨k + 1, F.fit ⟨rfl, rfl, trivial⟩ ⟨obE (by rw [hts]), trivial⟩, by omega, by omega⟩
  · obtain rfl : k = r := by omega
    have e : (rowsL k c f).take k = rowsL k c f := List.take_of_length_le (by omega)
    rw [e]
    clear hp e
    generalize rowsL k c f = X at hll ⊢
    repeat' first | refine s1 ?_ | refine q1 ?_ | fail
    (refine kZ ?_; exact F.ret rfl)
theorem rows_fc (r c : Nat) (f : Nat → Nat → Int) : tm c (rowsL r c f).length (fcF (rowsL r c f)) = tm c r fun i j => f j i := by
  unfold tm
  rw [rowsL_len]
  congr 1
  apply tab_ext
  intro i hi j hj
  unfold fcF
  rw [rowsL_get c f hj, rowL_get _ hi]
theorem l3Transpose_a (r c : Nat) (f : Nat → Nat → Int) (hr : r ≤ 1024) (hc : c ≤ 1024) : AC Try.prog 131 [.agg (enc false (tm r c f))] [.agg (enc true (tm c r fun i j => f j i))] := by
  refine AC.go Try.func131 Try.ntmps131 rfl rfl fun w0 hw => ?_; simp [WfL, WfA, E_length, Enc.enc, In64] at hw
  have hZ := l3ZeroT_a c r hc hr
  have hg := fun k (hk : k < r) => rowsL_get c f hk
  rw [← rows_fc]
  have hll := rowsL_len r c f
  generalize hRL : rowsL r c f = RL at hg hll ⊢
  repeat' first | refine s1 ?_ | refine q1 ?_ | (refine kR ?_; first | refine F.c (hZ) ?_) | fail
  refine F.loop (σ := Nat) [4, 5, 11, 12, 13, 14, 15, 16, 17, 18, 19, 20, 21, 22, 23, 24, 25, 26, 27, 28, 29, 30, 31, 32, 33, 34, 35, 36, 37, 38, 39, 40, 41] (fun i => [(4, .i i)]) (fun i => [(2, .live false 1 (E true (tab c r (fcK RL i 0))))]) (fun i => i ≤ r) (fun i => r - i) 0 ⟨rfl, trivial⟩ ⟨obE (by rw [fcK_zero]), trivial⟩ (Nat.zero_le _) ?_
  rintro i i1
  by_cases hi : i < r
  · repeat' first | refine s1 ?_ | refine q1 ?_ | fail
    refine F.loop (σ := Nat) [5, 17, 18, 19, 20, 21, 22, 23, 24, 25, 26, 27, 28, 29, 30, 31, 32, 33, 34, 35, 36, 37, 38, 39, 40, 41] (fun k => [(5, .i k)]) (fun k => [(2, .live false 1 (E true (tab c r (fcK RL i k))))]) (fun k => k ≤ c) (fun k => c - k) 0 ⟨rfl, trivial⟩ ⟨rfl, trivial⟩ (Nat.zero_le _) ?_
    rintro k k1
    by_cases hk : k < c
    · obtain ⟨t1, t2⟩ := tab_in (i := i) (j := k) (r := r) (c := c) hi hk hr hc
      obtain ⟨t3, t4⟩ := tab_in (i := k) (j := i) (r := c) (c := r) hk hi hc hr
      have hv : f i k = (RL.getD i default).getD k default := by rw [hg i hi, rowL_get _ hk]
      repeat' first | refine s1 ?_ | refine q1 ?_ | fail
      refine AW.draw 19 G.mixed (by kernel_rfl) ?_
      refine dP 0 ?_
      first | refine dL 1 ?_ | refine dLQ 1 ?_
      refine dP 2 ?_
      refine dP 3 ?_
      first | refine dL 4 ?_ | refine dLQ 4 ?_
      refine dP 5 ?_
      refine dP 6 ?_
      refine dP 7 ?_
      refine dP 8 ?_
      first | refine dL 9 ?_ | refine dLQ 9 ?_
      refine dP 10 ?_
      refine dP 11 ?_
      first | refine dL 12 ?_ | refine dLQ 12 ?_
      refine dP 13 ?_
      refine dP 14 ?_
      refine dP 15 ?_
      first | refine dP 16 ?_ | refine dQ 16 ?_
      first | refine dL 17 ?_ | refine dLQ 17 ?_
      first | refine dP 18 ?_ | refine dQ 18 ?_
      refine dO 19 false ?_
      first | refine s1 ?_ | refine q1 ?_
      refine ARg.nil (ATh.normal ?_)
      refine dN ?_
      repeat' first | refine s1 ?_ | refine q1 ?_ | fail
      exact ⟨k + 1, F.fit ⟨rfl, trivial⟩ ⟨obE (by rw [hv, fcK_set]), trivial⟩, by omega, by omega⟩
    · obtain rfl : k = c := by omega
      repeat' first | refine s1 ?_ | refine q1 ?_ | fail
      exact ⟨i + 1, F.fit ⟨rfl, trivial⟩ ⟨obE (by rw [fcK_next]), trivial⟩, by omega, by omega⟩
  · obtain rfl : i = r := by omega
    have e : tab c i (fcK RL i 0) = tab c RL.length (fcF RL) := by rw [← fcK_all, hll]
    have e2 : tm c RL.length (fcF RL) = ⟨(c : Nat), (i : Nat), tab c RL.length (fcF RL)⟩ := by unfold tm; rw [hll]
    rw [e, e2]
    have e3 : (tab c RL.length (fcF RL)).length = c * i := by rw [tab_len, hll]
    generalize tab c RL.length (fcF RL) = T at e3 ⊢
    repeat' first | refine s1 ?_ | refine q1 ?_ | fail
    (refine kZ ?_; exact F.ret rfl)
theorem freeL_snoc_ints (k : Nat) (piv : List Nat) : ints (freeL (k + 1) piv) = if k ∈ piv then ints (freeL k piv) else ints (freeL k piv) ++ [(k : Int)] := by
  rw [freeL_succ]
  split
  · rfl
  · rw [ints_snoc]
theorem freeColumns_a (c : Nat) (piv : List Nat) (hc : c ≤ 1000000) : AC Try.prog 137 [.i (c : Int), ar false (ints piv)] [.dt true 1 (E true (ints (freeL c piv)))] := by
  refine AC.go Try.func137 Try.ntmps137 rfl rfl fun w0 hw => ?_; simp [WfL, WfA, E_length, Enc.enc, In64] at hw
  repeat' first | refine s1 ?_ | refine q1 ?_ | fail
  refine AW.open 5 1 (.inl rfl) ?_
  refine F.loop (σ := Nat) [5, 6, 8, 9, 10, 11, 12, 13, 14, 15, 16, 17, 18, 19] (fun k => [(5, .sl 0 (ints (freeL k piv)).length 0 (ints (freeL k piv)).length), (8, .i k)]) (fun k => [(0, .live false 1 (E true (ints (freeL k piv))))]) (fun k => k ≤ c) (fun k => c - k) 0 ⟨rfl, rfl, trivial⟩ ⟨rfl, trivial⟩ (Nat.zero_le _) ?_
  rintro k k1
  have hl := freeL_le k piv
  rw [← ints_len (freeL k piv)] at hl
  by_cases hk : k < c
  · have hH := contains_a (ints piv) (k : Int)
    have hs := freeL_snoc_ints k piv
    generalize ints (freeL k piv) = X at hl hs ⊢
    by_cases hm : k ∈ piv
    · rw [decide_eq_true ((ints_mem piv k).mpr hm)] at hH
      rw [if_pos hm] at hs
      repeat' first | refine s1 ?_ | refine q1 ?_ | (refine kR ?_; first | refine F.c (hH) ?_) | fail
      exact ⟨k + 1, F.fit ⟨slE (by rw [hs]), rfl, trivial⟩ ⟨obE (by rw [hs]), trivial⟩, by omega, by omega⟩
    · rw [decide_eq_false (fun h => hm ((ints_mem piv k).mp h))] at hH
      rw [if_neg hm] at hs
      repeat' first | refine s1 ?_ | refine q1 ?_ | (refine kR ?_; first | refine F.c (hH) ?_ | refine F.a1 Int ?_) | fail
      exact ⟨k + 1, F.fit ⟨slE (by rw [hs]; simp), rfl, trivial⟩ ⟨obE (by rw [hs]), trivial⟩, by omega, by omega⟩
  · obtain rfl : k = c := by omega
    repeat' first | refine s1 ?_ | refine q1 ?_ | fail
    (refine kZ ?_; exact F.ret rfl)
end Go.Proofs.Ytlmenmacepeeaaa.V
