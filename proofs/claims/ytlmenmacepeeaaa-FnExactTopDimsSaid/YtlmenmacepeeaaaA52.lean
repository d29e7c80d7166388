/- Contracts: what vectors span, both ways. -/
import Derived.Test.YtlmenmacepeeaaaUq
import Derived.Test.YtlmenmacepeeaaaA51
import Derived.Test.YtlmenmacepeeaaaA37
import Derived.Test.YtlmenmacepeeaaaA3
namespace Go.Proofs.Ytlmenmacepeeaaa.V
open V.Enc (enc)
open Go.RowKit G D
set_option linter.unusedVariables false
set_option linter.unusedSimpArgs false
set_option maxHeartbeats 4000000
set_option maxRecDepth 4000
attribute [local irreducible] AW ARg ARA ARet MRet ASil AC AM

theorem tab_succ (k n : Nat) (f : Nat → Nat → Int) : tab (k + 1) n f = tab k n f ++ rowL n (f k) := by
  unfold tab rowL
  rw [Nat.add_mul, Nat.one_mul, List.range_add, List.map_append, List.map_map]
  congr 1
  apply List.map_congr_left
  intro t ht
  have ht : t < n := by simpa using ht
  have d := tab_div (i := k) ht
  show f ((k * n + t) / n) ((k * n + t) % n) = f k t
  rw [d.1, d.2]
theorem vec_row {l : List (List Int)} {n k : Nat} (h : (l.getD k default).length = n) : rowL n (vecF l k) = l.getD k default := rowL_of h
theorem flat_tab {l : List (List Int)} {n : Nat} (h : ∀ k, k < l.length → (l.getD k default).length = n) : ∀ k, k ≤ l.length → (l.take k).flatten = tab k n (vecF l)
  | 0, _ => by simp [tab]
  | k + 1, hk => by rw [flat_take l hk, flat_tab h k (by omega), tab_succ, vec_row (h k hk)]
theorem fromRows_a (n : Nat) (l : List (List Int)) (hl : l.length ≤ 1000) (hn : n ≤ 1000) (h : ∀ k, k < l.length → (l.getD k default).length = n) : AC Try.prog 174 [.i (n : Int), ar false l] [.agg (enc true (tm l.length n (vecF l)))] := by
  refine AC.go Try.func174 Try.ntmps174 rfl rfl fun w0 hw => ?_; simp [WfL, WfA, E_length, Enc.enc, In64] at hw
  have e := flat_tab h l.length (Nat.le_refl _)
  rw [List.take_length] at e
  have hb : l.length * n ≤ 1000 * 1000 := Nat.mul_le_mul hl hn
  have hC := concat_a l (by rw [e, tab_len]; omega)
  rw [e] at hC
  unfold tm
  generalize tab l.length n (vecF l) = T at hC ⊢
  repeat' first | refine s1 ?_ | refine q1 ?_ | (refine kR ?_; first | refine F.c (hC) ?_) | fail
  (refine kZ ?_; exact F.ret rfl)
theorem VecB.len {p : Int} {n : Nat} {l : List (List Int)} (h : VecB p n l) : ∀ k, k < l.length → (l.getD k default).length = n := fun k hk => (h _ (gm hk)).1
theorem spanB_take {p : Int} {r n : Nat} {f : Nat → Nat → Int} {i : Nat} (hi : i < (redK p r f n).2.length) : (spanB p r n f).take (i + 1) = (spanB p r n f).take i ++ [rowL n ((redK p r f n).1 i)] := rowsL_take n _ hi
theorem span_a (p : Int) (n : Nat) (l : List (List Int)) (hF : isF p = true) (hl : l.length ≤ 1000) (hn : n ≤ 1000) (hv : VecB p n l) : AC Try.prog 170 [.i p, .i (n : Int), ar false l] [.agg (enc true (⟨(n : Nat), spanL p n l⟩ : Spc))] := by
  refine AC.go Try.func170 Try.ntmps170 rfl rfl fun w0 hw => ?_; simp [WfL, WfA, E_length, Enc.enc, In64] at hw
  have h5 := isF_pos hF
  have hA := fromRows_a n l hl hn hv.len
  have hR := implReduce_a p l.length n (vecF l) hF (by omega) (by omega) hv.bd
  obtain ⟨b1, b2, b3, b4⟩ := redK_bd (p := p) (by omega) hv.bd n
  have hSl := spanB_len p l.length n (vecF l)
  have hSt := fun i hi => spanB_take (p := p) (r := l.length) (n := n) (f := vecF l) (i := i) hi
  unfold spanL
  generalize spanB p l.length n (vecF l) = SB at hSl hSt ⊢
  generalize redK p l.length (vecF l) n = R at hR b1 b2 b3 b4 hSl hSt
  obtain ⟨g, piv⟩ := R
  dsimp only at hR b1 b2 b3 b4 hSl hSt
  have hpl := ints_len piv
  generalize ints piv = PI at hR hpl
  generalize tm l.length n (vecF l) = T0 at hA hR
  generalize hrr : l.length = r at *
  have hN := tab_len r n g
  have hNb : r * n ≤ 1048576 := tab_le (by omega) (by omega)
  repeat' first | refine s1 ?_ | refine q1 ?_ | (refine kR ?_; first | refine F.c (hA) ?_ | refine F.c (hR) ?_) | fail
  refine AW.open 9 1 (.inl rfl) ?_
  refine F.loop (σ := Nat) [9, 10, 21, 22, 23, 24, 25, 26, 27, 28, 29, 30, 31] (fun i => [(9, .sl 5 i 0 i), (21, .i i)]) (fun i => [(2, .live false 1 (E true (tab r n g))), (5, .live false 1 (E true (SB.take i)))]) (fun i => i ≤ piv.length) (fun i => piv.length - i) 0 ⟨rfl, rfl, trivial⟩ ⟨rfl, rfl, trivial⟩ (Nat.zero_le _) ?_
  rintro i i1
  have hp2 : (SB.take i).length = i := by rw [List.length_take]; omega
  by_cases hi : i < piv.length
  · have hir : i < r := by omega
    have hRw := row_m r n i g _ hN hir (by omega) (by omega)
    have hC : AC Try.prog 79 [ar false (((tab r n g).drop (i * n)).take n)] [.dt true 1 (E true (rowL n (g i)))] := by
      rw [tab_row g hir]
      exact clone_a (rowL n (g i)) (by simp; omega)
    have hts := hSt i hi
    have hrl := rowL_len n (g i)
    generalize rowL n (g i) = X at hC hts hrl
    repeat' first | refine s1 ?_ | refine q1 ?_ | (refine kR ?_; first | refine F.m [2] (hRw) ?_ | refine F.c (hC) ?_ | refine F.a1 (List Int) (a := X) ?_) | fail
    exact ⟨i + 1, F.fit ⟨rfl, rfl, trivial⟩ ⟨rfl, obE (by rw [hts]), trivial⟩, by omega, by omega⟩
  · obtain rfl : i = piv.length := by omega
    have e : SB.take piv.length = SB := List.take_of_length_le (by omega)
    rw [e]
    rw [← hSl]
    clear hp2 e
    repeat' first | refine s1 ?_ | refine q1 ?_ | fail
    (refine kZ ?_; exact F.ret rfl)
end Go.Proofs.Ytlmenmacepeeaaa.V
