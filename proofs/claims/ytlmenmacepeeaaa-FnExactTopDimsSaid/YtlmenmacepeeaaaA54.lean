/- Contracts: spans, images, valid spaces, sums of spaces, as the reference does them. -/
import Derived.Test.YtlmenmacepeeaaaUq
import Derived.Test.YtlmenmacepeeaaaA53
namespace Go.Proofs.Ytlmenmacepeeaaa.V
open V.Enc (enc)
open Go.RowKit G D
set_option linter.unusedVariables false
set_option linter.unusedSimpArgs false
set_option maxHeartbeats 4000000
set_option maxRecDepth 4000
attribute [local irreducible] AW ARg ARA ARet MRet ASil AC AM

theorem l5Span_a (p : Int) (n : Nat) (l : List (List Int)) (hF : isF p = true) (hl : l.length ≤ 1000) (hn : n ≤ 1000) (hv : VecB p n l) : AC Try.prog 116 [.i p, .i (n : Int), ar false l] [.agg (enc true (⟨(n : Nat), spanL p n l⟩ : Spc))] := by
  refine AC.go Try.func116 Try.ntmps116 rfl rfl fun w0 hw => ?_; simp [WfL, WfA, E_length, Enc.enc, In64] at hw
  have hR := l5Rows_a n l hl hn hv.len
  have hB := l5Basis_a p l.length n (vecF l) hF hl hn hv.bd
  unfold spanL
  generalize spanB p l.length n (vecF l) = SB at hB ⊢
  generalize tm l.length n (vecF l) = T at hR hB
  repeat' first | refine s1 ?_ | refine q1 ?_ | (refine kR ?_; first | refine F.c (hR) ?_ | refine F.c (hB) ?_) | fail
  (refine kZ ?_; exact F.ret rfl)
theorem rowL_take {r k : Nat} (h : Nat → Int) (hk : k < r) : (rowL r h).take (k + 1) = (rowL r h).take k ++ [h k] := by
  simp only [rowL, ← List.map_take, range_take hk, List.map_append, List.map_cons, List.map_nil]
theorem l4Image_a (p : Int) (r c : Nat) (f : Nat → Nat → Int) (hF : isF p = true) (hr : r ≤ 1000) (hc : c ≤ 1000) (hb : BdF p r c f) : AC Try.prog 117 [.i p, .agg (enc false (tm r c f))] [.dt true 1 (E true (pivC r f (redK p r f c).2))] := by
  refine AC.go Try.func117 Try.ntmps117 rfl rfl fun w0 hw => ?_; simp [WfL, WfA, E_length, Enc.enc, In64] at hw
  have h5 := isF_pos hF
  have hR := l4Reduce_a p r c f hF (by omega) (by omega) hb
  obtain ⟨b1, b2, b3, b4⟩ := redK_bd (p := p) (by omega) hb c
  generalize redK p r f c = R at hR b1 b2 b3 b4 ⊢
  obtain ⟨g, piv⟩ := R
  dsimp only at hR b1 b2 b3 b4 ⊢
  have hPl := pivC_len r f piv
  have hPt := fun i hi => pivC_take r f (piv := piv) (i := i) hi
  generalize pivC r f piv = PC at hPl hPt ⊢
  have hpl := ints_len piv
  have hpg := fun i hi => ints_get piv (i := i) hi
  generalize ints piv = PI at hR hpl hpg
  generalize tm r c g = G1 at hR
  repeat' first | refine s1 ?_ | refine q1 ?_ | (refine kR ?_; first | refine F.c (hR) ?_) | fail
  refine AW.open 7 1 (.inr rfl) ?_
  refine F.loop (σ := Nat) [7, 8, 9, 10, 18, 19, 20, 21, 22, 23, 24, 25, 26, 27, 28, 29, 30, 31, 32, 33, 34, 35, 36, 37, 38, 39, 40, 41, 42, 43, 44, 45, 46, 47, 48, 49, 50] (fun i => [(7, .sl 4 i 0 i), (8, .i i)]) (fun i => [(4, .live false 1 (E true (PC.take i)))]) (fun i => i ≤ piv.length) (fun i => piv.length - i) 0 ⟨rfl, rfl, trivial⟩ ⟨rfl, trivial⟩ (Nat.zero_le _) ?_
  rintro i i1
  have hp2 : (PC.take i).length = i := by rw [List.length_take]; omega
  by_cases hi : i < piv.length
  · have hts := hPt i hi
    have hg := hpg i hi
    have hq : piv.getD i default < c := b4 _ (by simp [hi])
    rw [show piv.getD i 0 = piv.getD i default from rfl] at hts
    generalize piv.getD i default = q at hts hg hq
    have hg' : PI.getD (0 + i) default = (q : Int) := by rw [Nat.zero_add]; exact hg
    have hXl := rowL_len r fun t => f t q
    have hXt := fun k hk => rowL_take (r := r) (k := k) (fun t => f t q) hk
    generalize (rowL r fun t => f t q) = X at hts hXl hXt
    repeat' first | refine s1 ?_ | refine q1 ?_ | fail
    refine AW.open 9 1 (.inr rfl) ?_
    refine F.loop (σ := Nat) [9, 10, 25, 26, 27, 28, 29, 30, 31, 32, 33, 34, 35, 36, 37, 38, 39, 40, 41, 42, 43, 44, 45, 46] (fun k => [(9, .sl 5 k 0 k), (10, .i k)]) (fun k => [(5, .live false 1 (E true (X.take k)))]) (fun k => k ≤ r) (fun k => r - k) 0 ⟨rfl, rfl, trivial⟩ ⟨rfl, trivial⟩ (Nat.zero_le _) ?_
    rintro k k1
    have hp3 : (X.take k).length = k := by rw [List.length_take]; omega
    by_cases hk : k < r
    · obtain ⟨t1, t2⟩ := tab_in (i := k) (j := q) (r := r) (c := c) hk hq (by omega) (by omega)
      have hxt := hXt k hk
      have e1 : (k : Int) * (c : Int) + PI.getD (0 + i) default = ((k * c + q : Nat) : Int) := by rw [hg']; push_cast; rfl
      have t3 : In64 ((k : Int) * (c : Int) + PI.getD (0 + i) default) := by rw [hg']; exact t2
      have hlt := tab_lt hk hq
      have hv : (tab r c f).getD (k * c + q) default = f k q := tab_get f hk hq
      repeat' first | refine s1 ?_ | refine q1 ?_ | fail
      refine AW.draw 15 G.mixed (by kernel_rfl) ?_
      refine dP 0 ?_
      refine dP 1 ?_
      first | refine dL 2 ?_ | refine dLQ 2 ?_
      refine dP 3 ?_
      refine dP 4 ?_
      first | refine dL 5 ?_ | refine dLQ 5 ?_
      refine dP 6 ?_
      refine dP 7 ?_
      refine dP 8 ?_
      first | refine dP 9 ?_ | refine dQ 9 ?_
      first | refine dL 10 ?_ | refine dLQ 10 ?_
      refine dP 11 ?_
      first | refine dP 12 ?_ | refine dP 12 ?_ (hs := by exact (A.idxF (k := k * c + q) rfl rfl e1 (by rw [tab_len]; exact hlt))) | refine dQ 12 ?_
      first | refine dL 13 ?_ | refine dLQ 13 ?_
      refine dO 14 true ?_
      refine s1 ?_
      refine ARg.nil (ATh.normal ?_)
      refine dO 15 false ?_
      first | refine s1 ?_ | refine F.a1 Int ?_
      refine ARg.nil (ATh.normal ?_)
      refine dP 16 ?_
      refine dN ?_
      repeat' first | refine s1 ?_ | refine q1 ?_ | fail
      exact ⟨k + 1, F.fit ⟨rfl, rfl, trivial⟩ ⟨obE (by rw [hxt, ← hv]), trivial⟩, by omega, by omega⟩
    · obtain rfl : k = r := by omega
      have e : X.take k = X := List.take_of_length_le (by omega)
      rw [e]
      rw [← hXl]
      clear hp3 e
      repeat' first | refine s1 ?_ | refine q1 ?_ | (refine kR ?_; first | refine F.a1 (List Int) (a := X) ?_) | fail
      exact ⟨i + 1, F.fit ⟨rfl, rfl, trivial⟩ ⟨obE (by rw [hts]), trivial⟩, by omega, by omega⟩
  · obtain rfl : i = piv.length := by omega
    have e : PC.take piv.length = PC := List.take_of_length_le (by omega)
    rw [e]
    rw [← hPl]
    clear hp2 e
    repeat' first | refine s1 ?_ | refine q1 ?_ | fail
    (refine kZ ?_; exact F.ret rfl)
end Go.Proofs.Ytlmenmacepeeaaa.V
