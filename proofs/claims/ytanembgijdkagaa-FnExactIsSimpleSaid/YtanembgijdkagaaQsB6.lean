/- Joined: Contracts: columns, matrices beside each other. Contracts: what vectors span, both ways. Contracts: lists of vectors put together, sums of spaces, spaces of nothing, as the program does them. Contracts: the radical, as the program builds it.. -/
import Derived.Test.YtanembgijdkagaaQsUq
import Derived.Test.YtanembgijdkagaaQsB4
import Derived.Test.YtanembgijdkagaaQsA51
import Derived.Test.YtanembgijdkagaaQsB5
import Derived.Test.YtanembgijdkagaaQsB1
import Derived.Test.YtanembgijdkagaaQsA25
namespace Go.Proofs.Ytanembgijdkagaa.V
open Go.RowKit G D
set_option linter.unusedVariables false
set_option linter.unusedSimpArgs false
set_option maxHeartbeats 4000000
set_option maxRecDepth 4000
attribute [local irreducible] AW ARg ARA ARet MRet ASil AC AM
end Go.Proofs.Ytanembgijdkagaa.V
namespace Go.Proofs.Ytanembgijdkagaa.V
open V.Enc (enc)
open Go.RowKit G D
set_option linter.unusedVariables false
set_option linter.unusedSimpArgs false
set_option maxHeartbeats 4000000
set_option maxRecDepth 4000
attribute [local irreducible] AW ARg ARA ARet MRet ASil AC AM
theorem tab_succ (k n : Nat) (f : Nat → Nat → Int) : tab (k + 1) n f = tab k n f ++ rowL n (f k) := by
  unfold tab rowL
  rw [Nat.add_mul, Nat.one_mul, List.range_add, List.map_append, List.map_map]
  congr 1
  apply List.map_congr_left
  intro t ht
  have ht : t < n := by simpa using ht
  have d := tab_div (i := k) ht
  show f ((k * n + t) / n) ((k * n + t) % n) = f k t
  rw [d.1, d.2]
theorem vec_row {l : List (List Int)} {n k : Nat} (h : (l.getD k default).length = n) : rowL n (vecF l k) = l.getD k default := rowL_of h
theorem flat_tab {l : List (List Int)} {n : Nat} (h : ∀ k, k < l.length → (l.getD k default).length = n) : ∀ k, k ≤ l.length → (l.take k).flatten = tab k n (vecF l)
  | 0, _ => by simp [tab]
  | k + 1, hk => by rw [flat_take l hk, flat_tab h k (by omega), tab_succ, vec_row (h k hk)]
theorem fromRows_a (n : Nat) (l : List (List Int)) (hl : l.length ≤ 1000) (hn : n ≤ 1000) (h : ∀ k, k < l.length → (l.getD k default).length = n) : AC Try.prog 121 [.i (n : Int), ar false l] [.agg (enc true (tm l.length n (vecF l)))] := by
  refine AC.go Try.func121 Try.ntmps121 rfl rfl fun w0 hw => ?_; simp [WfL, WfA, E_length, Enc.enc, In64] at hw
  have e := flat_tab h l.length (Nat.le_refl _)
  rw [List.take_length] at e
  have hb : l.length * n ≤ 1000 * 1000 := Nat.mul_le_mul hl hn
  have hC := concat_a l (by rw [e, tab_len]; omega)
  rw [e] at hC
  unfold tm
  generalize tab l.length n (vecF l) = T at hC ⊢
  repeat' first | refine s1 ?_ | refine q1 ?_ | (refine kR ?_; first | refine F.c (hC) ?_) | fail
  (refine kZ ?_; exact F.ret rfl)
theorem VecB.len {p : Int} {n : Nat} {l : List (List Int)} (h : VecB p n l) : ∀ k, k < l.length → (l.getD k default).length = n := fun k hk => (h _ (gm hk)).1
theorem spanB_take {p : Int} {r n : Nat} {f : Nat → Nat → Int} {i : Nat} (hi : i < (redK p r f n).2.length) : (spanB p r n f).take (i + 1) = (spanB p r n f).take i ++ [rowL n ((redK p r f n).1 i)] := rowsL_take n _ hi
theorem span_a (p : Int) (n : Nat) (l : List (List Int)) (hF : isF p = true) (hl : l.length ≤ 1000) (hn : n ≤ 1000) (hv : VecB p n l) : AC Try.prog 128 [.i p, .i (n : Int), ar false l] [.agg (enc true (⟨(n : Nat), spanL p n l⟩ : Spc))] := by
  refine AC.go Try.func128 Try.ntmps128 rfl rfl fun w0 hw => ?_; simp [WfL, WfA, E_length, Enc.enc, In64] at hw
  have h5 := isF_pos hF
  have hA := fromRows_a n l hl hn hv.len
  have hR := implReduce_a p l.length n (vecF l) hF (by omega) (by omega) hv.bd
  obtain ⟨b1, b2, b3, b4⟩ := redK_bd (p := p) (by omega) hv.bd n
  have hSl := spanB_len p l.length n (vecF l)
  have hSt := fun i hi => spanB_take (p := p) (r := l.length) (n := n) (f := vecF l) (i := i) hi
  unfold spanL
  generalize spanB p l.length n (vecF l) = SB at hSl hSt ⊢
  generalize redK p l.length (vecF l) n = R at hR b1 b2 b3 b4 hSl hSt
  obtain ⟨g, piv⟩ := R
  dsimp only at hR b1 b2 b3 b4 hSl hSt
  have hpl := ints_len piv
  generalize ints piv = PI at hR hpl
  generalize tm l.length n (vecF l) = T0 at hA hR
  generalize hrr : l.length = r at *
  have hN := tab_len r n g
  have hNb : r * n ≤ 1048576 := tab_le (by omega) (by omega)
  repeat' first | refine s1 ?_ | refine q1 ?_ | (refine kR ?_; first | refine F.c (hA) ?_ | refine F.c (hR) ?_) | fail
  refine AW.open 9 1 (.inl rfl) ?_
  refine F.loop (σ := Nat) [9, 10, 21, 22, 23, 24, 25, 26, 27, 28, 29, 30, 31] (fun i => [(9, .sl 5 i 0 i), (21, .i i)]) (fun i => [(2, .live false 1 (E true (tab r n g))), (5, .live false 1 (E true (SB.take i)))]) (fun i => i ≤ piv.length) (fun i => piv.length - i) 0 ⟨rfl, rfl, trivial⟩ ⟨rfl, rfl, trivial⟩ (Nat.zero_le _) ?_
  rintro i i1
  have hp2 : (SB.take i).length = i := by rw [List.length_take]; omega
  by_cases hi : i < piv.length
  · have hir : i < r := by omega
    have hRw := row_m r n i g _ hN hir (by omega) (by omega)
    have hC : AC Try.prog 47 [ar false (((tab r n g).drop (i * n)).take n)] [.dt true 1 (E true (rowL n (g i)))] := by
      rw [tab_row g hir]
      exact clone_a (rowL n (g i)) (by simp; omega)
    have hts := hSt i hi
    have hrl := rowL_len n (g i)
    generalize rowL n (g i) = X at hC hts hrl
    repeat' first | refine s1 ?_ | refine q1 ?_ | (refine kR ?_; first | refine F.m [2] (hRw) ?_ | refine F.c (hC) ?_ | refine F.a1 (List Int) (a := X) ?_) | fail
    exact ⟨i + 1, F.fit ⟨rfl, rfl, trivial⟩ ⟨rfl, obE (by rw [hts]), trivial⟩, by omega, by omega⟩
  · obtain rfl : i = piv.length := by omega
    have e : SB.take piv.length = SB := List.take_of_length_le (by omega)
    rw [e]
    rw [← hSl]
    clear hp2 e
    repeat' first | refine s1 ?_ | refine q1 ?_ | fail
    (refine kZ ?_; exact F.ret rfl)
end Go.Proofs.Ytanembgijdkagaa.V
namespace Go.Proofs.Ytanembgijdkagaa.V
open V.Enc (enc)
open Go.RowKit G D
set_option linter.unusedVariables false
set_option linter.unusedSimpArgs false
set_option maxHeartbeats 4000000
set_option maxRecDepth 4000
attribute [local irreducible] AW ARg ARA ARet MRet ASil AC AM
theorem grow2_a (n : Nat) (hn : n ≤ 1048576) : AC Try.prog 165 [.nl, .i n] [.dt true 1 []] := by
  refine AC.go Try.func165 Try.ntmps165 rfl rfl fun w0 hw => ?_; simp [WfL, WfA, E_length, Enc.enc, In64] at hw
  repeat' first | refine s1 ?_ | refine q1 ?_ | (refine kR ?_; first | refine F.sil (A.capN rfl) rfl rfl ?_ | refine F.sil (A.slcN (lo := 0) (hi' := 0) rfl rfl rfl (Nat.le_refl _) rfl) rfl rfl ?_ | refine F.appZ (m := n) (List Int) rfl rfl rfl (by omega) (by omega) (mkB (by omega)) (by omega) rfl rfl ?_ | refine F.slcut (k := 0) rfl rfl (by simp [E_length]) rfl (Nat.zero_le _) rfl rfl rfl ?_) | (refine s2 ?_ ?_ <;> intro hc <;> (try simp only [decide_eq_true_eq, decide_eq_false_iff_not, Bool.not_eq_true', Bool.not_eq_false'] at hc)) | fail
  all_goals exact F.ret rfl
theorem concat2_w (ls : List (List (List Int))) (hn : ls.flatten.length ≤ 1048576) : AM Try.prog 152 [ar false ls] [] [.dt true 1 (E false ls.flatten)] [] := by
  refine AM.go Try.func152 Try.ntmps152 rfl rfl fun w0 mp hw => ?_; simp [WfL, WfA, E_length, Enc.enc, In64] at hw
  repeat' first | refine s1 ?_ | refine q1 ?_ | (refine s2 ?_ ?_ <;> intro hc <;> (try simp only [decide_eq_true_eq, decide_eq_false_iff_not, Bool.not_eq_true', Bool.not_eq_false'] at hc)) | fail
  refine F.loop (σ := Nat) [3, 5, 11, 12, 13, 14, 15, 16, 17, 18, 19, 20, 21, 22] (fun k => [(3, .i ((ls.take k).flatten.length : Nat)), (11, .i k)]) (fun _ => []) (fun k => k ≤ ls.length) (fun k => ls.length - k) 0 ⟨rfl, rfl, trivial⟩ trivial (Nat.zero_le _) ?_
  rintro k h1
  have hfl := flat_le ls k
  by_cases hlt : k < ls.length
  · have hf2 := flat_len ls hlt
    have hf3 := flat_le ls (k + 1)
    repeat' first | refine s1 ?_ | refine q1 ?_ | fail
    refine ⟨k + 1, F.fit ⟨iE (by omega), rfl, trivial⟩ trivial, by omega, by omega⟩
  · have hG := grow2_a (ls.take k).flatten.length (by omega)
    repeat' first | refine s1 ?_ | refine q1 ?_ | (refine kR ?_; first | refine F.c (hG) ?_) | (refine s2 ?_ ?_ <;> intro hc <;> (try simp only [decide_eq_true_eq, decide_eq_false_iff_not, Bool.not_eq_true', Bool.not_eq_false'] at hc)) | fail
    obtain rfl : k = ls.length := by omega
    refine F.loop (σ := Nat) [6, 8, 27, 28, 29, 30, 31, 32, 33, 34] (fun k => [(6, .sl 0 (ls.take k).flatten.length 0 (ls.take k).flatten.length), (27, .i k)]) (fun k => [(0, .live false 1 (E false (ls.take k).flatten))]) (fun k => k ≤ ls.length) (fun k => ls.length - k) 0 ⟨rfl, rfl, trivial⟩ ⟨rfl, trivial⟩ (Nat.zero_le _) ?_
    rintro k h1
    have hfl := flat_le ls k
    by_cases hlt : k < ls.length
    · have hf2 := flat_len ls hlt
      have hf3 := flat_le ls (k + 1)
      repeat' first | refine s1 ?_ | refine q1 ?_ | (refine kR ?_; first | refine F.appL (α := List Int) (oo := false) rfl rfl rfl rfl .imm rfl rfl (by omega) (by omega) rfl rfl rfl rfl rfl ?_) | fail
      refine ⟨k + 1, F.fit ⟨slE (by omega), rfl, trivial⟩ ⟨obE (by rw [flat_take ls hlt]), trivial⟩, by omega, by omega⟩
    · obtain rfl : k = ls.length := by omega
      rw [List.take_length]
      repeat' first | refine s1 ?_ | refine q1 ?_ | fail
      refine kM ?_
      exact F.retM rfl trivial
theorem sumSpace_a (p : Int) (a b : Spc) (ha : isSpc p a = true) (hb : isSpc p b = true) (hn : b.n = a.n) : AC Try.prog 129 [.i p, .agg (enc false a), .agg (enc false b)] [.agg (enc true (addS p a b))] := by
  refine AC.go Try.func129 Try.ntmps129 rfl rfl fun w0 hw => ?_; simp [WfL, WfA, E_length, Enc.enc, In64] at hw
  obtain ⟨h1, h2, h3, h4⟩ := isSpc_spec ha
  obtain ⟨_, _, g3, g4⟩ := isSpc_spec hb
  rw [hn] at g4
  have hS := span_a p a.n.toNat (a.b ++ b.b) h1 (by rw [List.length_append]; omega) (by omega) (h4.app g4)
  rw [Int.toNat_of_nonneg h2.1] at hS
  rw [show (⟨a.n, spanL p a.n.toNat (a.b ++ b.b)⟩ : Spc) = addS p a b from rfl] at hS
  have hC := concat2_w [a.b, b.b] (by simp; omega)
  rw [show [a.b, b.b].flatten = a.b ++ b.b by simp] at hC
  generalize addS p a b = SS' at hS ⊢
  repeat' first | refine s1 ?_ | refine q1 ?_ | fail
  refine AW.draw 10 G.mixed (by kernel_rfl) ?_
  refine dP 0 ?_
  refine dP 1 ?_
  first | refine dL 2 ?_ | refine dLQ 2 ?_
  refine dP 3 ?_
  first | refine dL 4 ?_ | refine dLQ 4 ?_
  refine dP 5 ?_
  first | refine dL 6 ?_ | refine dLQ 6 ?_
  refine dO 7 true ?_
  refine s1 ?_
  refine ARg.nil (ATh.normal ?_)
  refine dzA (α := List (List Int)) (ls := [a.b, b.b]) 14 rfl rfl rfl ?_
  refine dO 8 true ?_
  first | refine s1 ?_ | refine F.w (hC) ?_ | refine F.c (hS) ?_
  refine ARg.nil (ATh.normal ?_)
  refine dO 9 true ?_
  first | refine s1 ?_ | refine F.w (hC) ?_ | refine F.c (hS) ?_
  refine ARg.nil (ATh.normal ?_)
  refine dO 10 false ?_
  first | refine s1 ?_ | refine q1 ?_
  refine ARg.nil (ATh.normal ?_)
  refine dN ?_
  rotate_left
  all_goals
    repeat' first | refine s1 ?_ | refine q1 ?_ | fail
    (refine kZ ?_; exact F.ret rfl)
theorem zeroS_take {d : List Int} {k : Nat} (h : k < d.length) : (d.take (k + 1)).map (fun d => (⟨d, []⟩ : Spc)) = (d.take k).map (fun d => (⟨d, []⟩ : Spc)) ++ [⟨d.getD k default, []⟩] := by
  have e : d.getD k default = d[k] := by simp [h]
  rw [List.take_succ_eq_append_getElem h, List.map_append, e]
  rfl
theorem zeroSub_a (r : Rep) (h : r.d.length ≤ 1000) : AC Try.prog 127 [.agg (enc false r)] [.dt true 2 (E true (radK r 0))] := by
  refine AC.go Try.func127 Try.ntmps127 rfl rfl fun w0 hw => ?_; simp [WfL, WfA, E_length, Enc.enc, In64] at hw
  unfold radK
  repeat' first | refine s1 ?_ | refine q1 ?_ | fail
  refine AW.open 3 2 (.inl rfl) ?_
  refine F.loop (σ := Nat) [3, 5, 9, 10, 11, 12, 13, 14, 15, 16, 17, 18] (fun k => [(3, .sl 1 k 0 k), (9, .i k)]) (fun k => [(1, .live false 2 (E true ((r.d.take k).map fun d => (⟨d, []⟩ : Spc))))]) (fun k => k ≤ r.d.length) (fun k => r.d.length - k) 0 ⟨rfl, rfl, trivial⟩ ⟨rfl, trivial⟩ (Nat.zero_le _) ?_
  rintro k k1
  have hp : ((r.d.take k).map fun d => (⟨d, []⟩ : Spc)).length = k := by simp; omega
  by_cases hk : k < r.d.length
  · have hts := zeroS_take hk
    generalize (r.d.take k).map (fun d => (⟨d, []⟩ : Spc)) = X at hts hp ⊢
    repeat' first | refine s1 ?_ | refine q1 ?_ | (refine kR ?_; first | refine F.a1 Spc (a := ⟨r.d.getD k default, []⟩) ?_ (hmv := .at1 rfl (.nl 1 .nil))) | fail
    exact ⟨k + 1, F.fit ⟨rfl, rfl, trivial⟩ ⟨obE (by rw [hts]), trivial⟩, by omega, by omega⟩
  · obtain rfl : k = r.d.length := by omega
    rw [List.take_length]
    have hml : (r.d.map fun d => (⟨d, []⟩ : Spc)).length = r.d.length := by simp
    rw [← hml]
    repeat' first | refine s1 ?_ | refine q1 ?_ | fail
    (refine kZ ?_; exact F.ret rfl)
end Go.Proofs.Ytanembgijdkagaa.V
namespace Go.Proofs.Ytanembgijdkagaa.V
open Go.RowKit G D
set_option linter.unusedVariables false
set_option linter.unusedSimpArgs false
set_option maxHeartbeats 4000000
set_option maxRecDepth 4000
attribute [local irreducible] AW ARg ARA ARet MRet ASil AC AM
end Go.Proofs.Ytanembgijdkagaa.V
