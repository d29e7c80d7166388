/- Contracts: what vectors span, as the reference does it; columns at leading ones. -/
import Derived.Test.YtlmenmacepeeaaaUq
import Derived.Test.YtlmenmacepeeaaaA52
import Derived.Test.YtlmenmacepeeaaaA15
namespace Go.Proofs.Ytlmenmacepeeaaa.V
open V.Enc (enc)
open Go.RowKit G D
set_option linter.unusedVariables false
set_option linter.unusedSimpArgs false
set_option maxHeartbeats 4000000
set_option maxRecDepth 4000
attribute [local irreducible] AW ARg ARA ARet MRet ASil AC AM

theorem l5Rows_a (n : Nat) (l : List (List Int)) (hl : l.length ≤ 1000) (hn : n ≤ 1000) (h : ∀ k, k < l.length → (l.getD k default).length = n) : AC Try.prog 179 [.i (n : Int), ar false l] [.agg (enc true (tm l.length n (vecF l)))] := by
  refine AC.go Try.func179 Try.ntmps179 rfl rfl fun w0 hw => ?_; simp [WfL, WfA, E_length, Enc.enc, In64] at hw
  repeat' first | refine s1 ?_ | refine q1 ?_ | fail
  refine AW.openV (o := 1) (j := 2) 1 rfl rfl (.inl rfl) rfl ?_
  refine F.loop (σ := Nat) [6, 11, 12, 13, 14, 15, 16, 17, 18, 19, 20, 21, 22, 23, 24] (fun i => [(6, .i i)]) (fun i => [(1, .live false 3 [[.i (l.length : Nat), .i (n : Int), .sl 2 (tab i n (vecF l)).length 0 (tab i n (vecF l)).length]]), (2, .live false 1 (E true (tab i n (vecF l))))]) (fun i => i ≤ l.length) (fun i => l.length - i) 0 ⟨rfl, trivial⟩ ⟨by simp [tab]; rfl, by simp [tab]; rfl, trivial⟩ (Nat.zero_le _) ?_
  rintro i i1
  by_cases hi : i < l.length
  · have hli := h i hi
    have hts := tab_succ i n (vecF l)
    rw [vec_row hli] at hts
    have hTl := tab_len i n (vecF l)
    have hTb : i * n ≤ 1000 * 1000 := Nat.mul_le_mul (by omega) hn
    generalize tab i n (vecF l) = T at hts hTl ⊢
    repeat' first | refine s1 ?_ | refine q1 ?_ | fail
    refine AW.draw 6 G.mixed (by kernel_rfl) ?_
    refine dP 0 ?_
    first | refine dL 1 ?_ | refine dLQ 1 ?_
    refine dP 2 ?_
    refine dP 3 ?_
    first | refine dP 4 ?_ | refine dQ 4 ?_
    first | refine dL 5 ?_ | refine dLQ 5 ?_
    refine dO 6 false ?_
    first | refine s1 ?_ | refine F.aL Int (oo := true) ?_
    refine ARg.nil (ATh.normal ?_)
    refine dP 7 ?_
    refine dO 8 false ?_
    first | refine s1 ?_ | refine q1 ?_
    refine ARg.nil (ATh.normal ?_)
    refine dN ?_
    repeat' first | refine s1 ?_ | refine q1 ?_ | fail
    exact ⟨i + 1, F.fit ⟨rfl, trivial⟩ ⟨obE (by rw [hts, List.length_append, hli]; rfl), obE (by rw [hts]), trivial⟩, by omega, by omega⟩
  · obtain rfl : i = l.length := by omega
    have hTl := tab_len l.length n (vecF l)
    have hTb : l.length * n ≤ 1000 * 1000 := Nat.mul_le_mul hl hn
    unfold tm
    generalize tab l.length n (vecF l) = T at hTl ⊢
    repeat' first | refine s1 ?_ | refine q1 ?_ | fail
    (refine kZ ?_; exact F.ret rfl)
theorem E_cell (o : Bool) : ∀ l : List Int, (V.E o l).flatten.all cellB = true
  | [] => rfl
  | x :: l => by
    have h := E_cell o l
    simp only [V.E, List.map_cons, List.flatten_cons, List.all_append, Bool.and_eq_true] at h ⊢
    exact ⟨rfl, h⟩
theorem l5Basis_a (p : Int) (r n : Nat) (f : Nat → Nat → Int) (hF : isF p = true) (hr : r ≤ 1000) (hn : n ≤ 1000) (hb : BdF p r n f) : AC Try.prog 178 [.i p, .agg (enc false (tm r n f))] [.dt true 1 (E true (spanB p r n f))] := by
  refine AC.go Try.func178 Try.ntmps178 rfl rfl fun w0 hw => ?_; simp [WfL, WfA, E_length, Enc.enc, In64] at hw
  have h5 := isF_pos hF
  have hR := l4Reduce_a p r n f hF (by omega) (by omega) hb
  obtain ⟨b1, b2, b3, b4⟩ := redK_bd (p := p) (by omega) hb n
  have hSl := spanB_len p r n f
  have hSt := fun i hi => spanB_take (p := p) (r := r) (n := n) (f := f) (i := i) hi
  generalize spanB p r n f = SB at hSl hSt ⊢
  generalize redK p r f n = R at hR b1 b2 b3 b4 hSl hSt
  obtain ⟨g, piv⟩ := R
  dsimp only at hR b1 b2 b3 b4 hSl hSt
  have hpl := ints_len piv
  generalize ints piv = PI at hR hpl
  have hN := tab_len r n g
  have hN2 : (tm r n g).m.length = r * n := hN
  have hNb : r * n ≤ 1048576 := tab_le (by omega) (by omega)
  repeat' first | refine s1 ?_ | refine q1 ?_ | (refine kR ?_; first | refine F.c (hR) ?_) | fail
  refine AW.open 7 1 (.inr rfl) ?_
  refine F.loop (σ := Nat) [7, 8, 16, 17, 18, 19, 20, 21, 22, 23, 24, 25, 26, 27, 28, 29, 30, 31, 32, 33, 34, 35, 36, 37, 38, 39, 40] (fun i => [(7, .sl 4 i 0 i), (8, .i i)]) (fun i => [(4, .live false 1 (E true (SB.take i)))]) (fun i => i ≤ piv.length) (fun i => piv.length - i) 0 ⟨rfl, rfl, trivial⟩ ⟨rfl, trivial⟩ (Nat.zero_le _) ?_
  rintro i i1
  have hp2 : (SB.take i).length = i := by rw [List.length_take]; omega
  by_cases hi : i < piv.length
  · have hir : i < r := by omega
    have hle : (i + 1) * n ≤ r * n := Nat.mul_le_mul_right n hir
    rw [Nat.add_mul, Nat.one_mul] at hle
    have hrow := tab_row g hir (c := n)
    have hts := hSt i hi
    have hrl := rowL_len n (g i)
    obtain ⟨t1, t2⟩ := row_in (r := r) (c := n) hir (by omega) (by omega)
    have t3 : In64 ((i : Int) * (n : Int) + (n : Int)) := by rw [Int.add_mul, Int.one_mul] at t2; exact t2
    have e1 : (i : Int) * (n : Int) = ((i * n : Nat) : Int) := by push_cast; rfl
    have e2 : (i : Int) * (n : Int) + (n : Int) = ((i * n + n : Nat) : Int) := by push_cast; rfl
    generalize rowL n (g i) = X at hrow hts hrl
    have hv : ((tab r n g).drop (0 + i * n)).take (i * n + n - i * n) = X := by rw [Nat.zero_add, show i * n + n - i * n = n by omega]; exact hrow
    repeat' first | refine s1 ?_ | refine q1 ?_ | (refine kR ?_; first | refine F.sil (A.slcS (lo := i * n) (hi' := i * n + n) rfl rfl (E_length _ _) (congrArg AV.i e1) (congrArg AV.i e2) (by omega) (by omega)) rfl rfl ?_ | refine F.aLN Int (oo := true) (ls2 := X) ?_ (hsrc := .view rfl (E_length _ _) (by rw [E_drop, E_take, hv]) (E_cell _ _)) | refine F.a1 (List Int) (a := X) ?_) | fail
    exact ⟨i + 1, F.fit ⟨rfl, rfl, trivial⟩ ⟨obE (by rw [hts]), trivial⟩, by omega, by omega⟩
  · obtain rfl : i = piv.length := by omega
    have e : SB.take piv.length = SB := List.take_of_length_le (by omega)
    rw [e]
    rw [← hSl]
    clear hp2 e
    repeat' first | refine s1 ?_ | refine q1 ?_ | fail
    (refine kZ ?_; exact F.ret rfl)
end Go.Proofs.Ytlmenmacepeeaaa.V
