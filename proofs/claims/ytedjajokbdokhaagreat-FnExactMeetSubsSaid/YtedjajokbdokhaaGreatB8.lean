/- Joined: Contracts: what vectors span, as the reference does it; columns at leading ones. Contracts: spans, images, valid spaces, sums of spaces, as the reference does them. Contracts: valid spaces, sums of spaces. Contracts: sums of spaces, as the reference does them.. -/
import Derived.Test.YtedjajokbdokhaaGreatUq
import Derived.Test.YtedjajokbdokhaaGreatB6
import Derived.Test.YtedjajokbdokhaaGreatA15
import Derived.Test.YtedjajokbdokhaaGreatA6
/- Contracts: what vectors span, as the reference does it; columns at leading ones. -/
namespace Go.Proofs.YtedjajokbdokhaaGreat.V
open V.Enc (enc)
open Go.RowKit G D
set_option linter.unusedVariables false
set_option linter.unusedSimpArgs false
set_option maxHeartbeats 4000000
set_option maxRecDepth 4000
attribute [local irreducible] AW ARg ARA ARet MRet ASil AC AM

theorem l5Rows_a (n : Nat) (l : List (List Int)) (hl : l.length ≤ 1000) (hn : n ≤ 1000) (h : ∀ k, k < l.length → (l.getD k default).length = n) : AC Tryz.prog 97 [.i (n : Int), ar false l] [.agg (enc true (tm l.length n (vecF l)))] := by
  refine AC.go Tryz.func97 Tryz.ntmps97 rfl rfl fun w0 hw => ?_; simp [WfL, WfA, E_length, Enc.enc, In64] at hw
  repeat' first | refine s1 ?_ | refine q1 ?_ | fail
  refine AW.openV (o := 1) (j := 2) 1 rfl rfl (.inl rfl) rfl ?_
  refine F.loop (σ := Nat) [6, 11, 12, 13, 14, 15, 16, 17, 18, 19, 20, 21, 22, 23, 24] (fun i => [(6, .i i)]) (fun i => [(1, .live false 3 [[.i (l.length : Nat), .i (n : Int), .sl 2 (tab i n (vecF l)).length 0 (tab i n (vecF l)).length]]), (2, .live false 1 (E true (tab i n (vecF l))))]) (fun i => i ≤ l.length) (fun i => l.length - i) 0 ⟨rfl, trivial⟩ ⟨by simp [tab]; rfl, by simp [tab]; rfl, trivial⟩ (Nat.zero_le _) ?_
  rintro i i1
  by_cases hi : i < l.length
  · have hli := h i hi
    have hts := tab_succ i n (vecF l)
    rw [vec_row hli] at hts
    have hTl := tab_len i n (vecF l)
    have hTb : i * n ≤ 1000 * 1000 := Nat.mul_le_mul (by omega) hn
    generalize tab i n (vecF l) = T at hts hTl ⊢
    repeat' first | refine s1 ?_ | refine q1 ?_ | fail
    refine AW.draw 6 G.mixed (by kernel_rfl) ?_
    refine dP 0 ?_
    first | refine dL 1 ?_ | refine dLQ 1 ?_
    refine dP 2 ?_
    refine dP 3 ?_
    first | refine dP 4 ?_ | refine dQ 4 ?_
    first | refine dL 5 ?_ | refine dLQ 5 ?_
    refine dO 6 false ?_
    first | refine s1 ?_ | refine F.aL Int (oo := true) ?_
    refine ARg.nil (ATh.normal ?_)
    refine dP 7 ?_
    refine dO 8 false ?_
    first | refine s1 ?_ | refine q1 ?_
    refine ARg.nil (ATh.normal ?_)
    refine dN ?_
    repeat' first | refine s1 ?_ | refine q1 ?_ | fail
    exact ⟨i + 1, F.fit ⟨rfl, trivial⟩ ⟨obE (by rw [hts, List.length_append, hli]; rfl), obE (by rw [hts]), trivial⟩, by omega, by omega⟩
  · obtain rfl : i = l.length := by omega
    have hTl := tab_len l.length n (vecF l)
    have hTb : l.length * n ≤ 1000 * 1000 := Nat.mul_le_mul hl hn
    unfold tm
    generalize tab l.length n (vecF l) = T at hTl ⊢
    repeat' first | refine s1 ?_ | refine q1 ?_ | fail
    (refine kZ ?_; exact F.ret rfl)
theorem E_cell (o : Bool) : ∀ l : List Int, (V.E o l).flatten.all cellB = true
  | [] => rfl
  | x :: l => by
    have h := E_cell o l
    simp only [V.E, List.map_cons, List.flatten_cons, List.all_append, Bool.and_eq_true] at h ⊢
    exact ⟨rfl, h⟩
theorem l5Basis_a (p : Int) (r n : Nat) (f : Nat → Nat → Int) (hF : isF p = true) (hr : r ≤ 1000) (hn : n ≤ 1000) (hb : BdF p r n f) : AC Tryz.prog 154 [.i p, .agg (enc false (tm r n f))] [.dt true 1 (E true (spanB p r n f))] := by
  refine AC.go Tryz.func154 Tryz.ntmps154 rfl rfl fun w0 hw => ?_; simp [WfL, WfA, E_length, Enc.enc, In64] at hw
  have h5 := isF_pos hF
  have hR := l4Reduce_a p r n f hF (by omega) (by omega) hb
  obtain ⟨b1, b2, b3, b4⟩ := redK_bd (p := p) (by omega) hb n
  have hSl := spanB_len p r n f
  have hSt := fun i hi => spanB_take (p := p) (r := r) (n := n) (f := f) (i := i) hi
  generalize spanB p r n f = SB at hSl hSt ⊢
  generalize redK p r f n = R at hR b1 b2 b3 b4 hSl hSt
  obtain ⟨g, piv⟩ := R
  dsimp only at hR b1 b2 b3 b4 hSl hSt
  have hpl := ints_len piv
  generalize ints piv = PI at hR hpl
  have hN := tab_len r n g
  have hN2 : (tm r n g).m.length = r * n := hN
  have hNb : r * n ≤ 1048576 := tab_le (by omega) (by omega)
  repeat' first | refine s1 ?_ | refine q1 ?_ | (refine kR ?_; first | refine F.c (hR) ?_) | fail
  refine AW.open 7 1 (.inr rfl) ?_
  refine F.loop (σ := Nat) [7, 8, 16, 17, 18, 19, 20, 21, 22, 23, 24, 25, 26, 27, 28, 29, 30, 31, 32, 33, 34, 35, 36, 37, 38, 39, 40] (fun i => [(7, .sl 4 i 0 i), (8, .i i)]) (fun i => [(4, .live false 1 (E true (SB.take i)))]) (fun i => i ≤ piv.length) (fun i => piv.length - i) 0 ⟨rfl, rfl, trivial⟩ ⟨rfl, trivial⟩ (Nat.zero_le _) ?_
  rintro i i1
  have hp2 : (SB.take i).length = i := by rw [List.length_take]; omega
  by_cases hi : i < piv.length
  · have hir : i < r := by omega
    have hle : (i + 1) * n ≤ r * n := Nat.mul_le_mul_right n hir
    rw [Nat.add_mul, Nat.one_mul] at hle
    have hrow := tab_row g hir (c := n)
    have hts := hSt i hi
    have hrl := rowL_len n (g i)
    obtain ⟨t1, t2⟩ := row_in (r := r) (c := n) hir (by omega) (by omega)
    have t3 : In64 ((i : Int) * (n : Int) + (n : Int)) := by rw [Int.add_mul, Int.one_mul] at t2; exact t2
    have e1 : (i : Int) * (n : Int) = ((i * n : Nat) : Int) := by push_cast; rfl
    have e2 : (i : Int) * (n : Int) + (n : Int) = ((i * n + n : Nat) : Int) := by push_cast; rfl
    generalize rowL n (g i) = X at hrow hts hrl
    have hv : ((tab r n g).drop (0 + i * n)).take (i * n + n - i * n) = X := by rw [Nat.zero_add, show i * n + n - i * n = n by omega]; exact hrow
    repeat' first | refine s1 ?_ | refine q1 ?_ | (refine kR ?_; first | refine F.sil (A.slcS (lo := i * n) (hi' := i * n + n) rfl rfl (E_length _ _) (congrArg AV.i e1) (congrArg AV.i e2) (by omega) (by omega)) rfl rfl ?_ | refine F.aLN Int (oo := true) (ls2 := X) ?_ (hsrc := .view rfl (E_length _ _) (by rw [E_drop, E_take, hv]) (E_cell _ _)) | refine F.a1 (List Int) (a := X) ?_) | fail
    exact ⟨i + 1, F.fit ⟨rfl, rfl, trivial⟩ ⟨obE (by rw [hts]), trivial⟩, by omega, by omega⟩
  · obtain rfl : i = piv.length := by omega
    have e : SB.take piv.length = SB := List.take_of_length_le (by omega)
    rw [e]
    rw [← hSl]
    clear hp2 e
    repeat' first | refine s1 ?_ | refine q1 ?_ | fail
    (refine kZ ?_; exact F.ret rfl)
end Go.Proofs.YtedjajokbdokhaaGreat.V

/- Contracts: spans, images, valid spaces, sums of spaces, as the reference does them. -/
namespace Go.Proofs.YtedjajokbdokhaaGreat.V
open V.Enc (enc)
open Go.RowKit G D
set_option linter.unusedVariables false
set_option linter.unusedSimpArgs false
set_option maxHeartbeats 4000000
set_option maxRecDepth 4000
attribute [local irreducible] AW ARg ARA ARet MRet ASil AC AM

theorem l5Span_a (p : Int) (n : Nat) (l : List (List Int)) (hF : isF p = true) (hl : l.length ≤ 1000) (hn : n ≤ 1000) (hv : VecB p n l) : AC Tryz.prog 103 [.i p, .i (n : Int), ar false l] [.agg (enc true (⟨(n : Nat), spanL p n l⟩ : Spc))] := by
  refine AC.go Tryz.func103 Tryz.ntmps103 rfl rfl fun w0 hw => ?_; simp [WfL, WfA, E_length, Enc.enc, In64] at hw
  have hR := l5Rows_a n l hl hn hv.len
  have hB := l5Basis_a p l.length n (vecF l) hF hl hn hv.bd
  unfold spanL
  generalize spanB p l.length n (vecF l) = SB at hB ⊢
  generalize tm l.length n (vecF l) = T at hR hB
  repeat' first | refine s1 ?_ | refine q1 ?_ | (refine kR ?_; first | refine F.c (hR) ?_ | refine F.c (hB) ?_) | fail
  (refine kZ ?_; exact F.ret rfl)
theorem rowL_take {r k : Nat} (h : Nat → Int) (hk : k < r) : (rowL r h).take (k + 1) = (rowL r h).take k ++ [h k] := by
  simp only [rowL, ← List.map_take, range_take hk, List.map_append, List.map_cons, List.map_nil]
theorem l4Image_a (p : Int) (r c : Nat) (f : Nat → Nat → Int) (hF : isF p = true) (hr : r ≤ 1000) (hc : c ≤ 1000) (hb : BdF p r c f) : AC Tryz.prog 104 [.i p, .agg (enc false (tm r c f))] [.dt true 1 (E true (pivC r f (redK p r f c).2))] := by
  refine AC.go Tryz.func104 Tryz.ntmps104 rfl rfl fun w0 hw => ?_; simp [WfL, WfA, E_length, Enc.enc, In64] at hw
  have h5 := isF_pos hF
  have hR := l4Reduce_a p r c f hF (by omega) (by omega) hb
  obtain ⟨b1, b2, b3, b4⟩ := redK_bd (p := p) (by omega) hb c
  generalize redK p r f c = R at hR b1 b2 b3 b4 ⊢
  obtain ⟨g, piv⟩ := R
  dsimp only at hR b1 b2 b3 b4 ⊢
  have hPl := pivC_len r f piv
  have hPt := fun i hi => pivC_take r f (piv := piv) (i := i) hi
  generalize pivC r f piv = PC at hPl hPt ⊢
  have hpl := ints_len piv
  have hpg := fun i hi => ints_get piv (i := i) hi
  generalize ints piv = PI at hR hpl hpg
  generalize tm r c g = G1 at hR
  repeat' first | refine s1 ?_ | refine q1 ?_ | (refine kR ?_; first | refine F.c (hR) ?_) | fail
  refine AW.open 7 1 (.inr rfl) ?_
  refine F.loop (σ := Nat) [7, 8, 9, 10, 18, 19, 20, 21, 22, 23, 24, 25, 26, 27, 28, 29, 30, 31, 32, 33, 34, 35, 36, 37, 38, 39, 40, 41, 42, 43, 44, 45, 46, 47, 48, 49, 50] (fun i => [(7, .sl 4 i 0 i), (8, .i i)]) (fun i => [(4, .live false 1 (E true (PC.take i)))]) (fun i => i ≤ piv.length) (fun i => piv.length - i) 0 ⟨rfl, rfl, trivial⟩ ⟨rfl, trivial⟩ (Nat.zero_le _) ?_
  rintro i i1
  have hp2 : (PC.take i).length = i := by rw [List.length_take]; omega
  by_cases hi : i < piv.length
  · have hts := hPt i hi
    have hg := hpg i hi
    have hq : piv.getD i default < c := b4 _ (by simp [hi])
    rw [show piv.getD i 0 = piv.getD i default from rfl] at hts
    generalize piv.getD i default = q at hts hg hq
    have hg' : PI.getD (0 + i) default = (q : Int) := by rw [Nat.zero_add]; exact hg
    have hXl := rowL_len r fun t => f t q
    have hXt := fun k hk => rowL_take (r := r) (k := k) (fun t => f t q) hk
    generalize (rowL r fun t => f t q) = X at hts hXl hXt
    repeat' first | refine s1 ?_ | refine q1 ?_ | fail
    refine AW.open 9 1 (.inr rfl) ?_
    refine F.loop (σ := Nat) [9, 10, 25, 26, 27, 28, 29, 30, 31, 32, 33, 34, 35, 36, 37, 38, 39, 40, 41, 42, 43, 44, 45, 46] (fun k => [(9, .sl 5 k 0 k), (10, .i k)]) (fun k => [(5, .live false 1 (E true (X.take k)))]) (fun k => k ≤ r) (fun k => r - k) 0 ⟨rfl, rfl, trivial⟩ ⟨rfl, trivial⟩ (Nat.zero_le _) ?_
    rintro k k1
    have hp3 : (X.take k).length = k := by rw [List.length_take]; omega
    by_cases hk : k < r
    · obtain ⟨t1, t2⟩ := tab_in (i := k) (j := q) (r := r) (c := c) hk hq (by omega) (by omega)
      have hxt := hXt k hk
      have e1 : (k : Int) * (c : Int) + PI.getD (0 + i) default = ((k * c + q : Nat) : Int) := by rw [hg']; push_cast; rfl
      have t3 : In64 ((k : Int) * (c : Int) + PI.getD (0 + i) default) := by rw [hg']; exact t2
      have hlt := tab_lt hk hq
      have hv : (tab r c f).getD (k * c + q) default = f k q := tab_get f hk hq
      repeat' first | refine s1 ?_ | refine q1 ?_ | fail
      refine AW.draw 15 G.mixed (by kernel_rfl) ?_
      refine dP 0 ?_
      refine dP 1 ?_
      first | refine dL 2 ?_ | refine dLQ 2 ?_
      refine dP 3 ?_
      refine dP 4 ?_
      first | refine dL 5 ?_ | refine dLQ 5 ?_
      refine dP 6 ?_
      refine dP 7 ?_
      refine dP 8 ?_
      first | refine dP 9 ?_ | refine dQ 9 ?_
      first | refine dL 10 ?_ | refine dLQ 10 ?_
      refine dP 11 ?_
      first | refine dP 12 ?_ | refine dP 12 ?_ (hs := by exact (A.idxF (k := k * c + q) rfl rfl e1 (by rw [tab_len]; exact hlt))) | refine dQ 12 ?_
      first | refine dL 13 ?_ | refine dLQ 13 ?_
      refine dO 14 true ?_
      refine s1 ?_
      refine ARg.nil (ATh.normal ?_)
      refine dO 15 false ?_
      first | refine s1 ?_ | refine F.a1 Int ?_
      refine ARg.nil (ATh.normal ?_)
      refine dP 16 ?_
      refine dN ?_
      repeat' first | refine s1 ?_ | refine q1 ?_ | fail
      exact ⟨k + 1, F.fit ⟨rfl, rfl, trivial⟩ ⟨obE (by rw [hxt, ← hv]), trivial⟩, by omega, by omega⟩
    · obtain rfl : k = r := by omega
      have e : X.take k = X := List.take_of_length_le (by omega)
      rw [e]
      rw [← hXl]
      clear hp3 e
      repeat' first | refine s1 ?_ | refine q1 ?_ | (refine kR ?_; first | refine F.a1 (List Int) (a := X) ?_) | fail
      exact ⟨i + 1, F.fit ⟨rfl, rfl, trivial⟩ ⟨obE (by rw [hts]), trivial⟩, by omega, by omega⟩
  · obtain rfl : i = piv.length := by omega
    have e : PC.take piv.length = PC := List.take_of_length_le (by omega)
    rw [e]
    rw [← hPl]
    clear hp2 e
    repeat' first | refine s1 ?_ | refine q1 ?_ | fail
    (refine kZ ?_; exact F.ret rfl)
end Go.Proofs.YtedjajokbdokhaaGreat.V

/- Contracts: valid spaces, sums of spaces. -/
namespace Go.Proofs.YtedjajokbdokhaaGreat.V
open V.Enc (enc)
open Go.RowKit G D
set_option linter.unusedVariables false
set_option linter.unusedSimpArgs false
set_option maxHeartbeats 4000000
set_option maxRecDepth 4000
attribute [local irreducible] AW ARg ARA ARet MRet ASil AC AM

def fineV (p n : Int) (l : List (List Int)) (i : Nat) : Bool := decide (((l.getD i default).length : Int) = n) && isVec p (l.getD i default)
theorem fineB_eq (p n : Int) (l : List (List Int)) : fineB p n l = ((List.range l.length).all (fineV p n l) && (isF p && decide (0 ≤ n ∧ n ≤ 8) && decide (l.length ≤ 16))) := by
  unfold fineB
  congr 1
  rw [Bool.eq_iff_iff, List.all_eq_true, List.all_eq_true]
  constructor
  · intro h i hi
    exact h _ (gm (by simpa using hi))
  · intro h x hx
    obtain ⟨i, hi, rfl⟩ := List.getElem_of_mem hx
    have := h i (by simpa using hi)
    have e : l.getD i default = l[i] := by simp [hi]
    unfold fineV at this
    rwa [e] at this
theorem l5Fine_a (p n : Int) (l : List (List Int)) : AC Tryz.prog 174 [.i p, .i n, ar false l] [.b (fineB p n l)] := by
  refine AC.go Tryz.func174 Tryz.ntmps174 rfl rfl fun w0 hw => ?_; simp [WfL, WfA, E_length, Enc.enc, In64] at hw
  rw [fineB_eq]
  repeat' first | refine s1 ?_ | refine q1 ?_ | fail
  refine F.loop (σ := Nat) [6, 7, 8, 9, 10, 11, 12, 13, 14, 15, 16, 17, 18, 19, 20, 21, 22, 23, 24, 25, 26, 27, 28, 29] (fun k => [(7, .i k)]) (fun _ => []) (fun k => k ≤ l.length ∧ ∀ j, j < k → fineV p n l j = true) (fun k => l.length - k) 0 ⟨rfl, trivial⟩ trivial ⟨Nat.zero_le _, fun j hj => by omega⟩ ?_
  rintro k ⟨h1, h2⟩
  by_cases hlt : k < l.length
  · have hV := specIsVector_a p (l.getD k default)
    have hfv : fineV p n l k = (decide (((l.getD k default).length : Int) = n) && isVec p (l.getD k default)) := rfl
    by_cases hl : ((l.getD k default).length : Int) = n
    · rw [decide_eq_true hl] at hfv
      cases hm : isVec p (l.getD k default) with
      | false =>
        rw [hm] at hV
        rw [hm] at hfv
        repeat' first | refine s1 ?_ | refine q1 ?_ | (refine kR ?_; first | refine F.c (hV) ?_) | fail
        refine F.ret ?_
        rw [all_no hlt hfv]; rfl
      | true =>
        rw [hm] at hV
        rw [hm] at hfv
        repeat' first | refine s1 ?_ | refine q1 ?_ | (refine kR ?_; first | refine F.c (hV) ?_) | fail
        exact ⟨k + 1, F.fit ⟨rfl, trivial⟩ trivial, ⟨by omega, snocP h2 hfv⟩, by omega⟩
    · rw [decide_eq_false hl] at hfv
      repeat' first | refine s1 ?_ | refine q1 ?_ | (refine kR ?_; first | refine F.c (hV) ?_) | fail
      refine F.ret ?_
      rw [all_no hlt hfv]; rfl
  · obtain rfl : k = l.length := by omega
    have hF := specIsField_a p
    have hI := l1In_a n 0 8
    rw [all_yes h2, Bool.true_and]
    cases hf : isF p with
    | false =>
      rw [hf] at hF
      repeat' first | refine s1 ?_ | refine q1 ?_ | (refine kR ?_; first | refine F.c (hF) ?_) | fail
      (refine kZ ?_; exact F.ret rfl)
    | true =>
      rw [hf] at hF
      by_cases hn : 0 ≤ n ∧ n ≤ 8
      · rw [decide_eq_true hn] at hI ⊢
        repeat' first | refine s1 ?_ | refine q1 ?_ | (refine kR ?_; first | refine F.c (hF) ?_ | refine F.c (hI) ?_) | fail
        refine F.ret ?_
        simp
        omega
      · rw [decide_eq_false hn] at hI ⊢
        repeat' first | refine s1 ?_ | refine q1 ?_ | (refine kR ?_; first | refine F.c (hF) ?_ | refine F.c (hI) ?_) | fail
        (refine kZ ?_; exact F.ret rfl)
theorem ext_getD {α : Type} [Inhabited α] {x y : List α} (hl : x.length = y.length) (h : ∀ j, j < x.length → x.getD j default = y.getD j default) : x = y := by
  apply List.ext_getElem hl
  intro i h1 h2
  have := h i h1
  simpa [h1, h2] using this
theorem l5Same_a (x y : List (List Int)) (hx : ∀ i, i < x.length → (x.getD i default).length ≤ 1000000) : AC Tryz.prog 157 [ar false x, ar false y] [.b (decide (x = y))] := by
  refine AC.go Tryz.func157 Tryz.ntmps157 rfl rfl fun w0 hw => ?_; simp [WfL, WfA, E_length, Enc.enc, In64] at hw
  by_cases hl : x.length = y.length
  · repeat' first | refine s1 ?_ | refine q1 ?_ | fail
    refine F.loop (σ := Nat) [4, 5, 6, 12, 13, 14, 15, 16, 17, 18, 19, 20, 21, 22, 23, 24, 25, 26, 27, 28, 29, 30, 31, 32, 33, 34, 35, 36, 37, 38, 39, 40, 41, 42, 43, 44, 45, 46, 47, 48, 49, 50, 51, 52] (fun i => [(5, .i i)]) (fun _ => []) (fun i => i ≤ x.length ∧ ∀ j, j < i → x.getD j default = y.getD j default) (fun i => x.length - i) 0 ⟨rfl, trivial⟩ trivial ⟨Nat.zero_le _, fun j hj => by omega⟩ ?_
    rintro i ⟨h1, h2⟩
    by_cases hi : i < x.length
    · have hxi := hx i hi
      by_cases hl2 : (x.getD i default).length = (y.getD i default).length
      · repeat' first | refine s1 ?_ | refine q1 ?_ | fail
        refine AW.draw 11 G.mixed (by kernel_rfl) ?_
        refine dP 0 ?_
        refine dP 1 ?_
        first | refine dP 2 ?_ | refine dQ 2 ?_
        first | refine dL 3 ?_ | refine dLQ 3 ?_
        refine dP 4 ?_
        refine dP 5 ?_
        refine dP 6 ?_
        first | refine dP 7 ?_ | refine dQ 7 ?_
        first | refine dL 8 ?_ | refine dLQ 8 ?_
        refine dP 9 ?_
        refine dP 10 ?_
        refine dN ?_
        repeat' first | refine s1 ?_ | refine q1 ?_ | fail
        refine F.loop (σ := Nat) [4, 6, 29, 30, 31, 32, 33, 34, 35, 36, 37, 38, 39, 40, 41, 42, 43, 44, 45, 46, 47, 48, 49, 50, 51, 52] (fun k => [(6, .i k)]) (fun _ => []) (fun k => k ≤ (x.getD i default).length ∧ ∀ j, j < k → (x.getD i default).getD j default = (y.getD i default).getD j default) (fun k => (x.getD i default).length - k) 0 ⟨rfl, trivial⟩ trivial ⟨Nat.zero_le _, fun j hj => by omega⟩ ?_
        rintro k ⟨k1, k2⟩
        by_cases hk : k < (x.getD i default).length
        · by_cases he : (x.getD i default).getD k default = (y.getD i default).getD k default
          · repeat' first | refine s1 ?_ | refine q1 ?_ | fail
            refine AW.draw 15 G.mixed (by kernel_rfl) ?_
            refine dP 0 ?_
            refine dP 1 ?_
            first | refine dP 2 ?_ | refine dQ 2 ?_
            first | refine dL 3 ?_ | refine dLQ 3 ?_
            refine dP 4 ?_
            first | refine dP 5 ?_ | refine dQ 5 ?_
            first | refine dL 6 ?_ | refine dLQ 6 ?_
            refine dP 7 ?_
            refine dP 8 ?_
            first | refine dP 9 ?_ | refine dQ 9 ?_
            first | refine dL 10 ?_ | refine dLQ 10 ?_
            refine dP 11 ?_
            first | refine dP 12 ?_ | refine dQ 12 ?_
            first | refine dL 13 ?_ | refine dLQ 13 ?_
            refine dP 14 ?_
            refine dN ?_
            repeat' first | refine s1 ?_ | refine q1 ?_ | fail
            exact ⟨k + 1, F.fit ⟨rfl, trivial⟩ trivial, ⟨by omega, snocP k2 he⟩, by omega⟩
          · repeat' first | refine s1 ?_ | refine q1 ?_ | fail
            refine AW.draw 15 G.mixed (by kernel_rfl) ?_
            refine dP 0 ?_
            refine dP 1 ?_
            first | refine dP 2 ?_ | refine dQ 2 ?_
            first | refine dL 3 ?_ | refine dLQ 3 ?_
            refine dP 4 ?_
            first | refine dP 5 ?_ | refine dQ 5 ?_
            first | refine dL 6 ?_ | refine dLQ 6 ?_
            refine dP 7 ?_
            refine dP 8 ?_
            first | refine dP 9 ?_ | refine dQ 9 ?_
            first | refine dL 10 ?_ | refine dLQ 10 ?_
            refine dP 11 ?_
            first | refine dP 12 ?_ | refine dQ 12 ?_
            first | refine dL 13 ?_ | refine dLQ 13 ?_
            refine dP 14 ?_
            refine dN ?_
            repeat' first | refine s1 ?_ | refine q1 ?_ | fail
            refine F.ret ?_
            rw [decide_eq_false]
            rintro rfl
            exact he rfl
        · have hxy := ext_getD hl2 (fun j hj => k2 j (by omega))
          repeat' first | refine s1 ?_ | refine q1 ?_ | fail
          exact ⟨i + 1, F.fit ⟨rfl, trivial⟩ trivial, ⟨by omega, snocP h2 hxy⟩, by omega⟩
      · repeat' first | refine s1 ?_ | refine q1 ?_ | fail
        refine AW.draw 11 G.mixed (by kernel_rfl) ?_
        refine dP 0 ?_
        refine dP 1 ?_
        first | refine dP 2 ?_ | refine dQ 2 ?_
        first | refine dL 3 ?_ | refine dLQ 3 ?_
        refine dP 4 ?_
        refine dP 5 ?_
        refine dP 6 ?_
        first | refine dP 7 ?_ | refine dQ 7 ?_
        first | refine dL 8 ?_ | refine dLQ 8 ?_
        refine dP 9 ?_
        refine dP 10 ?_
        refine dN ?_
        repeat' first | refine s1 ?_ | refine q1 ?_ | fail
        refine F.ret ?_
        rw [decide_eq_false]
        rintro rfl
        exact hl2 rfl
    · repeat' first | refine s1 ?_ | refine q1 ?_ | fail
      refine F.ret ?_
      rw [decide_eq_true (ext_getD hl fun j hj => h2 j (by omega))]
  · repeat' first | refine s1 ?_ | refine q1 ?_ | fail
    refine F.ret ?_
    rw [decide_eq_false]
    rintro rfl
    exact hl rfl
theorem specIsSpace_a (p : Int) (s : Spc) : AC Tryz.prog 121 [.i p, .agg (enc false s)] [.b (isSpc p s)] := by
  refine AC.go Tryz.func121 Tryz.ntmps121 rfl rfl fun w0 hw => ?_; simp [WfL, WfA, E_length, Enc.enc, In64] at hw
  have hF := l5Fine_a p s.n s.b
  unfold isSpc
  cases hf : fineB p s.n s.b with
  | false =>
    rw [hf] at hF
    repeat' first | refine s1 ?_ | refine q1 ?_ | (refine kR ?_; first | refine F.c (hF) ?_) | fail
    (refine kZ ?_; exact F.ret rfl)
  | true =>
    rw [hf] at hF
    obtain ⟨h1, h2, h3, h4⟩ := fineB_spec hf
    have hR := l5Rows_a s.n.toNat s.b (by omega) (by omega) h4.len
    have hB := l5Basis_a p s.b.length s.n.toNat (vecF s.b) h1 (by omega) (by omega) h4.bd
    rw [show spanB p s.b.length s.n.toNat (vecF s.b) = spanL p s.n.toNat s.b from rfl] at hB
    have h5 := isF_pos h1
    have hS := l5Same_a (spanL p s.n.toNat s.b) s.b (fun i hi => by
      have h := (spanB_vec (show 0 < p by omega) h4.bd).len i hi
      unfold spanL
      omega)
    rw [Int.toNat_of_nonneg h2.1] at hR
    rw [Bool.true_and]
    generalize spanL p s.n.toNat s.b = SL at hB hS ⊢
    generalize tm s.b.length s.n.toNat (vecF s.b) = T at hR hB
    repeat' first | refine s1 ?_ | refine q1 ?_ | (refine kR ?_; first | refine F.c (hF) ?_) | fail
    refine AW.draw 11 G.mixed (by kernel_rfl) ?_
    refine dP 0 ?_
    refine dP 1 ?_
    first | refine dL 2 ?_ | refine dLQ 2 ?_
    refine dP 3 ?_
    first | refine dL 4 ?_ | refine dLQ 4 ?_
    refine dP 7 ?_
    first | refine dL 8 ?_ | refine dLQ 8 ?_
    refine dO 5 true ?_
    first | refine s1 ?_ | refine F.c (hR) ?_ | refine F.c (hB) ?_ | refine F.c (hS) ?_
    refine ARg.nil (ATh.normal ?_)
    refine dO 6 true ?_
    first | refine s1 ?_ | refine F.c (hR) ?_ | refine F.c (hB) ?_ | refine F.c (hS) ?_
    refine ARg.nil (ATh.normal ?_)
    refine dO 9 true ?_
    first | refine s1 ?_ | refine F.c (hR) ?_ | refine F.c (hB) ?_ | refine F.c (hS) ?_
    refine ARg.nil (ATh.normal ?_)
    refine dP 10 ?_
    refine dN ?_
    repeat' first | refine s1 ?_ | refine q1 ?_ | fail
    (refine kZ ?_; exact F.ret rfl)
end Go.Proofs.YtedjajokbdokhaaGreat.V

/- Contracts: sums of spaces, as the reference does them. -/
namespace Go.Proofs.YtedjajokbdokhaaGreat.V
open V.Enc (enc)
open Go.RowKit G D
set_option linter.unusedVariables false
set_option linter.unusedSimpArgs false
set_option maxHeartbeats 4000000
set_option maxRecDepth 4000
attribute [local irreducible] AW ARg ARA ARet MRet ASil AC AM

theorem addSpaces_a (p : Int) (a b : Spc) (ha : isSpc p a = true) (hb : isSpc p b = true) (hn : b.n = a.n) : AC Tryz.prog 69 [.i p, .agg (enc false a), .agg (enc false b)] [.agg (enc true (addS p a b)), .b true] := by
  refine AC.go Tryz.func69 Tryz.ntmps69 rfl rfl fun w0 hw => ?_; simp [WfL, WfA, E_length, Enc.enc, In64] at hw
  have hA := specIsSpace_a p a
  have hB := specIsSpace_a p b
  rw [ha] at hA
  rw [hb] at hB
  obtain ⟨h1, h2, h3, h4⟩ := isSpc_spec ha
  obtain ⟨_, _, g3, g4⟩ := isSpc_spec hb
  rw [hn] at g4
  have hS := l5Span_a p a.n.toNat (a.b ++ b.b) h1 (by rw [List.length_append]; omega) (by omega) (h4.app g4)
  rw [Int.toNat_of_nonneg h2.1] at hS
  rw [show (⟨a.n, spanL p a.n.toNat (a.b ++ b.b)⟩ : Spc) = addS p a b from rfl] at hS
  generalize addS p a b = SS' at hS ⊢
  repeat' first | refine s1 ?_ | refine q1 ?_ | (refine kR ?_; first | refine F.c (hA) ?_ | refine F.c (hB) ?_) | fail
  refine AW.draw 2 G.mixed (by kernel_rfl) ?_
  refine dP 0 ?_
  refine dP 1 ?_
  refine dP 4 ?_
  refine dP 7 ?_
  refine ARA.any [2, 3, 5, 8] (by kernel_rfl) (by simp) ?_
  intro k hk
  simp only [List.mem_cons, List.not_mem_nil, or_false] at hk
  rcases hk with rfl | rfl | rfl | rfl
  refine ⟨_, true, rfl, rfl, ?_⟩
  first | refine s1 ?_ | refine q1 ?_
  refine ARg.nil (ATh.normal ?_)
  refine ARA.any [3, 5, 8] (by kernel_rfl) (by simp) ?_
  intro k hk
  simp only [List.mem_cons, List.not_mem_nil, or_false] at hk
  rcases hk with rfl | rfl | rfl
  refine ⟨_, true, rfl, rfl, ?_⟩
  refine s1 ?_
  refine ARg.nil (ATh.normal ?_)
  refine ARA.any [5, 8] (by kernel_rfl) (by simp) ?_
  intro k hk
  simp only [List.mem_cons, List.not_mem_nil, or_false] at hk
  rcases hk with rfl | rfl
  refine ⟨_, true, rfl, rfl, ?_⟩
  first | refine s1 ?_ | refine q1 ?_
  refine ARg.nil (ATh.normal ?_)
  refine ARA.any [6, 8] (by kernel_rfl) (by simp) ?_
  intro k hk
  simp only [List.mem_cons, List.not_mem_nil, or_false] at hk
  rcases hk with rfl | rfl
  refine ⟨_, false, rfl, rfl, ?_⟩
  first | refine s1 ?_ | refine F.aLN (List Int) (oo := false) ?_
  refine ARg.nil (ATh.normal ?_)
  refine dO 8 true ?_
  first | refine s1 ?_ | refine q1 ?_
  refine ARg.nil (ATh.normal ?_)
  refine dO 9 false ?_
  first | refine s1 ?_ | refine F.aL (List Int) (oo := false) ?_
  refine ARg.nil (ATh.normal ?_)
  refine dO 10 false ?_
  first | refine s1 ?_ | refine F.c (hS) ?_
  refine ARg.nil (ATh.normal ?_)
  refine dO 11 false ?_
  first | refine s1 ?_ | refine q1 ?_
  refine ARg.nil (ATh.normal ?_)
  refine dP 12 ?_
  refine dN ?_
  rotate_left
  refine ⟨_, true, rfl, rfl, ?_⟩
  first | refine s1 ?_ | refine q1 ?_
  refine ARg.nil (ATh.normal ?_)
  refine dO 6 false ?_
  first | refine s1 ?_ | refine F.aLN (List Int) (oo := false) ?_
  refine ARg.nil (ATh.normal ?_)
  refine dO 9 false ?_
  first | refine s1 ?_ | refine F.aL (List Int) (oo := false) ?_
  refine ARg.nil (ATh.normal ?_)
  refine dO 10 false ?_
  first | refine s1 ?_ | refine F.c (hS) ?_
  refine ARg.nil (ATh.normal ?_)
  refine dO 11 false ?_
  first | refine s1 ?_ | refine q1 ?_
  refine ARg.nil (ATh.normal ?_)
  refine dP 12 ?_
  refine dN ?_
  rotate_left
  refine ⟨_, true, rfl, rfl, ?_⟩
  first | refine s1 ?_ | refine q1 ?_
  refine ARg.nil (ATh.normal ?_)
  refine dO 5 true ?_
  first | refine s1 ?_ | refine q1 ?_
  refine ARg.nil (ATh.normal ?_)
  refine dO 6 false ?_
  first | refine s1 ?_ | refine F.aLN (List Int) (oo := false) ?_
  refine ARg.nil (ATh.normal ?_)
  refine dO 9 false ?_
  first | refine s1 ?_ | refine F.aL (List Int) (oo := false) ?_
  refine ARg.nil (ATh.normal ?_)
  refine dO 10 false ?_
  first | refine s1 ?_ | refine F.c (hS) ?_
  refine ARg.nil (ATh.normal ?_)
  refine dO 11 false ?_
  first | refine s1 ?_ | refine q1 ?_
  refine ARg.nil (ATh.normal ?_)
  refine dP 12 ?_
  refine dN ?_
  rotate_left
  refine ⟨_, true, rfl, rfl, ?_⟩
  first | refine s1 ?_ | refine q1 ?_
  refine ARg.nil (ATh.normal ?_)
  refine ARA.any [3, 8] (by kernel_rfl) (by simp) ?_
  intro k hk
  simp only [List.mem_cons, List.not_mem_nil, or_false] at hk
  rcases hk with rfl | rfl
  refine ⟨_, true, rfl, rfl, ?_⟩
  refine s1 ?_
  refine ARg.nil (ATh.normal ?_)
  refine ARA.any [6, 8] (by kernel_rfl) (by simp) ?_
  intro k hk
  simp only [List.mem_cons, List.not_mem_nil, or_false] at hk
  rcases hk with rfl | rfl
  refine ⟨_, false, rfl, rfl, ?_⟩
  first | refine s1 ?_ | refine F.aLN (List Int) (oo := false) ?_
  refine ARg.nil (ATh.normal ?_)
  refine dO 8 true ?_
  first | refine s1 ?_ | refine q1 ?_
  refine ARg.nil (ATh.normal ?_)
  refine dO 9 false ?_
  first | refine s1 ?_ | refine F.aL (List Int) (oo := false) ?_
  refine ARg.nil (ATh.normal ?_)
  refine dO 10 false ?_
  first | refine s1 ?_ | refine F.c (hS) ?_
  refine ARg.nil (ATh.normal ?_)
  refine dO 11 false ?_
  first | refine s1 ?_ | refine q1 ?_
  refine ARg.nil (ATh.normal ?_)
  refine dP 12 ?_
  refine dN ?_
  rotate_left
  refine ⟨_, true, rfl, rfl, ?_⟩
  first | refine s1 ?_ | refine q1 ?_
  refine ARg.nil (ATh.normal ?_)
  refine dO 6 false ?_
  first | refine s1 ?_ | refine F.aLN (List Int) (oo := false) ?_
  refine ARg.nil (ATh.normal ?_)
  refine dO 9 false ?_
  first | refine s1 ?_ | refine F.aL (List Int) (oo := false) ?_
  refine ARg.nil (ATh.normal ?_)
  refine dO 10 false ?_
  first | refine s1 ?_ | refine F.c (hS) ?_
  refine ARg.nil (ATh.normal ?_)
  refine dO 11 false ?_
  first | refine s1 ?_ | refine q1 ?_
  refine ARg.nil (ATh.normal ?_)
  refine dP 12 ?_
  refine dN ?_
  rotate_left
  refine ⟨_, true, rfl, rfl, ?_⟩
  first | refine s1 ?_ | refine q1 ?_
  refine ARg.nil (ATh.normal ?_)
  refine dO 3 true ?_
  refine s1 ?_
  refine ARg.nil (ATh.normal ?_)
  refine dO 6 false ?_
  first | refine s1 ?_ | refine F.aLN (List Int) (oo := false) ?_
  refine ARg.nil (ATh.normal ?_)
  refine dO 9 false ?_
  first | refine s1 ?_ | refine F.aL (List Int) (oo := false) ?_
  refine ARg.nil (ATh.normal ?_)
  refine dO 10 false ?_
  first | refine s1 ?_ | refine F.c (hS) ?_
  refine ARg.nil (ATh.normal ?_)
  refine dO 11 false ?_
  first | refine s1 ?_ | refine q1 ?_
  refine ARg.nil (ATh.normal ?_)
  refine dP 12 ?_
  refine dN ?_
  rotate_left
  refine ⟨_, true, rfl, rfl, ?_⟩
  first | refine s1 ?_ | refine q1 ?_
  refine ARg.nil (ATh.normal ?_)
  refine ARA.any [3, 5] (by kernel_rfl) (by simp) ?_
  intro k hk
  simp only [List.mem_cons, List.not_mem_nil, or_false] at hk
  rcases hk with rfl | rfl
  refine ⟨_, true, rfl, rfl, ?_⟩
  refine s1 ?_
  refine ARg.nil (ATh.normal ?_)
  refine dO 5 true ?_
  first | refine s1 ?_ | refine q1 ?_
  refine ARg.nil (ATh.normal ?_)
  refine dO 6 false ?_
  first | refine s1 ?_ | refine F.aLN (List Int) (oo := false) ?_
  refine ARg.nil (ATh.normal ?_)
  refine dO 9 false ?_
  first | refine s1 ?_ | refine F.aL (List Int) (oo := false) ?_
  refine ARg.nil (ATh.normal ?_)
  refine dO 10 false ?_
  first | refine s1 ?_ | refine F.c (hS) ?_
  refine ARg.nil (ATh.normal ?_)
  refine dO 11 false ?_
  first | refine s1 ?_ | refine q1 ?_
  refine ARg.nil (ATh.normal ?_)
  refine dP 12 ?_
  refine dN ?_
  rotate_left
  refine ⟨_, true, rfl, rfl, ?_⟩
  first | refine s1 ?_ | refine q1 ?_
  refine ARg.nil (ATh.normal ?_)
  refine dO 3 true ?_
  refine s1 ?_
  refine ARg.nil (ATh.normal ?_)
  refine dO 6 false ?_
  first | refine s1 ?_ | refine F.aLN (List Int) (oo := false) ?_
  refine ARg.nil (ATh.normal ?_)
  refine dO 9 false ?_
  first | refine s1 ?_ | refine F.aL (List Int) (oo := false) ?_
  refine ARg.nil (ATh.normal ?_)
  refine dO 10 false ?_
  first | refine s1 ?_ | refine F.c (hS) ?_
  refine ARg.nil (ATh.normal ?_)
  refine dO 11 false ?_
  first | refine s1 ?_ | refine q1 ?_
  refine ARg.nil (ATh.normal ?_)
  refine dP 12 ?_
  refine dN ?_
  rotate_left
  refine ⟨_, true, rfl, rfl, ?_⟩
  refine s1 ?_
  refine ARg.nil (ATh.normal ?_)
  refine ARA.any [2, 5, 8] (by kernel_rfl) (by simp) ?_
  intro k hk
  simp only [List.mem_cons, List.not_mem_nil, or_false] at hk
  rcases hk with rfl | rfl | rfl
  refine ⟨_, true, rfl, rfl, ?_⟩
  first | refine s1 ?_ | refine q1 ?_
  refine ARg.nil (ATh.normal ?_)
  refine ARA.any [5, 8] (by kernel_rfl) (by simp) ?_
  intro k hk
  simp only [List.mem_cons, List.not_mem_nil, or_false] at hk
  rcases hk with rfl | rfl
  refine ⟨_, true, rfl, rfl, ?_⟩
  first | refine s1 ?_ | refine q1 ?_
  refine ARg.nil (ATh.normal ?_)
  refine ARA.any [6, 8] (by kernel_rfl) (by simp) ?_
  intro k hk
  simp only [List.mem_cons, List.not_mem_nil, or_false] at hk
  rcases hk with rfl | rfl
  refine ⟨_, false, rfl, rfl, ?_⟩
  first | refine s1 ?_ | refine F.aLN (List Int) (oo := false) ?_
  refine ARg.nil (ATh.normal ?_)
  refine dO 8 true ?_
  first | refine s1 ?_ | refine q1 ?_
  refine ARg.nil (ATh.normal ?_)
  refine dO 9 false ?_
  first | refine s1 ?_ | refine F.aL (List Int) (oo := false) ?_
  refine ARg.nil (ATh.normal ?_)
  refine dO 10 false ?_
  first | refine s1 ?_ | refine F.c (hS) ?_
  refine ARg.nil (ATh.normal ?_)
  refine dO 11 false ?_
  first | refine s1 ?_ | refine q1 ?_
  refine ARg.nil (ATh.normal ?_)
  refine dP 12 ?_
  refine dN ?_
  rotate_left
  refine ⟨_, true, rfl, rfl, ?_⟩
  first | refine s1 ?_ | refine q1 ?_
  refine ARg.nil (ATh.normal ?_)
  refine dO 6 false ?_
  first | refine s1 ?_ | refine F.aLN (List Int) (oo := false) ?_
  refine ARg.nil (ATh.normal ?_)
  refine dO 9 false ?_
  first | refine s1 ?_ | refine F.aL (List Int) (oo := false) ?_
  refine ARg.nil (ATh.normal ?_)
  refine dO 10 false ?_
  first | refine s1 ?_ | refine F.c (hS) ?_
  refine ARg.nil (ATh.normal ?_)
  refine dO 11 false ?_
  first | refine s1 ?_ | refine q1 ?_
  refine ARg.nil (ATh.normal ?_)
  refine dP 12 ?_
  refine dN ?_
  rotate_left
  refine ⟨_, true, rfl, rfl, ?_⟩
  first | refine s1 ?_ | refine q1 ?_
  refine ARg.nil (ATh.normal ?_)
  refine dO 5 true ?_
  first | refine s1 ?_ | refine q1 ?_
  refine ARg.nil (ATh.normal ?_)
  refine dO 6 false ?_
  first | refine s1 ?_ | refine F.aLN (List Int) (oo := false) ?_
  refine ARg.nil (ATh.normal ?_)
  refine dO 9 false ?_
  first | refine s1 ?_ | refine F.aL (List Int) (oo := false) ?_
  refine ARg.nil (ATh.normal ?_)
  refine dO 10 false ?_
  first | refine s1 ?_ | refine F.c (hS) ?_
  refine ARg.nil (ATh.normal ?_)
  refine dO 11 false ?_
  first | refine s1 ?_ | refine q1 ?_
  refine ARg.nil (ATh.normal ?_)
  refine dP 12 ?_
  refine dN ?_
  rotate_left
  refine ⟨_, true, rfl, rfl, ?_⟩
  first | refine s1 ?_ | refine q1 ?_
  refine ARg.nil (ATh.normal ?_)
  refine ARA.any [2, 6, 8] (by kernel_rfl) (by simp) ?_
  intro k hk
  simp only [List.mem_cons, List.not_mem_nil, or_false] at hk
  rcases hk with rfl | rfl | rfl
  refine ⟨_, true, rfl, rfl, ?_⟩
  first | refine s1 ?_ | refine q1 ?_
  refine ARg.nil (ATh.normal ?_)
  refine ARA.any [6, 8] (by kernel_rfl) (by simp) ?_
  intro k hk
  simp only [List.mem_cons, List.not_mem_nil, or_false] at hk
  rcases hk with rfl | rfl
  refine ⟨_, false, rfl, rfl, ?_⟩
  first | refine s1 ?_ | refine F.aLN (List Int) (oo := false) ?_
  refine ARg.nil (ATh.normal ?_)
  refine dO 8 true ?_
  first | refine s1 ?_ | refine q1 ?_
  refine ARg.nil (ATh.normal ?_)
  refine dO 9 false ?_
  first | refine s1 ?_ | refine F.aL (List Int) (oo := false) ?_
  refine ARg.nil (ATh.normal ?_)
  refine dO 10 false ?_
  first | refine s1 ?_ | refine F.c (hS) ?_
  refine ARg.nil (ATh.normal ?_)
  refine dO 11 false ?_
  first | refine s1 ?_ | refine q1 ?_
  refine ARg.nil (ATh.normal ?_)
  refine dP 12 ?_
  refine dN ?_
  rotate_left
  refine ⟨_, true, rfl, rfl, ?_⟩
  first | refine s1 ?_ | refine q1 ?_
  refine ARg.nil (ATh.normal ?_)
  refine dO 6 false ?_
  first | refine s1 ?_ | refine F.aLN (List Int) (oo := false) ?_
  refine ARg.nil (ATh.normal ?_)
  refine dO 9 false ?_
  first | refine s1 ?_ | refine F.aL (List Int) (oo := false) ?_
  refine ARg.nil (ATh.normal ?_)
  refine dO 10 false ?_
  first | refine s1 ?_ | refine F.c (hS) ?_
  refine ARg.nil (ATh.normal ?_)
  refine dO 11 false ?_
  first | refine s1 ?_ | refine q1 ?_
  refine ARg.nil (ATh.normal ?_)
  refine dP 12 ?_
  refine dN ?_
  rotate_left
  refine ⟨_, false, rfl, rfl, ?_⟩
  first | refine s1 ?_ | refine F.aLN (List Int) (oo := false) ?_
  refine ARg.nil (ATh.normal ?_)
  refine ARA.any [2, 8] (by kernel_rfl) (by simp) ?_
  intro k hk
  simp only [List.mem_cons, List.not_mem_nil, or_false] at hk
  rcases hk with rfl | rfl
  refine ⟨_, true, rfl, rfl, ?_⟩
  first | refine s1 ?_ | refine q1 ?_
  refine ARg.nil (ATh.normal ?_)
  refine dO 8 true ?_
  first | refine s1 ?_ | refine q1 ?_
  refine ARg.nil (ATh.normal ?_)
  refine dO 9 false ?_
  first | refine s1 ?_ | refine F.aL (List Int) (oo := false) ?_
  refine ARg.nil (ATh.normal ?_)
  refine dO 10 false ?_
  first | refine s1 ?_ | refine F.c (hS) ?_
  refine ARg.nil (ATh.normal ?_)
  refine dO 11 false ?_
  first | refine s1 ?_ | refine q1 ?_
  refine ARg.nil (ATh.normal ?_)
  refine dP 12 ?_
  refine dN ?_
  rotate_left
  refine ⟨_, true, rfl, rfl, ?_⟩
  first | refine s1 ?_ | refine q1 ?_
  refine ARg.nil (ATh.normal ?_)
  refine ARA.any [2, 9] (by kernel_rfl) (by simp) ?_
  intro k hk
  simp only [List.mem_cons, List.not_mem_nil, or_false] at hk
  rcases hk with rfl | rfl
  refine ⟨_, true, rfl, rfl, ?_⟩
  first | refine s1 ?_ | refine q1 ?_
  refine ARg.nil (ATh.normal ?_)
  refine dO 9 false ?_
  first | refine s1 ?_ | refine F.aL (List Int) (oo := false) ?_
  refine ARg.nil (ATh.normal ?_)
  refine dO 10 false ?_
  first | refine s1 ?_ | refine F.c (hS) ?_
  refine ARg.nil (ATh.normal ?_)
  refine dO 11 false ?_
  first | refine s1 ?_ | refine q1 ?_
  refine ARg.nil (ATh.normal ?_)
  refine dP 12 ?_
  refine dN ?_
  rotate_left
  refine ⟨_, false, rfl, rfl, ?_⟩
  first | refine s1 ?_ | refine F.aL (List Int) (oo := false) ?_
  refine ARg.nil (ATh.normal ?_)
  refine dO 2 true ?_
  first | refine s1 ?_ | refine q1 ?_
  refine ARg.nil (ATh.normal ?_)
  refine dO 10 false ?_
  first | refine s1 ?_ | refine F.c (hS) ?_
  refine ARg.nil (ATh.normal ?_)
  refine dO 11 false ?_
  first | refine s1 ?_ | refine q1 ?_
  refine ARg.nil (ATh.normal ?_)
  refine dP 12 ?_
  refine dN ?_
  rotate_left
  refine ⟨_, true, rfl, rfl, ?_⟩
  first | refine s1 ?_ | refine q1 ?_
  refine ARg.nil (ATh.normal ?_)
  refine ARA.any [2, 6] (by kernel_rfl) (by simp) ?_
  intro k hk
  simp only [List.mem_cons, List.not_mem_nil, or_false] at hk
  rcases hk with rfl | rfl
  refine ⟨_, true, rfl, rfl, ?_⟩
  first | refine s1 ?_ | refine q1 ?_
  refine ARg.nil (ATh.normal ?_)
  refine dO 6 false ?_
  first | refine s1 ?_ | refine F.aLN (List Int) (oo := false) ?_
  refine ARg.nil (ATh.normal ?_)
  refine dO 9 false ?_
  first | refine s1 ?_ | refine F.aL (List Int) (oo := false) ?_
  refine ARg.nil (ATh.normal ?_)
  refine dO 10 false ?_
  first | refine s1 ?_ | refine F.c (hS) ?_
  refine ARg.nil (ATh.normal ?_)
  refine dO 11 false ?_
  first | refine s1 ?_ | refine q1 ?_
  refine ARg.nil (ATh.normal ?_)
  refine dP 12 ?_
  refine dN ?_
  rotate_left
  refine ⟨_, false, rfl, rfl, ?_⟩
  first | refine s1 ?_ | refine F.aLN (List Int) (oo := false) ?_
  refine ARg.nil (ATh.normal ?_)
  refine ARA.any [2, 9] (by kernel_rfl) (by simp) ?_
  intro k hk
  simp only [List.mem_cons, List.not_mem_nil, or_false] at hk
  rcases hk with rfl | rfl
  refine ⟨_, true, rfl, rfl, ?_⟩
  first | refine s1 ?_ | refine q1 ?_
  refine ARg.nil (ATh.normal ?_)
  refine dO 9 false ?_
  first | refine s1 ?_ | refine F.aL (List Int) (oo := false) ?_
  refine ARg.nil (ATh.normal ?_)
  refine dO 10 false ?_
  first | refine s1 ?_ | refine F.c (hS) ?_
  refine ARg.nil (ATh.normal ?_)
  refine dO 11 false ?_
  first | refine s1 ?_ | refine q1 ?_
  refine ARg.nil (ATh.normal ?_)
  refine dP 12 ?_
  refine dN ?_
  rotate_left
  refine ⟨_, false, rfl, rfl, ?_⟩
  first | refine s1 ?_ | refine F.aL (List Int) (oo := false) ?_
  refine ARg.nil (ATh.normal ?_)
  refine dO 2 true ?_
  first | refine s1 ?_ | refine q1 ?_
  refine ARg.nil (ATh.normal ?_)
  refine dO 10 false ?_
  first | refine s1 ?_ | refine F.c (hS) ?_
  refine ARg.nil (ATh.normal ?_)
  refine dO 11 false ?_
  first | refine s1 ?_ | refine q1 ?_
  refine ARg.nil (ATh.normal ?_)
  refine dP 12 ?_
  refine dN ?_
  rotate_left
  refine ⟨_, true, rfl, rfl, ?_⟩
  first | refine s1 ?_ | refine q1 ?_
  refine ARg.nil (ATh.normal ?_)
  refine ARA.any [2, 5] (by kernel_rfl) (by simp) ?_
  intro k hk
  simp only [List.mem_cons, List.not_mem_nil, or_false] at hk
  rcases hk with rfl | rfl
  refine ⟨_, true, rfl, rfl, ?_⟩
  first | refine s1 ?_ | refine q1 ?_
  refine ARg.nil (ATh.normal ?_)
  refine dO 5 true ?_
  first | refine s1 ?_ | refine q1 ?_
  refine ARg.nil (ATh.normal ?_)
  refine dO 6 false ?_
  first | refine s1 ?_ | refine F.aLN (List Int) (oo := false) ?_
  refine ARg.nil (ATh.normal ?_)
  refine dO 9 false ?_
  first | refine s1 ?_ | refine F.aL (List Int) (oo := false) ?_
  refine ARg.nil (ATh.normal ?_)
  refine dO 10 false ?_
  first | refine s1 ?_ | refine F.c (hS) ?_
  refine ARg.nil (ATh.normal ?_)
  refine dO 11 false ?_
  first | refine s1 ?_ | refine q1 ?_
  refine ARg.nil (ATh.normal ?_)
  refine dP 12 ?_
  refine dN ?_
  rotate_left
  refine ⟨_, true, rfl, rfl, ?_⟩
  first | refine s1 ?_ | refine q1 ?_
  refine ARg.nil (ATh.normal ?_)
  refine ARA.any [2, 6] (by kernel_rfl) (by simp) ?_
  intro k hk
  simp only [List.mem_cons, List.not_mem_nil, or_false] at hk
  rcases hk with rfl | rfl
  refine ⟨_, true, rfl, rfl, ?_⟩
  first | refine s1 ?_ | refine q1 ?_
  refine ARg.nil (ATh.normal ?_)
  refine dO 6 false ?_
  first | refine s1 ?_ | refine F.aLN (List Int) (oo := false) ?_
  refine ARg.nil (ATh.normal ?_)
  refine dO 9 false ?_
  first | refine s1 ?_ | refine F.aL (List Int) (oo := false) ?_
  refine ARg.nil (ATh.normal ?_)
  refine dO 10 false ?_
  first | refine s1 ?_ | refine F.c (hS) ?_
  refine ARg.nil (ATh.normal ?_)
  refine dO 11 false ?_
  first | refine s1 ?_ | refine q1 ?_
  refine ARg.nil (ATh.normal ?_)
  refine dP 12 ?_
  refine dN ?_
  rotate_left
  refine ⟨_, false, rfl, rfl, ?_⟩
  first | refine s1 ?_ | refine F.aLN (List Int) (oo := false) ?_
  refine ARg.nil (ATh.normal ?_)
  refine ARA.any [2, 9] (by kernel_rfl) (by simp) ?_
  intro k hk
  simp only [List.mem_cons, List.not_mem_nil, or_false] at hk
  rcases hk with rfl | rfl
  refine ⟨_, true, rfl, rfl, ?_⟩
  first | refine s1 ?_ | refine q1 ?_
  refine ARg.nil (ATh.normal ?_)
  refine dO 9 false ?_
  first | refine s1 ?_ | refine F.aL (List Int) (oo := false) ?_
  refine ARg.nil (ATh.normal ?_)
  refine dO 10 false ?_
  first | refine s1 ?_ | refine F.c (hS) ?_
  refine ARg.nil (ATh.normal ?_)
  refine dO 11 false ?_
  first | refine s1 ?_ | refine q1 ?_
  refine ARg.nil (ATh.normal ?_)
  refine dP 12 ?_
  refine dN ?_
  rotate_left
  refine ⟨_, false, rfl, rfl, ?_⟩
  first | refine s1 ?_ | refine F.aL (List Int) (oo := false) ?_
  refine ARg.nil (ATh.normal ?_)
  refine dO 2 true ?_
  first | refine s1 ?_ | refine q1 ?_
  refine ARg.nil (ATh.normal ?_)
  refine dO 10 false ?_
  first | refine s1 ?_ | refine F.c (hS) ?_
  refine ARg.nil (ATh.normal ?_)
  refine dO 11 false ?_
  first | refine s1 ?_ | refine q1 ?_
  refine ARg.nil (ATh.normal ?_)
  refine dP 12 ?_
  refine dN ?_
  rotate_left
  refine ⟨_, true, rfl, rfl, ?_⟩
  first | refine s1 ?_ | refine q1 ?_
  refine ARg.nil (ATh.normal ?_)
  refine ARA.any [2, 3, 8] (by kernel_rfl) (by simp) ?_
  intro k hk
  simp only [List.mem_cons, List.not_mem_nil, or_false] at hk
  rcases hk with rfl | rfl | rfl
  refine ⟨_, true, rfl, rfl, ?_⟩
  first | refine s1 ?_ | refine q1 ?_
  refine ARg.nil (ATh.normal ?_)
  refine ARA.any [3, 8] (by kernel_rfl) (by simp) ?_
  intro k hk
  simp only [List.mem_cons, List.not_mem_nil, or_false] at hk
  rcases hk with rfl | rfl
  refine ⟨_, true, rfl, rfl, ?_⟩
  refine s1 ?_
  refine ARg.nil (ATh.normal ?_)
  refine ARA.any [6, 8] (by kernel_rfl) (by simp) ?_
  intro k hk
  simp only [List.mem_cons, List.not_mem_nil, or_false] at hk
  rcases hk with rfl | rfl
  refine ⟨_, false, rfl, rfl, ?_⟩
  first | refine s1 ?_ | refine F.aLN (List Int) (oo := false) ?_
  refine ARg.nil (ATh.normal ?_)
  refine dO 8 true ?_
  first | refine s1 ?_ | refine q1 ?_
  refine ARg.nil (ATh.normal ?_)
  refine dO 9 false ?_
  first | refine s1 ?_ | refine F.aL (List Int) (oo := false) ?_
  refine ARg.nil (ATh.normal ?_)
  refine dO 10 false ?_
  first | refine s1 ?_ | refine F.c (hS) ?_
  refine ARg.nil (ATh.normal ?_)
  refine dO 11 false ?_
  first | refine s1 ?_ | refine q1 ?_
  refine ARg.nil (ATh.normal ?_)
  refine dP 12 ?_
  refine dN ?_
  rotate_left
  refine ⟨_, true, rfl, rfl, ?_⟩
  first | refine s1 ?_ | refine q1 ?_
  refine ARg.nil (ATh.normal ?_)
  refine dO 6 false ?_
  first | refine s1 ?_ | refine F.aLN (List Int) (oo := false) ?_
  refine ARg.nil (ATh.normal ?_)
  refine dO 9 false ?_
  first | refine s1 ?_ | refine F.aL (List Int) (oo := false) ?_
  refine ARg.nil (ATh.normal ?_)
  refine dO 10 false ?_
  first | refine s1 ?_ | refine F.c (hS) ?_
  refine ARg.nil (ATh.normal ?_)
  refine dO 11 false ?_
  first | refine s1 ?_ | refine q1 ?_
  refine ARg.nil (ATh.normal ?_)
  refine dP 12 ?_
  refine dN ?_
  rotate_left
  refine ⟨_, true, rfl, rfl, ?_⟩
  first | refine s1 ?_ | refine q1 ?_
  refine ARg.nil (ATh.normal ?_)
  refine dO 3 true ?_
  refine s1 ?_
  refine ARg.nil (ATh.normal ?_)
  refine dO 6 false ?_
  first | refine s1 ?_ | refine F.aLN (List Int) (oo := false) ?_
  refine ARg.nil (ATh.normal ?_)
  refine dO 9 false ?_
  first | refine s1 ?_ | refine F.aL (List Int) (oo := false) ?_
  refine ARg.nil (ATh.normal ?_)
  refine dO 10 false ?_
  first | refine s1 ?_ | refine F.c (hS) ?_
  refine ARg.nil (ATh.normal ?_)
  refine dO 11 false ?_
  first | refine s1 ?_ | refine q1 ?_
  refine ARg.nil (ATh.normal ?_)
  refine dP 12 ?_
  refine dN ?_
  rotate_left
  refine ⟨_, true, rfl, rfl, ?_⟩
  refine s1 ?_
  refine ARg.nil (ATh.normal ?_)
  refine ARA.any [2, 6, 8] (by kernel_rfl) (by simp) ?_
  intro k hk
  simp only [List.mem_cons, List.not_mem_nil, or_false] at hk
  rcases hk with rfl | rfl | rfl
  refine ⟨_, true, rfl, rfl, ?_⟩
  first | refine s1 ?_ | refine q1 ?_
  refine ARg.nil (ATh.normal ?_)
  refine ARA.any [6, 8] (by kernel_rfl) (by simp) ?_
  intro k hk
  simp only [List.mem_cons, List.not_mem_nil, or_false] at hk
  rcases hk with rfl | rfl
  refine ⟨_, false, rfl, rfl, ?_⟩
  first | refine s1 ?_ | refine F.aLN (List Int) (oo := false) ?_
  refine ARg.nil (ATh.normal ?_)
  refine dO 8 true ?_
  first | refine s1 ?_ | refine q1 ?_
  refine ARg.nil (ATh.normal ?_)
  refine dO 9 false ?_
  first | refine s1 ?_ | refine F.aL (List Int) (oo := false) ?_
  refine ARg.nil (ATh.normal ?_)
  refine dO 10 false ?_
  first | refine s1 ?_ | refine F.c (hS) ?_
  refine ARg.nil (ATh.normal ?_)
  refine dO 11 false ?_
  first | refine s1 ?_ | refine q1 ?_
  refine ARg.nil (ATh.normal ?_)
  refine dP 12 ?_
  refine dN ?_
  rotate_left
  refine ⟨_, true, rfl, rfl, ?_⟩
  first | refine s1 ?_ | refine q1 ?_
  refine ARg.nil (ATh.normal ?_)
  refine dO 6 false ?_
  first | refine s1 ?_ | refine F.aLN (List Int) (oo := false) ?_
  refine ARg.nil (ATh.normal ?_)
  refine dO 9 false ?_
  first | refine s1 ?_ | refine F.aL (List Int) (oo := false) ?_
  refine ARg.nil (ATh.normal ?_)
  refine dO 10 false ?_
  first | refine s1 ?_ | refine F.c (hS) ?_
  refine ARg.nil (ATh.normal ?_)
  refine dO 11 false ?_
  first | refine s1 ?_ | refine q1 ?_
  refine ARg.nil (ATh.normal ?_)
  refine dP 12 ?_
  refine dN ?_
  rotate_left
  refine ⟨_, false, rfl, rfl, ?_⟩
  first | refine s1 ?_ | refine F.aLN (List Int) (oo := false) ?_
  refine ARg.nil (ATh.normal ?_)
  refine ARA.any [2, 8] (by kernel_rfl) (by simp) ?_
  intro k hk
  simp only [List.mem_cons, List.not_mem_nil, or_false] at hk
  rcases hk with rfl | rfl
  refine ⟨_, true, rfl, rfl, ?_⟩
  first | refine s1 ?_ | refine q1 ?_
  refine ARg.nil (ATh.normal ?_)
  refine dO 8 true ?_
  first | refine s1 ?_ | refine q1 ?_
  refine ARg.nil (ATh.normal ?_)
  refine dO 9 false ?_
  first | refine s1 ?_ | refine F.aL (List Int) (oo := false) ?_
  refine ARg.nil (ATh.normal ?_)
  refine dO 10 false ?_
  first | refine s1 ?_ | refine F.c (hS) ?_
  refine ARg.nil (ATh.normal ?_)
  refine dO 11 false ?_
  first | refine s1 ?_ | refine q1 ?_
  refine ARg.nil (ATh.normal ?_)
  refine dP 12 ?_
  refine dN ?_
  rotate_left
  refine ⟨_, true, rfl, rfl, ?_⟩
  first | refine s1 ?_ | refine q1 ?_
  refine ARg.nil (ATh.normal ?_)
  refine ARA.any [2, 9] (by kernel_rfl) (by simp) ?_
  intro k hk
  simp only [List.mem_cons, List.not_mem_nil, or_false] at hk
  rcases hk with rfl | rfl
  refine ⟨_, true, rfl, rfl, ?_⟩
  first | refine s1 ?_ | refine q1 ?_
  refine ARg.nil (ATh.normal ?_)
  refine dO 9 false ?_
  first | refine s1 ?_ | refine F.aL (List Int) (oo := false) ?_
  refine ARg.nil (ATh.normal ?_)
  refine dO 10 false ?_
  first | refine s1 ?_ | refine F.c (hS) ?_
  refine ARg.nil (ATh.normal ?_)
  refine dO 11 false ?_
  first | refine s1 ?_ | refine q1 ?_
  refine ARg.nil (ATh.normal ?_)
  refine dP 12 ?_
  refine dN ?_
  rotate_left
  refine ⟨_, false, rfl, rfl, ?_⟩
  first | refine s1 ?_ | refine F.aL (List Int) (oo := false) ?_
  refine ARg.nil (ATh.normal ?_)
  refine dO 2 true ?_
  first | refine s1 ?_ | refine q1 ?_
  refine ARg.nil (ATh.normal ?_)
  refine dO 10 false ?_
  first | refine s1 ?_ | refine F.c (hS) ?_
  refine ARg.nil (ATh.normal ?_)
  refine dO 11 false ?_
  first | refine s1 ?_ | refine q1 ?_
  refine ARg.nil (ATh.normal ?_)
  refine dP 12 ?_
  refine dN ?_
  rotate_left
  refine ⟨_, true, rfl, rfl, ?_⟩
  first | refine s1 ?_ | refine q1 ?_
  refine ARg.nil (ATh.normal ?_)
  refine ARA.any [2, 6] (by kernel_rfl) (by simp) ?_
  intro k hk
  simp only [List.mem_cons, List.not_mem_nil, or_false] at hk
  rcases hk with rfl | rfl
  refine ⟨_, true, rfl, rfl, ?_⟩
  first | refine s1 ?_ | refine q1 ?_
  refine ARg.nil (ATh.normal ?_)
  refine dO 6 false ?_
  first | refine s1 ?_ | refine F.aLN (List Int) (oo := false) ?_
  refine ARg.nil (ATh.normal ?_)
  refine dO 9 false ?_
  first | refine s1 ?_ | refine F.aL (List Int) (oo := false) ?_
  refine ARg.nil (ATh.normal ?_)
  refine dO 10 false ?_
  first | refine s1 ?_ | refine F.c (hS) ?_
  refine ARg.nil (ATh.normal ?_)
  refine dO 11 false ?_
  first | refine s1 ?_ | refine q1 ?_
  refine ARg.nil (ATh.normal ?_)
  refine dP 12 ?_
  refine dN ?_
  rotate_left
  refine ⟨_, false, rfl, rfl, ?_⟩
  first | refine s1 ?_ | refine F.aLN (List Int) (oo := false) ?_
  refine ARg.nil (ATh.normal ?_)
  refine ARA.any [2, 9] (by kernel_rfl) (by simp) ?_
  intro k hk
  simp only [List.mem_cons, List.not_mem_nil, or_false] at hk
  rcases hk with rfl | rfl
  refine ⟨_, true, rfl, rfl, ?_⟩
  first | refine s1 ?_ | refine q1 ?_
  refine ARg.nil (ATh.normal ?_)
  refine dO 9 false ?_
  first | refine s1 ?_ | refine F.aL (List Int) (oo := false) ?_
  refine ARg.nil (ATh.normal ?_)
  refine dO 10 false ?_
  first | refine s1 ?_ | refine F.c (hS) ?_
  refine ARg.nil (ATh.normal ?_)
  refine dO 11 false ?_
  first | refine s1 ?_ | refine q1 ?_
  refine ARg.nil (ATh.normal ?_)
  refine dP 12 ?_
  refine dN ?_
  rotate_left
  refine ⟨_, false, rfl, rfl, ?_⟩
  first | refine s1 ?_ | refine F.aL (List Int) (oo := false) ?_
  refine ARg.nil (ATh.normal ?_)
  refine dO 2 true ?_
  first | refine s1 ?_ | refine q1 ?_
  refine ARg.nil (ATh.normal ?_)
  refine dO 10 false ?_
  first | refine s1 ?_ | refine F.c (hS) ?_
  refine ARg.nil (ATh.normal ?_)
  refine dO 11 false ?_
  first | refine s1 ?_ | refine q1 ?_
  refine ARg.nil (ATh.normal ?_)
  refine dP 12 ?_
  refine dN ?_
  rotate_left
  refine ⟨_, true, rfl, rfl, ?_⟩
  first | refine s1 ?_ | refine q1 ?_
  refine ARg.nil (ATh.normal ?_)
  refine ARA.any [2, 3] (by kernel_rfl) (by simp) ?_
  intro k hk
  simp only [List.mem_cons, List.not_mem_nil, or_false] at hk
  rcases hk with rfl | rfl
  refine ⟨_, true, rfl, rfl, ?_⟩
  first | refine s1 ?_ | refine q1 ?_
  refine ARg.nil (ATh.normal ?_)
  refine dO 3 true ?_
  refine s1 ?_
  refine ARg.nil (ATh.normal ?_)
  refine dO 6 false ?_
  first | refine s1 ?_ | refine F.aLN (List Int) (oo := false) ?_
  refine ARg.nil (ATh.normal ?_)
  refine dO 9 false ?_
  first | refine s1 ?_ | refine F.aL (List Int) (oo := false) ?_
  refine ARg.nil (ATh.normal ?_)
  refine dO 10 false ?_
  first | refine s1 ?_ | refine F.c (hS) ?_
  refine ARg.nil (ATh.normal ?_)
  refine dO 11 false ?_
  first | refine s1 ?_ | refine q1 ?_
  refine ARg.nil (ATh.normal ?_)
  refine dP 12 ?_
  refine dN ?_
  rotate_left
  refine ⟨_, true, rfl, rfl, ?_⟩
  refine s1 ?_
  refine ARg.nil (ATh.normal ?_)
  refine ARA.any [2, 6] (by kernel_rfl) (by simp) ?_
  intro k hk
  simp only [List.mem_cons, List.not_mem_nil, or_false] at hk
  rcases hk with rfl | rfl
  refine ⟨_, true, rfl, rfl, ?_⟩
  first | refine s1 ?_ | refine q1 ?_
  refine ARg.nil (ATh.normal ?_)
  refine dO 6 false ?_
  first | refine s1 ?_ | refine F.aLN (List Int) (oo := false) ?_
  refine ARg.nil (ATh.normal ?_)
  refine dO 9 false ?_
  first | refine s1 ?_ | refine F.aL (List Int) (oo := false) ?_
  refine ARg.nil (ATh.normal ?_)
  refine dO 10 false ?_
  first | refine s1 ?_ | refine F.c (hS) ?_
  refine ARg.nil (ATh.normal ?_)
  refine dO 11 false ?_
  first | refine s1 ?_ | refine q1 ?_
  refine ARg.nil (ATh.normal ?_)
  refine dP 12 ?_
  refine dN ?_
  rotate_left
  refine ⟨_, false, rfl, rfl, ?_⟩
  first | refine s1 ?_ | refine F.aLN (List Int) (oo := false) ?_
  refine ARg.nil (ATh.normal ?_)
  refine ARA.any [2, 9] (by kernel_rfl) (by simp) ?_
  intro k hk
  simp only [List.mem_cons, List.not_mem_nil, or_false] at hk
  rcases hk with rfl | rfl
  refine ⟨_, true, rfl, rfl, ?_⟩
  first | refine s1 ?_ | refine q1 ?_
  refine ARg.nil (ATh.normal ?_)
  refine dO 9 false ?_
  first | refine s1 ?_ | refine F.aL (List Int) (oo := false) ?_
  refine ARg.nil (ATh.normal ?_)
  refine dO 10 false ?_
  first | refine s1 ?_ | refine F.c (hS) ?_
  refine ARg.nil (ATh.normal ?_)
  refine dO 11 false ?_
  first | refine s1 ?_ | refine q1 ?_
  refine ARg.nil (ATh.normal ?_)
  refine dP 12 ?_
  refine dN ?_
  rotate_left
  refine ⟨_, false, rfl, rfl, ?_⟩
  first | refine s1 ?_ | refine F.aL (List Int) (oo := false) ?_
  refine ARg.nil (ATh.normal ?_)
  refine dO 2 true ?_
  first | refine s1 ?_ | refine q1 ?_
  refine ARg.nil (ATh.normal ?_)
  refine dO 10 false ?_
  first | refine s1 ?_ | refine F.c (hS) ?_
  refine ARg.nil (ATh.normal ?_)
  refine dO 11 false ?_
  first | refine s1 ?_ | refine q1 ?_
  refine ARg.nil (ATh.normal ?_)
  refine dP 12 ?_
  refine dN ?_
  rotate_left
  refine ⟨_, true, rfl, rfl, ?_⟩
  first | refine s1 ?_ | refine q1 ?_
  refine ARg.nil (ATh.normal ?_)
  refine ARA.any [2, 3, 5] (by kernel_rfl) (by simp) ?_
  intro k hk
  simp only [List.mem_cons, List.not_mem_nil, or_false] at hk
  rcases hk with rfl | rfl | rfl
  refine ⟨_, true, rfl, rfl, ?_⟩
  first | refine s1 ?_ | refine q1 ?_
  refine ARg.nil (ATh.normal ?_)
  refine ARA.any [3, 5] (by kernel_rfl) (by simp) ?_
  intro k hk
  simp only [List.mem_cons, List.not_mem_nil, or_false] at hk
  rcases hk with rfl | rfl
  refine ⟨_, true, rfl, rfl, ?_⟩
  refine s1 ?_
  refine ARg.nil (ATh.normal ?_)
  refine dO 5 true ?_
  first | refine s1 ?_ | refine q1 ?_
  refine ARg.nil (ATh.normal ?_)
  refine dO 6 false ?_
  first | refine s1 ?_ | refine F.aLN (List Int) (oo := false) ?_
  refine ARg.nil (ATh.normal ?_)
  refine dO 9 false ?_
  first | refine s1 ?_ | refine F.aL (List Int) (oo := false) ?_
  refine ARg.nil (ATh.normal ?_)
  refine dO 10 false ?_
  first | refine s1 ?_ | refine F.c (hS) ?_
  refine ARg.nil (ATh.normal ?_)
  refine dO 11 false ?_
  first | refine s1 ?_ | refine q1 ?_
  refine ARg.nil (ATh.normal ?_)
  refine dP 12 ?_
  refine dN ?_
  rotate_left
  refine ⟨_, true, rfl, rfl, ?_⟩
  first | refine s1 ?_ | refine q1 ?_
  refine ARg.nil (ATh.normal ?_)
  refine dO 3 true ?_
  refine s1 ?_
  refine ARg.nil (ATh.normal ?_)
  refine dO 6 false ?_
  first | refine s1 ?_ | refine F.aLN (List Int) (oo := false) ?_
  refine ARg.nil (ATh.normal ?_)
  refine dO 9 false ?_
  first | refine s1 ?_ | refine F.aL (List Int) (oo := false) ?_
  refine ARg.nil (ATh.normal ?_)
  refine dO 10 false ?_
  first | refine s1 ?_ | refine F.c (hS) ?_
  refine ARg.nil (ATh.normal ?_)
  refine dO 11 false ?_
  first | refine s1 ?_ | refine q1 ?_
  refine ARg.nil (ATh.normal ?_)
  refine dP 12 ?_
  refine dN ?_
  rotate_left
  refine ⟨_, true, rfl, rfl, ?_⟩
  refine s1 ?_
  refine ARg.nil (ATh.normal ?_)
  refine ARA.any [2, 5] (by kernel_rfl) (by simp) ?_
  intro k hk
  simp only [List.mem_cons, List.not_mem_nil, or_false] at hk
  rcases hk with rfl | rfl
  refine ⟨_, true, rfl, rfl, ?_⟩
  first | refine s1 ?_ | refine q1 ?_
  refine ARg.nil (ATh.normal ?_)
  refine dO 5 true ?_
  first | refine s1 ?_ | refine q1 ?_
  refine ARg.nil (ATh.normal ?_)
  refine dO 6 false ?_
  first | refine s1 ?_ | refine F.aLN (List Int) (oo := false) ?_
  refine ARg.nil (ATh.normal ?_)
  refine dO 9 false ?_
  first | refine s1 ?_ | refine F.aL (List Int) (oo := false) ?_
  refine ARg.nil (ATh.normal ?_)
  refine dO 10 false ?_
  first | refine s1 ?_ | refine F.c (hS) ?_
  refine ARg.nil (ATh.normal ?_)
  refine dO 11 false ?_
  first | refine s1 ?_ | refine q1 ?_
  refine ARg.nil (ATh.normal ?_)
  refine dP 12 ?_
  refine dN ?_
  rotate_left
  refine ⟨_, true, rfl, rfl, ?_⟩
  first | refine s1 ?_ | refine q1 ?_
  refine ARg.nil (ATh.normal ?_)
  refine ARA.any [2, 6] (by kernel_rfl) (by simp) ?_
  intro k hk
  simp only [List.mem_cons, List.not_mem_nil, or_false] at hk
  rcases hk with rfl | rfl
  refine ⟨_, true, rfl, rfl, ?_⟩
  first | refine s1 ?_ | refine q1 ?_
  refine ARg.nil (ATh.normal ?_)
  refine dO 6 false ?_
  first | refine s1 ?_ | refine F.aLN (List Int) (oo := false) ?_
  refine ARg.nil (ATh.normal ?_)
  refine dO 9 false ?_
  first | refine s1 ?_ | refine F.aL (List Int) (oo := false) ?_
  refine ARg.nil (ATh.normal ?_)
  refine dO 10 false ?_
  first | refine s1 ?_ | refine F.c (hS) ?_
  refine ARg.nil (ATh.normal ?_)
  refine dO 11 false ?_
  first | refine s1 ?_ | refine q1 ?_
  refine ARg.nil (ATh.normal ?_)
  refine dP 12 ?_
  refine dN ?_
  rotate_left
  refine ⟨_, false, rfl, rfl, ?_⟩
  first | refine s1 ?_ | refine F.aLN (List Int) (oo := false) ?_
  refine ARg.nil (ATh.normal ?_)
  refine ARA.any [2, 9] (by kernel_rfl) (by simp) ?_
  intro k hk
  simp only [List.mem_cons, List.not_mem_nil, or_false] at hk
  rcases hk with rfl | rfl
  refine ⟨_, true, rfl, rfl, ?_⟩
  first | refine s1 ?_ | refine q1 ?_
  refine ARg.nil (ATh.normal ?_)
  refine dO 9 false ?_
  first | refine s1 ?_ | refine F.aL (List Int) (oo := false) ?_
  refine ARg.nil (ATh.normal ?_)
  refine dO 10 false ?_
  first | refine s1 ?_ | refine F.c (hS) ?_
  refine ARg.nil (ATh.normal ?_)
  refine dO 11 false ?_
  first | refine s1 ?_ | refine q1 ?_
  refine ARg.nil (ATh.normal ?_)
  refine dP 12 ?_
  refine dN ?_
  rotate_left
  refine ⟨_, false, rfl, rfl, ?_⟩
  first | refine s1 ?_ | refine F.aL (List Int) (oo := false) ?_
  refine ARg.nil (ATh.normal ?_)
  refine dO 2 true ?_
  first | refine s1 ?_ | refine q1 ?_
  refine ARg.nil (ATh.normal ?_)
  refine dO 10 false ?_
  first | refine s1 ?_ | refine F.c (hS) ?_
  refine ARg.nil (ATh.normal ?_)
  refine dO 11 false ?_
  first | refine s1 ?_ | refine q1 ?_
  refine ARg.nil (ATh.normal ?_)
  refine dP 12 ?_
  refine dN ?_
  rotate_left
  refine ⟨_, true, rfl, rfl, ?_⟩
  first | refine s1 ?_ | refine q1 ?_
  refine ARg.nil (ATh.normal ?_)
  refine ARA.any [2, 3] (by kernel_rfl) (by simp) ?_
  intro k hk
  simp only [List.mem_cons, List.not_mem_nil, or_false] at hk
  rcases hk with rfl | rfl
  refine ⟨_, true, rfl, rfl, ?_⟩
  first | refine s1 ?_ | refine q1 ?_
  refine ARg.nil (ATh.normal ?_)
  refine dO 3 true ?_
  refine s1 ?_
  refine ARg.nil (ATh.normal ?_)
  refine dO 6 false ?_
  first | refine s1 ?_ | refine F.aLN (List Int) (oo := false) ?_
  refine ARg.nil (ATh.normal ?_)
  refine dO 9 false ?_
  first | refine s1 ?_ | refine F.aL (List Int) (oo := false) ?_
  refine ARg.nil (ATh.normal ?_)
  refine dO 10 false ?_
  first | refine s1 ?_ | refine F.c (hS) ?_
  refine ARg.nil (ATh.normal ?_)
  refine dO 11 false ?_
  first | refine s1 ?_ | refine q1 ?_
  refine ARg.nil (ATh.normal ?_)
  refine dP 12 ?_
  refine dN ?_
  rotate_left
  refine ⟨_, true, rfl, rfl, ?_⟩
  refine s1 ?_
  refine ARg.nil (ATh.normal ?_)
  refine ARA.any [2, 6] (by kernel_rfl) (by simp) ?_
  intro k hk
  simp only [List.mem_cons, List.not_mem_nil, or_false] at hk
  rcases hk with rfl | rfl
  refine ⟨_, true, rfl, rfl, ?_⟩
  first | refine s1 ?_ | refine q1 ?_
  refine ARg.nil (ATh.normal ?_)
  refine dO 6 false ?_
  first | refine s1 ?_ | refine F.aLN (List Int) (oo := false) ?_
  refine ARg.nil (ATh.normal ?_)
  refine dO 9 false ?_
  first | refine s1 ?_ | refine F.aL (List Int) (oo := false) ?_
  refine ARg.nil (ATh.normal ?_)
  refine dO 10 false ?_
  first | refine s1 ?_ | refine F.c (hS) ?_
  refine ARg.nil (ATh.normal ?_)
  refine dO 11 false ?_
  first | refine s1 ?_ | refine q1 ?_
  refine ARg.nil (ATh.normal ?_)
  refine dP 12 ?_
  refine dN ?_
  rotate_left
  refine ⟨_, false, rfl, rfl, ?_⟩
  first | refine s1 ?_ | refine F.aLN (List Int) (oo := false) ?_
  refine ARg.nil (ATh.normal ?_)
  refine ARA.any [2, 9] (by kernel_rfl) (by simp) ?_
  intro k hk
  simp only [List.mem_cons, List.not_mem_nil, or_false] at hk
  rcases hk with rfl | rfl
  refine ⟨_, true, rfl, rfl, ?_⟩
  first | refine s1 ?_ | refine q1 ?_
  refine ARg.nil (ATh.normal ?_)
  refine dO 9 false ?_
  first | refine s1 ?_ | refine F.aL (List Int) (oo := false) ?_
  refine ARg.nil (ATh.normal ?_)
  refine dO 10 false ?_
  first | refine s1 ?_ | refine F.c (hS) ?_
  refine ARg.nil (ATh.normal ?_)
  refine dO 11 false ?_
  first | refine s1 ?_ | refine q1 ?_
  refine ARg.nil (ATh.normal ?_)
  refine dP 12 ?_
  refine dN ?_
  rotate_left
  refine ⟨_, false, rfl, rfl, ?_⟩
  first | refine s1 ?_ | refine F.aL (List Int) (oo := false) ?_
  refine ARg.nil (ATh.normal ?_)
  refine dO 2 true ?_
  first | refine s1 ?_ | refine q1 ?_
  refine ARg.nil (ATh.normal ?_)
  refine dO 10 false ?_
  first | refine s1 ?_ | refine F.c (hS) ?_
  refine ARg.nil (ATh.normal ?_)
  refine dO 11 false ?_
  first | refine s1 ?_ | refine q1 ?_
  refine ARg.nil (ATh.normal ?_)
  refine dP 12 ?_
  refine dN ?_
  rotate_left
  all_goals
    repeat' first | refine s1 ?_ | refine q1 ?_ | fail
    (refine kZ ?_; exact F.ret rfl)
end Go.Proofs.YtedjajokbdokhaaGreat.V
