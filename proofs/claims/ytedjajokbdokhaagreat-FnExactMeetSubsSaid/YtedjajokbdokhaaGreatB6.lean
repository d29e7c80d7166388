/- Joined: Contracts: columns, matrices beside each other. Contracts: what vectors span, both ways. Contracts: lists of vectors put together, sums of spaces, spaces of nothing, as the program does them. Contracts: the radical, as the program builds it.. -/
import Derived.Test.YtedjajokbdokhaaGreatUq
import Derived.Test.YtedjajokbdokhaaGreatB4
import Derived.Test.YtedjajokbdokhaaGreatA51
import Derived.Test.YtedjajokbdokhaaGreatB5
import Derived.Test.YtedjajokbdokhaaGreatB1
import Derived.Test.YtedjajokbdokhaaGreatA25
/- Contracts: columns, matrices beside each other. -/
namespace Go.Proofs.YtedjajokbdokhaaGreat.V
open V.Enc (enc)
open Go.RowKit G D
set_option linter.unusedVariables false
set_option linter.unusedSimpArgs false
set_option maxHeartbeats 4000000
set_option maxRecDepth 4000
attribute [local irreducible] AW ARg ARA ARet MRet ASil AC AM

/-- a column of which the first n numbers are set -/
def colK (r : Nat) (g : Nat → Int) (n : Nat) : List Int := rowL r fun j => if j < n then g j else 0
theorem colK_len (r : Nat) (g : Nat → Int) (n : Nat) : (colK r g n).length = r := rowL_len ..
theorem colK_zero (r : Nat) (g : Nat → Int) : colK r g 0 = List.replicate r 0 := by
  apply List.ext_getElem (by simp [colK])
  intro i h1 h2
  simp [colK, rowL]
theorem colK_set (r : Nat) (g : Nat → Int) (n : Nat) : (colK r g n).set n (g n) = colK r g (n + 1) := by
  apply List.ext_getElem (by simp [colK])
  intro i h1 h2
  rw [List.getElem_set]
  simp only [colK, rowL, List.getElem_map, List.getElem_range]
  by_cases e : n = i
  · subst e; simp
  · have : i < n + 1 ↔ i < n := by omega
    simp [e, this]
theorem colK_all (r : Nat) (g : Nat → Int) : colK r g r = rowL r g := by
  apply List.ext_getElem (by simp [colK])
  intro i h1 h2
  have : i < r := by simpa using h2
  simp [colK, rowL, this]
theorem column_a (r c k : Nat) (f : Nat → Nat → Int) (hk : k < c) (hr : r ≤ 1024) (hc : c ≤ 1024) : AC Tryz.prog 170 [.agg (enc false (tm r c f)), .i (k : Int)] [.dt true 1 (E true (rowL r fun i => f i k))] := by
  refine AC.go Tryz.func170 Tryz.ntmps170 rfl rfl fun w0 hw => ?_; simp [WfL, WfA, E_length, Enc.enc, In64] at hw
  repeat' first | refine s1 ?_ | refine q1 ?_ | (refine kR ?_; first | refine F.mk (m := r) Int rfl rfl rfl (mkB (by omega)) (by omega) rfl rfl ?_) | fail
  refine F.loop (σ := Nat) [6, 12, 13, 14, 15, 16, 17, 18, 19, 20, 21, 22, 23, 24, 25, 26, 27, 28] (fun i => [(12, .i i)]) (fun i => [(1, .live false 1 (E true (colK r (fun i => f i k) i)))]) (fun i => i ≤ r) (fun i => r - i) 0 ⟨rfl, trivial⟩ ⟨obE (by rw [colK_zero]), trivial⟩ (Nat.zero_le _) ?_
  rintro i i1
  by_cases hi : i < r
  · obtain ⟨t1, t2⟩ := tab_in (i := i) (j := k) (r := r) (c := c) hi hk hr hc
    have hs := colK_set r (fun i => f i k) i
    have hl := colK_len r (fun i => f i k) i
    generalize colK r (fun i => f i k) i = X at hs hl ⊢
    repeat' first | refine s1 ?_ | refine q1 ?_ | fail
    exact ⟨i + 1, F.fit ⟨rfl, trivial⟩ ⟨obE (by rw [Nat.zero_add, hs]), trivial⟩, by omega, by omega⟩
  · obtain rfl : i = r := by omega
    rw [colK_all]
    have hl := rowL_len i (fun j => f j k)
    generalize rowL i (fun j => f j k) = X at hl ⊢
    repeat' first | refine s1 ?_ | refine q1 ?_ | fail
    (refine kZ ?_; exact F.ret rfl)
theorem columns_a (r c : Nat) (f : Nat → Nat → Int) (hr : r ≤ 1024) (hc : c ≤ 1024) : AC Tryz.prog 115 [.agg (enc false (tm r c f))] [.dt true 1 (E true (rowsL c r fun k i => f i k))] := by
  refine AC.go Tryz.func115 Tryz.ntmps115 rfl rfl fun w0 hw => ?_; simp [WfL, WfA, E_length, Enc.enc, In64] at hw
  repeat' first | refine s1 ?_ | refine q1 ?_ | fail
  refine AW.open 3 1 (.inl rfl) ?_
  refine F.loop (σ := Nat) [3, 4, 7, 8, 9, 10, 11, 12, 13, 14, 15, 16] (fun k => [(3, .sl 1 k 0 k), (7, .i k)]) (fun k => [(1, .live false 1 (E true ((rowsL c r fun k i => f i k).take k)))]) (fun k => k ≤ c) (fun k => c - k) 0 ⟨rfl, rfl, trivial⟩ ⟨rfl, trivial⟩ (Nat.zero_le _) ?_
  rintro k k1
  have hll := rowsL_len c r fun k i => f i k
  have hp : ((rowsL c r fun k i => f i k).take k).length = k := by rw [List.length_take]; omega
  by_cases hk : k < c
  · have hC := column_a r c k f hk hr hc
    have hts := rowsL_take r (fun k i => f i k) hk
    have hrl := rowL_len r (fun i => f i k)
    generalize rowL r (fun i => f i k) = X at hC hts hrl
    repeat' first | refine s1 ?_ | refine q1 ?_ | (refine kR ?_; first | refine F.c (hC) ?_ | refine F.a1 (List Int) (a := X) ?_) | fail
    exact ⟨k + 1, F.fit ⟨rfl, rfl, trivial⟩ ⟨obE (by rw [hts]), trivial⟩, by omega, by omega⟩
  · obtain rfl : k = c := by omega
    have e : (rowsL k r fun k i => f i k).take k = rowsL k r fun k i => f i k := List.take_of_length_le (by omega)
    rw [e]
    clear hp e
    generalize (rowsL k r fun k i => f i k) = X at hll ⊢
    repeat' first | refine s1 ?_ | refine q1 ?_ | fail
    (refine kZ ?_; exact F.ret rfl)
/-- two tables beside each other -/
def besF (c : Nat) (f g : Nat → Nat → Int) : Nat → Nat → Int := fun i j => if j < c then f i j else g i (j - c)
theorem app_getD {α : Type} [Inhabited α] (x y : List α) (k : Nat) : (x ++ y).getD k default = if k < x.length then x.getD k default else y.getD (k - x.length) default := by
  by_cases h : k < x.length
  · rw [if_pos h, List.getD_eq_getElem?_getD, List.getElem?_append_left h, ← List.getD_eq_getElem?_getD]
  · rw [if_neg h, List.getD_eq_getElem?_getD, List.getElem?_append_right (by omega), ← List.getD_eq_getElem?_getD]
theorem bes_fc (r c1 c2 : Nat) (f g : Nat → Nat → Int) : tm r ((rowsL c1 r fun k i => f i k) ++ (rowsL c2 r fun k i => g i k)).length (fcF ((rowsL c1 r fun k i => f i k) ++ (rowsL c2 r fun k i => g i k))) = tm r (c1 + c2) (besF c1 f g) := by
  unfold tm
  rw [List.length_append, rowsL_len, rowsL_len]
  congr 1
  apply tab_ext
  intro i hi j hj
  unfold fcF besF
  rw [app_getD, rowsL_len]
  by_cases h : j < c1
  · rw [if_pos h, if_pos h, rowsL_get _ _ h, rowL_get _ hi]
  · rw [if_neg h, if_neg h, rowsL_get _ _ (by omega), rowL_get _ hi]
end Go.Proofs.YtedjajokbdokhaaGreat.V

/- Contracts: what vectors span, both ways. -/
namespace Go.Proofs.YtedjajokbdokhaaGreat.V
open V.Enc (enc)
open Go.RowKit G D
set_option linter.unusedVariables false
set_option linter.unusedSimpArgs false
set_option maxHeartbeats 4000000
set_option maxRecDepth 4000
attribute [local irreducible] AW ARg ARA ARet MRet ASil AC AM

theorem tab_succ (k n : Nat) (f : Nat → Nat → Int) : tab (k + 1) n f = tab k n f ++ rowL n (f k) := by
  unfold tab rowL
  rw [Nat.add_mul, Nat.one_mul, List.range_add, List.map_append, List.map_map]
  congr 1
  apply List.map_congr_left
  intro t ht
  have ht : t < n := by simpa using ht
  have d := tab_div (i := k) ht
  show f ((k * n + t) / n) ((k * n + t) % n) = f k t
  rw [d.1, d.2]
theorem vec_row {l : List (List Int)} {n k : Nat} (h : (l.getD k default).length = n) : rowL n (vecF l k) = l.getD k default := rowL_of h
theorem flat_tab {l : List (List Int)} {n : Nat} (h : ∀ k, k < l.length → (l.getD k default).length = n) : ∀ k, k ≤ l.length → (l.take k).flatten = tab k n (vecF l)
  | 0, _ => by simp [tab]
  | k + 1, hk => by rw [flat_take l hk, flat_tab h k (by omega), tab_succ, vec_row (h k hk)]
theorem fromRows_a (n : Nat) (l : List (List Int)) (hl : l.length ≤ 1000) (hn : n ≤ 1000) (h : ∀ k, k < l.length → (l.getD k default).length = n) : AC Tryz.prog 167 [.i (n : Int), ar false l] [.agg (enc true (tm l.length n (vecF l)))] := by
  refine AC.go Tryz.func167 Tryz.ntmps167 rfl rfl fun w0 hw => ?_; simp [WfL, WfA, E_length, Enc.enc, In64] at hw
  have e := flat_tab h l.length (Nat.le_refl _)
  rw [List.take_length] at e
  have hb : l.length * n ≤ 1000 * 1000 := Nat.mul_le_mul hl hn
  have hC := concat_a l (by rw [e, tab_len]; omega)
  rw [e] at hC
  unfold tm
  generalize tab l.length n (vecF l) = T at hC ⊢
  repeat' first | refine s1 ?_ | refine q1 ?_ | (refine kR ?_; first | refine F.c (hC) ?_) | fail
  (refine kZ ?_; exact F.ret rfl)
theorem VecB.len {p : Int} {n : Nat} {l : List (List Int)} (h : VecB p n l) : ∀ k, k < l.length → (l.getD k default).length = n := fun k hk => (h _ (gm hk)).1
theorem spanB_take {p : Int} {r n : Nat} {f : Nat → Nat → Int} {i : Nat} (hi : i < (redK p r f n).2.length) : (spanB p r n f).take (i + 1) = (spanB p r n f).take i ++ [rowL n ((redK p r f n).1 i)] := rowsL_take n _ hi
theorem span_a (p : Int) (n : Nat) (l : List (List Int)) (hF : isF p = true) (hl : l.length ≤ 1000) (hn : n ≤ 1000) (hv : VecB p n l) : AC Tryz.prog 114 [.i p, .i (n : Int), ar false l] [.agg (enc true (⟨(n : Nat), spanL p n l⟩ : Spc))] := by
  refine AC.go Tryz.func114 Tryz.ntmps114 rfl rfl fun w0 hw => ?_; simp [WfL, WfA, E_length, Enc.enc, In64] at hw
  have h5 := isF_pos hF
  have hA := fromRows_a n l hl hn hv.len
  have hR := implReduce_a p l.length n (vecF l) hF (by omega) (by omega) hv.bd
  obtain ⟨b1, b2, b3, b4⟩ := redK_bd (p := p) (by omega) hv.bd n
  have hSl := spanB_len p l.length n (vecF l)
  have hSt := fun i hi => spanB_take (p := p) (r := l.length) (n := n) (f := vecF l) (i := i) hi
  unfold spanL
  generalize spanB p l.length n (vecF l) = SB at hSl hSt ⊢
  generalize redK p l.length (vecF l) n = R at hR b1 b2 b3 b4 hSl hSt
  obtain ⟨g, piv⟩ := R
  dsimp only at hR b1 b2 b3 b4 hSl hSt
  have hpl := ints_len piv
  generalize ints piv = PI at hR hpl
  generalize tm l.length n (vecF l) = T0 at hA hR
  generalize hrr : l.length = r at *
  have hN := tab_len r n g
  have hNb : r * n ≤ 1048576 := tab_le (by omega) (by omega)
  repeat' first | refine s1 ?_ | refine q1 ?_ | (refine kR ?_; first | refine F.c (hA) ?_ | refine F.c (hR) ?_) | fail
  refine AW.open 9 1 (.inl rfl) ?_
  refine F.loop (σ := Nat) [9, 10, 21, 22, 23, 24, 25, 26, 27, 28, 29, 30, 31] (fun i => [(9, .sl 5 i 0 i), (21, .i i)]) (fun i => [(2, .live false 1 (E true (tab r n g))), (5, .live false 1 (E true (SB.take i)))]) (fun i => i ≤ piv.length) (fun i => piv.length - i) 0 ⟨rfl, rfl, trivial⟩ ⟨rfl, rfl, trivial⟩ (Nat.zero_le _) ?_
  rintro i i1
  have hp2 : (SB.take i).length = i := by rw [List.length_take]; omega
  by_cases hi : i < piv.length
  · have hir : i < r := by omega
    have hRw := row_m r n i g _ hN hir (by omega) (by omega)
    have hC : AC Tryz.prog 168 [ar false (((tab r n g).drop (i * n)).take n)] [.dt true 1 (E true (rowL n (g i)))] := by
      rw [tab_row g hir]
      exact clone_a (rowL n (g i)) (by simp; omega)
    have hts := hSt i hi
    have hrl := rowL_len n (g i)
    generalize rowL n (g i) = X at hC hts hrl
    repeat' first | refine s1 ?_ | refine q1 ?_ | (refine kR ?_; first | refine F.m [2] (hRw) ?_ | refine F.c (hC) ?_ | refine F.a1 (List Int) (a := X) ?_) | fail
    exact ⟨i + 1, F.fit ⟨rfl, rfl, trivial⟩ ⟨rfl, obE (by rw [hts]), trivial⟩, by omega, by omega⟩
  · obtain rfl : i = piv.length := by omega
    have e : SB.take piv.length = SB := List.take_of_length_le (by omega)
    rw [e]
    rw [← hSl]
    clear hp2 e
    repeat' first | refine s1 ?_ | refine q1 ?_ | fail
    (refine kZ ?_; exact F.ret rfl)
end Go.Proofs.YtedjajokbdokhaaGreat.V

/- Contracts: lists of vectors put together, sums of spaces, spaces of nothing, as the program does them. -/
namespace Go.Proofs.YtedjajokbdokhaaGreat.V
open V.Enc (enc)
open Go.RowKit G D
set_option linter.unusedVariables false
set_option linter.unusedSimpArgs false
set_option maxHeartbeats 4000000
set_option maxRecDepth 4000
attribute [local irreducible] AW ARg ARA ARet MRet ASil AC AM

theorem grow2_a (n : Nat) (hn : n ≤ 1048576) : AC Tryz.prog 180 [.nl, .i n] [.dt true 1 []] := by
  refine AC.go Tryz.func180 Tryz.ntmps180 rfl rfl fun w0 hw => ?_; simp [WfL, WfA, E_length, Enc.enc, In64] at hw
  repeat' first | refine s1 ?_ | refine q1 ?_ | (refine kR ?_; first | refine F.sil (A.capN rfl) rfl rfl ?_ | refine F.sil (A.slcN (lo := 0) (hi' := 0) rfl rfl rfl (Nat.le_refl _) rfl) rfl rfl ?_ | refine F.appZ (m := n) (List Int) rfl rfl rfl (by omega) (by omega) (mkB (by omega)) (by omega) rfl rfl ?_ | refine F.slcut (k := 0) rfl rfl (by simp [E_length]) rfl (Nat.zero_le _) rfl rfl rfl ?_) | (refine s2 ?_ ?_ <;> intro hc <;> (try simp only [decide_eq_true_eq, decide_eq_false_iff_not, Bool.not_eq_true', Bool.not_eq_false'] at hc)) | fail
  all_goals exact F.ret rfl
theorem concat2_w (ls : List (List (List Int))) (hn : ls.flatten.length ≤ 1048576) : AM Tryz.prog 128 [ar false ls] [] [.dt true 1 (E false ls.flatten)] [] := by
  refine AM.go Tryz.func128 Tryz.ntmps128 rfl rfl fun w0 mp hw => ?_; simp [WfL, WfA, E_length, Enc.enc, In64] at hw
  repeat' first | refine s1 ?_ | refine q1 ?_ | (refine s2 ?_ ?_ <;> intro hc <;> (try simp only [decide_eq_true_eq, decide_eq_false_iff_not, Bool.not_eq_true', Bool.not_eq_false'] at hc)) | fail
  refine F.loop (σ := Nat) [3, 5, 11, 12, 13, 14, 15, 16, 17, 18, 19, 20, 21, 22] (fun k => [(3, .i ((ls.take k).flatten.length : Nat)), (11, .i k)]) (fun _ => []) (fun k => k ≤ ls.length) (fun k => ls.length - k) 0 ⟨rfl, rfl, trivial⟩ trivial (Nat.zero_le _) ?_
  rintro k h1
  have hfl := flat_le ls k
  by_cases hlt : k < ls.length
  · have hf2 := flat_len ls hlt
    have hf3 := flat_le ls (k + 1)
    repeat' first | refine s1 ?_ | refine q1 ?_ | fail
    refine ⟨k + 1, F.fit ⟨iE (by omega), rfl, trivial⟩ trivial, by omega, by omega⟩
  · have hG := grow2_a (ls.take k).flatten.length (by omega)
    repeat' first | refine s1 ?_ | refine q1 ?_ | (refine kR ?_; first | refine F.c (hG) ?_) | (refine s2 ?_ ?_ <;> intro hc <;> (try simp only [decide_eq_true_eq, decide_eq_false_iff_not, Bool.not_eq_true', Bool.not_eq_false'] at hc)) | fail
    obtain rfl : k = ls.length := by omega
    refine F.loop (σ := Nat) [6, 8, 27, 28, 29, 30, 31, 32, 33, 34] (fun k => [(6, .sl 0 (ls.take k).flatten.length 0 (ls.take k).flatten.length), (27, .i k)]) (fun k => [(0, .live false 1 (E false (ls.take k).flatten))]) (fun k => k ≤ ls.length) (fun k => ls.length - k) 0 ⟨rfl, rfl, trivial⟩ ⟨rfl, trivial⟩ (Nat.zero_le _) ?_
    rintro k h1
    have hfl := flat_le ls k
    by_cases hlt : k < ls.length
    · have hf2 := flat_len ls hlt
      have hf3 := flat_le ls (k + 1)
      repeat' first | refine s1 ?_ | refine q1 ?_ | (refine kR ?_; first | refine F.appL (α := List Int) (oo := false) rfl rfl rfl rfl .imm rfl rfl (by omega) (by omega) rfl rfl rfl rfl rfl ?_) | fail
      refine ⟨k + 1, F.fit ⟨slE (by omega), rfl, trivial⟩ ⟨obE (by rw [flat_take ls hlt]), trivial⟩, by omega, by omega⟩
    · obtain rfl : k = ls.length := by omega
      rw [List.take_length]
      repeat' first | refine s1 ?_ | refine q1 ?_ | fail
      refine kM ?_
      exact F.retM rfl trivial
theorem sumSpace_a (p : Int) (a b : Spc) (ha : isSpc p a = true) (hb : isSpc p b = true) (hn : b.n = a.n) : AC Tryz.prog 74 [.i p, .agg (enc false a), .agg (enc false b)] [.agg (enc true (addS p a b))] := by
  refine AC.go Tryz.func74 Tryz.ntmps74 rfl rfl fun w0 hw => ?_; simp [WfL, WfA, E_length, Enc.enc, In64] at hw
  obtain ⟨h1, h2, h3, h4⟩ := isSpc_spec ha
  obtain ⟨_, _, g3, g4⟩ := isSpc_spec hb
  rw [hn] at g4
  have hS := span_a p a.n.toNat (a.b ++ b.b) h1 (by rw [List.length_append]; omega) (by omega) (h4.app g4)
  rw [Int.toNat_of_nonneg h2.1] at hS
  rw [show (⟨a.n, spanL p a.n.toNat (a.b ++ b.b)⟩ : Spc) = addS p a b from rfl] at hS
  have hC := concat2_w [a.b, b.b] (by simp; omega)
  rw [show [a.b, b.b].flatten = a.b ++ b.b by simp] at hC
  generalize addS p a b = SS' at hS ⊢
  repeat' first | refine s1 ?_ | refine q1 ?_ | fail
  refine AW.draw 10 G.mixed (by kernel_rfl) ?_
  refine dP 0 ?_
  refine dP 1 ?_
  first | refine dL 2 ?_ | refine dLQ 2 ?_
  refine dP 3 ?_
  first | refine dL 4 ?_ | refine dLQ 4 ?_
  refine dP 5 ?_
  first | refine dL 6 ?_ | refine dLQ 6 ?_
  refine dO 7 true ?_
  refine s1 ?_
  refine ARg.nil (ATh.normal ?_)
  refine dzA (α := List (List Int)) (ls := [a.b, b.b]) 14 rfl rfl rfl ?_
  refine dO 8 true ?_
  first | refine s1 ?_ | refine F.w (hC) ?_ | refine F.c (hS) ?_
  refine ARg.nil (ATh.normal ?_)
  refine dO 9 true ?_
  first | refine s1 ?_ | refine F.w (hC) ?_ | refine F.c (hS) ?_
  refine ARg.nil (ATh.normal ?_)
  refine dO 10 false ?_
  first | refine s1 ?_ | refine q1 ?_
  refine ARg.nil (ATh.normal ?_)
  refine dN ?_
  rotate_left
  all_goals
    repeat' first | refine s1 ?_ | refine q1 ?_ | fail
    (refine kZ ?_; exact F.ret rfl)
theorem zeroS_take {d : List Int} {k : Nat} (h : k < d.length) : (d.take (k + 1)).map (fun d => (⟨d, []⟩ : Spc)) = (d.take k).map (fun d => (⟨d, []⟩ : Spc)) ++ [⟨d.getD k default, []⟩] := by
  have e : d.getD k default = d[k] := by simp [h]
  rw [List.take_succ_eq_append_getElem h, List.map_append, e]
  rfl
theorem zeroSub_a (r : Rep) (h : r.d.length ≤ 1000) : AC Tryz.prog 149 [.agg (enc false r)] [.dt true 2 (E true (radK r 0))] := by
  refine AC.go Tryz.func149 Tryz.ntmps149 rfl rfl fun w0 hw => ?_; simp [WfL, WfA, E_length, Enc.enc, In64] at hw
  unfold radK
  repeat' first | refine s1 ?_ | refine q1 ?_ | fail
  refine AW.open 3 2 (.inl rfl) ?_
  refine F.loop (σ := Nat) [3, 5, 9, 10, 11, 12, 13, 14, 15, 16, 17, 18] (fun k => [(3, .sl 1 k 0 k), (9, .i k)]) (fun k => [(1, .live false 2 (E true ((r.d.take k).map fun d => (⟨d, []⟩ : Spc))))]) (fun k => k ≤ r.d.length) (fun k => r.d.length - k) 0 ⟨rfl, rfl, trivial⟩ ⟨rfl, trivial⟩ (Nat.zero_le _) ?_
  rintro k k1
  have hp : ((r.d.take k).map fun d => (⟨d, []⟩ : Spc)).length = k := by simp; omega
  by_cases hk : k < r.d.length
  · have hts := zeroS_take hk
    generalize (r.d.take k).map (fun d => (⟨d, []⟩ : Spc)) = X at hts hp ⊢
    repeat' first | refine s1 ?_ | refine q1 ?_ | (refine kR ?_; first | refine F.a1 Spc (a := ⟨r.d.getD k default, []⟩) ?_ (hmv := .at1 rfl (.nl 1 .nil))) | fail
    exact ⟨k + 1, F.fit ⟨rfl, rfl, trivial⟩ ⟨obE (by rw [hts]), trivial⟩, by omega, by omega⟩
  · obtain rfl : k = r.d.length := by omega
    rw [List.take_length]
    have hml : (r.d.map fun d => (⟨d, []⟩ : Spc)).length = r.d.length := by simp
    rw [← hml]
    repeat' first | refine s1 ?_ | refine q1 ?_ | fail
    (refine kZ ?_; exact F.ret rfl)
end Go.Proofs.YtedjajokbdokhaaGreat.V

/- Contracts: the radical, as the program builds it. -/
namespace Go.Proofs.YtedjajokbdokhaaGreat.V
open V.Enc (enc)
open Go.RowKit G D
set_option linter.unusedVariables false
set_option linter.unusedSimpArgs false
set_option maxHeartbeats 4000000
set_option maxRecDepth 4000
attribute [local irreducible] AW ARg ARA ARet MRet ASil AC AM

section
variable {P : Program} {w0 : World} {MP : Fr} {E : Nat → AV} {hp : Nat → Ob} {nx : Nat} {d : Option Tmp} {ty t : TypeId} {pos : String} {af : Array Edge} {g : Option (Nat × Bool)} {x y : Operand}
/-- an element that was written, all its cells -/
theorem A.ldSG {sz bys : Nat} {zz : Value} [h1 : Agg P t] [hi : HasI P t sz bys zz] {esz o n k k1 : Nat} {l : Bool} {xs : List (List AV)} {c : List AV} (hx : evA ⟨E, hp, nx⟩ x = .pt o n k1 0) (hh : hp o = .live l esz (xs.set k c)) (hn : xs.length = n) (hk1 : k1 = k) (hk : k < xs.length) (hl : c.length = sz) (hs : c.all V.shr = true) :
    ASil false P w0 MP ⟨E, hp, nx⟩ ⟨d, .load t x, ty, pos, af, g⟩ (.agg c) := by
  subst hk1
  exact A.ldRG (c := c) (ds := c) hx hh (by rw [List.length_set, hn]) (by simp [hk]) (by rw [List.drop_zero]; exact List.take_of_length_le (by omega)) hl hs
end
theorem set_self {α : Type} [Inhabited α] {L : List α} {w : Nat} (h : w < L.length) : L.set w (L.getD w default) = L := by
  have e : L.getD w default = L[w] := by simp [h]
  rw [e]; exact List.set_getElem_self h
/-- what is known of an arrow's matrix -/
theorem radical_m {r : Rep} (h : isRep r = true) {k : Nat} (hk : k < r.q.fr.length) : isF r.p = true ∧ isMat r.p (r.m.getD k default) = true ∧ (0 ≤ r.q.to.getD k default ∧ (r.q.to.getD k default).toNat < r.d.length) ∧ (r.m.getD k default).r = r.d.getD (r.q.to.getD k default).toNat default := by
  obtain ⟨h1, h2, h3, h4⟩ := isRep_spec h
  obtain ⟨c1, c2, c3, _⟩ := areDims_spec h2
  have t : 0 ≤ r.q.to.getD k default ∧ r.q.to.getD k default < r.q.n := okQ_to c1 hk
  have hm := h4 k (by omega)
  simp only [fitM, Bool.and_eq_true, decide_eq_true_eq] at hm
  exact ⟨h1, hm.1.1, ⟨t.1, by omega⟩, hm.2⟩
theorem imgSpan_a {p : Int} {m : Mat} (h : isMat p m = true) : AC Tryz.prog 114 [.i p, .i m.r, ar false (rowsL m.c.toNat m.r.toNat fun k i => ent m i k)] [.agg (enc true (imgS p m))] := by
  obtain ⟨h0, h1, h2, h3, h4⟩ := isMat_spec h
  have hv : VecB p m.r.toNat (rowsL m.c.toNat m.r.toNat fun k i => ent m i k) := VecB.rows fun k hk i hi => ent_bd h i hi k hk
  have := span_a p m.r.toNat _ h0 (by rw [rowsL_len]; omega) (by omega) hv
  rw [Int.toNat_of_nonneg h1.1] at this
  exact this
theorem matCols_a {p : Int} {m : Mat} (h : isMat p m = true) : AC Tryz.prog 115 [.agg (enc false m)] [.dt true 1 (E true (rowsL m.c.toNat m.r.toNat fun k i => ent m i k))] := by
  obtain ⟨h0, h1, h2, h3, h4⟩ := isMat_spec h
  have := columns_a m.r.toNat m.c.toNat (ent m) (by omega) (by omega)
  rw [isMat_tm h] at this
  exact this
theorem radical_a (r : Rep) (h : isRep r = true) : AC Tryz.prog 95 [.agg (enc false r)] [.dt true 2 (E true (radL r))] := by
  refine AC.go Tryz.func95 Tryz.ntmps95 rfl rfl fun w0 hw => ?_; simp [WfL, WfA, E_length, Enc.enc, In64] at hw
  obtain ⟨r1, r2, r3, r4⟩ := isRep_spec h
  obtain ⟨c1, c2, c3, _⟩ := areDims_spec r2
  have h5 := okQ_spec c1
  have hZ := zeroSub_a r (by omega)
  have hl0 := radK_len r 0
  repeat' first | refine s1 ?_ | refine q1 ?_ | (refine kR ?_; first | refine F.c (hZ) ?_) | fail
  refine F.loop (σ := Nat) [4, 5, 6, 12, 13, 14, 15, 16, 17, 18, 19, 20, 21, 22, 23, 24, 25, 26, 27, 28, 29, 30, 31, 32, 33, 34, 35, 36, 37, 38, 39, 40] (fun k => [(12, .i k)]) (fun k => [(1, .live false 2 (E true (radK r k)))]) (fun k => k ≤ r.q.fr.length) (fun k => r.q.fr.length - k) 0 ⟨rfl, trivial⟩ ⟨rfl, trivial⟩ (Nat.zero_le _) ?_
  rintro k k1
  by_cases hk : k < r.q.fr.length
  · obtain ⟨q1', q2, q3, q4⟩ := radical_m h hk
    have hkm : k < r.m.length := by omega
    obtain ⟨o1, o2⟩ := radK_ok h k (by omega) (r.q.to.getD k default).toNat q3.2
    have hL := radK_len r k
    have hCol := matCols_a q2
    have hSp := imgSpan_a q2
    have hSum := sumSpace_a r.p ((radK r k).getD (r.q.to.getD k default).toNat default) (imgS r.p (r.m.getD k default)) o2 (imgS_ok q2) (by rw [o1]; exact q4)
    have hst : radK r (k + 1) = (radK r k).set (r.q.to.getD k default).toNat (addS r.p ((radK r k).getD (r.q.to.getD k default).toNat default) (imgS r.p (r.m.getD k default))) := rfl
    have hwI := (Int.toNat_of_nonneg q3.1).symm
    generalize (r.q.to.getD k default).toNat = w at hwI hst hSum q3
    generalize radK r k = L at hst hSum hL ⊢
    generalize imgS r.p (r.m.getD k default) = IM at hSp hSum hst
    generalize hRL : (rowsL (r.m.getD k default).c.toNat (r.m.getD k default).r.toNat fun k_1 i => ent (r.m.getD k default) i k_1) = RL at hCol hSp
    generalize addS r.p (L.getD w default) IM = AS at hSum hst
    have hwl : w < L.length := by omega
    have hbl : (E true L).length = (radK r 0).length := by rw [E_length, hL, hl0]
    have hself : L.set w (L.getD w default) = L := set_self hwl
    repeat' first | refine s1 ?_ | refine q1 ?_ | fail
    refine AW.takeE (α := Spc) (o := 1) (k := w) (j := 1) (ls := L) rfl hwl rfl (E_length _ _) ?_
    refine AW.draw 17 G.mixed (by kernel_rfl) ?_
    refine dP 0 ?_
    refine dP 1 ?_
    refine dP 2 ?_
    first | refine dL 3 ?_ | refine dLQ 3 ?_
    refine dP 4 ?_
    refine dP 5 ?_
    first | refine dP 6 ?_ | refine dP 6 ?_ (hs := by exact (A.idxT (k := w) rfl rfl rfl hbl hwI (by omega))) | refine dQ 6 ?_
    first | refine dL 7 ?_ | refine dL 7 ?_ (hs := by exact (A.ldSG (k := w) rfl rfl hbl (by omega) (by omega) rfl rfl)) | refine dLQ 7 ?_
    refine dP 8 ?_
    first | refine dL 9 ?_ | refine dLQ 9 ?_
    refine dP 10 ?_
    first | refine dL 11 ?_ | refine dLQ 11 ?_
    first | refine dL 12 ?_ | refine dLQ 12 ?_
    refine dO 13 true ?_
    first | refine s1 ?_ | refine F.c (hCol) ?_
    refine ARg.nil (ATh.normal ?_)
    refine dO 14 true ?_
    first | refine s1 ?_ | refine F.c (hSp) ?_
    refine ARg.nil (ATh.normal ?_)
    refine dO 15 true ?_
    first | refine s1 ?_ | refine F.c (hSum) ?_
    refine ARg.nil (ATh.normal ?_)
    first | refine dP 16 ?_ | refine dP 16 ?_ (hs := by exact (A.idxT (k := w) rfl rfl rfl hbl hwI (by omega))) | refine dQ 16 ?_
    refine dO 17 false ?_
    first | refine s1 ?_ | (refine F.put (α := Spc) (o := 1) (o2 := 3) (k := w) (j := 1) (v := L.getD w default) (x := L.getD w default) (ls := L) rfl rfl (E_length _ _) (E_pure _ _) rfl hwl rfl rfl ?_; rw [hself]; refine F.stGE (α := Spc) (oo := true) (v := AS) rfl rfl rfl rfl rfl (by omega) (by omega) (.at1 rfl (.mv rfl (by simp) (E_length _ _) (E_pure _ _) .nil)) rfl rfl rfl rfl rfl ?_) | refine q1 ?_
    refine ARg.nil (ATh.normal ?_)
    refine dN ?_
    rotate_left
    all_goals
      rw [Nat.zero_add w]
      repeat' first | refine s1 ?_ | refine q1 ?_ | fail
      exact ⟨k + 1, F.fit ⟨rfl, trivial⟩ ⟨obE (by rw [hst]), trivial⟩, by omega, by omega⟩
  · obtain rfl : k = r.q.fr.length := by omega
    have hL := radK_len r r.q.fr.length
    have e : radK r r.q.fr.length = radL r := rfl
    rw [e] at hL ⊢
    generalize radL r = L at hL ⊢
    repeat' first | refine s1 ?_ | refine q1 ?_ | fail
    (refine kZ ?_; exact F.ret rfl)
end Go.Proofs.YtedjajokbdokhaaGreat.V
