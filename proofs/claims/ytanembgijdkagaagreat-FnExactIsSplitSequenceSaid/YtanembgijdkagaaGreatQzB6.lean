/- Joined: Contracts: columns, matrices beside each other. Contracts: what vectors span, both ways. Contracts: lists of vectors put together, sums of spaces, spaces of nothing, as the program does them. Contracts: the radical, as the program builds it.. -/
import Derived.Test.YtanembgijdkagaaGreatQzUq
import Derived.Test.YtanembgijdkagaaGreatQzB4
import Derived.Test.YtanembgijdkagaaGreatQzA51
import Derived.Test.YtanembgijdkagaaGreatQzB5
import Derived.Test.YtanembgijdkagaaGreatQzB1
import Derived.Test.YtanembgijdkagaaGreatQzA25
namespace Go.Proofs.YtanembgijdkagaaGreat.V
open V.Enc (enc)
open Go.RowKit G D
set_option linter.unusedVariables false
set_option linter.unusedSimpArgs false
set_option maxHeartbeats 4000000
set_option maxRecDepth 4000
attribute [local irreducible] AW ARg ARA ARet MRet ASil AC AM
/-- a column of which the first n numbers are set -/
def colK (r : Nat) (g : Nat → Int) (n : Nat) : List Int := rowL r fun j => if j < n then g j else 0
theorem colK_len (r : Nat) (g : Nat → Int) (n : Nat) : (colK r g n).length = r := rowL_len ..
theorem colK_zero (r : Nat) (g : Nat → Int) : colK r g 0 = List.replicate r 0 := by
  apply List.ext_getElem (by simp [colK])
  intro i h1 h2
  simp [colK, rowL]
theorem colK_set (r : Nat) (g : Nat → Int) (n : Nat) : (colK r g n).set n (g n) = colK r g (n + 1) := by
  apply List.ext_getElem (by simp [colK])
  intro i h1 h2
  rw [List.getElem_set]
  simp only [colK, rowL, List.getElem_map, List.getElem_range]
  by_cases e : n = i
  · subst e; simp
  · have : i < n + 1 ↔ i < n := by omega
    simp [e, this]
theorem colK_all (r : Nat) (g : Nat → Int) : colK r g r = rowL r g := by
  apply List.ext_getElem (by simp [colK])
  intro i h1 h2
  have : i < r := by simpa using h2
  simp [colK, rowL, this]
theorem column_a (r c k : Nat) (f : Nat → Nat → Int) (hk : k < c) (hr : r ≤ 1024) (hc : c ≤ 1024) : AC Tryz.prog 184 [.agg (enc false (tm r c f)), .i (k : Int)] [.dt true 1 (E true (rowL r fun i => f i k))] := by
  refine AC.go Tryz.func184 Tryz.ntmps184 rfl rfl fun w0 hw => ?_; simp [WfL, WfA, E_length, Enc.enc, In64] at hw
  repeat' first | refine s1 ?_ | refine q1 ?_ | (refine kR ?_; first | refine F.mk (m := r) Int rfl rfl rfl (mkB (by omega)) (by omega) rfl rfl ?_) | fail
  refine F.loop (σ := Nat) [6, 12, 13, 14, 15, 16, 17, 18, 19, 20, 21, 22, 23, 24, 25, 26, 27, 28] (fun i => [(12, .i i)]) (fun i => [(1, .live false 1 (E true (colK r (fun i => f i k) i)))]) (fun i => i ≤ r) (fun i => r - i) 0 ⟨rfl, trivial⟩ ⟨obE (by rw [colK_zero]), trivial⟩ (Nat.zero_le _) ?_
  rintro i i1
  by_cases hi : i < r
  · obtain ⟨t1, t2⟩ := tab_in (i := i) (j := k) (r := r) (c := c) hi hk hr hc
    have hs := colK_set r (fun i => f i k) i
    have hl := colK_len r (fun i => f i k) i
    generalize colK r (fun i => f i k) i = X at hs hl ⊢
    repeat' first | refine s1 ?_ | refine q1 ?_ | fail
    exact ⟨i + 1, F.fit ⟨rfl, trivial⟩ ⟨obE (by rw [Nat.zero_add, hs]), trivial⟩, by omega, by omega⟩
  · obtain rfl : i = r := by omega
    rw [colK_all]
    have hl := rowL_len i (fun j => f j k)
    generalize rowL i (fun j => f j k) = X at hl ⊢
    repeat' first | refine s1 ?_ | refine q1 ?_ | fail
    (refine kZ ?_; exact F.ret rfl)
theorem columns_a (r c : Nat) (f : Nat → Nat → Int) (hr : r ≤ 1024) (hc : c ≤ 1024) : AC Tryz.prog 148 [.agg (enc false (tm r c f))] [.dt true 1 (E true (rowsL c r fun k i => f i k))] := by
  refine AC.go Tryz.func148 Tryz.ntmps148 rfl rfl fun w0 hw => ?_; simp [WfL, WfA, E_length, Enc.enc, In64] at hw
  repeat' first | refine s1 ?_ | refine q1 ?_ | fail
  refine AW.open 3 1 (.inl rfl) ?_
  refine F.loop (σ := Nat) [3, 4, 7, 8, 9, 10, 11, 12, 13, 14, 15, 16] (fun k => [(3, .sl 1 k 0 k), (7, .i k)]) (fun k => [(1, .live false 1 (E true ((rowsL c r fun k i => f i k).take k)))]) (fun k => k ≤ c) (fun k => c - k) 0 ⟨rfl, rfl, trivial⟩ ⟨rfl, trivial⟩ (Nat.zero_le _) ?_
  rintro k k1
  have hll := rowsL_len c r fun k i => f i k
  have hp : ((rowsL c r fun k i => f i k).take k).length = k := by rw [List.length_take]; omega
  by_cases hk : k < c
  · have hC := column_a r c k f hk hr hc
    have hts := rowsL_take r (fun k i => f i k) hk
    have hrl := rowL_len r (fun i => f i k)
    generalize rowL r (fun i => f i k) = X at hC hts hrl
    repeat' first | refine s1 ?_ | refine q1 ?_ | (refine kR ?_; first | refine F.c (hC) ?_ | refine F.a1 (List Int) (a := X) ?_) | fail
    exact ⟨k + 1, F.fit ⟨rfl, rfl, trivial⟩ ⟨obE (by rw [hts]), trivial⟩, by omega, by omega⟩
  · obtain rfl : k = c := by omega
    have e : (rowsL k r fun k i => f i k).take k = rowsL k r fun k i => f i k := List.take_of_length_le (by omega)
    rw [e]
    clear hp e
    generalize (rowsL k r fun k i => f i k) = X at hll ⊢
    repeat' first | refine s1 ?_ | refine q1 ?_ | fail
    (refine kZ ?_; exact F.ret rfl)
/-- two tables beside each other -/
def besF (c : Nat) (f g : Nat → Nat → Int) : Nat → Nat → Int := fun i j => if j < c then f i j else g i (j - c)
theorem app_getD {α : Type} [Inhabited α] (x y : List α) (k : Nat) : (x ++ y).getD k default = if k < x.length then x.getD k default else y.getD (k - x.length) default := by
  by_cases h : k < x.length
  · rw [if_pos h, List.getD_eq_getElem?_getD, List.getElem?_append_left h, ← List.getD_eq_getElem?_getD]
  · rw [if_neg h, List.getD_eq_getElem?_getD, List.getElem?_append_right (by omega), ← List.getD_eq_getElem?_getD]
theorem bes_fc (r c1 c2 : Nat) (f g : Nat → Nat → Int) : tm r ((rowsL c1 r fun k i => f i k) ++ (rowsL c2 r fun k i => g i k)).length (fcF ((rowsL c1 r fun k i => f i k) ++ (rowsL c2 r fun k i => g i k))) = tm r (c1 + c2) (besF c1 f g) := by
  unfold tm
  rw [List.length_append, rowsL_len, rowsL_len]
  congr 1
  apply tab_ext
  intro i hi j hj
  unfold fcF besF
  rw [app_getD, rowsL_len]
  by_cases h : j < c1
  · rw [if_pos h, if_pos h, rowsL_get _ _ h, rowL_get _ hi]
  · rw [if_neg h, if_neg h, rowsL_get _ _ (by omega), rowL_get _ hi]
theorem beside_a (r c1 c2 : Nat) (f g : Nat → Nat → Int) (hr : r ≤ 1024) (hc : c1 + c2 ≤ 1024) : AC Tryz.prog 126 [.agg (enc false (tm r c1 f)), .agg (enc false (tm r c2 g))] [.agg (enc true (tm r (c1 + c2) (besF c1 f g)))] := by
  refine AC.go Tryz.func126 Tryz.ntmps126 rfl rfl fun w0 hw => ?_; simp [WfL, WfA, E_length, Enc.enc, In64] at hw
  have hA := columns_a r c1 f hr (by omega)
  have hB := columns_a r c2 g hr (by omega)
  have hF := fromColumns_a r ((rowsL c1 r fun k i => f i k) ++ (rowsL c2 r fun k i => g i k)) hr (by rw [List.length_append, rowsL_len, rowsL_len]; exact hc) (fun k hk => by
    rw [List.length_append, rowsL_len, rowsL_len] at hk
    rw [app_getD, rowsL_len]
    by_cases h : k < c1
    · rw [if_pos h, rowsL_get _ _ h, rowL_len]
    · rw [if_neg h, rowsL_get _ _ (by omega), rowL_len])
  rw [bes_fc] at hF
  have l1 := rowsL_len c1 r fun k i => f i k
  have l2 := rowsL_len c2 r fun k i => g i k
  generalize (rowsL c1 r fun k i => f i k) = X at hA hF l1
  generalize (rowsL c2 r fun k i => g i k) = Y at hB hF l2
  repeat' first | refine s1 ?_ | refine q1 ?_ | fail
  refine AW.draw 1 G.mixed (by kernel_rfl) ?_
  refine dP 0 ?_
  refine ARA.any [1, 2, 4] (by kernel_rfl) (by simp) ?_
  intro k hk
  simp only [List.mem_cons, List.not_mem_nil, or_false] at hk
  rcases hk with rfl | rfl | rfl
  refine ⟨_, true, rfl, rfl, ?_⟩
  first | refine s1 ?_ | refine q1 ?_
  refine ARg.nil (ATh.normal ?_)
  refine ARA.any [2, 4] (by kernel_rfl) (by simp) ?_
  intro k hk
  simp only [List.mem_cons, List.not_mem_nil, or_false] at hk
  rcases hk with rfl | rfl
  refine ⟨_, true, rfl, rfl, ?_⟩
  first | refine s1 ?_ | refine q1 ?_
  refine ARg.nil (ATh.normal ?_)
  refine ARA.any [3, 4] (by kernel_rfl) (by simp) ?_
  intro k hk
  simp only [List.mem_cons, List.not_mem_nil, or_false] at hk
  rcases hk with rfl | rfl
  refine ⟨_, false, rfl, rfl, ?_⟩
  first | refine s1 ?_ | refine F.c (hA) ?_
  refine ARg.nil (ATh.normal ?_)
  refine dO 4 true ?_
  first | refine s1 ?_ | refine q1 ?_
  refine ARg.nil (ATh.normal ?_)
  refine dO 5 false ?_
  first | refine s1 ?_ | refine F.c (hB) ?_
  refine ARg.nil (ATh.normal ?_)
  refine dO 6 false ?_
  first | refine s1 ?_ | refine F.aL (List Int) (oo := true) ?_ (hsrc := .own rfl rfl (by rw [E_length]))
  refine ARg.nil (ATh.normal ?_)
  refine dO 7 false ?_
  first | refine s1 ?_ | refine F.c (hF) ?_
  refine ARg.nil (ATh.normal ?_)
  refine dO 8 false ?_
  first | refine s1 ?_ | refine q1 ?_
  refine ARg.nil (ATh.normal ?_)
  refine dN ?_
  rotate_left
  refine ⟨_, true, rfl, rfl, ?_⟩
  first | refine s1 ?_ | refine q1 ?_
  refine ARg.nil (ATh.normal ?_)
  refine dO 3 false ?_
  first | refine s1 ?_ | refine F.c (hA) ?_
  refine ARg.nil (ATh.normal ?_)
  refine dO 5 false ?_
  first | refine s1 ?_ | refine F.c (hB) ?_
  refine ARg.nil (ATh.normal ?_)
  refine dO 6 false ?_
  first | refine s1 ?_ | refine F.aL (List Int) (oo := true) ?_ (hsrc := .own rfl rfl (by rw [E_length]))
  refine ARg.nil (ATh.normal ?_)
  refine dO 7 false ?_
  first | refine s1 ?_ | refine F.c (hF) ?_
  refine ARg.nil (ATh.normal ?_)
  refine dO 8 false ?_
  first | refine s1 ?_ | refine q1 ?_
  refine ARg.nil (ATh.normal ?_)
  refine dN ?_
  rotate_left
  refine ⟨_, true, rfl, rfl, ?_⟩
  first | refine s1 ?_ | refine q1 ?_
  refine ARg.nil (ATh.normal ?_)
  refine dO 2 true ?_
  first | refine s1 ?_ | refine q1 ?_
  refine ARg.nil (ATh.normal ?_)
  refine dO 3 false ?_
  first | refine s1 ?_ | refine F.c (hA) ?_
  refine ARg.nil (ATh.normal ?_)
  refine dO 5 false ?_
  first | refine s1 ?_ | refine F.c (hB) ?_
  refine ARg.nil (ATh.normal ?_)
  refine dO 6 false ?_
  first | refine s1 ?_ | refine F.aL (List Int) (oo := true) ?_ (hsrc := .own rfl rfl (by rw [E_length]))
  refine ARg.nil (ATh.normal ?_)
  refine dO 7 false ?_
  first | refine s1 ?_ | refine F.c (hF) ?_
  refine ARg.nil (ATh.normal ?_)
  refine dO 8 false ?_
  first | refine s1 ?_ | refine q1 ?_
  refine ARg.nil (ATh.normal ?_)
  refine dN ?_
  rotate_left
  refine ⟨_, true, rfl, rfl, ?_⟩
  first | refine s1 ?_ | refine q1 ?_
  refine ARg.nil (ATh.normal ?_)
  refine ARA.any [1, 3, 4] (by kernel_rfl) (by simp) ?_
  intro k hk
  simp only [List.mem_cons, List.not_mem_nil, or_false] at hk
  rcases hk with rfl | rfl | rfl
  refine ⟨_, true, rfl, rfl, ?_⟩
  first | refine s1 ?_ | refine q1 ?_
  refine ARg.nil (ATh.normal ?_)
  refine ARA.any [3, 4] (by kernel_rfl) (by simp) ?_
  intro k hk
  simp only [List.mem_cons, List.not_mem_nil, or_false] at hk
  rcases hk with rfl | rfl
  refine ⟨_, false, rfl, rfl, ?_⟩
  first | refine s1 ?_ | refine F.c (hA) ?_
  refine ARg.nil (ATh.normal ?_)
  refine dO 4 true ?_
  first | refine s1 ?_ | refine q1 ?_
  refine ARg.nil (ATh.normal ?_)
  refine dO 5 false ?_
  first | refine s1 ?_ | refine F.c (hB) ?_
  refine ARg.nil (ATh.normal ?_)
  refine dO 6 false ?_
  first | refine s1 ?_ | refine F.aL (List Int) (oo := true) ?_ (hsrc := .own rfl rfl (by rw [E_length]))
  refine ARg.nil (ATh.normal ?_)
  refine dO 7 false ?_
  first | refine s1 ?_ | refine F.c (hF) ?_
  refine ARg.nil (ATh.normal ?_)
  refine dO 8 false ?_
  first | refine s1 ?_ | refine q1 ?_
  refine ARg.nil (ATh.normal ?_)
  refine dN ?_
  rotate_left
  refine ⟨_, true, rfl, rfl, ?_⟩
  first | refine s1 ?_ | refine q1 ?_
  refine ARg.nil (ATh.normal ?_)
  refine dO 3 false ?_
  first | refine s1 ?_ | refine F.c (hA) ?_
  refine ARg.nil (ATh.normal ?_)
  refine dO 5 false ?_
  first | refine s1 ?_ | refine F.c (hB) ?_
  refine ARg.nil (ATh.normal ?_)
  refine dO 6 false ?_
  first | refine s1 ?_ | refine F.aL (List Int) (oo := true) ?_ (hsrc := .own rfl rfl (by rw [E_length]))
  refine ARg.nil (ATh.normal ?_)
  refine dO 7 false ?_
  first | refine s1 ?_ | refine F.c (hF) ?_
  refine ARg.nil (ATh.normal ?_)
  refine dO 8 false ?_
  first | refine s1 ?_ | refine q1 ?_
  refine ARg.nil (ATh.normal ?_)
  refine dN ?_
  rotate_left
  refine ⟨_, false, rfl, rfl, ?_⟩
  first | refine s1 ?_ | refine F.c (hA) ?_
  refine ARg.nil (ATh.normal ?_)
  refine ARA.any [1, 4] (by kernel_rfl) (by simp) ?_
  intro k hk
  simp only [List.mem_cons, List.not_mem_nil, or_false] at hk
  rcases hk with rfl | rfl
  refine ⟨_, true, rfl, rfl, ?_⟩
  first | refine s1 ?_ | refine q1 ?_
  refine ARg.nil (ATh.normal ?_)
  refine dO 4 true ?_
  first | refine s1 ?_ | refine q1 ?_
  refine ARg.nil (ATh.normal ?_)
  refine dO 5 false ?_
  first | refine s1 ?_ | refine F.c (hB) ?_
  refine ARg.nil (ATh.normal ?_)
  refine dO 6 false ?_
  first | refine s1 ?_ | refine F.aL (List Int) (oo := true) ?_ (hsrc := .own rfl rfl (by rw [E_length]))
  refine ARg.nil (ATh.normal ?_)
  refine dO 7 false ?_
  first | refine s1 ?_ | refine F.c (hF) ?_
  refine ARg.nil (ATh.normal ?_)
  refine dO 8 false ?_
  first | refine s1 ?_ | refine q1 ?_
  refine ARg.nil (ATh.normal ?_)
  refine dN ?_
  rotate_left
  refine ⟨_, true, rfl, rfl, ?_⟩
  first | refine s1 ?_ | refine q1 ?_
  refine ARg.nil (ATh.normal ?_)
  refine ARA.any [1, 5] (by kernel_rfl) (by simp) ?_
  intro k hk
  simp only [List.mem_cons, List.not_mem_nil, or_false] at hk
  rcases hk with rfl | rfl
  refine ⟨_, true, rfl, rfl, ?_⟩
  first | refine s1 ?_ | refine q1 ?_
  refine ARg.nil (ATh.normal ?_)
  refine dO 5 false ?_
  first | refine s1 ?_ | refine F.c (hB) ?_
  refine ARg.nil (ATh.normal ?_)
  refine dO 6 false ?_
  first | refine s1 ?_ | refine F.aL (List Int) (oo := true) ?_ (hsrc := .own rfl rfl (by rw [E_length]))
  refine ARg.nil (ATh.normal ?_)
  refine dO 7 false ?_
  first | refine s1 ?_ | refine F.c (hF) ?_
  refine ARg.nil (ATh.normal ?_)
  refine dO 8 false ?_
  first | refine s1 ?_ | refine q1 ?_
  refine ARg.nil (ATh.normal ?_)
  refine dN ?_
  rotate_left
  refine ⟨_, false, rfl, rfl, ?_⟩
  first | refine s1 ?_ | refine F.c (hB) ?_
  refine ARg.nil (ATh.normal ?_)
  refine ARA.any [1, 6] (by kernel_rfl) (by simp) ?_
  intro k hk
  simp only [List.mem_cons, List.not_mem_nil, or_false] at hk
  rcases hk with rfl | rfl
  refine ⟨_, true, rfl, rfl, ?_⟩
  first | refine s1 ?_ | refine q1 ?_
  refine ARg.nil (ATh.normal ?_)
  refine dO 6 false ?_
  first | refine s1 ?_ | refine F.aL (List Int) (oo := true) ?_ (hsrc := .own rfl rfl (by rw [E_length]))
  refine ARg.nil (ATh.normal ?_)
  refine dO 7 false ?_
  first | refine s1 ?_ | refine F.c (hF) ?_
  refine ARg.nil (ATh.normal ?_)
  refine dO 8 false ?_
  first | refine s1 ?_ | refine q1 ?_
  refine ARg.nil (ATh.normal ?_)
  refine dN ?_
  rotate_left
  refine ⟨_, false, rfl, rfl, ?_⟩
  first | refine s1 ?_ | refine F.aL (List Int) (oo := true) ?_ (hsrc := .own rfl rfl (by rw [E_length]))
  refine ARg.nil (ATh.normal ?_)
  refine dO 1 true ?_
  first | refine s1 ?_ | refine q1 ?_
  refine ARg.nil (ATh.normal ?_)
  refine dO 7 false ?_
  first | refine s1 ?_ | refine F.c (hF) ?_
  refine ARg.nil (ATh.normal ?_)
  refine dO 8 false ?_
  first | refine s1 ?_ | refine q1 ?_
  refine ARg.nil (ATh.normal ?_)
  refine dN ?_
  rotate_left
  refine ⟨_, true, rfl, rfl, ?_⟩
  first | refine s1 ?_ | refine q1 ?_
  refine ARg.nil (ATh.normal ?_)
  refine ARA.any [1, 3] (by kernel_rfl) (by simp) ?_
  intro k hk
  simp only [List.mem_cons, List.not_mem_nil, or_false] at hk
  rcases hk with rfl | rfl
  refine ⟨_, true, rfl, rfl, ?_⟩
  first | refine s1 ?_ | refine q1 ?_
  refine ARg.nil (ATh.normal ?_)
  refine dO 3 false ?_
  first | refine s1 ?_ | refine F.c (hA) ?_
  refine ARg.nil (ATh.normal ?_)
  refine dO 5 false ?_
  first | refine s1 ?_ | refine F.c (hB) ?_
  refine ARg.nil (ATh.normal ?_)
  refine dO 6 false ?_
  first | refine s1 ?_ | refine F.aL (List Int) (oo := true) ?_ (hsrc := .own rfl rfl (by rw [E_length]))
  refine ARg.nil (ATh.normal ?_)
  refine dO 7 false ?_
  first | refine s1 ?_ | refine F.c (hF) ?_
  refine ARg.nil (ATh.normal ?_)
  refine dO 8 false ?_
  first | refine s1 ?_ | refine q1 ?_
  refine ARg.nil (ATh.normal ?_)
  refine dN ?_
  rotate_left
  refine ⟨_, false, rfl, rfl, ?_⟩
  first | refine s1 ?_ | refine F.c (hA) ?_
  refine ARg.nil (ATh.normal ?_)
  refine ARA.any [1, 5] (by kernel_rfl) (by simp) ?_
  intro k hk
  simp only [List.mem_cons, List.not_mem_nil, or_false] at hk
  rcases hk with rfl | rfl
  refine ⟨_, true, rfl, rfl, ?_⟩
  first | refine s1 ?_ | refine q1 ?_
  refine ARg.nil (ATh.normal ?_)
  refine dO 5 false ?_
  first | refine s1 ?_ | refine F.c (hB) ?_
  refine ARg.nil (ATh.normal ?_)
  refine dO 6 false ?_
  first | refine s1 ?_ | refine F.aL (List Int) (oo := true) ?_ (hsrc := .own rfl rfl (by rw [E_length]))
  refine ARg.nil (ATh.normal ?_)
  refine dO 7 false ?_
  first | refine s1 ?_ | refine F.c (hF) ?_
  refine ARg.nil (ATh.normal ?_)
  refine dO 8 false ?_
  first | refine s1 ?_ | refine q1 ?_
  refine ARg.nil (ATh.normal ?_)
  refine dN ?_
  rotate_left
  refine ⟨_, false, rfl, rfl, ?_⟩
  first | refine s1 ?_ | refine F.c (hB) ?_
  refine ARg.nil (ATh.normal ?_)
  refine ARA.any [1, 6] (by kernel_rfl) (by simp) ?_
  intro k hk
  simp only [List.mem_cons, List.not_mem_nil, or_false] at hk
  rcases hk with rfl | rfl
  refine ⟨_, true, rfl, rfl, ?_⟩
  first | refine s1 ?_ | refine q1 ?_
  refine ARg.nil (ATh.normal ?_)
  refine dO 6 false ?_
  first | refine s1 ?_ | refine F.aL (List Int) (oo := true) ?_ (hsrc := .own rfl rfl (by rw [E_length]))
  refine ARg.nil (ATh.normal ?_)
  refine dO 7 false ?_
  first | refine s1 ?_ | refine F.c (hF) ?_
  refine ARg.nil (ATh.normal ?_)
  refine dO 8 false ?_
  first | refine s1 ?_ | refine q1 ?_
  refine ARg.nil (ATh.normal ?_)
  refine dN ?_
  rotate_left
  refine ⟨_, false, rfl, rfl, ?_⟩
  first | refine s1 ?_ | refine F.aL (List Int) (oo := true) ?_ (hsrc := .own rfl rfl (by rw [E_length]))
  refine ARg.nil (ATh.normal ?_)
  refine dO 1 true ?_
  first | refine s1 ?_ | refine q1 ?_
  refine ARg.nil (ATh.normal ?_)
  refine dO 7 false ?_
  first | refine s1 ?_ | refine F.c (hF) ?_
  refine ARg.nil (ATh.normal ?_)
  refine dO 8 false ?_
  first | refine s1 ?_ | refine q1 ?_
  refine ARg.nil (ATh.normal ?_)
  refine dN ?_
  rotate_left
  refine ⟨_, true, rfl, rfl, ?_⟩
  first | refine s1 ?_ | refine q1 ?_
  refine ARg.nil (ATh.normal ?_)
  refine ARA.any [1, 2] (by kernel_rfl) (by simp) ?_
  intro k hk
  simp only [List.mem_cons, List.not_mem_nil, or_false] at hk
  rcases hk with rfl | rfl
  refine ⟨_, true, rfl, rfl, ?_⟩
  first | refine s1 ?_ | refine q1 ?_
  refine ARg.nil (ATh.normal ?_)
  refine dO 2 true ?_
  first | refine s1 ?_ | refine q1 ?_
  refine ARg.nil (ATh.normal ?_)
  refine dO 3 false ?_
  first | refine s1 ?_ | refine F.c (hA) ?_
  refine ARg.nil (ATh.normal ?_)
  refine dO 5 false ?_
  first | refine s1 ?_ | refine F.c (hB) ?_
  refine ARg.nil (ATh.normal ?_)
  refine dO 6 false ?_
  first | refine s1 ?_ | refine F.aL (List Int) (oo := true) ?_ (hsrc := .own rfl rfl (by rw [E_length]))
  refine ARg.nil (ATh.normal ?_)
  refine dO 7 false ?_
  first | refine s1 ?_ | refine F.c (hF) ?_
  refine ARg.nil (ATh.normal ?_)
  refine dO 8 false ?_
  first | refine s1 ?_ | refine q1 ?_
  refine ARg.nil (ATh.normal ?_)
  refine dN ?_
  rotate_left
  refine ⟨_, true, rfl, rfl, ?_⟩
  first | refine s1 ?_ | refine q1 ?_
  refine ARg.nil (ATh.normal ?_)
  refine ARA.any [1, 3] (by kernel_rfl) (by simp) ?_
  intro k hk
  simp only [List.mem_cons, List.not_mem_nil, or_false] at hk
  rcases hk with rfl | rfl
  refine ⟨_, true, rfl, rfl, ?_⟩
  first | refine s1 ?_ | refine q1 ?_
  refine ARg.nil (ATh.normal ?_)
  refine dO 3 false ?_
  first | refine s1 ?_ | refine F.c (hA) ?_
  refine ARg.nil (ATh.normal ?_)
  refine dO 5 false ?_
  first | refine s1 ?_ | refine F.c (hB) ?_
  refine ARg.nil (ATh.normal ?_)
  refine dO 6 false ?_
  first | refine s1 ?_ | refine F.aL (List Int) (oo := true) ?_ (hsrc := .own rfl rfl (by rw [E_length]))
  refine ARg.nil (ATh.normal ?_)
  refine dO 7 false ?_
  first | refine s1 ?_ | refine F.c (hF) ?_
  refine ARg.nil (ATh.normal ?_)
  refine dO 8 false ?_
  first | refine s1 ?_ | refine q1 ?_
  refine ARg.nil (ATh.normal ?_)
  refine dN ?_
  rotate_left
  refine ⟨_, false, rfl, rfl, ?_⟩
  first | refine s1 ?_ | refine F.c (hA) ?_
  refine ARg.nil (ATh.normal ?_)
  refine ARA.any [1, 5] (by kernel_rfl) (by simp) ?_
  intro k hk
  simp only [List.mem_cons, List.not_mem_nil, or_false] at hk
  rcases hk with rfl | rfl
  refine ⟨_, true, rfl, rfl, ?_⟩
  first | refine s1 ?_ | refine q1 ?_
  refine ARg.nil (ATh.normal ?_)
  refine dO 5 false ?_
  first | refine s1 ?_ | refine F.c (hB) ?_
  refine ARg.nil (ATh.normal ?_)
  refine dO 6 false ?_
  first | refine s1 ?_ | refine F.aL (List Int) (oo := true) ?_ (hsrc := .own rfl rfl (by rw [E_length]))
  refine ARg.nil (ATh.normal ?_)
  refine dO 7 false ?_
  first | refine s1 ?_ | refine F.c (hF) ?_
  refine ARg.nil (ATh.normal ?_)
  refine dO 8 false ?_
  first | refine s1 ?_ | refine q1 ?_
  refine ARg.nil (ATh.normal ?_)
  refine dN ?_
  rotate_left
  refine ⟨_, false, rfl, rfl, ?_⟩
  first | refine s1 ?_ | refine F.c (hB) ?_
  refine ARg.nil (ATh.normal ?_)
  refine ARA.any [1, 6] (by kernel_rfl) (by simp) ?_
  intro k hk
  simp only [List.mem_cons, List.not_mem_nil, or_false] at hk
  rcases hk with rfl | rfl
  refine ⟨_, true, rfl, rfl, ?_⟩
  first | refine s1 ?_ | refine q1 ?_
  refine ARg.nil (ATh.normal ?_)
  refine dO 6 false ?_
  first | refine s1 ?_ | refine F.aL (List Int) (oo := true) ?_ (hsrc := .own rfl rfl (by rw [E_length]))
  refine ARg.nil (ATh.normal ?_)
  refine dO 7 false ?_
  first | refine s1 ?_ | refine F.c (hF) ?_
  refine ARg.nil (ATh.normal ?_)
  refine dO 8 false ?_
  first | refine s1 ?_ | refine q1 ?_
  refine ARg.nil (ATh.normal ?_)
  refine dN ?_
  rotate_left
  refine ⟨_, false, rfl, rfl, ?_⟩
  first | refine s1 ?_ | refine F.aL (List Int) (oo := true) ?_ (hsrc := .own rfl rfl (by rw [E_length]))
  refine ARg.nil (ATh.normal ?_)
  refine dO 1 true ?_
  first | refine s1 ?_ | refine q1 ?_
  refine ARg.nil (ATh.normal ?_)
  refine dO 7 false ?_
  first | refine s1 ?_ | refine F.c (hF) ?_
  refine ARg.nil (ATh.normal ?_)
  refine dO 8 false ?_
  first | refine s1 ?_ | refine q1 ?_
  refine ARg.nil (ATh.normal ?_)
  refine dN ?_
  rotate_left
  all_goals
    repeat' first | refine s1 ?_ | refine q1 ?_ | fail
    (refine kZ ?_; exact F.ret rfl)
end Go.Proofs.YtanembgijdkagaaGreat.V
namespace Go.Proofs.YtanembgijdkagaaGreat.V
open V.Enc (enc)
open Go.RowKit G D
set_option linter.unusedVariables false
set_option linter.unusedSimpArgs false
set_option maxHeartbeats 4000000
set_option maxRecDepth 4000
attribute [local irreducible] AW ARg ARA ARet MRet ASil AC AM
theorem tab_succ (k n : Nat) (f : Nat → Nat → Int) : tab (k + 1) n f = tab k n f ++ rowL n (f k) := by
  unfold tab rowL
  rw [Nat.add_mul, Nat.one_mul, List.range_add, List.map_append, List.map_map]
  congr 1
  apply List.map_congr_left
  intro t ht
  have ht : t < n := by simpa using ht
  have d := tab_div (i := k) ht
  show f ((k * n + t) / n) ((k * n + t) % n) = f k t
  rw [d.1, d.2]
theorem vec_row {l : List (List Int)} {n k : Nat} (h : (l.getD k default).length = n) : rowL n (vecF l k) = l.getD k default := rowL_of h
theorem flat_tab {l : List (List Int)} {n : Nat} (h : ∀ k, k < l.length → (l.getD k default).length = n) : ∀ k, k ≤ l.length → (l.take k).flatten = tab k n (vecF l)
  | 0, _ => by simp [tab]
  | k + 1, hk => by rw [flat_take l hk, flat_tab h k (by omega), tab_succ, vec_row (h k hk)]
theorem fromRows_a (n : Nat) (l : List (List Int)) (hl : l.length ≤ 1000) (hn : n ≤ 1000) (h : ∀ k, k < l.length → (l.getD k default).length = n) : AC Tryz.prog 210 [.i (n : Int), ar false l] [.agg (enc true (tm l.length n (vecF l)))] := by
  refine AC.go Tryz.func210 Tryz.ntmps210 rfl rfl fun w0 hw => ?_; simp [WfL, WfA, E_length, Enc.enc, In64] at hw
  have e := flat_tab h l.length (Nat.le_refl _)
  rw [List.take_length] at e
  have hb : l.length * n ≤ 1000 * 1000 := Nat.mul_le_mul hl hn
  have hC := concat_a l (by rw [e, tab_len]; omega)
  rw [e] at hC
  unfold tm
  generalize tab l.length n (vecF l) = T at hC ⊢
  repeat' first | refine s1 ?_ | refine q1 ?_ | (refine kR ?_; first | refine F.c (hC) ?_) | fail
  (refine kZ ?_; exact F.ret rfl)
theorem VecB.len {p : Int} {n : Nat} {l : List (List Int)} (h : VecB p n l) : ∀ k, k < l.length → (l.getD k default).length = n := fun k hk => (h _ (gm hk)).1
theorem spanB_take {p : Int} {r n : Nat} {f : Nat → Nat → Int} {i : Nat} (hi : i < (redK p r f n).2.length) : (spanB p r n f).take (i + 1) = (spanB p r n f).take i ++ [rowL n ((redK p r f n).1 i)] := rowsL_take n _ hi
theorem span_a (p : Int) (n : Nat) (l : List (List Int)) (hF : isF p = true) (hl : l.length ≤ 1000) (hn : n ≤ 1000) (hv : VecB p n l) : AC Tryz.prog 183 [.i p, .i (n : Int), ar false l] [.agg (enc true (⟨(n : Nat), spanL p n l⟩ : Spc))] := by
  refine AC.go Tryz.func183 Tryz.ntmps183 rfl rfl fun w0 hw => ?_; simp [WfL, WfA, E_length, Enc.enc, In64] at hw
  have h5 := isF_pos hF
  have hA := fromRows_a n l hl hn hv.len
  have hR := implReduce_a p l.length n (vecF l) hF (by omega) (by omega) hv.bd
  obtain ⟨b1, b2, b3, b4⟩ := redK_bd (p := p) (by omega) hv.bd n
  have hSl := spanB_len p l.length n (vecF l)
  have hSt := fun i hi => spanB_take (p := p) (r := l.length) (n := n) (f := vecF l) (i := i) hi
  unfold spanL
  generalize spanB p l.length n (vecF l) = SB at hSl hSt ⊢
  generalize redK p l.length (vecF l) n = R at hR b1 b2 b3 b4 hSl hSt
  obtain ⟨g, piv⟩ := R
  dsimp only at hR b1 b2 b3 b4 hSl hSt
  have hpl := ints_len piv
  generalize ints piv = PI at hR hpl
  generalize tm l.length n (vecF l) = T0 at hA hR
  generalize hrr : l.length = r at *
  have hN := tab_len r n g
  have hNb : r * n ≤ 1048576 := tab_le (by omega) (by omega)
  repeat' first | refine s1 ?_ | refine q1 ?_ | (refine kR ?_; first | refine F.c (hA) ?_ | refine F.c (hR) ?_) | fail
  refine AW.open 9 1 (.inl rfl) ?_
  refine F.loop (σ := Nat) [9, 10, 21, 22, 23, 24, 25, 26, 27, 28, 29, 30, 31] (fun i => [(9, .sl 5 i 0 i), (21, .i i)]) (fun i => [(2, .live false 1 (E true (tab r n g))), (5, .live false 1 (E true (SB.take i)))]) (fun i => i ≤ piv.length) (fun i => piv.length - i) 0 ⟨rfl, rfl, trivial⟩ ⟨rfl, rfl, trivial⟩ (Nat.zero_le _) ?_
  rintro i i1
  have hp2 : (SB.take i).length = i := by rw [List.length_take]; omega
  by_cases hi : i < piv.length
  · have hir : i < r := by omega
    have hRw := row_m r n i g _ hN hir (by omega) (by omega)
    have hC : AC Tryz.prog 146 [ar false (((tab r n g).drop (i * n)).take n)] [.dt true 1 (E true (rowL n (g i)))] := by
      rw [tab_row g hir]
      exact clone_a (rowL n (g i)) (by simp; omega)
    have hts := hSt i hi
    have hrl := rowL_len n (g i)
    generalize rowL n (g i) = X at hC hts hrl
    repeat' first | refine s1 ?_ | refine q1 ?_ | (refine kR ?_; first | refine F.m [2] (hRw) ?_ | refine F.c (hC) ?_ | refine F.a1 (List Int) (a := X) ?_) | fail
    exact ⟨i + 1, F.fit ⟨rfl, rfl, trivial⟩ ⟨rfl, obE (by rw [hts]), trivial⟩, by omega, by omega⟩
  · obtain rfl : i = piv.length := by omega
    have e : SB.take piv.length = SB := List.take_of_length_le (by omega)
    rw [e]
    rw [← hSl]
    clear hp2 e
    repeat' first | refine s1 ?_ | refine q1 ?_ | fail
    (refine kZ ?_; exact F.ret rfl)
end Go.Proofs.YtanembgijdkagaaGreat.V
namespace Go.Proofs.YtanembgijdkagaaGreat.V
open Go.RowKit G D
set_option linter.unusedVariables false
set_option linter.unusedSimpArgs false
set_option maxHeartbeats 4000000
set_option maxRecDepth 4000
attribute [local irreducible] AW ARg ARA ARet MRet ASil AC AM
theorem zeroS_take {d : List Int} {k : Nat} (h : k < d.length) : (d.take (k + 1)).map (fun d => (⟨d, []⟩ : Spc)) = (d.take k).map (fun d => (⟨d, []⟩ : Spc)) ++ [⟨d.getD k default, []⟩] := by
  have e : d.getD k default = d[k] := by simp [h]
  rw [List.take_succ_eq_append_getElem h, List.map_append, e]
  rfl
end Go.Proofs.YtanembgijdkagaaGreat.V
namespace Go.Proofs.YtanembgijdkagaaGreat.V
open V.Enc (enc)
open Go.RowKit G D
set_option linter.unusedVariables false
set_option linter.unusedSimpArgs false
set_option maxHeartbeats 4000000
set_option maxRecDepth 4000
attribute [local irreducible] AW ARg ARA ARet MRet ASil AC AM
theorem imgSpan_a {p : Int} {m : Mat} (h : isMat p m = true) : AC Tryz.prog 183 [.i p, .i m.r, ar false (rowsL m.c.toNat m.r.toNat fun k i => ent m i k)] [.agg (enc true (imgS p m))] := by
  obtain ⟨h0, h1, h2, h3, h4⟩ := isMat_spec h
  have hv : VecB p m.r.toNat (rowsL m.c.toNat m.r.toNat fun k i => ent m i k) := VecB.rows fun k hk i hi => ent_bd h i hi k hk
  have := span_a p m.r.toNat _ h0 (by rw [rowsL_len]; omega) (by omega) hv
  rw [Int.toNat_of_nonneg h1.1] at this
  exact this
theorem matCols_a {p : Int} {m : Mat} (h : isMat p m = true) : AC Tryz.prog 148 [.agg (enc false m)] [.dt true 1 (E true (rowsL m.c.toNat m.r.toNat fun k i => ent m i k))] := by
  obtain ⟨h0, h1, h2, h3, h4⟩ := isMat_spec h
  have := columns_a m.r.toNat m.c.toNat (ent m) (by omega) (by omega)
  rw [isMat_tm h] at this
  exact this
end Go.Proofs.YtanembgijdkagaaGreat.V
