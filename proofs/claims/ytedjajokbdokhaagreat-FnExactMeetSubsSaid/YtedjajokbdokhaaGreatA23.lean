/- Contracts: rows, sums and products of matrices. -/
import Derived.Test.YtedjajokbdokhaaGreatUq
import Derived.Test.YtedjajokbdokhaaGreatUd
import Derived.Test.YtedjajokbdokhaaGreatB2
import Derived.Test.YtedjajokbdokhaaGreatA17
namespace Go.Proofs.YtedjajokbdokhaaGreat.V
open V.Enc (enc)
open Go.RowKit G D
set_option linter.unusedVariables false
set_option linter.unusedSimpArgs false
set_option maxHeartbeats 2000000
set_option maxRecDepth 4000
attribute [local irreducible] AW ARg ARA ARet MRet ASil AC AM

theorem row_in {r c i : Nat} (hi : i < r) (hr : r ≤ 1024) (hc : c ≤ 1024) : In64 ((i : Int) * (c : Int)) ∧ In64 (((i : Int) + 1) * (c : Int)) := by
  have h : (i : Int) * (c : Int) ≤ 1024 * 1024 := Int.mul_le_mul (by omega) (by omega) (by omega) (by omega)
  have h0 : 0 ≤ (i : Int) * (c : Int) := Int.mul_nonneg (by omega) (by omega)
  rw [Int.add_mul, Int.one_mul]
  unfold In64; omega
/-- a row of an object -/
theorem row_m (r c i : Nat) (f : Nat → Nat → Int) (n : Nat) (hn : n = r * c) (hi : i < r) (hr : r ≤ 1024) (hc : c ≤ 1024) :
    AM Tryz.prog 169 [.agg [.i (r : Int), .i (c : Int), .sl 0 n 0 n], .i (i : Int)] [(1, E true (tab r c f))] [.sl 0 n (i * c) c] [(1, E true (tab r c f))] := by
  refine AM.go Tryz.func169 Tryz.ntmps169 rfl rfl fun w0 mp hw => ?_; simp [WfL, WfA, E_length, Enc.enc, In64] at hw
  obtain ⟨h1, h2⟩ := row_in hi hr hc
  repeat' first | refine s1 ?_ | refine q1 ?_ | (refine kR ?_; first | refine F.sil (A.slcQ rfl rfl rfl rfl hi hn) rfl rfl ?_) | fail
  refine kM ?_
  exact F.retM rfl ⟨rfl, trivial⟩
/-- a row of what does not change -/
theorem row_w (r c i : Nat) (f : Nat → Nat → Int) (hi : i < r) (hr : r ≤ 1024) (hc : c ≤ 1024) :
    AM Tryz.prog 169 [.agg (enc false (tm r c f)), .i (i : Int)] [] [ar false (rowL c (f i))] [] := by
  refine AM.go Tryz.func169 Tryz.ntmps169 rfl rfl fun w0 mp hw => ?_; simp [WfL, WfA, E_length, Enc.enc, In64] at hw
  obtain ⟨h1, h2⟩ := row_in hi hr hc
  repeat' first | refine s1 ?_ | refine q1 ?_ | (refine kR ?_; first | refine F.sil (A.slcQD rfl rfl rfl hi) rfl rfl ?_) | fail
  refine kM ?_
  exact F.retM rfl trivial
theorem addMul_m (p k : Int) (xs b : List Int) (off m : Nat) (hp : 0 < p ∧ p ≤ 1024) (hk : 0 ≤ k ∧ k ≤ 1024) (hx : ∀ t, t < xs.length → 0 ≤ xs.getD t default ∧ xs.getD t default ≤ 1024) (hb : ∀ t, t < b.length → 0 ≤ b.getD t default ∧ b.getD t default ≤ 1024) (hl : off + b.length ≤ xs.length) (hm : b.length ≤ m) :
    AM Tryz.prog 131 [.i p, .sl 0 xs.length off m, .i k, ar false b] [(1, E true xs)] [.sl 0 xs.length off m] [(1, E true (addK p k off b xs b.length))] := by
  refine AM.go Tryz.func131 Tryz.ntmps131 rfl rfl fun w0 mp hw => ?_; simp [WfL, WfA, E_length, Enc.enc, In64] at hw
  repeat' first | refine s1 ?_ | refine q1 ?_ | fail
  refine F.loop (σ := Nat) [9, 10, 13, 14, 15, 16, 17, 18, 19, 20, 21, 22, 23, 24, 25, 26, 27, 28, 29, 30, 31] (fun j => [(13, .i j)]) (fun j => [(0, .live false 1 (E true (addK p k off b xs j)))]) (fun j => j ≤ b.length) (fun j => b.length - j) 0 ⟨rfl, trivial⟩ ⟨obE (by rw [addK_zero]), trivial⟩ (Nat.zero_le _) ?_
  rintro j h1
  by_cases hlt : j < b.length
  · have e1 := addK_at p k off b xs (j := j) (by omega)
    have e2 := addK_set p k off b xs (j := j) (by omega)
    have b1 := hx (off + j) (by omega)
    have b2 := hb j hlt
    have b3 : 0 ≤ k * b.getD j default ∧ k * b.getD j default ≤ 1024 * 1024 := ⟨Int.mul_nonneg hk.1 b2.1, Int.mul_le_mul hk.2 b2.2 b2.1 (by omega)⟩
    have hlen := addK_len p k off b xs j
    generalize addK p k off b xs j = L at e1 e2 hlen ⊢
    rw [← e1] at b1 e2
    have hi1 : In64 (k * b.getD j default) := by unfold In64; omega
    have hi2 : In64 (L.getD (off + j) default + k * b.getD j default) := by unfold In64; omega
    repeat' first | refine s1 ?_ | refine q1 ?_ | fail
    exact ⟨j + 1, F.fit ⟨rfl, trivial⟩ ⟨obE (by rw [e2]), trivial⟩, by omega, by omega⟩
  · obtain rfl : j = b.length := by omega
    repeat' first | refine s1 ?_ | refine q1 ?_ | fail
    refine kM ?_
    exact F.retM rfl ⟨rfl, trivial⟩
theorem zeroM_tab (r c : Nat) : zeroM (r : Int) (c : Int) = tm r c (fun _ _ => 0) := by
  have e : ((r : Int) * (c : Int)).toNat = r * c := by
    have : (r : Int) * (c : Int) = ((r * c : Nat) : Int) := by push_cast; rfl
    rw [this, Int.toNat_natCast]
  unfold zeroM tm
  rw [e]
  congr 1
  apply List.ext_getElem (by simp)
  intro t h1 h2
  simp [tab]
theorem zeroT_a (r c : Nat) (hr : r ≤ 1024) (hc : c ≤ 1024) : AC Tryz.prog 181 [.i (r : Int), .i (c : Int)] [.agg (enc true (tm r c (fun _ _ => 0)))] := by
  have := zero_a (r : Int) (c : Int) (by omega) (by omega)
  rwa [zeroM_tab] at this
theorem l3ZeroT_a (r c : Nat) (hr : r ≤ 1024) (hc : c ≤ 1024) : AC Tryz.prog 150 [.i (r : Int), .i (c : Int)] [.agg (enc true (tm r c (fun _ _ => 0)))] := by
  have := l3Zero_a (r : Int) (c : Int) (by omega) (by omega)
  rwa [zeroM_tab] at this
theorem cloneM_a (m : Mat) (h : m.m.length ≤ 1048576) : AC Tryz.prog 199 [.agg (enc false m)] [.agg (enc true m)] := by
  refine AC.go Tryz.func199 Tryz.ntmps199 rfl rfl fun w0 hw => ?_; simp [WfL, WfA, E_length, Enc.enc, In64] at hw
  have hC := clone_a m.m h
  repeat' first | refine s1 ?_ | refine q1 ?_ | (refine kR ?_; first | refine F.c (hC) ?_) | fail
  (refine kZ ?_; exact F.ret rfl)
theorem rowL_bd {p : Int} {r c i : Nat} {f : Nat → Nat → Int} (h : BdF p r c f) (hi : i < r) (hp : p ≤ 1024) : ∀ t, t < (rowL c (f i)).length → 0 ≤ (rowL c (f i)).getD t default ∧ (rowL c (f i)).getD t default ≤ 1024 := fun t ht => by
  rw [rowL_len] at ht
  rw [rowL_get _ ht]
  have := h i hi t ht; omega
theorem tab_bd {p : Int} {r c : Nat} {f : Nat → Nat → Int} (h : BdF p r c f) (hp : p ≤ 1024) : ∀ t, t < (tab r c f).length → 0 ≤ (tab r c f).getD t default ∧ (tab r c f).getD t default ≤ 1024 := fun t ht => by
  rw [tab_len] at ht
  have hc := pos_of_mul ht
  have e : t / c * c + t % c = t := Nat.div_add_mod' t c
  have hm : t % c < c := Nat.mod_lt _ hc
  have hd : t / c < r := Nat.div_lt_of_lt_mul (by rw [Nat.mul_comm]; exact ht)
  have := tab_get f hd hm
  rw [e] at this
  rw [this]
  have := h _ hd _ hm; omega
theorem addMulQ_m (p k : Int) (r c i N : Nat) (F : Nat → Nat → Int) (g : Nat → Int) (hN : N = r * c) (hi : i < r) (hp : 0 < p ∧ p ≤ 1024) (hk : 0 ≤ k ∧ k ≤ 1024) (hF : BdF p r c F) (hg : ∀ j, j < c → 0 ≤ g j ∧ g j ≤ 1024) :
    AM Tryz.prog 131 [.i p, .sl 0 N (i * c) c, .i k, ar false (rowL c g)] [(1, E true (tab r c F))] [.sl 0 N (i * c) c] [(1, E true (tab r c (addR p k i F g)))] := by
  have hle : (i + 1) * c ≤ r * c := Nat.mul_le_mul_right c hi
  rw [Nat.add_mul, Nat.one_mul] at hle
  have h := addMul_m p k (tab r c F) (rowL c g) (i * c) c hp hk (tab_bd hF hp.2) (fun t ht => by rw [rowL_len] at ht; rw [rowL_get g ht]; exact hg t ht) (by simp; omega) (by simp)
  rw [rowL_len, addK_tab p k F g hi, tab_len, ← hN] at h
  exact h
theorem times_a (p : Int) (r n c : Nat) (f g : Nat → Nat → Int) (hp : isF p = true) (hr : r ≤ 1024) (hn : n ≤ 1024) (hc : c ≤ 1024) (hf : BdF p r n f) (hg : BdF p n c g) :
    AC Tryz.prog 160 [.i p, .agg (enc false (tm r n f)), .agg (enc false (tm n c g))] [.agg (enc true (tm r c (mulF p f g n)))] := by
  refine AC.go Tryz.func160 Tryz.ntmps160 rfl rfl fun w0 hw => ?_; simp [WfL, WfA, E_length, Enc.enc, In64] at hw
  have h5 := isF_pos hp
  have hZ := zeroT_a r c hr hc
  have hNl : (tab r c fun _ _ => (0 : Int)).length = r * c := tab_len ..
  repeat' first | refine s1 ?_ | refine q1 ?_ | (refine kR ?_; first | refine F.c (hZ) ?_) | fail
  refine F.loop (σ := Nat) [8, 9, 10, 18, 19, 20, 21, 22, 23, 24, 25, 26, 27, 28, 29, 30, 31, 32, 33, 34, 35, 36, 37, 38, 39, 40] (fun i => [(18, .i i)]) (fun i => [(3, .live false 1 (E true (tab r c (mulK p f g n i 0))))]) (fun i => i ≤ r) (fun i => r - i) 0 ⟨rfl, trivial⟩ ⟨obE (by rw [mulK_zero]), trivial⟩ (Nat.zero_le _) ?_
  rintro i i1
  by_cases hi : i < r
  · have hR := row_w r n i f hi hr hn
    have hrl := rowL_len n (f i)
    repeat' first | refine s1 ?_ | refine q1 ?_ | (refine kR ?_; first | refine F.w (hR) ?_) | fail
    refine F.loop (σ := Nat) [9, 10, 25, 26, 27, 28, 29, 30, 31, 32, 33, 34, 35, 36, 37, 38, 39] (fun k => [(25, .i k)]) (fun k => [(3, .live false 1 (E true (tab r c (mulK p f g n i k))))]) (fun k => k ≤ n) (fun k => n - k) 0 ⟨rfl, trivial⟩ ⟨rfl, trivial⟩ (Nat.zero_le _) ?_
    rintro k k1
    by_cases hk : k < n
    · have hkb := hf i hi k hk
      have hrg : (rowL n (f i)).getD k default = f i k := rowL_get (f i) hk
      have hR1 := row_m r c i (mulK p f g n i k) _ hNl hi hr hc
      have hR2 := row_w n c k g hk hn hc
      have hA := addMulQ_m p ((rowL n (f i)).getD k default) r c i _ (mulK p f g n i k) (g k) hNl hi (by omega) (by rw [hrg]; omega) (mulK_bd (by omega) f g n i k r c) (fun j hj => by have := hg k hk j hj; omega)
      repeat' first | refine s1 ?_ | refine q1 ?_ | fail
      refine AW.draw 1 G.mixed (by kernel_rfl) ?_
      refine dP 0 ?_
      refine dP 2 ?_
      refine dP 4 ?_
      refine dP 6 ?_
      refine ARA.any [1, 5] (by kernel_rfl) (by simp) ?_
      intro k hk
      simp only [List.mem_cons, List.not_mem_nil, or_false] at hk
      rcases hk with rfl | rfl
      · refine ⟨_, true, rfl, rfl, ?_⟩
        first | refine s1 ?_ | refine q1 ?_
        refine ARg.nil (ATh.normal ?_)
        refine ARA.any [3, 5] (by kernel_rfl) (by simp) ?_
        intro k hk
        simp only [List.mem_cons, List.not_mem_nil, or_false] at hk
        rcases hk with rfl | rfl
        · refine ⟨_, false, rfl, rfl, ?_⟩
          first | refine s1 ?_ | refine F.m [3] (hR1) ?_
          refine ARg.nil (ATh.normal ?_)
          refine dO 5 true ?_
          first | refine s1 ?_ | refine q1 ?_
          refine ARg.nil (ATh.normal ?_)
          refine dO 7 false ?_
          first | refine s1 ?_ | refine F.w (hR2) ?_
          refine ARg.nil (ATh.normal ?_)
          refine dO 8 false ?_
          first | refine s1 ?_ | refine F.m [3] (hA) ?_
          refine ARg.nil (ATh.normal ?_)
          refine dN ?_
          repeat' first | refine s1 ?_ | refine q1 ?_ | fail
          exact ⟨k + 1, F.fit ⟨rfl, trivial⟩ ⟨obE (by rw [hrg, mulK_step]), trivial⟩, by omega, by omega⟩
        · refine ⟨_, true, rfl, rfl, ?_⟩
          first | refine s1 ?_ | refine q1 ?_
          refine ARg.nil (ATh.normal ?_)
          refine dO 3 false ?_
          first | refine s1 ?_ | refine F.m [3] (hR1) ?_
          refine ARg.nil (ATh.normal ?_)
          refine dO 7 false ?_
          first | refine s1 ?_ | refine F.w (hR2) ?_
          refine ARg.nil (ATh.normal ?_)
          refine dO 8 false ?_
          first | refine s1 ?_ | refine F.m [3] (hA) ?_
          refine ARg.nil (ATh.normal ?_)
          refine dN ?_
          repeat' first | refine s1 ?_ | refine q1 ?_ | fail
          exact ⟨k + 1, F.fit ⟨rfl, trivial⟩ ⟨obE (by rw [hrg, mulK_step]), trivial⟩, by omega, by omega⟩
      · refine ⟨_, true, rfl, rfl, ?_⟩
        first | refine s1 ?_ | refine q1 ?_
        refine ARg.nil (ATh.normal ?_)
        refine dO 1 true ?_
        first | refine s1 ?_ | refine q1 ?_
        refine ARg.nil (ATh.normal ?_)
        refine dO 3 false ?_
        first | refine s1 ?_ | refine F.m [3] (hR1) ?_
        refine ARg.nil (ATh.normal ?_)
        refine dO 7 false ?_
        first | refine s1 ?_ | refine F.w (hR2) ?_
        refine ARg.nil (ATh.normal ?_)
        refine dO 8 false ?_
        first | refine s1 ?_ | refine F.m [3] (hA) ?_
        refine ARg.nil (ATh.normal ?_)
        refine dN ?_
        repeat' first | refine s1 ?_ | refine q1 ?_ | fail
        exact ⟨k + 1, F.fit ⟨rfl, trivial⟩ ⟨obE (by rw [hrg, mulK_step]), trivial⟩, by omega, by omega⟩
    · obtain rfl : k = n := by omega
      repeat' first | refine s1 ?_ | refine q1 ?_ | fail
      exact ⟨i + 1, F.fit ⟨rfl, trivial⟩ ⟨obE (by rw [mulK_next]), trivial⟩, by omega, by omega⟩
  · obtain rfl : i = r := by omega
    rw [mulK_all]
    repeat' first | refine s1 ?_ | refine q1 ?_ | fail
    (refine kZ ?_; exact F.ret rfl)
theorem l3Multiply_a (p : Int) (r n c : Nat) (f g : Nat → Nat → Int) (hp : isF p = true) (hr : r ≤ 1024) (hn : n ≤ 1024) (hc : c ≤ 1024) (hf : BdF p r n f) (hg : BdF p n c g) :
    AC Tryz.prog 99 [.i p, .agg (enc false (tm r n f)), .agg (enc false (tm n c g))] [.agg (enc true (tm r c (mulF p f g n)))] := by
  refine AC.go Tryz.func99 Tryz.ntmps99 rfl rfl fun w0 hw => ?_; simp [WfL, WfA, E_length, Enc.enc, In64] at hw
  have h5 := isF_pos hp
  have hZ := l3ZeroT_a r c hr hc
  have hNl : (tab r c fun _ _ => (0 : Int)).length = r * c := tab_len ..
  repeat' first | refine s1 ?_ | refine q1 ?_ | (refine kR ?_; first | refine F.c (hZ) ?_) | fail
  refine F.loop (σ := Nat) [8, 9, 10, 11, 17, 18, 19, 20, 21, 22, 23, 24, 25, 26, 27, 28, 29, 30, 31, 32, 33, 34, 35, 36, 37, 38, 39, 40, 41, 42, 43, 44, 45, 46, 47, 48, 49, 50, 51, 52, 53, 54, 55, 56, 57, 58, 59, 60, 61, 62, 63, 64, 65, 66, 67, 68, 69] (fun i => [(8, .i i)]) (fun i => [(3, .live false 1 (E true (tab r c (mulP p f g n i 0))))]) (fun i => i ≤ r) (fun i => r - i) 0 ⟨rfl, trivial⟩ ⟨obE (by rw [mulP_zero]), trivial⟩ (Nat.zero_le _) ?_
  rintro i i1
  by_cases hi : i < r
  · repeat' first | refine s1 ?_ | refine q1 ?_ | fail
    refine F.loop (σ := Nat) [9, 10, 11, 23, 24, 25, 26, 27, 28, 29, 30, 31, 32, 33, 34, 35, 36, 37, 38, 39, 40, 41, 42, 43, 44, 45, 46, 47, 48, 49, 50, 51, 52, 53, 54, 55, 56, 57, 58, 59, 60, 61, 62, 63, 64, 65, 66, 67, 68, 69] (fun k => [(9, .i k)]) (fun k => [(3, .live false 1 (E true (tab r c (mulP p f g n i k))))]) (fun k => k ≤ c) (fun k => c - k) 0 ⟨rfl, trivial⟩ ⟨rfl, trivial⟩ (Nat.zero_le _) ?_
    rintro k k1
    by_cases hk : k < c
    · repeat' first | refine s1 ?_ | refine q1 ?_ | fail
      refine F.loop (σ := Nat) [10, 11, 29, 30, 31, 32, 33, 34, 35, 36, 37, 38, 39, 40, 41, 42, 43, 44, 45, 46, 47, 48, 49, 50, 51, 52, 53, 54, 55, 56, 57] (fun j => [(10, .i (dotK f g i k j)), (11, .i j)]) (fun _ => []) (fun j => j ≤ n) (fun j => n - j) 0 ⟨rfl, rfl, trivial⟩ trivial (Nat.zero_le _) ?_
      rintro j j1
      have hd := dotK_bd (f := f) (g := g) (i := i) (c := k) (n := n) (fun k' hk' => by have := hf i hi k' hk'; omega) (fun k' hk' => by have := hg k' hk' k hk; omega)
      by_cases hj : j < n
      · obtain ⟨a1, a2⟩ := tab_in (i := i) (j := j) (r := r) (c := n) hi hj hr hn
        obtain ⟨a3, a4⟩ := tab_in (i := j) (j := k) (r := n) (c := c) hj hk hn hc
        have d1 := hd j j1
        have d2 := hd (j + 1) (by omega)
        have b1 := hf i hi j hj
        have b2 := hg j hj k hk
        have b3 := in64_4 (x := f i j) (y := g j k) (by omega) (by omega)
        have m1 : In64 (f i j * g j k) := by unfold In64; omega
        have m2 : In64 (dotK f g i k j + f i j * g j k) := by unfold In64; omega
        repeat' first | refine s1 ?_ | refine q1 ?_ | fail
        refine AW.draw 24 G.mixed (by kernel_rfl) ?_
        refine dP 0 ?_
        refine dP 1 ?_
        first | refine dL 2 ?_ | refine dLQ 2 ?_
        refine dP 3 ?_
        refine dP 4 ?_
        first | refine dL 5 ?_ | refine dLQ 5 ?_
        refine dP 6 ?_
        refine dP 7 ?_
        refine dP 8 ?_
        first | refine dP 9 ?_ | refine dQ 9 ?_
        first | refine dL 10 ?_ | refine dLQ 10 ?_
        refine dP 11 ?_
        first | refine dL 12 ?_ | refine dLQ 12 ?_
        refine dP 13 ?_
        refine dP 14 ?_
        first | refine dL 15 ?_ | refine dLQ 15 ?_
        refine dP 16 ?_
        refine dP 17 ?_
        refine dP 18 ?_
        first | refine dP 19 ?_ | refine dQ 19 ?_
        first | refine dL 20 ?_ | refine dLQ 20 ?_
        refine dP 21 ?_
        refine dP 22 ?_
        refine dP 23 ?_
        refine dN ?_
        repeat' first | refine s1 ?_ | refine q1 ?_ | fail
        exact ⟨j + 1, F.fit ⟨rfl, rfl, trivial⟩ trivial, by omega, by omega⟩
      · obtain rfl : j = n := by omega
        obtain ⟨a1, a2⟩ := tab_in (i := i) (j := k) (r := r) (c := c) hi hk hr hc
        have hL := l2Mod_a p (dotK f g i k j) (by omega)
        repeat' first | refine s1 ?_ | refine q1 ?_ | fail
        refine AW.draw 12 G.mixed (by kernel_rfl) ?_
        refine dP 0 ?_
        first | refine dL 1 ?_ | refine dLQ 1 ?_
        refine dP 2 ?_
        refine dP 3 ?_
        first | refine dL 4 ?_ | refine dLQ 4 ?_
        refine dP 5 ?_
        refine dP 6 ?_
        refine dP 7 ?_
        refine dP 8 ?_
        refine dP 9 ?_
        refine dO 10 true ?_
        first | refine s1 ?_ | refine F.c (hL) ?_
        refine ARg.nil (ATh.normal ?_)
        first | refine dP 11 ?_ | refine dQ 11 ?_
        refine dO 12 false ?_
        first | refine s1 ?_ | refine q1 ?_
        refine ARg.nil (ATh.normal ?_)
        refine dN ?_
        repeat' first | refine s1 ?_ | refine q1 ?_ | fail
        exact ⟨k + 1, F.fit ⟨rfl, trivial⟩ ⟨obE (by rw [mulP_set]), trivial⟩, by omega, by omega⟩
    · obtain rfl : k = c := by omega
      repeat' first | refine s1 ?_ | refine q1 ?_ | fail
      exact ⟨i + 1, F.fit ⟨rfl, trivial⟩ ⟨obE (by rw [mulP_next]), trivial⟩, by omega, by omega⟩
  · obtain rfl : i = r := by omega
    rw [mulP_all]
    repeat' first | refine s1 ?_ | refine q1 ?_ | fail
    (refine kZ ?_; exact F.ret rfl)
theorem plus_a (p k : Int) (x y : Mat) (hp : 0 < p ∧ p ≤ 1024) (hk : 0 ≤ k ∧ k ≤ 1024) (hx : ∀ t, t < x.m.length → 0 ≤ x.m.getD t default ∧ x.m.getD t default ≤ 1024) (hy : ∀ t, t < y.m.length → 0 ≤ y.m.getD t default ∧ y.m.getD t default ≤ 1024) (hl : y.m.length ≤ x.m.length) (hb : x.m.length ≤ 1048576) :
    AC Tryz.prog 161 [.i p, .agg (enc false x), .i k, .agg (enc false y)] [.agg (enc true (plusM p x k y))] := by
  refine AC.go Tryz.func161 Tryz.ntmps161 rfl rfl fun w0 hw => ?_; simp [WfL, WfA, E_length, Enc.enc, In64] at hw
  have hC := cloneM_a x hb
  have hA := addMul_m p k x.m y.m 0 x.m.length hp hk hx hy (by omega) hl
  have hpl := addK_len p k 0 y.m x.m y.m.length
  unfold plusM
  generalize addK p k 0 y.m x.m y.m.length = L at hA hpl ⊢
  repeat' first | refine s1 ?_ | refine q1 ?_ | (refine kR ?_; first | refine F.c (hC) ?_ | refine F.m [3] (hA) ?_) | fail
  (refine kZ ?_; exact F.ret rfl)
end Go.Proofs.YtedjajokbdokhaaGreat.V
