/- Contract: the reference's solution of a system. -/
import Derived.Test.YtanembgijdkagaaGreatQzUq
import Derived.Test.YtanembgijdkagaaGreatQzA48
namespace Go.Proofs.YtanembgijdkagaaGreat.V
open V.Enc (enc)
open Go.RowKit G D
set_option linter.unusedVariables false
set_option linter.unusedSimpArgs false
set_option maxHeartbeats 4000000
set_option maxRecDepth 4000
attribute [local irreducible] AW ARg ARA ARet MRet ASil AC AM
/-- the equations with a column beside, as far as they are copied -/
def auK (c : Nat) (f : Nat → Nat → Int) (v : List Int) (i k : Nat) : Nat → Nat → Int := fun x y => if x < i ∨ (x = i ∧ y < k) then augF c f v x y else 0
theorem auK_zero (c : Nat) (f : Nat → Nat → Int) (v : List Int) : auK c f v 0 0 = fun _ _ => 0 := by funext x y; simp [auK]
theorem auK_set (c : Nat) (f : Nat → Nat → Int) (v : List Int) (i k : Nat) : updF (auK c f v i k) i k (augF c f v i k) = auK c f v i (k + 1) := by
  funext x y
  simp only [auK, updF]
  by_cases h1 : x = i
  · subst h1
    by_cases h2 : y = k
    · subst h2; simp
    · have : y < k + 1 ↔ y < k := by omega
      simp [h2, this]
  · simp [h1]
theorem auK_next (c : Nat) (f : Nat → Nat → Int) (v : List Int) (i r : Nat) : tab r (c + 1) (auK c f v i (c + 1)) = tab r (c + 1) (auK c f v (i + 1) 0) := tab_ext fun x hx y hy => by
  have e : (x < i ∨ x = i ∧ y < c + 1) ↔ (x < i + 1 ∨ x = i + 1 ∧ y < 0) := by omega
  simp only [auK, e]
theorem auK_all (c : Nat) (f : Nat → Nat → Int) (v : List Int) (r : Nat) : tab r (c + 1) (auK c f v r 0) = tab r (c + 1) (augF c f v) := tab_ext fun x hx y hy => by simp [auK, hx]
theorem l4Solve_a (p : Int) (r c : Nat) (f : Nat → Nat → Int) (v : List Int) (hf : isF p = true) (hr : r ≤ 1000) (hc : c ≤ 1000) (hb : BdF p r c f) (hvl : v.length = r) (hv : ∀ i, i < r → 0 ≤ v.getD i default ∧ v.getD i default ≤ p - 1) :
    AC Tryz.prog 66 [.i p, .agg (enc false (tm r c f)), ar false v] [.dt true 1 (E true (solL p r c f v).1), .b (solL p r c f v).2] := by
  refine AC.go Tryz.func66 Tryz.ntmps66 rfl rfl fun w0 hw => ?_; simp [WfL, WfA, E_length, Enc.enc, In64] at hw
  have h5 := isF_pos hf
  have hZ := l3ZeroT_a r (c + 1) (by omega) (by omega)
  have hR := l4Reduce_a p r (c + 1) (augF c f v) hf (by omega) (by omega) (augF_bd hb hv)
  obtain ⟨b1, b2, b3, b4⟩ := redK_bd (p := p) (by omega) (augF_bd hb hv) (c + 1)
  have hno0 := fun g piv (hR : redK p r (augF c f v) (c + 1) = (g, piv)) (h : c ∈ piv) => solL_no hR h
  have hyes0 := fun g piv (hR : redK p r (augF c f v) (c + 1) = (g, piv)) (h : c ∉ piv) => solL_yes hR h
  generalize redK p r (augF c f v) (c + 1) = R at hR b1 b2 b3 b4 hno0 hyes0
  obtain ⟨g, piv⟩ := R
  dsimp only at hR b1 b2 b3 b4
  have hno := hno0 g piv rfl
  have hyes := hyes0 g piv rfl
  clear hno0 hyes0
  generalize solL p r c f v = S at hno hyes ⊢
  have hpl := ints_len piv
  have hc1 : ((c + 1 : Nat) : Int) = (c : Int) + 1 := by push_cast; rfl
  rw [hc1] at hZ
  have hi64 : In64 ((tm r c f).c + 1) := by
    show In64 ((c : Int) + 1)
    unfold In64; omega
  repeat' first | refine s1 ?_ | refine q1 ?_ | (refine kR ?_; first | refine F.c (hZ) ?_) | fail
  refine F.loop (σ := Nat) [9, 10, 21, 22, 23, 24, 25, 26, 27, 28, 29, 30, 31, 32, 33, 34, 35, 36, 37, 38, 39, 40, 41, 42, 43, 44, 45, 46, 47, 48, 49, 50, 51, 52, 53, 54, 55, 56, 57, 58, 59, 60, 61, 62, 63, 64, 65] (fun i => [(9, .i i)]) (fun i => [(1, .live false 1 (E true (tab r (c + 1) (auK c f v i 0))))]) (fun i => i ≤ r) (fun i => r - i) 0 ⟨rfl, trivial⟩ ⟨obE (by rw [auK_zero]), trivial⟩ (Nat.zero_le _) ?_
  rintro i i1
  by_cases hi : i < r
  · repeat' first | refine s1 ?_ | refine q1 ?_ | fail
    refine F.loop (σ := Nat) [10, 27, 28, 29, 30, 31, 32, 33, 34, 35, 36, 37, 38, 39, 40, 41, 42, 43, 44, 45, 46, 47, 48, 49, 50, 51] (fun k => [(10, .i k)]) (fun k => [(1, .live false 1 (E true (tab r (c + 1) (auK c f v i k))))]) (fun k => k ≤ c) (fun k => c - k) 0 ⟨rfl, trivial⟩ ⟨rfl, trivial⟩ (Nat.zero_le _) ?_
    rintro k k1
    by_cases hk : k < c
    · obtain ⟨t1, t2⟩ := tab_in (i := i) (j := k) (r := r) (c := c) hi hk (by omega) (by omega)
      obtain ⟨t3, t4⟩ := tab_in (i := i) (j := k) (r := r) (c := c + 1) hi (by omega) (by omega) (by omega)
      have hv1 : f i k = augF c f v i k := by unfold augF; rw [if_pos hk]
      repeat' first | refine s1 ?_ | refine q1 ?_ | fail
      refine AW.draw 19 G.mixed (by kernel_rfl) ?_
      refine dP 0 ?_
      first | refine dL 1 ?_ | refine dLQ 1 ?_
      refine dP 2 ?_
      refine dP 3 ?_
      first | refine dL 4 ?_ | refine dLQ 4 ?_
      refine dP 5 ?_
      refine dP 6 ?_
      refine dP 7 ?_
      refine dP 8 ?_
      first | refine dL 9 ?_ | refine dLQ 9 ?_
      refine dP 10 ?_
      refine dP 11 ?_
      first | refine dL 12 ?_ | refine dLQ 12 ?_
      refine dP 13 ?_
      refine dP 14 ?_
      refine dP 15 ?_
      first | refine dP 16 ?_ | refine dQ 16 ?_
      first | refine dL 17 ?_ | refine dLQ 17 ?_
      first | refine dP 18 ?_ | refine dQ 18 ?_
      refine dO 19 false ?_
      first | refine s1 ?_ | refine q1 ?_
      refine ARg.nil (ATh.normal ?_)
      refine dN ?_
      repeat' first | refine s1 ?_ | refine q1 ?_ | fail
      exact ⟨k + 1, F.fit ⟨rfl, trivial⟩ ⟨obE (by rw [hv1, auK_set]), trivial⟩, by omega, by omega⟩
    · obtain rfl : k = c := by omega
      obtain ⟨t3, t4⟩ := tab_in (i := i) (j := k) (r := r) (c := k + 1) hi (by omega) (by omega) (by omega)
      have hv1 : v.getD i default = augF k f v i k := by unfold augF; rw [if_neg (by omega)]
      repeat' first | refine s1 ?_ | refine q1 ?_ | fail
      refine AW.draw 14 G.mixed (by kernel_rfl) ?_
      refine dP 0 ?_
      first | refine dL 1 ?_ | refine dLQ 1 ?_
      refine dP 2 ?_
      refine dP 3 ?_
      first | refine dL 4 ?_ | refine dLQ 4 ?_
      refine dP 5 ?_
      refine dP 6 ?_
      first | refine dL 7 ?_ | refine dLQ 7 ?_
      refine dP 8 ?_
      refine dP 9 ?_
      refine dP 10 ?_
      first | refine dP 11 ?_ | refine dQ 11 ?_
      first | refine dL 12 ?_ | refine dLQ 12 ?_
      first | refine dP 13 ?_ | refine dQ 13 ?_
      refine dO 14 false ?_
      first | refine s1 ?_ | refine q1 ?_
      refine ARg.nil (ATh.normal ?_)
      refine dN ?_
      repeat' first | refine s1 ?_ | refine q1 ?_ | fail
      exact ⟨i + 1, F.fit ⟨rfl, trivial⟩ ⟨obE (by rw [hv1, auK_set, auK_next]), trivial⟩, by omega, by omega⟩
  · obtain rfl : i = r := by omega
    have hH := l4Has_a (ints piv) (c : Int)
    rw [auK_all]
    by_cases hm : c ∈ piv
    · rw [decide_eq_true ((ints_mem piv c).mpr hm)] at hH
      rw [hno hm]
      repeat' first | refine s1 ?_ | refine q1 ?_ | (refine kR ?_; first | refine F.c (hR) ?_ | refine F.c (hH) ?_) | fail
      (refine kZ ?_; exact F.ret rfl)
    · rw [decide_eq_false (fun h => hm ((ints_mem piv c).mp h))] at hH
      rw [hyes hm]
      repeat' first | refine s1 ?_ | refine q1 ?_ | (refine kR ?_; first | refine F.c (hR) ?_ | refine F.c (hH) ?_ | refine F.mk (m := c) Int rfl rfl rfl (mkB (by omega)) (by omega) rfl rfl ?_) | fail
      refine F.loop (σ := Nat) [14, 80, 81, 82, 83, 84, 85, 86, 87, 88, 89, 90, 91, 92, 93, 94, 95, 96, 97, 98, 99, 100, 101, 102] (fun j => [(14, .i j)]) (fun j => [(6, .live false 1 (E true (solV c g piv j)))]) (fun j => j ≤ piv.length) (fun j => piv.length - j) 0 ⟨rfl, trivial⟩ ⟨rfl, trivial⟩ (Nat.zero_le _) ?_
      rintro j j1
      by_cases hj : j < piv.length
      · have hpi := ints_get piv hj
        have hq0 : piv.getD j default < c + 1 := b4 _ (by simp [hj])
        have hq : piv.getD j default < c := by
          have : piv.getD j default ≠ c := fun h => hm (by rw [← h]; simp [hj])
          omega
        have hir : j < i := by omega
        have hpi' : (ints piv).getD (0 + j) default = (piv.getD j default : Nat) := by rw [Nat.zero_add]; exact hpi
        have hT : ((ints piv).getD (0 + j) default).toNat = piv.getD j 0 := by rw [hpi']; exact Int.toNat_natCast _
        clear hpi
        obtain ⟨t1, t2⟩ := tab_in (i := j) (j := c) (r := i) (c := c + 1) hir (by omega) (by omega) (by omega)
        have hst : solV c g piv (j + 1) = (solV c g piv j).set (piv.getD j 0) (g j c) := rfl
        have hsl := solV_len c g piv j
        generalize solV c g piv j = X at hst hsl ⊢
        rw [← hT] at hst
        repeat' first | refine s1 ?_ | refine q1 ?_ | fail
        refine AW.draw 17 G.mixed (by kernel_rfl) ?_
        refine dP 0 ?_
        refine dP 1 ?_
        refine dP 2 ?_
        first | refine dP 3 ?_ | refine dQ 3 ?_
        first | refine dL 4 ?_ | refine dLQ 4 ?_
        refine dP 5 ?_
        first | refine dL 6 ?_ | refine dLQ 6 ?_
        refine dP 7 ?_
        refine dP 8 ?_
        first | refine dL 9 ?_ | refine dLQ 9 ?_
        refine dP 10 ?_
        refine dP 11 ?_
        first | refine dL 12 ?_ | refine dLQ 12 ?_
        refine dP 13 ?_
        first | refine dP 14 ?_ | refine dQ 14 ?_
        first | refine dL 15 ?_ | refine dLQ 15 ?_
        first | refine dP 16 ?_ | refine dQ 16 ?_
        refine dO 17 false ?_
        first | refine s1 ?_ | refine q1 ?_
        refine ARg.nil (ATh.normal ?_)
        refine dN ?_
        repeat' first | refine s1 ?_ | refine q1 ?_ | fail
        exact ⟨j + 1, F.fit ⟨rfl, trivial⟩ ⟨obE (by rw [hst, Nat.zero_add ((ints piv).getD (0 + j) default).toNat]), trivial⟩, by omega, by omega⟩
      · obtain rfl : j = piv.length := by omega
        have hsl := solV_len c g piv piv.length
        generalize solV c g piv piv.length = X at hsl ⊢
        repeat' first | refine s1 ?_ | refine q1 ?_ | fail
        (refine kZ ?_; exact F.ret rfl)
end Go.Proofs.YtanembgijdkagaaGreat.V
