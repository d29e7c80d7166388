/- Contracts: solutions of systems, and whether a cocycle is a coboundary. -/
import Derived.Test.YtanembgijdkagaaGreatQzUq
import Derived.Test.YtanembgijdkagaaGreatQzB6
import Derived.Test.YtanembgijdkagaaGreatQzB9
namespace Go.Proofs.YtanembgijdkagaaGreat.V
open V.Enc (enc)
open Go.RowKit G D
set_option linter.unusedVariables false
set_option linter.unusedSimpArgs false
set_option maxHeartbeats 4000000
set_option maxRecDepth 4000
attribute [local irreducible] AW ARg ARA ARet MRet ASil AC AM
theorem augF_bd {p : Int} {r c : Nat} {f : Nat → Nat → Int} {v : List Int} (hb : BdF p r c f) (hv : ∀ i, i < r → 0 ≤ v.getD i default ∧ v.getD i default ≤ p - 1) : BdF p r (c + 1) (augF c f v) := fun i hi j hj => by
  unfold augF
  split
  · exact hb i hi j (by assumption)
  · exact hv i hi
/-- where the search for a leading one behind the equations stands -/
theorem solL_no {p : Int} {r c : Nat} {f : Nat → Nat → Int} {v : List Int} {g : Nat → Nat → Int} {piv : List Nat} (hR : redK p r (augF c f v) (c + 1) = (g, piv)) (h : c ∈ piv) : solL p r c f v = ([], false) := by
  unfold solL; rw [hR, if_pos h]
theorem solL_yes {p : Int} {r c : Nat} {f : Nat → Nat → Int} {v : List Int} {g : Nat → Nat → Int} {piv : List Nat} (hR : redK p r (augF c f v) (c + 1) = (g, piv)) (h : c ∉ piv) : solL p r c f v = (solV c g piv piv.length, true) := by
  unfold solL; rw [hR, if_neg h]
theorem not_mem_of {piv : List Nat} {c : Nat} (h : ∀ j, j < piv.length → piv.getD j 0 ≠ c) : c ∉ piv := fun hm => by
  obtain ⟨i, hi, e⟩ := List.getElem_of_mem hm
  exact h i hi (by simp [hi, e])
theorem solve_a (p : Int) (r c : Nat) (f : Nat → Nat → Int) (v : List Int) (hf : isF p = true) (hr : r ≤ 1000) (hc : c ≤ 1000) (hb : BdF p r c f) (hvl : v.length = r) (hv : ∀ i, i < r → 0 ≤ v.getD i default ∧ v.getD i default ≤ p - 1) :
    AC Tryz.prog 75 [.i p, .agg (enc false (tm r c f)), ar false v] [.dt true 1 (E true (solL p r c f v).1), .b (solL p r c f v).2] := by
  refine AC.go Tryz.func75 Tryz.ntmps75 rfl rfl fun w0 hw => ?_; simp [WfL, WfA, E_length, Enc.enc, In64] at hw
  have h5 := isF_pos hf
  have hFC := fromColumns_a r [v] (by omega) (by simp) (fun k hk => by
    obtain rfl : k = 0 := by simpa using hk
    exact hvl)
  have hBe := beside_a r c 1 f (fcF [v]) (by omega) (by omega)
  have hR := implReduce_a p r (c + 1) (augF c f v) hf (by omega) (by omega) (augF_bd hb hv)
  have e : tm r (c + 1) (besF c f (fcF [v])) = tm r (c + 1) (augF c f v) := by
    unfold tm
    congr 1
    apply tab_ext
    intro i hi j hj
    unfold besF augF fcF
    by_cases h : j < c
    · rw [if_pos h, if_pos h]
    · rw [if_neg h, if_neg h, show j - c = 0 by omega]; rfl
  rw [e] at hBe
  rw [show [v].length = 1 from rfl] at hFC
  obtain ⟨b1, b2, b3, b4⟩ := redK_bd (p := p) (by omega) (augF_bd hb hv) (c + 1)
  have hno := fun g piv (hR : redK p r (augF c f v) (c + 1) = (g, piv)) (h : c ∈ piv) => solL_no hR h
  have hyes := fun g piv (hR : redK p r (augF c f v) (c + 1) = (g, piv)) (h : c ∉ piv) => solL_yes hR h
  generalize redK p r (augF c f v) (c + 1) = R at hR b1 b2 b3 b4 hno hyes
  obtain ⟨g, piv⟩ := R
  dsimp only at hR b1 b2 b3 b4
  have hno := hno g piv rfl
  have hyes := hyes g piv rfl
  generalize solL p r c f v = S at hno hyes ⊢
  have hpl := ints_len piv
  have hN := tab_len r (c + 1) g
  have hNb : r * (c + 1) ≤ 1048576 := tab_le (by omega) (by omega)
  generalize hG : tm r 1 (fcF [v]) = G1 at hFC hBe
  generalize hG2 : tm r (c + 1) (augF c f v) = G2 at hBe hR
  repeat' first | refine s1 ?_ | refine q1 ?_ | fail
  refine AW.draw 13 G.mixed (by kernel_rfl) ?_
  refine dP 0 ?_
  first | refine dL 1 ?_ | refine dLQ 1 ?_
  refine dP 2 ?_
  first | refine dL 3 ?_ | refine dLQ 3 ?_
  refine dP 4 ?_
  refine ARA.any [5, 12] (by kernel_rfl) (by simp) ?_
  intro k hk
  simp only [List.mem_cons, List.not_mem_nil, or_false] at hk
  rcases hk with rfl | rfl
  refine ⟨_, true, rfl, rfl, ?_⟩
  refine s1 ?_
  refine ARg.nil (ATh.normal ?_)
  refine ARA.any [6, 12] (by kernel_rfl) (by simp) ?_
  intro k hk
  simp only [List.mem_cons, List.not_mem_nil, or_false] at hk
  rcases hk with rfl | rfl
  refine ⟨_, true, rfl, rfl, ?_⟩
  first | refine s1 ?_ | refine F.c (hFC) ?_ | refine F.c (hBe) ?_ | refine F.c (hR) ?_
  refine ARg.nil (ATh.normal ?_)
  refine ARA.any [7, 12] (by kernel_rfl) (by simp) ?_
  intro k hk
  simp only [List.mem_cons, List.not_mem_nil, or_false] at hk
  rcases hk with rfl | rfl
  refine ⟨_, true, rfl, rfl, ?_⟩
  first | refine s1 ?_ | refine F.c (hFC) ?_ | refine F.c (hBe) ?_ | refine F.c (hR) ?_
  refine ARg.nil (ATh.normal ?_)
  refine ARA.any [8, 12] (by kernel_rfl) (by simp) ?_
  intro k hk
  simp only [List.mem_cons, List.not_mem_nil, or_false] at hk
  rcases hk with rfl | rfl
  refine ⟨_, true, rfl, rfl, ?_⟩
  first | refine s1 ?_ | refine F.c (hFC) ?_ | refine F.c (hBe) ?_ | refine F.c (hR) ?_
  refine ARg.nil (ATh.normal ?_)
  refine dP 9 ?_
  refine dP 10 ?_
  refine dP 11 ?_
  refine dO 12 true ?_
  refine s1 ?_
  refine ARg.nil (ATh.normal ?_)
  refine dO 13 false ?_
  first | refine s1 ?_ | refine q1 ?_
  refine ARg.nil (ATh.normal ?_)
  refine dP 14 ?_
  refine dN ?_
  rotate_left
  refine ⟨_, true, rfl, rfl, ?_⟩
  refine s1 ?_
  refine ARg.nil (ATh.normal ?_)
  refine dO 8 true ?_
  first | refine s1 ?_ | refine F.c (hFC) ?_ | refine F.c (hBe) ?_ | refine F.c (hR) ?_
  refine ARg.nil (ATh.normal ?_)
  refine dP 9 ?_
  refine dP 10 ?_
  refine dP 11 ?_
  refine dO 13 false ?_
  first | refine s1 ?_ | refine q1 ?_
  refine ARg.nil (ATh.normal ?_)
  refine dP 14 ?_
  refine dN ?_
  rotate_left
  refine ⟨_, true, rfl, rfl, ?_⟩
  refine s1 ?_
  refine ARg.nil (ATh.normal ?_)
  refine dO 7 true ?_
  first | refine s1 ?_ | refine F.c (hFC) ?_ | refine F.c (hBe) ?_ | refine F.c (hR) ?_
  refine ARg.nil (ATh.normal ?_)
  refine dO 8 true ?_
  first | refine s1 ?_ | refine F.c (hFC) ?_ | refine F.c (hBe) ?_ | refine F.c (hR) ?_
  refine ARg.nil (ATh.normal ?_)
  refine dP 9 ?_
  refine dP 10 ?_
  refine dP 11 ?_
  refine dO 13 false ?_
  first | refine s1 ?_ | refine q1 ?_
  refine ARg.nil (ATh.normal ?_)
  refine dP 14 ?_
  refine dN ?_
  rotate_left
  refine ⟨_, true, rfl, rfl, ?_⟩
  refine s1 ?_
  refine ARg.nil (ATh.normal ?_)
  refine dO 6 true ?_
  first | refine s1 ?_ | refine F.c (hFC) ?_ | refine F.c (hBe) ?_ | refine F.c (hR) ?_
  refine ARg.nil (ATh.normal ?_)
  refine dO 7 true ?_
  first | refine s1 ?_ | refine F.c (hFC) ?_ | refine F.c (hBe) ?_ | refine F.c (hR) ?_
  refine ARg.nil (ATh.normal ?_)
  refine dO 8 true ?_
  first | refine s1 ?_ | refine F.c (hFC) ?_ | refine F.c (hBe) ?_ | refine F.c (hR) ?_
  refine ARg.nil (ATh.normal ?_)
  refine dP 9 ?_
  refine dP 10 ?_
  refine dP 11 ?_
  refine dO 13 false ?_
  first | refine s1 ?_ | refine q1 ?_
  refine ARg.nil (ATh.normal ?_)
  refine dP 14 ?_
  refine dN ?_
  rotate_left
  refine ⟨_, true, rfl, rfl, ?_⟩
  refine s1 ?_
  refine ARg.nil (ATh.normal ?_)
  refine dO 5 true ?_
  refine s1 ?_
  refine ARg.nil (ATh.normal ?_)
  refine dO 6 true ?_
  first | refine s1 ?_ | refine F.c (hFC) ?_ | refine F.c (hBe) ?_ | refine F.c (hR) ?_
  refine ARg.nil (ATh.normal ?_)
  refine dO 7 true ?_
  first | refine s1 ?_ | refine F.c (hFC) ?_ | refine F.c (hBe) ?_ | refine F.c (hR) ?_
  refine ARg.nil (ATh.normal ?_)
  refine dO 8 true ?_
  first | refine s1 ?_ | refine F.c (hFC) ?_ | refine F.c (hBe) ?_ | refine F.c (hR) ?_
  refine ARg.nil (ATh.normal ?_)
  refine dP 9 ?_
  refine dP 10 ?_
  refine dP 11 ?_
  refine dO 13 false ?_
  first | refine s1 ?_ | refine q1 ?_
  refine ARg.nil (ATh.normal ?_)
  refine dP 14 ?_
  refine dN ?_
  rotate_left
  all_goals
    repeat' first | refine s1 ?_ | refine q1 ?_ | (refine kR ?_; first | refine F.mk (m := c) Int rfl rfl rfl (mkB (by omega)) (by omega) rfl rfl ?_) | fail
  all_goals
    try
      refine F.loop (σ := Nat) [6, 7, 11, 12, 30, 31, 32, 33, 34, 35, 36, 37, 38, 39, 40, 41, 42, 43, 44, 45, 46, 47, 48, 49] (fun i => [(30, .i i)]) (fun i => [(4, .live false 1 (E true (tab r (c + 1) g))), (7, .live false 1 (E true (solV c g piv i)))]) (fun i => i ≤ piv.length ∧ ∀ j, j < i → piv.getD j 0 ≠ c) (fun i => piv.length - i) 0 ⟨rfl, trivial⟩ ⟨rfl, rfl, trivial⟩ ⟨Nat.zero_le _, fun j hj => by omega⟩ ?_
      rintro i ⟨i1, i2⟩
      by_cases hi : i < piv.length
      · have hpi := ints_get piv hi
        have hq : piv.getD i default < c + 1 := b4 _ (by simp [hi])
        have hir : i < r := by omega
        have hpi' : (ints piv).getD (0 + i) default = (piv.getD i default : Nat) := by rw [Nat.zero_add]; exact hpi
        have hT : ((ints piv).getD (0 + i) default).toNat = piv.getD i 0 := by rw [hpi']; exact Int.toNat_natCast _
        clear hpi
        by_cases hpc : piv.getD i default = c
        · have hmem : c ∈ piv := by rw [← hpc]; simp [hi]
          rw [hno hmem]
          repeat' first | refine s1 ?_ | refine q1 ?_ | fail
          (refine kZ ?_; exact F.ret rfl)
        · have hRow := row_m r (c + 1) i g _ hN hir (by omega) (by omega)
          obtain ⟨t1, t2⟩ := tab_in (i := i) (j := c) (r := r) (c := c + 1) hir (by omega) (by omega) (by omega)
          have hinv : ∀ j, j < i + 1 → piv.getD j 0 ≠ c := fun j hj => by
            by_cases e : j = i
            · subst e; exact hpc
            · exact i2 j (by omega)
          have hst : solV c g piv (i + 1) = (solV c g piv i).set (piv.getD i 0) (g i c) := rfl
          have hsl := solV_len c g piv i
          generalize solV c g piv i = X at hst hsl ⊢
          rw [← hT] at hst
          repeat' first | refine s1 ?_ | refine q1 ?_ | fail
          refine AW.draw 1 G.mixed (by kernel_rfl) ?_
          refine dP 0 ?_
          refine dP 1 ?_
          refine dP 3 ?_
          refine dP 5 ?_
          refine ARA.any [2, 6] (by kernel_rfl) (by simp) ?_
          intro k hk
          simp only [List.mem_cons, List.not_mem_nil, or_false] at hk
          rcases hk with rfl | rfl
          · refine ⟨_, true, rfl, rfl, ?_⟩
            first | refine s1 ?_ | refine q1 ?_
            refine ARg.nil (ATh.normal ?_)
            refine ARA.any [4, 6] (by kernel_rfl) (by simp) ?_
            intro k hk
            simp only [List.mem_cons, List.not_mem_nil, or_false] at hk
            rcases hk with rfl | rfl
            · refine ⟨_, false, rfl, rfl, ?_⟩
              first | refine s1 ?_ | refine F.m [4] (hRow) ?_
              refine ARg.nil (ATh.normal ?_)
              refine dO 6 true ?_
              first | refine s1 ?_ | refine q1 ?_
              refine ARg.nil (ATh.normal ?_)
              first | refine dP 7 ?_ | refine dQ 7 ?_
              refine dO 8 true ?_
              first | refine s1 ?_ | refine q1 ?_
              refine ARg.nil (ATh.normal ?_)
              first | refine dP 9 ?_ | refine dQ 9 ?_
              refine dO 10 false ?_
              first | refine s1 ?_ | refine q1 ?_
              refine ARg.nil (ATh.normal ?_)
              refine dN ?_
              repeat' first | refine s1 ?_ | refine q1 ?_ | fail
              exact ⟨i + 1, F.fit ⟨rfl, trivial⟩ ⟨rfl, obE (by rw [hst, Nat.zero_add ((ints piv).getD (0 + i) default).toNat]), trivial⟩, ⟨by omega, hinv⟩, by omega⟩
            · refine ⟨_, true, rfl, rfl, ?_⟩
              first | refine s1 ?_ | refine q1 ?_
              refine ARg.nil (ATh.normal ?_)
              refine dO 4 false ?_
              first | refine s1 ?_ | refine F.m [4] (hRow) ?_
              refine ARg.nil (ATh.normal ?_)
              first | refine dP 7 ?_ | refine dQ 7 ?_
              refine dO 8 true ?_
              first | refine s1 ?_ | refine q1 ?_
              refine ARg.nil (ATh.normal ?_)
              first | refine dP 9 ?_ | refine dQ 9 ?_
              refine dO 10 false ?_
              first | refine s1 ?_ | refine q1 ?_
              refine ARg.nil (ATh.normal ?_)
              refine dN ?_
              repeat' first | refine s1 ?_ | refine q1 ?_ | fail
              exact ⟨i + 1, F.fit ⟨rfl, trivial⟩ ⟨rfl, obE (by rw [hst, Nat.zero_add ((ints piv).getD (0 + i) default).toNat]), trivial⟩, ⟨by omega, hinv⟩, by omega⟩
          · refine ⟨_, true, rfl, rfl, ?_⟩
            first | refine s1 ?_ | refine q1 ?_
            refine ARg.nil (ATh.normal ?_)
            refine dO 2 true ?_
            first | refine s1 ?_ | refine q1 ?_
            refine ARg.nil (ATh.normal ?_)
            refine dO 4 false ?_
            first | refine s1 ?_ | refine F.m [4] (hRow) ?_
            refine ARg.nil (ATh.normal ?_)
            first | refine dP 7 ?_ | refine dQ 7 ?_
            refine dO 8 true ?_
            first | refine s1 ?_ | refine q1 ?_
            refine ARg.nil (ATh.normal ?_)
            first | refine dP 9 ?_ | refine dQ 9 ?_
            refine dO 10 false ?_
            first | refine s1 ?_ | refine q1 ?_
            refine ARg.nil (ATh.normal ?_)
            refine dN ?_
            repeat' first | refine s1 ?_ | refine q1 ?_ | fail
            exact ⟨i + 1, F.fit ⟨rfl, trivial⟩ ⟨rfl, obE (by rw [hst, Nat.zero_add ((ints piv).getD (0 + i) default).toNat]), trivial⟩, ⟨by omega, hinv⟩, by omega⟩
      · obtain rfl : i = piv.length := by omega
        rw [hyes (not_mem_of i2)]
        have hsl := solV_len c g piv piv.length
        generalize solV c g piv piv.length = X at hsl ⊢
        repeat' first | refine s1 ?_ | refine q1 ?_ | fail
        (refine kZ ?_; exact F.ret rfl)
  all_goals
    try
      refine F.loop (σ := Nat) [6, 7, 11, 12, 30, 31, 32, 33, 34, 35, 36, 37, 38, 39, 40, 41, 42, 43, 44, 45, 46, 47, 48, 49] (fun i => [(30, .i i)]) (fun i => [(5, .live false 1 (E true (tab r (c + 1) g))), (7, .live false 1 (E true (solV c g piv i)))]) (fun i => i ≤ piv.length ∧ ∀ j, j < i → piv.getD j 0 ≠ c) (fun i => piv.length - i) 0 ⟨rfl, trivial⟩ ⟨rfl, rfl, trivial⟩ ⟨Nat.zero_le _, fun j hj => by omega⟩ ?_
      rintro i ⟨i1, i2⟩
      by_cases hi : i < piv.length
      · have hpi := ints_get piv hi
        have hq : piv.getD i default < c + 1 := b4 _ (by simp [hi])
        have hir : i < r := by omega
        have hpi' : (ints piv).getD (0 + i) default = (piv.getD i default : Nat) := by rw [Nat.zero_add]; exact hpi
        have hT : ((ints piv).getD (0 + i) default).toNat = piv.getD i 0 := by rw [hpi']; exact Int.toNat_natCast _
        clear hpi
        by_cases hpc : piv.getD i default = c
        · have hmem : c ∈ piv := by rw [← hpc]; simp [hi]
          rw [hno hmem]
          repeat' first | refine s1 ?_ | refine q1 ?_ | fail
          (refine kZ ?_; exact F.ret rfl)
        · have hRow := row_m r (c + 1) i g _ hN hir (by omega) (by omega)
          obtain ⟨t1, t2⟩ := tab_in (i := i) (j := c) (r := r) (c := c + 1) hir (by omega) (by omega) (by omega)
          have hinv : ∀ j, j < i + 1 → piv.getD j 0 ≠ c := fun j hj => by
            by_cases e : j = i
            · subst e; exact hpc
            · exact i2 j (by omega)
          have hst : solV c g piv (i + 1) = (solV c g piv i).set (piv.getD i 0) (g i c) := rfl
          have hsl := solV_len c g piv i
          generalize solV c g piv i = X at hst hsl ⊢
          rw [← hT] at hst
          repeat' first | refine s1 ?_ | refine q1 ?_ | fail
          refine AW.draw 1 G.mixed (by kernel_rfl) ?_
          refine dP 0 ?_
          refine dP 1 ?_
          refine dP 3 ?_
          refine dP 5 ?_
          refine ARA.any [2, 6] (by kernel_rfl) (by simp) ?_
          intro k hk
          simp only [List.mem_cons, List.not_mem_nil, or_false] at hk
          rcases hk with rfl | rfl
          · refine ⟨_, true, rfl, rfl, ?_⟩
            first | refine s1 ?_ | refine q1 ?_
            refine ARg.nil (ATh.normal ?_)
            refine ARA.any [4, 6] (by kernel_rfl) (by simp) ?_
            intro k hk
            simp only [List.mem_cons, List.not_mem_nil, or_false] at hk
            rcases hk with rfl | rfl
            · refine ⟨_, false, rfl, rfl, ?_⟩
              first | refine s1 ?_ | refine F.m [5] (hRow) ?_
              refine ARg.nil (ATh.normal ?_)
              refine dO 6 true ?_
              first | refine s1 ?_ | refine q1 ?_
              refine ARg.nil (ATh.normal ?_)
              first | refine dP 7 ?_ | refine dQ 7 ?_
              refine dO 8 true ?_
              first | refine s1 ?_ | refine q1 ?_
              refine ARg.nil (ATh.normal ?_)
              first | refine dP 9 ?_ | refine dQ 9 ?_
              refine dO 10 false ?_
              first | refine s1 ?_ | refine q1 ?_
              refine ARg.nil (ATh.normal ?_)
              refine dN ?_
              repeat' first | refine s1 ?_ | refine q1 ?_ | fail
              exact ⟨i + 1, F.fit ⟨rfl, trivial⟩ ⟨rfl, obE (by rw [hst, Nat.zero_add ((ints piv).getD (0 + i) default).toNat]), trivial⟩, ⟨by omega, hinv⟩, by omega⟩
            · refine ⟨_, true, rfl, rfl, ?_⟩
              first | refine s1 ?_ | refine q1 ?_
              refine ARg.nil (ATh.normal ?_)
              refine dO 4 false ?_
              first | refine s1 ?_ | refine F.m [5] (hRow) ?_
              refine ARg.nil (ATh.normal ?_)
              first | refine dP 7 ?_ | refine dQ 7 ?_
              refine dO 8 true ?_
              first | refine s1 ?_ | refine q1 ?_
              refine ARg.nil (ATh.normal ?_)
              first | refine dP 9 ?_ | refine dQ 9 ?_
              refine dO 10 false ?_
              first | refine s1 ?_ | refine q1 ?_
              refine ARg.nil (ATh.normal ?_)
              refine dN ?_
              repeat' first | refine s1 ?_ | refine q1 ?_ | fail
              exact ⟨i + 1, F.fit ⟨rfl, trivial⟩ ⟨rfl, obE (by rw [hst, Nat.zero_add ((ints piv).getD (0 + i) default).toNat]), trivial⟩, ⟨by omega, hinv⟩, by omega⟩
          · refine ⟨_, true, rfl, rfl, ?_⟩
            first | refine s1 ?_ | refine q1 ?_
            refine ARg.nil (ATh.normal ?_)
            refine dO 2 true ?_
            first | refine s1 ?_ | refine q1 ?_
            refine ARg.nil (ATh.normal ?_)
            refine dO 4 false ?_
            first | refine s1 ?_ | refine F.m [5] (hRow) ?_
            refine ARg.nil (ATh.normal ?_)
            first | refine dP 7 ?_ | refine dQ 7 ?_
            refine dO 8 true ?_
            first | refine s1 ?_ | refine q1 ?_
            refine ARg.nil (ATh.normal ?_)
            first | refine dP 9 ?_ | refine dQ 9 ?_
            refine dO 10 false ?_
            first | refine s1 ?_ | refine q1 ?_
            refine ARg.nil (ATh.normal ?_)
            refine dN ?_
            repeat' first | refine s1 ?_ | refine q1 ?_ | fail
            exact ⟨i + 1, F.fit ⟨rfl, trivial⟩ ⟨rfl, obE (by rw [hst, Nat.zero_add ((ints piv).getD (0 + i) default).toNat]), trivial⟩, ⟨by omega, hinv⟩, by omega⟩
      · obtain rfl : i = piv.length := by omega
        rw [hyes (not_mem_of i2)]
        have hsl := solV_len c g piv piv.length
        generalize solV c g piv piv.length = X at hsl ⊢
        repeat' first | refine s1 ?_ | refine q1 ?_ | fail
        (refine kZ ?_; exact F.ret rfl)
end Go.Proofs.YtanembgijdkagaaGreat.V
