/- Joined: Contracts: elements of lists, orders of vertices. The reduced form by rows: its rows span what the rows span, and there is only one. No program is walked. Columns without a leading one, kernels, solutions of systems. No program is walked. Contracts: the program's lists of cells, matrices from columns, and the matrix of the coboundaries. Contracts: rows, transposes, columns without a leading one.. -/
import Derived.Test.YtanembgijdkagaaQpB2
import Derived.Test.YtanembgijdkagaaQpUd
import Derived.Test.YtanembgijdkagaaQpA17
import Derived.Test.YtanembgijdkagaaQpB3
import Derived.Test.YtanembgijdkagaaQpUq
import Derived.Test.YtanembgijdkagaaQpA23
namespace Go.Proofs.Ytanembgijdkagaa.V
open V.Enc (enc)
open Go.RowKit G D
set_option linter.unusedVariables false
set_option linter.unusedSimpArgs false
set_option maxHeartbeats 1000000
set_option maxRecDepth 4000
attribute [local irreducible] AW ARg ARA ARet MRet ASil AC AM
theorem index_a (xs : List Int) (v : Int) : AC Try.prog 171 [ar false xs, .i v] [.i (idxFrom (fun x => decide (v = x)) xs 0)] := by
  refine AC.go Try.func171 Try.ntmps171 rfl rfl fun w0 hw => ?_; simp [WfL, WfA, E_length, Enc.enc, In64] at hw
  repeat' first | refine s1 ?_ | refine q1 ?_ | fail
  refine F.loop (σ := Nat) [4, 5, 8, 9, 10, 11, 12, 13, 14, 15, 16, 17, 18] (fun k => [(8, .i k)]) (fun _ => []) (fun k => k ≤ xs.length ∧ idxFrom (fun x => decide (v = x)) xs 0 = idxFrom (fun x => decide (v = x)) (xs.drop k) k) (fun k => xs.length - k) 0 ⟨rfl, trivial⟩ trivial ⟨Nat.zero_le _, rfl⟩ ?_
  rintro k ⟨hk, hi⟩
  by_cases hlt : k < xs.length
  · rw [idxFrom_drop _ xs hlt] at hi
    by_cases he : v = xs.getD k default
    · rw [decide_eq_true he] at hi
      repeat' first | refine s1 ?_ | refine q1 ?_ | fail
      refine F.ret ?_
      rw [hi]; rfl
    · rw [decide_eq_false he] at hi
      repeat' first | refine s1 ?_ | refine q1 ?_ | fail
      exact ⟨k + 1, F.fit ⟨rfl, trivial⟩ trivial, ⟨by omega, hi⟩, by omega⟩
  · obtain rfl : k = xs.length := by omega
    repeat' first | refine s1 ?_ | refine q1 ?_ | fail
    refine F.ret ?_
    simp [hi, idxFrom]
theorem any_mem (xs : List Int) (v : Int) : (xs.any fun x => decide (v = x)) = decide (v ∈ xs) := by
  rw [Bool.eq_iff_iff]; simp
theorem contains_a (xs : List Int) (v : Int) : AC Try.prog 166 [ar false xs, .i v] [.b (decide (v ∈ xs))] := by
  refine AC.go Try.func166 Try.ntmps166 rfl rfl fun w0 hw => ?_; simp [WfL, WfA, E_length, Enc.enc, In64] at hw
  repeat' first | refine s1 ?_ | refine q1 ?_ | (refine kR ?_; first | (refine jCf 171 ?_; refine F.c (index_a xs v) ?_)) | fail
  refine F.ret ?_
  rw [← any_mem, ← idxFrom_any _ xs 0]
theorem l4Has_a (xs : List Int) (v : Int) : AC Try.prog 155 [ar false xs, .i v] [.b (decide (v ∈ xs))] := by
  refine AC.go Try.func155 Try.ntmps155 rfl rfl fun w0 hw => ?_; simp [WfL, WfA, E_length, Enc.enc, In64] at hw
  repeat' first | refine s1 ?_ | refine q1 ?_ | fail
  refine F.loop (σ := Nat) [4, 5, 6, 7, 8, 9, 10, 11, 12, 13, 14, 15, 16, 17] (fun k => [(5, .i k)]) (fun _ => []) (fun k => k ≤ xs.length ∧ ∀ j, j < k → xs.getD j default ≠ v) (fun k => xs.length - k) 0 ⟨rfl, trivial⟩ trivial ⟨Nat.zero_le _, fun j hj => by omega⟩ ?_
  rintro k ⟨hk, hi⟩
  by_cases hlt : k < xs.length
  · by_cases he : xs.getD k default = v
    · repeat' first | refine s1 ?_ | refine q1 ?_ | fail
      refine F.ret ?_
      rw [decide_eq_true (he ▸ gm hlt)]
    · repeat' first | refine s1 ?_ | refine q1 ?_ | fail
      exact ⟨k + 1, F.fit ⟨rfl, trivial⟩ trivial, ⟨by omega, snocP hi he⟩, by omega⟩
  · obtain rfl : k = xs.length := by omega
    repeat' first | refine s1 ?_ | refine q1 ?_ | fail
    refine F.ret ?_
    rw [decide_eq_false]
    intro hm
    obtain ⟨i, hi', rfl⟩ := List.mem_iff_getElem.1 hm
    exact hi i hi' (by simp [hi'])
theorem isReady_a (q : Quiv) (v : Int) (out : List Int) (hq : okQ q = true) : AC Try.prog 167 [.agg (enc false q), .i v, ar false out] [.b (ready q out v)] := by
  refine AC.go Try.func167 Try.ntmps167 rfl rfl fun w0 hw => ?_; simp [WfL, WfA, E_length, Enc.enc, In64] at hw
  have h5 := okQ_spec hq
  repeat' first | refine s1 ?_ | refine q1 ?_ | fail
  refine F.loop (σ := Nat) [6, 7, 8, 12, 13, 14, 15, 16, 17, 18, 19, 20, 21, 22, 23, 24, 25, 26, 27, 28, 29, 30] (fun k => [(12, .i k)]) (fun _ => []) (fun k => k ≤ q.fr.length ∧ ∀ j, j < k → (decide (q.to.getD j default ≠ v) || decide (q.fr.getD j default ∈ out)) = true) (fun k => q.fr.length - k) 0 ⟨rfl, trivial⟩ trivial ⟨Nat.zero_le _, fun j hj => by omega⟩ ?_
  rintro k ⟨hk, hi⟩
  by_cases hlt : k < q.fr.length
  · have hC := contains_a out (q.fr.getD k default)
    by_cases he : q.to.getD k default = v
    · by_cases hm : q.fr.getD k default ∈ out
      · rw [decide_eq_true hm] at hC
        repeat' first | refine s1 ?_ | refine q1 ?_ | (refine kR ?_; first | refine F.c (hC) ?_) | fail
        exact ⟨k + 1, F.fit ⟨rfl, trivial⟩ trivial, ⟨by omega, snocP hi (by rw [decide_eq_true hm, Bool.or_true])⟩, by omega⟩
      · rw [decide_eq_false hm] at hC
        repeat' first | refine s1 ?_ | refine q1 ?_ | (refine kR ?_; first | refine F.c (hC) ?_) | fail
        refine F.ret ?_
        rw [ready, all_no (k := k) hlt (by rw [decide_eq_false (fun h => h he), decide_eq_false hm]; rfl)]
    · repeat' first | refine s1 ?_ | refine q1 ?_ | fail
      exact ⟨k + 1, F.fit ⟨rfl, trivial⟩ trivial, ⟨by omega, snocP hi (by rw [decide_eq_true he, Bool.true_or])⟩, by omega⟩
  · obtain rfl : k = q.fr.length := by omega
    repeat' first | refine s1 ?_ | refine q1 ?_ | fail
    refine F.ret ?_
    rw [ready, all_yes hi]
theorem implOrderOf_a (q : Quiv) : AC Try.prog 156 [.agg (enc false q)] [.dt true 1 (E true (orderQ q).1), .b (orderQ q).2] := by
  refine AC.go Try.func156 Try.ntmps156 rfl rfl fun w0 hw => ?_; simp [WfL, WfA, E_length, Enc.enc, In64] at hw
  have hQ := implIsQuiver_a q
  cases hq : okQ q with
  | false =>
    rw [hq] at hQ
    rw [orderQ, if_neg (by simp [hq])]
    repeat' first | refine s1 ?_ | refine q1 ?_ | (refine kR ?_; first | refine F.c (hQ) ?_) | fail
    (refine kZ ?_; exact F.ret rfl)
  | true =>
    rw [hq] at hQ
    have h5 := okQ_spec hq
    have hn : ((q.n.toNat : Nat) : Int) = q.n := Int.toNat_of_nonneg (by omega)
    have hR : orderQ q = ordQ q q.n.toNat [] := by rw [orderQ, if_pos hq]
    generalize orderQ q = R at hR ⊢
    generalize hN : q.n.toNat = n at hn hR
    repeat' first | refine s1 ?_ | refine q1 ?_ | (refine kR ?_; first | refine F.c (hQ) ?_) | fail
    refine AW.open 4 1 (.inl rfl) ?_
    refine F.loop (σ := List Int) [2, 3, 4, 5, 6, 10, 11, 12, 13, 14, 15, 16, 17, 18, 19, 20, 21, 22, 23, 24, 25, 26, 27, 28, 29, 30, 31, 32, 33, 34, 35, 36, 37, 38] (fun out => [(4, .sl 1 out.length 0 out.length)]) (fun out => [(1, .live false 1 (E true out))]) (fun out => out.length ≤ n ∧ R = ordQ q (n - out.length) out) (fun out => n - out.length) [] ⟨rfl, trivial⟩ ⟨rfl, trivial⟩ ⟨Nat.zero_le _, by simpa using hR⟩ ?_
    rintro out ⟨g1, g2⟩
    by_cases hlt : out.length < n
    · repeat' first | refine s1 ?_ | refine q1 ?_ | fail
      refine F.loop (σ := Nat) [5, 6, 18, 19, 20, 21, 22, 23, 24, 25, 26, 27, 28, 29, 30, 31, 32] (fun u => [(5, .i (nextV q out (n - u) u)), (6, .i ((u : Int) - 1))]) (fun _ => []) (fun u => u ≤ n) (fun u => u) n ⟨iE (by rw [Nat.sub_self]; rfl), iE (by omega), trivial⟩ trivial (Nat.le_refl _) ?_
      rintro u hu
      cases u with
      | zero =>
        obtain ⟨f, hf⟩ : ∃ f, n - out.length = f + 1 := ⟨n - out.length - 1, by omega⟩
        rw [hf, ordQ, hN] at g2
        rw [Nat.sub_zero]
        have hb := nextV_bd q out n 0
        generalize nextV q out n 0 = x at g2 hb ⊢
        by_cases hx : x < 0
        · rw [if_pos hx] at g2
          subst g2
          repeat' first | refine s1 ?_ | refine q1 ?_ | fail
          (refine kZ ?_; exact F.ret rfl)
        · rw [if_neg hx] at g2
          repeat' first | refine s1 ?_ | refine q1 ?_ | (refine kR ?_; first | refine F.a1 Int ?_) | fail
          exact ⟨out ++ [x], F.fit ⟨slE (by simp), trivial⟩ ⟨rfl, trivial⟩, ⟨by simp; omega, by rw [g2]; congr 1; simp; omega⟩, by simp; omega⟩
      | succ i =>
        rw [show (((i + 1 : Nat)) : Int) - 1 = (i : Int) by omega]
        have hC := contains_a out (i : Int)
        have hr := isReady_a q (i : Int) out hq
        cases hfr : freeV q out (i : Int) with
        | true =>
          have hx := nextV_hit (n := n) (by omega) hfr
          simp only [freeV, Bool.and_eq_true, Bool.not_eq_true'] at hfr
          rw [hfr.1] at hC
          rw [hfr.2] at hr
          repeat' first | refine s1 ?_ | refine q1 ?_ | (refine kR ?_; first | refine F.c (hC) ?_ | refine F.c (hr) ?_) | fail
          exact ⟨i, F.fit ⟨iE hx.symm, rfl, trivial⟩ trivial, by omega, by omega⟩
        | false =>
          have hx := nextV_miss (n := n) (by omega) hfr
          rw [freeV, Bool.and_eq_false_iff] at hfr
          cases hc1 : decide ((i : Int) ∈ out) with
          | true =>
            rw [hc1] at hC
            repeat' first | refine s1 ?_ | refine q1 ?_ | (refine kR ?_; first | refine F.c (hC) ?_) | fail
            exact ⟨i, F.fit ⟨iE hx.symm, rfl, trivial⟩ trivial, by omega, by omega⟩
          | false =>
            rw [hc1] at hC hfr
            have hrd := hfr.resolve_left (by simp)
            rw [hrd] at hr
            repeat' first | refine s1 ?_ | refine q1 ?_ | (refine kR ?_; first | refine F.c (hC) ?_ | refine F.c (hr) ?_) | fail
            exact ⟨i, F.fit ⟨iE hx.symm, rfl, trivial⟩ trivial, by omega, by omega⟩
    · have e0 : n - out.length = 0 := by omega
      rw [e0, ordQ] at g2
      subst g2
      repeat' first | refine s1 ?_ | refine q1 ?_ | fail
      (refine kZ ?_; exact F.ret rfl)
/-- free so far: the first j arrows -/
def freeK (q : Quiv) (out : List Int) (v : Int) (j : Nat) : Bool := !decide (v ∈ out) && (List.range j).all fun i => decide (q.to.getD i default ≠ v) || decide (q.fr.getD i default ∈ out)
theorem freeK_zero (q : Quiv) (out : List Int) (v : Int) : freeK q out v 0 = !decide (v ∈ out) := by simp [freeK]
theorem freeK_succ (q : Quiv) (out : List Int) (v : Int) (j : Nat) : freeK q out v (j + 1) = (freeK q out v j && (decide (q.to.getD j default ≠ v) || decide (q.fr.getD j default ∈ out))) := by
  simp [freeK, List.range_succ, Bool.and_assoc]
theorem specOrderOf_a (q : Quiv) : AC Try.prog 135 [.agg (enc false q)] [.dt true 1 (E true (orderQ q).1), .b (orderQ q).2] := by
  refine AC.go Try.func135 Try.ntmps135 rfl rfl fun w0 hw => ?_; simp [WfL, WfA, E_length, Enc.enc, In64] at hw
  have hQ := specIsQuiver_a q
  cases hq : okQ q with
  | false =>
    rw [hq] at hQ
    rw [orderQ, if_neg (by simp [hq])]
    repeat' first | refine s1 ?_ | refine q1 ?_ | fail
    refine F.loop (σ := Unit) [2, 3, 4, 5, 6, 7, 8, 10, 11, 12, 13, 14, 15, 16, 17, 18, 19, 20, 21, 22, 23, 24, 25, 26, 27, 28, 29, 30, 31, 32, 33, 34, 35, 36, 37, 38, 39, 40, 41, 42, 43, 44, 45, 46, 47, 48, 49, 50, 51, 52, 53, 54, 55, 56, 57, 58, 59, 60, 61, 62, 63, 64] (fun _ => [(4, .em)]) (fun _ => []) (fun _ => True) (fun _ => 0) () ⟨rfl, trivial⟩ trivial trivial ?_
    rintro _ _
    repeat' first | refine s1 ?_ | refine q1 ?_ | (refine kR ?_; first | refine F.c (hQ) ?_) | fail
    (refine kZ ?_; exact F.ret rfl)
  | true =>
    rw [hq] at hQ
    have h5 := okQ_spec hq
    have hn : ((q.n.toNat : Nat) : Int) = q.n := Int.toNat_of_nonneg (by omega)
    have hR : orderQ q = ordQ q q.n.toNat [] := by rw [orderQ, if_pos hq]
    generalize orderQ q = R at hR ⊢
    generalize hN : q.n.toNat = n at hn hR
    repeat' first | refine s1 ?_ | refine q1 ?_ | fail
    refine AW.open 4 1 (.inr rfl) ?_
    refine F.loop (σ := List Int) [2, 3, 4, 5, 6, 7, 8, 10, 11, 12, 13, 14, 15, 16, 17, 18, 19, 20, 21, 22, 23, 24, 25, 26, 27, 28, 29, 30, 31, 32, 33, 34, 35, 36, 37, 38, 39, 40, 41, 42, 43, 44, 45, 46, 47, 48, 49, 50, 51, 52, 53, 54, 55, 56, 57, 58, 59, 60, 61, 62, 63, 64] (fun out => [(4, .sl 1 out.length 0 out.length)]) (fun out => [(1, .live false 1 (E true out))]) (fun out => out.length ≤ n ∧ R = ordQ q (n - out.length) out) (fun out => n - out.length) [] ⟨rfl, trivial⟩ ⟨rfl, trivial⟩ ⟨Nat.zero_le _, by simpa using hR⟩ ?_
    rintro out ⟨g1, g2⟩
    by_cases hlt : out.length < n
    · repeat' first | refine s1 ?_ | refine q1 ?_ | (refine kR ?_; first | refine F.c (hQ) ?_) | fail
      refine F.loop (σ := Nat) [5, 6, 7, 8, 22, 23, 24, 25, 26, 27, 28, 29, 30, 31, 32, 33, 34, 35, 36, 37, 38, 39, 40, 41, 42, 43, 44, 45, 46, 47, 48, 49, 50, 51, 52, 53, 54, 55, 56, 57] (fun u => [(5, .i (nextV q out (n - u) u)), (6, .i ((u : Int) - 1))]) (fun _ => []) (fun u => u ≤ n) (fun u => u) n ⟨iE (by rw [Nat.sub_self]; rfl), iE (by omega), trivial⟩ trivial (Nat.le_refl _) ?_
      rintro u hu
      cases u with
      | zero =>
        obtain ⟨f, hf⟩ : ∃ f, n - out.length = f + 1 := ⟨n - out.length - 1, by omega⟩
        rw [hf, ordQ, hN] at g2
        rw [Nat.sub_zero]
        have hb := nextV_bd q out n 0
        generalize nextV q out n 0 = x at g2 hb ⊢
        by_cases hx : x < 0
        · rw [if_pos hx] at g2
          subst g2
          repeat' first | refine s1 ?_ | refine q1 ?_ | fail
          (refine kZ ?_; exact F.ret rfl)
        · rw [if_neg hx] at g2
          repeat' first | refine s1 ?_ | refine q1 ?_ | (refine kR ?_; first | refine F.a1 Int ?_) | fail
          exact ⟨out ++ [x], F.fit ⟨slE (by simp), trivial⟩ ⟨rfl, trivial⟩, ⟨by simp; omega, by rw [g2]; congr 1; simp; omega⟩, by simp; omega⟩
      | succ i =>
        rw [show (((i + 1 : Nat)) : Int) - 1 = (i : Int) by omega]
        have hC := l4Has_a out (i : Int)
        have hk0 := freeK_zero q out (i : Int)
        generalize hX : decide ((i : Int) ∈ out) = X at hC hk0
        repeat' first | refine s1 ?_ | refine q1 ?_ | (refine kR ?_; first | refine F.c (hC) ?_) | fail
        refine F.loop (σ := Nat) [7, 8, 30, 31, 32, 33, 34, 35, 36, 37, 38, 39, 40, 41, 42, 43, 44, 45, 46, 47, 48, 49, 50, 51, 52, 53, 54, 55] (fun j => [(7, .b (freeK q out (i : Int) j)), (8, .i j)]) (fun _ => []) (fun j => j ≤ q.fr.length) (fun j => q.fr.length - j) 0 ⟨by rw [hk0]; rfl, rfl, trivial⟩ trivial (Nat.zero_le _) ?_
        rintro j hj
        by_cases hjl : j < q.fr.length
        · have hC2 := l4Has_a out (q.fr.getD j default)
          have hks := freeK_succ q out (i : Int) j
          cases hfk : freeK q out (i : Int) j with
          | false =>
            rw [hfk, Bool.false_and] at hks
            repeat' first | refine s1 ?_ | refine q1 ?_ | fail
            exact ⟨j + 1, F.fit ⟨by rw [hks]; rfl, rfl, trivial⟩ trivial, by omega, by omega⟩
          | true =>
            rw [hfk, Bool.true_and] at hks
            by_cases he : q.to.getD j default = (i : Int)
            · rw [decide_eq_false (fun h => h he), Bool.false_or] at hks
              generalize decide (q.fr.getD j default ∈ out) = Y at hC2 hks
              repeat' first | refine s1 ?_ | refine q1 ?_ | (refine kR ?_; first | refine F.c (hC2) ?_) | fail
              exact ⟨j + 1, F.fit ⟨by rw [hks]; rfl, rfl, trivial⟩ trivial, by omega, by omega⟩
            · rw [decide_eq_true he, Bool.true_or] at hks
              repeat' first | refine s1 ?_ | refine q1 ?_ | fail
              exact ⟨j + 1, F.fit ⟨by rw [hks]; rfl, rfl, trivial⟩ trivial, by omega, by omega⟩
        · obtain rfl : j = q.fr.length := by omega
          have hfr : freeK q out (i : Int) q.fr.length = freeV q out (i : Int) := rfl
          rw [hfr]
          cases hfv : freeV q out (i : Int) with
          | true =>
            have hx := nextV_hit (n := n) (by omega) hfv
            repeat' first | refine s1 ?_ | refine q1 ?_ | fail
            exact ⟨i, F.fit ⟨iE hx.symm, rfl, trivial⟩ trivial, by omega, by omega⟩
          | false =>
            have hx := nextV_miss (n := n) (by omega) hfv
            repeat' first | refine s1 ?_ | refine q1 ?_ | fail
            exact ⟨i, F.fit ⟨iE hx.symm, rfl, trivial⟩ trivial, by omega, by omega⟩
    · have e0 : n - out.length = 0 := by omega
      rw [e0, ordQ] at g2
      subst g2
      repeat' first | refine s1 ?_ | refine q1 ?_ | (refine kR ?_; first | refine F.c (hQ) ?_) | fail
      (refine kZ ?_; exact F.ret rfl)
theorem implIsAcyclic_a (q : Quiv) : AC Try.prog 136 [.agg (enc false q)] [.b (orderQ q).2] := by
  refine AC.go Try.func136 Try.ntmps136 rfl rfl fun w0 hw => ?_; simp [WfL, WfA, E_length, Enc.enc, In64] at hw
  have hO := implOrderOf_a q
  generalize orderQ q = R at hO ⊢
  obtain ⟨l, b⟩ := R
  dsimp only at hO ⊢
  repeat' first | refine s1 ?_ | refine q1 ?_ | (refine kR ?_; first | refine F.c (hO) ?_) | fail
  (refine kZ ?_; exact F.ret rfl)
theorem specIsAcyclic_a (q : Quiv) : AC Try.prog 95 [.agg (enc false q)] [.b (orderQ q).2] := by
  refine AC.go Try.func95 Try.ntmps95 rfl rfl fun w0 hw => ?_; simp [WfL, WfA, E_length, Enc.enc, In64] at hw
  have hO := specOrderOf_a q
  generalize orderQ q = R at hO ⊢
  obtain ⟨l, b⟩ := R
  dsimp only at hO ⊢
  repeat' first | refine s1 ?_ | refine q1 ?_ | (refine kR ?_; first | refine F.c (hO) ?_) | fail
  (refine kZ ?_; exact F.ret rfl)
end Go.Proofs.Ytanembgijdkagaa.V
namespace Go.Proofs.Ytanembgijdkagaa.V
open Go.RowKit G D
set_option linter.unusedVariables false
set_option linter.unusedSimpArgs false
set_option maxHeartbeats 1000000
set_option maxRecDepth 4000
/-- congruent modulo p -/
def Cg (p x y : Int) : Prop := ∃ q, x = y + p * q
theorem Cg.refl {p : Int} (x : Int) : Cg p x x := ⟨0, by simp⟩
theorem Cg.symm {p x y : Int} : Cg p x y → Cg p y x := fun ⟨q, h⟩ => ⟨-q, by rw [h, Int.mul_neg]; omega⟩
theorem Cg.trans {p x y z : Int} : Cg p x y → Cg p y z → Cg p x z := fun ⟨q, h⟩ ⟨s, g⟩ => ⟨s + q, by rw [h, g, Int.mul_add]; omega⟩
theorem Cg.add {p x y u v : Int} : Cg p x y → Cg p u v → Cg p (x + u) (y + v) := fun ⟨q, h⟩ ⟨s, g⟩ => ⟨q + s, by rw [h, g, Int.mul_add]; omega⟩
theorem Cg.mul {p x y u v : Int} : Cg p x y → Cg p u v → Cg p (x * u) (y * v) := fun ⟨q, h⟩ ⟨s, g⟩ => ⟨y * s + q * v + p * q * s, by subst h g; grind⟩
def sumN (h : Nat → Int) : Nat → Int
  | 0 => 0
  | n + 1 => sumN h n + h n
theorem sumN_cg {p : Int} {h g : Nat → Int} : ∀ n, (∀ i, i < n → Cg p (h i) (g i)) → Cg p (sumN h n) (sumN g n)
  | 0, _ => .refl _
  | n + 1, H => (sumN_cg n fun i hi => H i (by omega)).add (H n (by omega))
theorem sumN_eq {h g : Nat → Int} : ∀ n, (∀ i, i < n → h i = g i) → sumN h n = sumN g n
  | 0, _ => rfl
  | n + 1, H => by rw [sumN, sumN, sumN_eq n fun i hi => H i (by omega), H n (by omega)]
theorem sumN_add (h g : Nat → Int) : ∀ n, sumN (fun i => h i + g i) n = sumN h n + sumN g n
  | 0 => rfl
  | n + 1 => by simp only [sumN]; rw [sumN_add h g n]; omega
theorem sumN_mul (k : Int) (h : Nat → Int) : ∀ n, sumN (fun i => k * h i) n = k * sumN h n
  | 0 => by simp [sumN]
  | n + 1 => by simp only [sumN]; rw [sumN_mul k h n, Int.mul_add]
theorem sumN_one (h : Nat → Int) (t : Nat) : ∀ n, sumN (fun i => (if i = t then 1 else 0) * h i) n = if t < n then h t else 0
  | 0 => rfl
  | n + 1 => by
    simp only [sumN]
    rw [sumN_one h t n]
    by_cases e : n = t
    · subst e; simp
    · by_cases e2 : t < n
      · simp [e, e2, show t < n + 1 by omega]
      · simp [e, e2, show ¬ t < n + 1 by omega]
theorem sumN_zero {h : Nat → Int} : ∀ n, (∀ i, i < n → h i = 0) → sumN h n = 0
  | 0, _ => rfl
  | n + 1, H => by rw [sumN, sumN_zero n fun i hi => H i (by omega), H n (by omega)]; rfl
/-- v is a combination of the rows, modulo p, on the first c places -/
def Sp (p : Int) (r c : Nat) (f : Nat → Nat → Int) (v : Nat → Int) : Prop := ∃ co : Nat → Int, ∀ j, j < c → Cg p (v j) (sumN (fun i => co i * f i j) r)
theorem Sp.row {p : Int} {r c : Nat} {f : Nat → Nat → Int} {i : Nat} (hi : i < r) : Sp p r c f (f i) := ⟨fun t => if t = i then 1 else 0, fun j _ => by
  have h := sumN_one (fun t => f t j) i r
  rw [if_pos hi] at h
  show Cg p (f i j) (sumN (fun t => (if t = i then 1 else 0) * f t j) r)
  rw [h]; exact .refl _⟩
theorem Sp.zero {p : Int} {r c : Nat} {f : Nat → Nat → Int} : Sp p r c f fun _ => 0 := ⟨fun _ => 0, fun j _ => by rw [sumN_zero r fun i _ => Int.zero_mul _]; exact .refl _⟩
theorem Sp.add {p : Int} {r c : Nat} {f : Nat → Nat → Int} {u v : Nat → Int} : Sp p r c f u → Sp p r c f v → Sp p r c f fun j => u j + v j := fun ⟨x, h⟩ ⟨y, g⟩ => ⟨fun i => x i + y i, fun j hj => by
  rw [sumN_eq (g := fun i => x i * f i j + y i * f i j) r fun i _ => Int.add_mul .., sumN_add]
  exact (h j hj).add (g j hj)⟩
theorem Sp.smul {p : Int} {r c : Nat} {f : Nat → Nat → Int} {v : Nat → Int} (k : Int) : Sp p r c f v → Sp p r c f fun j => k * v j := fun ⟨y, g⟩ => ⟨fun i => k * y i, fun j hj => by
  rw [sumN_eq (g := fun i => k * (y i * f i j)) r fun i _ => Int.mul_assoc .., sumN_mul]
  exact (Cg.refl k).mul (g j hj)⟩
theorem Sp.cg {p : Int} {r c : Nat} {f : Nat → Nat → Int} {v w : Nat → Int} (h : Sp p r c f v) (e : ∀ j, j < c → Cg p (w j) (v j)) : Sp p r c f w := by
  obtain ⟨y, g⟩ := h
  exact ⟨y, fun j hj => (e j hj).trans (g j hj)⟩
theorem Sp.comb {p : Int} {r c : Nat} {f g : Nat → Nat → Int} {co : Nat → Int} : ∀ n, (∀ i, i < n → Sp p r c g (f i)) → Sp p r c g fun j => sumN (fun i => co i * f i j) n
  | 0, _ => Sp.zero
  | n + 1, h => (Sp.comb n fun i hi => h i (by omega)).add ((h n (by omega)).smul (co n))
theorem Sp.sub {p : Int} {r s c : Nat} {f g : Nat → Nat → Int} {v : Nat → Int} (h : Sp p r c f v) (hs : ∀ i, i < r → Sp p s c g (f i)) : Sp p s c g v := by
  obtain ⟨y, e⟩ := h
  exact (Sp.comb (co := y) r hs).cg e
/-- both tables span the same -/
def SS (p : Int) (r s c : Nat) (f g : Nat → Nat → Int) : Prop := (∀ i, i < r → Sp p s c g (f i)) ∧ (∀ i, i < s → Sp p r c f (g i))
theorem SS.refl {p : Int} {r c : Nat} {f : Nat → Nat → Int} : SS p r r c f f := ⟨fun i hi => Sp.row hi, fun i hi => Sp.row hi⟩
theorem SS.symm {p : Int} {r s c : Nat} {f g : Nat → Nat → Int} (h : SS p r s c f g) : SS p s r c g f := ⟨h.2, h.1⟩
theorem SS.trans {p : Int} {r s t c : Nat} {f g h : Nat → Nat → Int} (a : SS p r s c f g) (b : SS p s t c g h) : SS p r t c f h :=
  ⟨fun i hi => (a.1 i hi).sub b.1, fun i hi => (b.2 i hi).sub a.2⟩
/-- a reduced form of r rows, of which the columns before k are done -/
structure Ech (r k : Nat) (g : Nat → Nat → Int) (piv : List Nat) : Prop where
  le : piv.length ≤ r
  lt : ∀ i, i < piv.length → piv.getD i 0 < k
  inc : ∀ i j, i < j → j < piv.length → piv.getD i 0 < piv.getD j 0
  one : ∀ i, i < piv.length → ∀ j, j < piv.length → g i (piv.getD j 0) = if i = j then 1 else 0
  low : ∀ i, piv.length ≤ i → i < r → ∀ j, j < k → g i j = 0
  lead : ∀ i, i < piv.length → ∀ j, j < piv.getD i 0 → g i j = 0
/-- a combination of the rows is told by its numbers at the leading ones -/
theorem Ech.comb {p : Int} {r c : Nat} {g : Nat → Nat → Int} {piv : List Nat} (h : Ech r c g piv) {v : Nat → Int} (hv : Sp p r c g v) : ∀ j, j < c → Cg p (v j) (sumN (fun i => v (piv.getD i 0) * g i j) piv.length) := by
  obtain ⟨co, e⟩ := hv
  have cut : ∀ j, j < c → ∀ n, piv.length + n ≤ r → sumN (fun i => co i * g i j) (piv.length + n) = sumN (fun i => co i * g i j) piv.length := fun j hj n => by
    induction n with
    | zero => intro _; rfl
    | succ n ih => intro hn; rw [← Nat.add_assoc, sumN, ih (by omega), h.low _ (by omega) (by omega) j hj]; simp
  have e2 : ∀ j, j < c → Cg p (v j) (sumN (fun i => co i * g i j) piv.length) := fun j hj => by
    have := cut j hj (r - piv.length) (by have := h.le; omega)
    rw [show piv.length + (r - piv.length) = r by have := h.le; omega] at this
    rw [← this]; exact e j hj
  have e3 : ∀ i, i < piv.length → Cg p (v (piv.getD i 0)) (co i) := fun i hi => by
    have h1 := e2 _ (h.lt i hi)
    have h2 : sumN (fun t => co t * g t (piv.getD i 0)) piv.length = co i := by
      rw [sumN_eq (g := fun t => (if t = i then 1 else 0) * co t) _ fun t ht => by rw [h.one t ht i hi, Int.mul_comm], sumN_one, if_pos hi]
    rwa [h2] at h1
  intro j hj
  exact (e2 j hj).trans (sumN_cg _ fun i hi => ((e3 i hi).symm).mul (.refl _))
theorem Ech.zero {p : Int} {r c : Nat} {g : Nat → Nat → Int} {piv : List Nat} (h : Ech r c g piv) {v : Nat → Int} (hv : Sp p r c g v) (h0 : ∀ i, i < piv.length → Cg p (v (piv.getD i 0)) 0) : ∀ j, j < c → Cg p (v j) 0 := fun j hj => by
  have h1 := h.comb hv j hj
  have h2 := sumN_cg (p := p) (h := fun i => v (piv.getD i 0) * g i j) (g := fun _ => 0) piv.length fun i hi => by
    have := (h0 i hi).mul (Cg.refl (g i j)); rwa [Int.zero_mul] at this
  rw [sumN_zero (h := fun _ => 0) piv.length fun _ _ => rfl] at h2
  exact h1.trans h2
end Go.Proofs.Ytanembgijdkagaa.V
namespace Go.Proofs.Ytanembgijdkagaa.V
open Go.RowKit G D
set_option linter.unusedVariables false
set_option linter.unusedSimpArgs false
set_option maxHeartbeats 1000000
set_option maxRecDepth 4000
end Go.Proofs.Ytanembgijdkagaa.V
namespace Go.Proofs.Ytanembgijdkagaa.V
open V.Enc (enc)
open Go.RowKit G D
set_option linter.unusedVariables false
set_option linter.unusedSimpArgs false
set_option maxHeartbeats 4000000
set_option maxRecDepth 4000
attribute [local irreducible] AW ARg ARA ARet MRet ASil AC AM
/-- the columns before k are set, and of column k the first n numbers -/
def fcK (cs : List (List Int)) (k n : Nat) : Nat → Nat → Int := fun i j => if j < k ∨ (j = k ∧ i < n) then (cs.getD j default).getD i default else 0
def fcF (cs : List (List Int)) : Nat → Nat → Int := fun i j => (cs.getD j default).getD i default
theorem fcK_zero (cs : List (List Int)) : fcK cs 0 0 = fun _ _ => 0 := by funext i j; simp [fcK]
theorem fcK_set (cs : List (List Int)) (k n : Nat) : updF (fcK cs k n) n k ((cs.getD k default).getD n default) = fcK cs k (n + 1) := by
  funext i j
  simp only [fcK, updF]
  by_cases h1 : j = k
  · subst h1
    by_cases h2 : i = n
    · subst h2; simp
    · have : i < n + 1 ↔ i < n := by omega
      simp [h2, this]
  · simp [h1]
theorem fcK_next (cs : List (List Int)) (k r c : Nat) : tab r c (fcK cs k r) = tab r c (fcK cs (k + 1) 0) := tab_ext fun i hi j hj => by
  have e : (j < k ∨ j = k ∧ i < r) ↔ (j < k + 1 ∨ j = k + 1 ∧ i < 0) := by omega
  simp only [fcK, e]
theorem fcK_all (cs : List (List Int)) (r : Nat) : tab r cs.length (fcK cs cs.length 0) = tab r cs.length (fcF cs) := tab_ext fun i hi j hj => by simp [fcK, fcF, hj]
theorem fromColumns_a (r : Nat) (cs : List (List Int)) (hr : r ≤ 1024) (hc : cs.length ≤ 1024) (hl : ∀ k, k < cs.length → (cs.getD k default).length = r) : AC Try.prog 94 [.i (r : Int), ar false cs] [.agg (enc true (tm r cs.length (fcF cs)))] := by
  refine AC.go Try.func94 Try.ntmps94 rfl rfl fun w0 hw => ?_; simp [WfL, WfA, E_length, Enc.enc, In64] at hw
  have hZ := zeroT_a r cs.length hr hc
  repeat' first | refine s1 ?_ | refine q1 ?_ | (refine kR ?_; first | refine F.c (hZ) ?_) | fail
  refine F.loop (σ := Nat) [6, 7, 8, 9, 16, 17, 18, 19, 20, 21, 22, 23, 24, 25, 26, 27, 28, 29, 30, 31, 32, 33, 34, 35, 36, 37, 38, 39] (fun k => [(16, .i k)]) (fun k => [(1, .live false 1 (E true (tab r cs.length (fcK cs k 0))))]) (fun k => k ≤ cs.length) (fun k => cs.length - k) 0 ⟨rfl, trivial⟩ ⟨obE (by rw [fcK_zero]), trivial⟩ (Nat.zero_le _) ?_
  rintro k k1
  by_cases hk : k < cs.length
  · have hlk : (cs.getD (0 + k) default).length = r := by rw [Nat.zero_add]; exact hl k hk
    have hlk' := hl k hk
    repeat' first | refine s1 ?_ | refine q1 ?_ | fail
    refine F.loop (σ := Nat) [8, 9, 23, 24, 25, 26, 27, 28, 29, 30, 31, 32, 33, 34, 35, 36, 37, 38] (fun i => [(23, .i i)]) (fun i => [(1, .live false 1 (E true (tab r cs.length (fcK cs k i))))]) (fun i => i ≤ r) (fun i => r - i) 0 ⟨rfl, trivial⟩ ⟨rfl, trivial⟩ (Nat.zero_le _) ?_
    rintro i i1
    by_cases hi : i < r
    · obtain ⟨t1, t2⟩ := tab_in (i := i) (j := k) (r := r) (c := cs.length) hi hk hr hc
      repeat' first | refine s1 ?_ | refine q1 ?_ | fail
      exact ⟨i + 1, F.fit ⟨rfl, trivial⟩ ⟨obE (by rw [← fcK_set]), trivial⟩, by omega, by omega⟩
    · obtain rfl : i = r := by omega
      repeat' first | refine s1 ?_ | refine q1 ?_ | fail
      exact ⟨k + 1, F.fit ⟨rfl, trivial⟩ ⟨obE (by rw [fcK_next]), trivial⟩, by omega, by omega⟩
  · obtain rfl : k = cs.length := by omega
    rw [fcK_all]
    repeat' first | refine s1 ?_ | refine q1 ?_ | fail
    (refine kZ ?_; exact F.ret rfl)
end Go.Proofs.Ytanembgijdkagaa.V
namespace Go.Proofs.Ytanembgijdkagaa.V
open V.Enc (enc)
open Go.RowKit G D
set_option linter.unusedVariables false
set_option linter.unusedSimpArgs false
set_option maxHeartbeats 4000000
set_option maxRecDepth 4000
attribute [local irreducible] AW ARg ARA ARet MRet ASil AC AM
def rowsL (r c : Nat) (f : Nat → Nat → Int) : List (List Int) := (List.range r).map fun i => rowL c (f i)
theorem rowsL_len (r c : Nat) (f : Nat → Nat → Int) : (rowsL r c f).length = r := by simp [rowsL]
theorem rowsL_take {r : Nat} (c : Nat) (f : Nat → Nat → Int) {k : Nat} (h : k < r) : (rowsL r c f).take (k + 1) = (rowsL r c f).take k ++ [rowL c (f k)] := by
  simp only [rowsL, ← List.map_take, range_take h, List.map_append, List.map_cons, List.map_nil]
theorem rowsL_get {r : Nat} (c : Nat) (f : Nat → Nat → Int) {k : Nat} (h : k < r) : (rowsL r c f).getD k default = rowL c (f k) := by simp [rowsL, h]
theorem rows_a (r c : Nat) (f : Nat → Nat → Int) (hr : r ≤ 1024) (hc : c ≤ 1024) : AC Try.prog 114 [.agg (enc false (tm r c f))] [.dt true 1 (E true (rowsL r c f))] := by
  refine AC.go Try.func114 Try.ntmps114 rfl rfl fun w0 hw => ?_; simp [WfL, WfA, E_length, Enc.enc, In64] at hw
  repeat' first | refine s1 ?_ | refine q1 ?_ | fail
  refine AW.open 3 1 (.inl rfl) ?_
  refine F.loop (σ := Nat) [3, 4, 7, 8, 9, 10, 11, 12, 13, 14, 15, 16, 17] (fun k => [(3, .sl 1 k 0 k), (7, .i k)]) (fun k => [(1, .live false 1 (E true ((rowsL r c f).take k)))]) (fun k => k ≤ r) (fun k => r - k) 0 ⟨rfl, rfl, trivial⟩ ⟨rfl, trivial⟩ (Nat.zero_le _) ?_
  rintro k k1
  have hll := rowsL_len r c f
  have hp : ((rowsL r c f).take k).length = k := by rw [List.length_take]; omega
  by_cases hk : k < r
  · have hR := row_w r c k f hk hr hc
    have hC := clone_a (rowL c (f k)) (by simp; omega)
    have hts := rowsL_take c f hk
    have hrl := rowL_len c (f k)
    generalize rowL c (f k) = X at hR hC hts hrl
    repeat' first | refine s1 ?_ | refine q1 ?_ | (refine kR ?_; first | refine F.w (hR) ?_ | refine F.c (hC) ?_ | refine F.a1 (List Int) (a := X) ?_) | fail
    exact ⟨k + 1, F.fit ⟨rfl, rfl, trivial⟩ ⟨obE (by rw [hts]), trivial⟩, by omega, by omega⟩
  · obtain rfl : k = r := by omega
    have e : (rowsL k c f).take k = rowsL k c f := List.take_of_length_le (by omega)
    rw [e]
    clear hp e
    generalize rowsL k c f = X at hll ⊢
    repeat' first | refine s1 ?_ | refine q1 ?_ | fail
    (refine kZ ?_; exact F.ret rfl)
theorem rows_fc (r c : Nat) (f : Nat → Nat → Int) : tm c (rowsL r c f).length (fcF (rowsL r c f)) = tm c r fun i j => f j i := by
  unfold tm
  rw [rowsL_len]
  congr 1
  apply tab_ext
  intro i hi j hj
  unfold fcF
  rw [rowsL_get c f hj, rowL_get _ hi]
theorem l3Transpose_a (r c : Nat) (f : Nat → Nat → Int) (hr : r ≤ 1024) (hc : c ≤ 1024) : AC Try.prog 113 [.agg (enc false (tm r c f))] [.agg (enc true (tm c r fun i j => f j i))] := by
  refine AC.go Try.func113 Try.ntmps113 rfl rfl fun w0 hw => ?_; simp [WfL, WfA, E_length, Enc.enc, In64] at hw
  have hZ := l3ZeroT_a c r hc hr
  have hg := fun k (hk : k < r) => rowsL_get c f hk
  rw [← rows_fc]
  have hll := rowsL_len r c f
  generalize hRL : rowsL r c f = RL at hg hll ⊢
  repeat' first | refine s1 ?_ | refine q1 ?_ | (refine kR ?_; first | refine F.c (hZ) ?_) | fail
  refine F.loop (σ := Nat) [4, 5, 11, 12, 13, 14, 15, 16, 17, 18, 19, 20, 21, 22, 23, 24, 25, 26, 27, 28, 29, 30, 31, 32, 33, 34, 35, 36, 37, 38, 39, 40, 41] (fun i => [(4, .i i)]) (fun i => [(2, .live false 1 (E true (tab c r (fcK RL i 0))))]) (fun i => i ≤ r) (fun i => r - i) 0 ⟨rfl, trivial⟩ ⟨obE (by rw [fcK_zero]), trivial⟩ (Nat.zero_le _) ?_
  rintro i i1
  by_cases hi : i < r
  · repeat' first | refine s1 ?_ | refine q1 ?_ | fail
    refine F.loop (σ := Nat) [5, 17, 18, 19, 20, 21, 22, 23, 24, 25, 26, 27, 28, 29, 30, 31, 32, 33, 34, 35, 36, 37, 38, 39, 40, 41] (fun k => [(5, .i k)]) (fun k => [(2, .live false 1 (E true (tab c r (fcK RL i k))))]) (fun k => k ≤ c) (fun k => c - k) 0 ⟨rfl, trivial⟩ ⟨rfl, trivial⟩ (Nat.zero_le _) ?_
    rintro k k1
    by_cases hk : k < c
    · obtain ⟨t1, t2⟩ := tab_in (i := i) (j := k) (r := r) (c := c) hi hk hr hc
      obtain ⟨t3, t4⟩ := tab_in (i := k) (j := i) (r := c) (c := r) hk hi hc hr
      have hv : f i k = (RL.getD i default).getD k default := by rw [hg i hi, rowL_get _ hk]
      repeat' first | refine s1 ?_ | refine q1 ?_ | fail
      refine AW.draw 19 G.mixed (by kernel_rfl) ?_
      refine dP 0 ?_
      first | refine dL 1 ?_ | refine dLQ 1 ?_
      refine dP 2 ?_
      refine dP 3 ?_
      first | refine dL 4 ?_ | refine dLQ 4 ?_
      refine dP 5 ?_
      refine dP 6 ?_
      refine dP 7 ?_
      refine dP 8 ?_
      first | refine dL 9 ?_ | refine dLQ 9 ?_
      refine dP 10 ?_
      refine dP 11 ?_
      first | refine dL 12 ?_ | refine dLQ 12 ?_
      refine dP 13 ?_
      refine dP 14 ?_
      refine dP 15 ?_
      first | refine dP 16 ?_ | refine dQ 16 ?_
      first | refine dL 17 ?_ | refine dLQ 17 ?_
      first | refine dP 18 ?_ | refine dQ 18 ?_
      refine dO 19 false ?_
      first | refine s1 ?_ | refine q1 ?_
      refine ARg.nil (ATh.normal ?_)
      refine dN ?_
      repeat' first | refine s1 ?_ | refine q1 ?_ | fail
      exact ⟨k + 1, F.fit ⟨rfl, trivial⟩ ⟨obE (by rw [hv, fcK_set]), trivial⟩, by omega, by omega⟩
    · obtain rfl : k = c := by omega
      repeat' first | refine s1 ?_ | refine q1 ?_ | fail
      exact ⟨i + 1, F.fit ⟨rfl, trivial⟩ ⟨obE (by rw [fcK_next]), trivial⟩, by omega, by omega⟩
  · obtain rfl : i = r := by omega
    have e : tab c i (fcK RL i 0) = tab c RL.length (fcF RL) := by rw [← fcK_all, hll]
    have e2 : tm c RL.length (fcF RL) = ⟨(c : Nat), (i : Nat), tab c RL.length (fcF RL)⟩ := by unfold tm; rw [hll]
    rw [e, e2]
    have e3 : (tab c RL.length (fcF RL)).length = c * i := by rw [tab_len, hll]
    generalize tab c RL.length (fcF RL) = T at e3 ⊢
    repeat' first | refine s1 ?_ | refine q1 ?_ | fail
    (refine kZ ?_; exact F.ret rfl)
end Go.Proofs.Ytanembgijdkagaa.V
