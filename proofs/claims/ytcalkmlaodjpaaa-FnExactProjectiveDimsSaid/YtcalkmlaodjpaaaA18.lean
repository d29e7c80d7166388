/- Contracts: elements of lists, orders of vertices. -/
import Derived.Test.YtcalkmlaodjpaaaA7
import Derived.Test.YtcalkmlaodjpaaaPf
namespace Go.Proofs.Ytcalkmlaodjpaaa.V
open V.Enc (enc)
open Go.RowKit G D
set_option linter.unusedVariables false
set_option linter.unusedSimpArgs false
set_option maxHeartbeats 1000000
set_option maxRecDepth 4000
attribute [local irreducible] AW ARg ARA ARet MRet ASil AC AM

theorem index_a (xs : List Int) (v : Int) : AC Try.prog 178 [ar false xs, .i v] [.i (idxFrom (fun x => decide (v = x)) xs 0)] := by
  refine AC.go Try.func178 Try.ntmps178 rfl rfl fun w0 hw => ?_; simp [WfL, WfA, E_length, Enc.enc, In64] at hw
  repeat' first | refine s1 ?_ | fail
  refine F.loop (σ := Nat) [4, 5, 8, 9, 10, 11, 12, 13, 14, 15, 16, 17, 18] (fun k => [(8, .i k)]) (fun _ => []) (fun k => k ≤ xs.length ∧ idxFrom (fun x => decide (v = x)) xs 0 = idxFrom (fun x => decide (v = x)) (xs.drop k) k) (fun k => xs.length - k) 0 ⟨rfl, trivial⟩ trivial ⟨Nat.zero_le _, rfl⟩ ?_
  rintro k ⟨hk, hi⟩
  by_cases hlt : k < xs.length
  · rw [idxFrom_drop _ xs hlt] at hi
    by_cases he : v = xs.getD k default
    · rw [decide_eq_true he] at hi
      repeat' first | refine s1 ?_ | fail
      refine F.ret ?_
      rw [hi]; rfl
    · rw [decide_eq_false he] at hi
      repeat' first | refine s1 ?_ | fail
      exact ⟨k + 1, F.fit ⟨rfl, trivial⟩ trivial, ⟨by omega, hi⟩, by omega⟩
  · obtain rfl : k = xs.length := by omega
    repeat' first | refine s1 ?_ | fail
    refine F.ret ?_
    simp [hi, idxFrom]
theorem any_mem (xs : List Int) (v : Int) : (xs.any fun x => decide (v = x)) = decide (v ∈ xs) := by
  rw [Bool.eq_iff_iff]; simp
theorem contains_a (xs : List Int) (v : Int) : AC Try.prog 163 [ar false xs, .i v] [.b (decide (v ∈ xs))] := by
  refine AC.go Try.func163 Try.ntmps163 rfl rfl fun w0 hw => ?_; simp [WfL, WfA, E_length, Enc.enc, In64] at hw
  repeat' first | refine s1 ?_ | (refine kR ?_; first | (refine jCf 178 ?_; refine F.c (index_a xs v) ?_)) | fail
  refine F.ret ?_
  rw [← any_mem, ← idxFrom_any _ xs 0]
theorem l4Has_a (xs : List Int) (v : Int) : AC Try.prog 156 [ar false xs, .i v] [.b (decide (v ∈ xs))] := by
  refine AC.go Try.func156 Try.ntmps156 rfl rfl fun w0 hw => ?_; simp [WfL, WfA, E_length, Enc.enc, In64] at hw
  repeat' first | refine s1 ?_ | fail
  refine F.loop (σ := Nat) [4, 5, 6, 7, 8, 9, 10, 11, 12, 13, 14, 15, 16, 17] (fun k => [(5, .i k)]) (fun _ => []) (fun k => k ≤ xs.length ∧ ∀ j, j < k → xs.getD j default ≠ v) (fun k => xs.length - k) 0 ⟨rfl, trivial⟩ trivial ⟨Nat.zero_le _, fun j hj => by omega⟩ ?_
  rintro k ⟨hk, hi⟩
  by_cases hlt : k < xs.length
  · by_cases he : xs.getD k default = v
    · repeat' first | refine s1 ?_ | fail
      refine F.ret ?_
      rw [decide_eq_true (he ▸ gm hlt)]
    · repeat' first | refine s1 ?_ | fail
      exact ⟨k + 1, F.fit ⟨rfl, trivial⟩ trivial, ⟨by omega, snocP hi he⟩, by omega⟩
  · obtain rfl : k = xs.length := by omega
    repeat' first | refine s1 ?_ | fail
    refine F.ret ?_
    rw [decide_eq_false]
    intro hm
    obtain ⟨i, hi', rfl⟩ := List.mem_iff_getElem.1 hm
    exact hi i hi' (by simp [hi'])
theorem isReady_a (q : Quiv) (v : Int) (out : List Int) (hq : okQ q = true) : AC Try.prog 164 [.agg (enc false q), .i v, ar false out] [.b (ready q out v)] := by
  refine AC.go Try.func164 Try.ntmps164 rfl rfl fun w0 hw => ?_; simp [WfL, WfA, E_length, Enc.enc, In64] at hw
  have h5 := okQ_spec hq
  repeat' first | refine s1 ?_ | fail
  refine F.loop (σ := Nat) [6, 7, 8, 12, 13, 14, 15, 16, 17, 18, 19, 20, 21, 22, 23, 24, 25, 26, 27, 28, 29, 30] (fun k => [(12, .i k)]) (fun _ => []) (fun k => k ≤ q.fr.length ∧ ∀ j, j < k → (decide (q.to.getD j default ≠ v) || decide (q.fr.getD j default ∈ out)) = true) (fun k => q.fr.length - k) 0 ⟨rfl, trivial⟩ trivial ⟨Nat.zero_le _, fun j hj => by omega⟩ ?_
  rintro k ⟨hk, hi⟩
  by_cases hlt : k < q.fr.length
  · have hC := contains_a out (q.fr.getD k default)
    by_cases he : q.to.getD k default = v
    · by_cases hm : q.fr.getD k default ∈ out
      · rw [decide_eq_true hm] at hC
        repeat' first | refine s1 ?_ | (refine kR ?_; first | refine F.c (hC) ?_) | fail
        exact ⟨k + 1, F.fit ⟨rfl, trivial⟩ trivial, ⟨by omega, snocP hi (by rw [decide_eq_true hm, Bool.or_true])⟩, by omega⟩
      · rw [decide_eq_false hm] at hC
        repeat' first | refine s1 ?_ | (refine kR ?_; first | refine F.c (hC) ?_) | fail
        refine F.ret ?_
        rw [ready, all_no (k := k) hlt (by rw [decide_eq_false (fun h => h he), decide_eq_false hm]; rfl)]
    · repeat' first | refine s1 ?_ | fail
      exact ⟨k + 1, F.fit ⟨rfl, trivial⟩ trivial, ⟨by omega, snocP hi (by rw [decide_eq_true he, Bool.true_or])⟩, by omega⟩
  · obtain rfl : k = q.fr.length := by omega
    repeat' first | refine s1 ?_ | fail
    refine F.ret ?_
    rw [ready, all_yes hi]
theorem implOrderOf_a (q : Quiv) : AC Try.prog 141 [.agg (enc false q)] [.dt true 1 (E true (orderQ q).1), .b (orderQ q).2] := by
  refine AC.go Try.func141 Try.ntmps141 rfl rfl fun w0 hw => ?_; simp [WfL, WfA, E_length, Enc.enc, In64] at hw
  have hQ := implIsQuiver_a q
  cases hq : okQ q with
  | false =>
    rw [hq] at hQ
    rw [orderQ, if_neg (by simp [hq])]
    repeat' first | refine s1 ?_ | (refine kR ?_; first | refine F.c (hQ) ?_) | fail
    (refine kZ ?_; exact F.ret rfl)
  | true =>
    rw [hq] at hQ
    have h5 := okQ_spec hq
    have hn : ((q.n.toNat : Nat) : Int) = q.n := Int.toNat_of_nonneg (by omega)
    have hR : orderQ q = ordQ q q.n.toNat [] := by rw [orderQ, if_pos hq]
    generalize orderQ q = R at hR ⊢
    generalize hN : q.n.toNat = n at hn hR
    repeat' first | refine s1 ?_ | (refine kR ?_; first | refine F.c (hQ) ?_) | fail
    refine AW.open 4 1 (.inl rfl) ?_
    refine F.loop (σ := List Int) [2, 3, 4, 5, 6, 10, 11, 12, 13, 14, 15, 16, 17, 18, 19, 20, 21, 22, 23, 24, 25, 26, 27, 28, 29, 30, 31, 32, 33, 34, 35, 36, 37, 38] (fun out => [(4, .sl 1 out.length 0 out.length)]) (fun out => [(1, .live false 1 (E true out))]) (fun out => out.length ≤ n ∧ R = ordQ q (n - out.length) out) (fun out => n - out.length) [] ⟨rfl, trivial⟩ ⟨rfl, trivial⟩ ⟨Nat.zero_le _, by simpa using hR⟩ ?_
    rintro out ⟨g1, g2⟩
    by_cases hlt : out.length < n
    · repeat' first | refine s1 ?_ | fail
      refine F.loop (σ := Nat) [5, 6, 18, 19, 20, 21, 22, 23, 24, 25, 26, 27, 28, 29, 30, 31, 32] (fun u => [(5, .i (nextV q out (n - u) u)), (6, .i ((u : Int) - 1))]) (fun _ => []) (fun u => u ≤ n) (fun u => u) n ⟨iE (by rw [Nat.sub_self]; rfl), iE (by omega), trivial⟩ trivial (Nat.le_refl _) ?_
      rintro u hu
      cases u with
      | zero =>
        obtain ⟨f, hf⟩ : ∃ f, n - out.length = f + 1 := ⟨n - out.length - 1, by omega⟩
        rw [hf, ordQ, hN] at g2
        rw [Nat.sub_zero]
        have hb := nextV_bd q out n 0
        generalize nextV q out n 0 = x at g2 hb ⊢
        by_cases hx : x < 0
        · rw [if_pos hx] at g2
          subst g2
          repeat' first | refine s1 ?_ | fail
          (refine kZ ?_; exact F.ret rfl)
        · rw [if_neg hx] at g2
          repeat' first | refine s1 ?_ | (refine kR ?_; first | refine F.a1 Int ?_) | fail
          exact ⟨out ++ [x], F.fit ⟨slE (by simp), trivial⟩ ⟨rfl, trivial⟩, ⟨by simp; omega, by rw [g2]; congr 1; simp; omega⟩, by simp; omega⟩
      | succ i =>
        rw [show (((i + 1 : Nat)) : Int) - 1 = (i : Int) by omega]
        have hC := contains_a out (i : Int)
        have hr := isReady_a q (i : Int) out hq
        cases hfr : freeV q out (i : Int) with
        | true =>
          have hx := nextV_hit (n := n) (by omega) hfr
          simp only [freeV, Bool.and_eq_true, Bool.not_eq_true'] at hfr
          rw [hfr.1] at hC
          rw [hfr.2] at hr
          repeat' first | refine s1 ?_ | (refine kR ?_; first | refine F.c (hC) ?_ | refine F.c (hr) ?_) | fail
          exact ⟨i, F.fit ⟨iE hx.symm, rfl, trivial⟩ trivial, by omega, by omega⟩
        | false =>
          have hx := nextV_miss (n := n) (by omega) hfr
          rw [freeV, Bool.and_eq_false_iff] at hfr
          cases hc1 : decide ((i : Int) ∈ out) with
          | true =>
            rw [hc1] at hC
            repeat' first | refine s1 ?_ | (refine kR ?_; first | refine F.c (hC) ?_) | fail
            exact ⟨i, F.fit ⟨iE hx.symm, rfl, trivial⟩ trivial, by omega, by omega⟩
          | false =>
            rw [hc1] at hC hfr
            have hrd := hfr.resolve_left (by simp)
            rw [hrd] at hr
            repeat' first | refine s1 ?_ | (refine kR ?_; first | refine F.c (hC) ?_ | refine F.c (hr) ?_) | fail
            exact ⟨i, F.fit ⟨iE hx.symm, rfl, trivial⟩ trivial, by omega, by omega⟩
    · have e0 : n - out.length = 0 := by omega
      rw [e0, ordQ] at g2
      subst g2
      repeat' first | refine s1 ?_ | fail
      (refine kZ ?_; exact F.ret rfl)
/-- free so far: the first j arrows -/
def freeK (q : Quiv) (out : List Int) (v : Int) (j : Nat) : Bool := !decide (v ∈ out) && (List.range j).all fun i => decide (q.to.getD i default ≠ v) || decide (q.fr.getD i default ∈ out)
theorem freeK_zero (q : Quiv) (out : List Int) (v : Int) : freeK q out v 0 = !decide (v ∈ out) := by simp [freeK]
theorem freeK_succ (q : Quiv) (out : List Int) (v : Int) (j : Nat) : freeK q out v (j + 1) = (freeK q out v j && (decide (q.to.getD j default ≠ v) || decide (q.fr.getD j default ∈ out))) := by
  simp [freeK, List.range_succ, Bool.and_assoc]
theorem specOrderOf_a (q : Quiv) : AC Try.prog 129 [.agg (enc false q)] [.dt true 1 (E true (orderQ q).1), .b (orderQ q).2] := by
  refine AC.go Try.func129 Try.ntmps129 rfl rfl fun w0 hw => ?_; simp [WfL, WfA, E_length, Enc.enc, In64] at hw
  have hQ := specIsQuiver_a q
  cases hq : okQ q with
  | false =>
    rw [hq] at hQ
    rw [orderQ, if_neg (by simp [hq])]
    repeat' first | refine s1 ?_ | fail
    refine F.loop (σ := Unit) [2, 3, 4, 5, 6, 7, 8, 10, 11, 12, 13, 14, 15, 16, 17, 18, 19, 20, 21, 22, 23, 24, 25, 26, 27, 28, 29, 30, 31, 32, 33, 34, 35, 36, 37, 38, 39, 40, 41, 42, 43, 44, 45, 46, 47, 48, 49, 50, 51, 52, 53, 54, 55, 56, 57, 58, 59, 60, 61, 62, 63, 64] (fun _ => [(4, .em)]) (fun _ => []) (fun _ => True) (fun _ => 0) () ⟨rfl, trivial⟩ trivial trivial ?_
    rintro _ _
    repeat' first | refine s1 ?_ | (refine kR ?_; first | refine F.c (hQ) ?_) | fail
    (refine kZ ?_; exact F.ret rfl)
  | true =>
    rw [hq] at hQ
    have h5 := okQ_spec hq
    have hn : ((q.n.toNat : Nat) : Int) = q.n := Int.toNat_of_nonneg (by omega)
    have hR : orderQ q = ordQ q q.n.toNat [] := by rw [orderQ, if_pos hq]
    generalize orderQ q = R at hR ⊢
    generalize hN : q.n.toNat = n at hn hR
    repeat' first | refine s1 ?_ | fail
    refine AW.open 4 1 (.inr rfl) ?_
    refine F.loop (σ := List Int) [2, 3, 4, 5, 6, 7, 8, 10, 11, 12, 13, 14, 15, 16, 17, 18, 19, 20, 21, 22, 23, 24, 25, 26, 27, 28, 29, 30, 31, 32, 33, 34, 35, 36, 37, 38, 39, 40, 41, 42, 43, 44, 45, 46, 47, 48, 49, 50, 51, 52, 53, 54, 55, 56, 57, 58, 59, 60, 61, 62, 63, 64] (fun out => [(4, .sl 1 out.length 0 out.length)]) (fun out => [(1, .live false 1 (E true out))]) (fun out => out.length ≤ n ∧ R = ordQ q (n - out.length) out) (fun out => n - out.length) [] ⟨rfl, trivial⟩ ⟨rfl, trivial⟩ ⟨Nat.zero_le _, by simpa using hR⟩ ?_
    rintro out ⟨g1, g2⟩
    by_cases hlt : out.length < n
    · repeat' first | refine s1 ?_ | (refine kR ?_; first | refine F.c (hQ) ?_) | fail
      refine F.loop (σ := Nat) [5, 6, 7, 8, 22, 23, 24, 25, 26, 27, 28, 29, 30, 31, 32, 33, 34, 35, 36, 37, 38, 39, 40, 41, 42, 43, 44, 45, 46, 47, 48, 49, 50, 51, 52, 53, 54, 55, 56, 57] (fun u => [(5, .i (nextV q out (n - u) u)), (6, .i ((u : Int) - 1))]) (fun _ => []) (fun u => u ≤ n) (fun u => u) n ⟨iE (by rw [Nat.sub_self]; rfl), iE (by omega), trivial⟩ trivial (Nat.le_refl _) ?_
      rintro u hu
      cases u with
      | zero =>
        obtain ⟨f, hf⟩ : ∃ f, n - out.length = f + 1 := ⟨n - out.length - 1, by omega⟩
        rw [hf, ordQ, hN] at g2
        rw [Nat.sub_zero]
        have hb := nextV_bd q out n 0
        generalize nextV q out n 0 = x at g2 hb ⊢
        by_cases hx : x < 0
        · rw [if_pos hx] at g2
          subst g2
          repeat' first | refine s1 ?_ | fail
          (refine kZ ?_; exact F.ret rfl)
        · rw [if_neg hx] at g2
          repeat' first | refine s1 ?_ | (refine kR ?_; first | refine F.a1 Int ?_) | fail
          exact ⟨out ++ [x], F.fit ⟨slE (by simp), trivial⟩ ⟨rfl, trivial⟩, ⟨by simp; omega, by rw [g2]; congr 1; simp; omega⟩, by simp; omega⟩
      | succ i =>
        rw [show (((i + 1 : Nat)) : Int) - 1 = (i : Int) by omega]
        have hC := l4Has_a out (i : Int)
        have hk0 := freeK_zero q out (i : Int)
        generalize hX : decide ((i : Int) ∈ out) = X at hC hk0
        repeat' first | refine s1 ?_ | (refine kR ?_; first | refine F.c (hC) ?_) | fail
        refine F.loop (σ := Nat) [7, 8, 30, 31, 32, 33, 34, 35, 36, 37, 38, 39, 40, 41, 42, 43, 44, 45, 46, 47, 48, 49, 50, 51, 52, 53, 54, 55] (fun j => [(7, .b (freeK q out (i : Int) j)), (8, .i j)]) (fun _ => []) (fun j => j ≤ q.fr.length) (fun j => q.fr.length - j) 0 ⟨by rw [hk0]; rfl, rfl, trivial⟩ trivial (Nat.zero_le _) ?_
        rintro j hj
        by_cases hjl : j < q.fr.length
        · have hC2 := l4Has_a out (q.fr.getD j default)
          have hks := freeK_succ q out (i : Int) j
          cases hfk : freeK q out (i : Int) j with
          | false =>
            rw [hfk, Bool.false_and] at hks
            repeat' first | refine s1 ?_ | fail
            exact ⟨j + 1, F.fit ⟨by rw [hks]; rfl, rfl, trivial⟩ trivial, by omega, by omega⟩
          | true =>
            rw [hfk, Bool.true_and] at hks
            by_cases he : q.to.getD j default = (i : Int)
            · rw [decide_eq_false (fun h => h he), Bool.false_or] at hks
              generalize decide (q.fr.getD j default ∈ out) = Y at hC2 hks
              repeat' first | refine s1 ?_ | (refine kR ?_; first | refine F.c (hC2) ?_) | fail
              exact ⟨j + 1, F.fit ⟨by rw [hks]; rfl, rfl, trivial⟩ trivial, by omega, by omega⟩
            · rw [decide_eq_true he, Bool.true_or] at hks
              repeat' first | refine s1 ?_ | fail
              exact ⟨j + 1, F.fit ⟨by rw [hks]; rfl, rfl, trivial⟩ trivial, by omega, by omega⟩
        · obtain rfl : j = q.fr.length := by omega
          have hfr : freeK q out (i : Int) q.fr.length = freeV q out (i : Int) := rfl
          rw [hfr]
          cases hfv : freeV q out (i : Int) with
          | true =>
            have hx := nextV_hit (n := n) (by omega) hfv
            repeat' first | refine s1 ?_ | fail
            exact ⟨i, F.fit ⟨iE hx.symm, rfl, trivial⟩ trivial, by omega, by omega⟩
          | false =>
            have hx := nextV_miss (n := n) (by omega) hfv
            repeat' first | refine s1 ?_ | fail
            exact ⟨i, F.fit ⟨iE hx.symm, rfl, trivial⟩ trivial, by omega, by omega⟩
    · have e0 : n - out.length = 0 := by omega
      rw [e0, ordQ] at g2
      subst g2
      repeat' first | refine s1 ?_ | (refine kR ?_; first | refine F.c (hQ) ?_) | fail
      (refine kZ ?_; exact F.ret rfl)
theorem implIsAcyclic_a (q : Quiv) : AC Try.prog 99 [.agg (enc false q)] [.b (orderQ q).2] := by
  refine AC.go Try.func99 Try.ntmps99 rfl rfl fun w0 hw => ?_; simp [WfL, WfA, E_length, Enc.enc, In64] at hw
  have hO := implOrderOf_a q
  generalize orderQ q = R at hO ⊢
  obtain ⟨l, b⟩ := R
  dsimp only at hO ⊢
  repeat' first | refine s1 ?_ | (refine kR ?_; first | refine F.c (hO) ?_) | fail
  (refine kZ ?_; exact F.ret rfl)
theorem specIsAcyclic_a (q : Quiv) : AC Try.prog 79 [.agg (enc false q)] [.b (orderQ q).2] := by
  refine AC.go Try.func79 Try.ntmps79 rfl rfl fun w0 hw => ?_; simp [WfL, WfA, E_length, Enc.enc, In64] at hw
  have hO := specOrderOf_a q
  generalize orderQ q = R at hO ⊢
  obtain ⟨l, b⟩ := R
  dsimp only at hO ⊢
  repeat' first | refine s1 ?_ | (refine kR ?_; first | refine F.c (hO) ?_) | fail
  (refine kZ ?_; exact F.ret rfl)
end Go.Proofs.Ytcalkmlaodjpaaa.V
