/- Joined: Contracts: elements of lists, orders of vertices. The reduced form by rows: its rows span what the rows span, and there is only one. No program is walked. Columns without a leading one, kernels, solutions of systems. No program is walked. Contracts: the program's lists of cells, matrices from columns, and the matrix of the coboundaries. Contracts: rows, transposes, columns without a leading one.. -/
import Derived.Test.YtedjajokbdokhaaGreatB2
import Derived.Test.YtedjajokbdokhaaGreatUd
import Derived.Test.YtedjajokbdokhaaGreatA17
import Derived.Test.YtedjajokbdokhaaGreatB3
import Derived.Test.YtedjajokbdokhaaGreatUq
import Derived.Test.YtedjajokbdokhaaGreatA23
/- Contracts: elements of lists, orders of vertices. -/
namespace Go.Proofs.YtedjajokbdokhaaGreat.V
open V.Enc (enc)
open Go.RowKit G D
set_option linter.unusedVariables false
set_option linter.unusedSimpArgs false
set_option maxHeartbeats 1000000
set_option maxRecDepth 4000
attribute [local irreducible] AW ARg ARA ARet MRet ASil AC AM

theorem index_a (xs : List Int) (v : Int) : AC Tryz.prog 210 [ar false xs, .i v] [.i (idxFrom (fun x => decide (v = x)) xs 0)] := by
  refine AC.go Tryz.func210 Tryz.ntmps210 rfl rfl fun w0 hw => ?_; simp [WfL, WfA, E_length, Enc.enc, In64] at hw
  repeat' first | refine s1 ?_ | refine q1 ?_ | fail
  refine F.loop (σ := Nat) [4, 5, 8, 9, 10, 11, 12, 13, 14, 15, 16, 17, 18] (fun k => [(8, .i k)]) (fun _ => []) (fun k => k ≤ xs.length ∧ idxFrom (fun x => decide (v = x)) xs 0 = idxFrom (fun x => decide (v = x)) (xs.drop k) k) (fun k => xs.length - k) 0 ⟨rfl, trivial⟩ trivial ⟨Nat.zero_le _, rfl⟩ ?_
  rintro k ⟨hk, hi⟩
  by_cases hlt : k < xs.length
  · rw [idxFrom_drop _ xs hlt] at hi
    by_cases he : v = xs.getD k default
    · rw [decide_eq_true he] at hi
      repeat' first | refine s1 ?_ | refine q1 ?_ | fail
      refine F.ret ?_
      rw [hi]; rfl
    · rw [decide_eq_false he] at hi
      repeat' first | refine s1 ?_ | refine q1 ?_ | fail
      exact ⟨k + 1, F.fit ⟨rfl, trivial⟩ trivial, ⟨by omega, hi⟩, by omega⟩
  · obtain rfl : k = xs.length := by omega
    repeat' first | refine s1 ?_ | refine q1 ?_ | fail
    refine F.ret ?_
    simp [hi, idxFrom]
theorem any_mem (xs : List Int) (v : Int) : (xs.any fun x => decide (v = x)) = decide (v ∈ xs) := by
  rw [Bool.eq_iff_iff]; simp
theorem contains_a (xs : List Int) (v : Int) : AC Tryz.prog 188 [ar false xs, .i v] [.b (decide (v ∈ xs))] := by
  refine AC.go Tryz.func188 Tryz.ntmps188 rfl rfl fun w0 hw => ?_; simp [WfL, WfA, E_length, Enc.enc, In64] at hw
  repeat' first | refine s1 ?_ | refine q1 ?_ | (refine kR ?_; first | (refine jCf 210 ?_; refine F.c (index_a xs v) ?_)) | fail
  refine F.ret ?_
  rw [← any_mem, ← idxFrom_any _ xs 0]
theorem l4Has_a (xs : List Int) (v : Int) : AC Tryz.prog 156 [ar false xs, .i v] [.b (decide (v ∈ xs))] := by
  refine AC.go Tryz.func156 Tryz.ntmps156 rfl rfl fun w0 hw => ?_; simp [WfL, WfA, E_length, Enc.enc, In64] at hw
  repeat' first | refine s1 ?_ | refine q1 ?_ | fail
  refine F.loop (σ := Nat) [4, 5, 6, 7, 8, 9, 10, 11, 12, 13, 14, 15, 16, 17] (fun k => [(5, .i k)]) (fun _ => []) (fun k => k ≤ xs.length ∧ ∀ j, j < k → xs.getD j default ≠ v) (fun k => xs.length - k) 0 ⟨rfl, trivial⟩ trivial ⟨Nat.zero_le _, fun j hj => by omega⟩ ?_
  rintro k ⟨hk, hi⟩
  by_cases hlt : k < xs.length
  · by_cases he : xs.getD k default = v
    · repeat' first | refine s1 ?_ | refine q1 ?_ | fail
      refine F.ret ?_
      rw [decide_eq_true (he ▸ gm hlt)]
    · repeat' first | refine s1 ?_ | refine q1 ?_ | fail
      exact ⟨k + 1, F.fit ⟨rfl, trivial⟩ trivial, ⟨by omega, snocP hi he⟩, by omega⟩
  · obtain rfl : k = xs.length := by omega
    repeat' first | refine s1 ?_ | refine q1 ?_ | fail
    refine F.ret ?_
    rw [decide_eq_false]
    intro hm
    obtain ⟨i, hi', rfl⟩ := List.mem_iff_getElem.1 hm
    exact hi i hi' (by simp [hi'])
theorem isReady_a (q : Quiv) (v : Int) (out : List Int) (hq : okQ q = true) : AC Tryz.prog 189 [.agg (enc false q), .i v, ar false out] [.b (ready q out v)] := by
  refine AC.go Tryz.func189 Tryz.ntmps189 rfl rfl fun w0 hw => ?_; simp [WfL, WfA, E_length, Enc.enc, In64] at hw
  have h5 := okQ_spec hq
  repeat' first | refine s1 ?_ | refine q1 ?_ | fail
  refine F.loop (σ := Nat) [6, 7, 8, 12, 13, 14, 15, 16, 17, 18, 19, 20, 21, 22, 23, 24, 25, 26, 27, 28, 29, 30] (fun k => [(12, .i k)]) (fun _ => []) (fun k => k ≤ q.fr.length ∧ ∀ j, j < k → (decide (q.to.getD j default ≠ v) || decide (q.fr.getD j default ∈ out)) = true) (fun k => q.fr.length - k) 0 ⟨rfl, trivial⟩ trivial ⟨Nat.zero_le _, fun j hj => by omega⟩ ?_
  rintro k ⟨hk, hi⟩
  by_cases hlt : k < q.fr.length
  · have hC := contains_a out (q.fr.getD k default)
    by_cases he : q.to.getD k default = v
    · by_cases hm : q.fr.getD k default ∈ out
      · rw [decide_eq_true hm] at hC
        repeat' first | refine s1 ?_ | refine q1 ?_ | (refine kR ?_; first | refine F.c (hC) ?_) | fail
        exact ⟨k + 1, F.fit ⟨rfl, trivial⟩ trivial, ⟨by omega, snocP hi (by rw [decide_eq_true hm, Bool.or_true])⟩, by omega⟩
      · rw [decide_eq_false hm] at hC
        repeat' first | refine s1 ?_ | refine q1 ?_ | (refine kR ?_; first | refine F.c (hC) ?_) | fail
        refine F.ret ?_
        rw [ready, all_no (k := k) hlt (by rw [decide_eq_false (fun h => h he), decide_eq_false hm]; rfl)]
    · repeat' first | refine s1 ?_ | refine q1 ?_ | fail
      exact ⟨k + 1, F.fit ⟨rfl, trivial⟩ trivial, ⟨by omega, snocP hi (by rw [decide_eq_true he, Bool.true_or])⟩, by omega⟩
  · obtain rfl : k = q.fr.length := by omega
    repeat' first | refine s1 ?_ | refine q1 ?_ | fail
    refine F.ret ?_
    rw [ready, all_yes hi]
theorem implOrderOf_a (q : Quiv) : AC Tryz.prog 138 [.agg (enc false q)] [.dt true 1 (E true (orderQ q).1), .b (orderQ q).2] := by
  refine AC.go Tryz.func138 Tryz.ntmps138 rfl rfl fun w0 hw => ?_; simp [WfL, WfA, E_length, Enc.enc, In64] at hw
  have hQ := implIsQuiver_a q
  cases hq : okQ q with
  | false =>
    rw [hq] at hQ
    rw [orderQ, if_neg (by simp [hq])]
    repeat' first | refine s1 ?_ | refine q1 ?_ | (refine kR ?_; first | refine F.c (hQ) ?_) | fail
    (refine kZ ?_; exact F.ret rfl)
  | true =>
    rw [hq] at hQ
    have h5 := okQ_spec hq
    have hn : ((q.n.toNat : Nat) : Int) = q.n := Int.toNat_of_nonneg (by omega)
    have hR : orderQ q = ordQ q q.n.toNat [] := by rw [orderQ, if_pos hq]
    generalize orderQ q = R at hR ⊢
    generalize hN : q.n.toNat = n at hn hR
    repeat' first | refine s1 ?_ | refine q1 ?_ | (refine kR ?_; first | refine F.c (hQ) ?_) | fail
    refine AW.open 4 1 (.inl rfl) ?_
    refine F.loop (σ := List Int) [2, 3, 4, 5, 6, 10, 11, 12, 13, 14, 15, 16, 17, 18, 19, 20, 21, 22, 23, 24, 25, 26, 27, 28, 29, 30, 31, 32, 33, 34, 35, 36, 37, 38] (fun out => [(4, .sl 1 out.length 0 out.length)]) (fun out => [(1, .live false 1 (E true out))]) (fun out => out.length ≤ n ∧ R = ordQ q (n - out.length) out) (fun out => n - out.length) [] ⟨rfl, trivial⟩ ⟨rfl, trivial⟩ ⟨Nat.zero_le _, by simpa using hR⟩ ?_
    rintro out ⟨g1, g2⟩
    by_cases hlt : out.length < n
    · repeat' first | refine s1 ?_ | refine q1 ?_ | fail
      refine F.loop (σ := Nat) [5, 6, 18, 19, 20, 21, 22, 23, 24, 25, 26, 27, 28, 29, 30, 31, 32] (fun u => [(5, .i (nextV q out (n - u) u)), (6, .i ((u : Int) - 1))]) (fun _ => []) (fun u => u ≤ n) (fun u => u) n ⟨iE (by rw [Nat.sub_self]; rfl), iE (by omega), trivial⟩ trivial (Nat.le_refl _) ?_
      rintro u hu
      cases u with
      | zero =>
        obtain ⟨f, hf⟩ : ∃ f, n - out.length = f + 1 := ⟨n - out.length - 1, by omega⟩
        rw [hf, ordQ, hN] at g2
        rw [Nat.sub_zero]
        have hb := nextV_bd q out n 0
        generalize nextV q out n 0 = x at g2 hb ⊢
        by_cases hx : x < 0
        · rw [if_pos hx] at g2
          subst g2
          repeat' first | refine s1 ?_ | refine q1 ?_ | fail
          (refine kZ ?_; exact F.ret rfl)
        · rw [if_neg hx] at g2
          repeat' first | refine s1 ?_ | refine q1 ?_ | (refine kR ?_; first | refine F.a1 Int ?_) | fail
          exact ⟨out ++ [x], F.fit ⟨slE (by simp), trivial⟩ ⟨rfl, trivial⟩, ⟨by simp; omega, by rw [g2]; congr 1; simp; omega⟩, by simp; omega⟩
      | succ i =>
        rw [show (((i + 1 : Nat)) : Int) - 1 = (i : Int) by omega]
        have hC := contains_a out (i : Int)
        have hr := isReady_a q (i : Int) out hq
        cases hfr : freeV q out (i : Int) with
        | true =>
          have hx := nextV_hit (n := n) (by omega) hfr
          simp only [freeV, Bool.and_eq_true, Bool.not_eq_true'] at hfr
          rw [hfr.1] at hC
          rw [hfr.2] at hr
          repeat' first | refine s1 ?_ | refine q1 ?_ | (refine kR ?_; first | refine F.c (hC) ?_ | refine F.c (hr) ?_) | fail
          exact ⟨i, F.fit ⟨iE hx.symm, rfl, trivial⟩ trivial, by omega, by omega⟩
        | false =>
          have hx := nextV_miss (n := n) (by omega) hfr
          rw [freeV, Bool.and_eq_false_iff] at hfr
          cases hc1 : decide ((i : Int) ∈ out) with
          | true =>
            rw [hc1] at hC
            repeat' first | refine s1 ?_ | refine q1 ?_ | (refine kR ?_; first | refine F.c (hC) ?_) | fail
            exact ⟨i, F.fit ⟨iE hx.symm, rfl, trivial⟩ trivial, by omega, by omega⟩
          | false =>
            rw [hc1] at hC hfr
            have hrd := hfr.resolve_left (by simp)
            rw [hrd] at hr
            repeat' first | refine s1 ?_ | refine q1 ?_ | (refine kR ?_; first | refine F.c (hC) ?_ | refine F.c (hr) ?_) | fail
            exact ⟨i, F.fit ⟨iE hx.symm, rfl, trivial⟩ trivial, by omega, by omega⟩
    · have e0 : n - out.length = 0 := by omega
      rw [e0, ordQ] at g2
      subst g2
      repeat' first | refine s1 ?_ | refine q1 ?_ | fail
      (refine kZ ?_; exact F.ret rfl)
/-- free so far: the first j arrows -/
def freeK (q : Quiv) (out : List Int) (v : Int) (j : Nat) : Bool := !decide (v ∈ out) && (List.range j).all fun i => decide (q.to.getD i default ≠ v) || decide (q.fr.getD i default ∈ out)
theorem freeK_zero (q : Quiv) (out : List Int) (v : Int) : freeK q out v 0 = !decide (v ∈ out) := by simp [freeK]
theorem freeK_succ (q : Quiv) (out : List Int) (v : Int) (j : Nat) : freeK q out v (j + 1) = (freeK q out v j && (decide (q.to.getD j default ≠ v) || decide (q.fr.getD j default ∈ out))) := by
  simp [freeK, List.range_succ, Bool.and_assoc]
theorem specOrderOf_a (q : Quiv) : AC Tryz.prog 132 [.agg (enc false q)] [.dt true 1 (E true (orderQ q).1), .b (orderQ q).2] := by
  refine AC.go Tryz.func132 Tryz.ntmps132 rfl rfl fun w0 hw => ?_; simp [WfL, WfA, E_length, Enc.enc, In64] at hw
  have hQ := specIsQuiver_a q
  cases hq : okQ q with
  | false =>
    rw [hq] at hQ
    rw [orderQ, if_neg (by simp [hq])]
    repeat' first | refine s1 ?_ | refine q1 ?_ | fail
    refine F.loop (σ := Unit) [2, 3, 4, 5, 6, 7, 8, 10, 11, 12, 13, 14, 15, 16, 17, 18, 19, 20, 21, 22, 23, 24, 25, 26, 27, 28, 29, 30, 31, 32, 33, 34, 35, 36, 37, 38, 39, 40, 41, 42, 43, 44, 45, 46, 47, 48, 49, 50, 51, 52, 53, 54, 55, 56, 57, 58, 59, 60, 61, 62, 63, 64] (fun _ => [(4, .em)]) (fun _ => []) (fun _ => True) (fun _ => 0) () ⟨rfl, trivial⟩ trivial trivial ?_
    rintro _ _
    repeat' first | refine s1 ?_ | refine q1 ?_ | (refine kR ?_; first | refine F.c (hQ) ?_) | fail
    (refine kZ ?_; exact F.ret rfl)
  | true =>
    rw [hq] at hQ
    have h5 := okQ_spec hq
    have hn : ((q.n.toNat : Nat) : Int) = q.n := Int.toNat_of_nonneg (by omega)
    have hR : orderQ q = ordQ q q.n.toNat [] := by rw [orderQ, if_pos hq]
    generalize orderQ q = R at hR ⊢
    generalize hN : q.n.toNat = n at hn hR
    repeat' first | refine s1 ?_ | refine q1 ?_ | fail
    refine AW.open 4 1 (.inr rfl) ?_
    refine F.loop (σ := List Int) [2, 3, 4, 5, 6, 7, 8, 10, 11, 12, 13, 14, 15, 16, 17, 18, 19, 20, 21, 22, 23, 24, 25, 26, 27, 28, 29, 30, 31, 32, 33, 34, 35, 36, 37, 38, 39, 40, 41, 42, 43, 44, 45, 46, 47, 48, 49, 50, 51, 52, 53, 54, 55, 56, 57, 58, 59, 60, 61, 62, 63, 64] (fun out => [(4, .sl 1 out.length 0 out.length)]) (fun out => [(1, .live false 1 (E true out))]) (fun out => out.length ≤ n ∧ R = ordQ q (n - out.length) out) (fun out => n - out.length) [] ⟨rfl, trivial⟩ ⟨rfl, trivial⟩ ⟨Nat.zero_le _, by simpa using hR⟩ ?_
    rintro out ⟨g1, g2⟩
    by_cases hlt : out.length < n
    · repeat' first | refine s1 ?_ | refine q1 ?_ | (refine kR ?_; first | refine F.c (hQ) ?_) | fail
      refine F.loop (σ := Nat) [5, 6, 7, 8, 22, 23, 24, 25, 26, 27, 28, 29, 30, 31, 32, 33, 34, 35, 36, 37, 38, 39, 40, 41, 42, 43, 44, 45, 46, 47, 48, 49, 50, 51, 52, 53, 54, 55, 56, 57] (fun u => [(5, .i (nextV q out (n - u) u)), (6, .i ((u : Int) - 1))]) (fun _ => []) (fun u => u ≤ n) (fun u => u) n ⟨iE (by rw [Nat.sub_self]; rfl), iE (by omega), trivial⟩ trivial (Nat.le_refl _) ?_
      rintro u hu
      cases u with
      | zero =>
        obtain ⟨f, hf⟩ : ∃ f, n - out.length = f + 1 := ⟨n - out.length - 1, by omega⟩
        rw [hf, ordQ, hN] at g2
        rw [Nat.sub_zero]
        have hb := nextV_bd q out n 0
        generalize nextV q out n 0 = x at g2 hb ⊢
        by_cases hx : x < 0
        · rw [if_pos hx] at g2
          subst g2
          repeat' first | refine s1 ?_ | refine q1 ?_ | fail
          (refine kZ ?_; exact F.ret rfl)
        · rw [if_neg hx] at g2
          repeat' first | refine s1 ?_ | refine q1 ?_ | (refine kR ?_; first | refine F.a1 Int ?_) | fail
          exact ⟨out ++ [x], F.fit ⟨slE (by simp), trivial⟩ ⟨rfl, trivial⟩, ⟨by simp; omega, by rw [g2]; congr 1; simp; omega⟩, by simp; omega⟩
      | succ i =>
        rw [show (((i + 1 : Nat)) : Int) - 1 = (i : Int) by omega]
        have hC := l4Has_a out (i : Int)
        have hk0 := freeK_zero q out (i : Int)
        generalize hX : decide ((i : Int) ∈ out) = X at hC hk0
        repeat' first | refine s1 ?_ | refine q1 ?_ | (refine kR ?_; first | refine F.c (hC) ?_) | fail
        refine F.loop (σ := Nat) [7, 8, 30, 31, 32, 33, 34, 35, 36, 37, 38, 39, 40, 41, 42, 43, 44, 45, 46, 47, 48, 49, 50, 51, 52, 53, 54, 55] (fun j => [(7, .b (freeK q out (i : Int) j)), (8, .i j)]) (fun _ => []) (fun j => j ≤ q.fr.length) (fun j => q.fr.length - j) 0 ⟨by rw [hk0]; rfl, rfl, trivial⟩ trivial (Nat.zero_le _) ?_
        rintro j hj
        by_cases hjl : j < q.fr.length
        · have hC2 := l4Has_a out (q.fr.getD j default)
          have hks := freeK_succ q out (i : Int) j
          cases hfk : freeK q out (i : Int) j with
          | false =>
            rw [hfk, Bool.false_and] at hks
            repeat' first | refine s1 ?_ | refine q1 ?_ | fail
            exact ⟨j + 1, F.fit ⟨by rw [hks]; rfl, rfl, trivial⟩ trivial, by omega, by omega⟩
          | true =>
            rw [hfk, Bool.true_and] at hks
            by_cases he : q.to.getD j default = (i : Int)
            · rw [decide_eq_false (fun h => h he), Bool.false_or] at hks
              generalize decide (q.fr.getD j default ∈ out) = Y at hC2 hks
              repeat' first | refine s1 ?_ | refine q1 ?_ | (refine kR ?_; first | refine F.c (hC2) ?_) | fail
              exact ⟨j + 1, F.fit ⟨by rw [hks]; rfl, rfl, trivial⟩ trivial, by omega, by omega⟩
            · rw [decide_eq_true he, Bool.true_or] at hks
              repeat' first | refine s1 ?_ | refine q1 ?_ | fail
              exact ⟨j + 1, F.fit ⟨by rw [hks]; rfl, rfl, trivial⟩ trivial, by omega, by omega⟩
        · obtain rfl : j = q.fr.length := by omega
          have hfr : freeK q out (i : Int) q.fr.length = freeV q out (i : Int) := rfl
          rw [hfr]
          cases hfv : freeV q out (i : Int) with
          | true =>
            have hx := nextV_hit (n := n) (by omega) hfv
            repeat' first | refine s1 ?_ | refine q1 ?_ | fail
            exact ⟨i, F.fit ⟨iE hx.symm, rfl, trivial⟩ trivial, by omega, by omega⟩
          | false =>
            have hx := nextV_miss (n := n) (by omega) hfv
            repeat' first | refine s1 ?_ | refine q1 ?_ | fail
            exact ⟨i, F.fit ⟨iE hx.symm, rfl, trivial⟩ trivial, by omega, by omega⟩
    · have e0 : n - out.length = 0 := by omega
      rw [e0, ordQ] at g2
      subst g2
      repeat' first | refine s1 ?_ | refine q1 ?_ | (refine kR ?_; first | refine F.c (hQ) ?_) | fail
      (refine kZ ?_; exact F.ret rfl)
theorem implIsAcyclic_a (q : Quiv) : AC Tryz.prog 84 [.agg (enc false q)] [.b (orderQ q).2] := by
  refine AC.go Tryz.func84 Tryz.ntmps84 rfl rfl fun w0 hw => ?_; simp [WfL, WfA, E_length, Enc.enc, In64] at hw
  have hO := implOrderOf_a q
  generalize orderQ q = R at hO ⊢
  obtain ⟨l, b⟩ := R
  dsimp only at hO ⊢
  repeat' first | refine s1 ?_ | refine q1 ?_ | (refine kR ?_; first | refine F.c (hO) ?_) | fail
  (refine kZ ?_; exact F.ret rfl)
theorem specIsAcyclic_a (q : Quiv) : AC Tryz.prog 81 [.agg (enc false q)] [.b (orderQ q).2] := by
  refine AC.go Tryz.func81 Tryz.ntmps81 rfl rfl fun w0 hw => ?_; simp [WfL, WfA, E_length, Enc.enc, In64] at hw
  have hO := specOrderOf_a q
  generalize orderQ q = R at hO ⊢
  obtain ⟨l, b⟩ := R
  dsimp only at hO ⊢
  repeat' first | refine s1 ?_ | refine q1 ?_ | (refine kR ?_; first | refine F.c (hO) ?_) | fail
  (refine kZ ?_; exact F.ret rfl)
end Go.Proofs.YtedjajokbdokhaaGreat.V

/- The reduced form by rows: its rows span what the rows span, and there is only one. No program is walked. -/
namespace Go.Proofs.YtedjajokbdokhaaGreat.V
open Go.RowKit G D
set_option linter.unusedVariables false
set_option linter.unusedSimpArgs false
set_option maxHeartbeats 1000000
set_option maxRecDepth 4000

/-- congruent modulo p -/
def Cg (p x y : Int) : Prop := ∃ q, x = y + p * q
theorem Cg.refl {p : Int} (x : Int) : Cg p x x := ⟨0, by simp⟩
theorem Cg.symm {p x y : Int} : Cg p x y → Cg p y x := fun ⟨q, h⟩ => ⟨-q, by rw [h, Int.mul_neg]; omega⟩
theorem Cg.trans {p x y z : Int} : Cg p x y → Cg p y z → Cg p x z := fun ⟨q, h⟩ ⟨s, g⟩ => ⟨s + q, by rw [h, g, Int.mul_add]; omega⟩
theorem Cg.add {p x y u v : Int} : Cg p x y → Cg p u v → Cg p (x + u) (y + v) := fun ⟨q, h⟩ ⟨s, g⟩ => ⟨q + s, by rw [h, g, Int.mul_add]; omega⟩
theorem Cg.mul {p x y u v : Int} : Cg p x y → Cg p u v → Cg p (x * u) (y * v) := fun ⟨q, h⟩ ⟨s, g⟩ => ⟨y * s + q * v + p * q * s, by subst h g; grind⟩
theorem Cg.mod (p x : Int) : Cg p (x % p) x := ⟨-(x / p), by have := Int.emod_add_mul_ediv x p; rw [Int.mul_neg]; omega⟩
theorem Cg.iff {p x y : Int} : Cg p x y ↔ x % p = y % p := by
  constructor
  · rintro ⟨q, rfl⟩; exact Int.add_mul_emod_self_left y p q
  · intro h; exact (Cg.mod p x).symm.trans (by rw [h]; exact Cg.mod p y)
theorem Cg.eq {p x y : Int} (h : Cg p x y) (hx : 0 ≤ x ∧ x ≤ p - 1) (hy : 0 ≤ y ∧ y ≤ p - 1) : x = y := by
  have := Cg.iff.mp h
  rwa [Int.emod_eq_of_lt hx.1 (by omega), Int.emod_eq_of_lt hy.1 (by omega)] at this

def sumN (h : Nat → Int) : Nat → Int
  | 0 => 0
  | n + 1 => sumN h n + h n
theorem sumN_cg {p : Int} {h g : Nat → Int} : ∀ n, (∀ i, i < n → Cg p (h i) (g i)) → Cg p (sumN h n) (sumN g n)
  | 0, _ => .refl _
  | n + 1, H => (sumN_cg n fun i hi => H i (by omega)).add (H n (by omega))
theorem sumN_eq {h g : Nat → Int} : ∀ n, (∀ i, i < n → h i = g i) → sumN h n = sumN g n
  | 0, _ => rfl
  | n + 1, H => by rw [sumN, sumN, sumN_eq n fun i hi => H i (by omega), H n (by omega)]
theorem sumN_add (h g : Nat → Int) : ∀ n, sumN (fun i => h i + g i) n = sumN h n + sumN g n
  | 0 => rfl
  | n + 1 => by simp only [sumN]; rw [sumN_add h g n]; omega
theorem sumN_mul (k : Int) (h : Nat → Int) : ∀ n, sumN (fun i => k * h i) n = k * sumN h n
  | 0 => by simp [sumN]
  | n + 1 => by simp only [sumN]; rw [sumN_mul k h n, Int.mul_add]
theorem sumN_one (h : Nat → Int) (t : Nat) : ∀ n, sumN (fun i => (if i = t then 1 else 0) * h i) n = if t < n then h t else 0
  | 0 => rfl
  | n + 1 => by
    simp only [sumN]
    rw [sumN_one h t n]
    by_cases e : n = t
    · subst e; simp
    · by_cases e2 : t < n
      · simp [e, e2, show t < n + 1 by omega]
      · simp [e, e2, show ¬ t < n + 1 by omega]
theorem sumN_zero {h : Nat → Int} : ∀ n, (∀ i, i < n → h i = 0) → sumN h n = 0
  | 0, _ => rfl
  | n + 1, H => by rw [sumN, sumN_zero n fun i hi => H i (by omega), H n (by omega)]; rfl

/-- v is a combination of the rows, modulo p, on the first c places -/
def Sp (p : Int) (r c : Nat) (f : Nat → Nat → Int) (v : Nat → Int) : Prop := ∃ co : Nat → Int, ∀ j, j < c → Cg p (v j) (sumN (fun i => co i * f i j) r)
theorem Sp.row {p : Int} {r c : Nat} {f : Nat → Nat → Int} {i : Nat} (hi : i < r) : Sp p r c f (f i) := ⟨fun t => if t = i then 1 else 0, fun j _ => by
  have h := sumN_one (fun t => f t j) i r
  rw [if_pos hi] at h
  show Cg p (f i j) (sumN (fun t => (if t = i then 1 else 0) * f t j) r)
  rw [h]; exact .refl _⟩
theorem Sp.zero {p : Int} {r c : Nat} {f : Nat → Nat → Int} : Sp p r c f fun _ => 0 := ⟨fun _ => 0, fun j _ => by rw [sumN_zero r fun i _ => Int.zero_mul _]; exact .refl _⟩
theorem Sp.add {p : Int} {r c : Nat} {f : Nat → Nat → Int} {u v : Nat → Int} : Sp p r c f u → Sp p r c f v → Sp p r c f fun j => u j + v j := fun ⟨x, h⟩ ⟨y, g⟩ => ⟨fun i => x i + y i, fun j hj => by
  rw [sumN_eq (g := fun i => x i * f i j + y i * f i j) r fun i _ => Int.add_mul .., sumN_add]
  exact (h j hj).add (g j hj)⟩
theorem Sp.smul {p : Int} {r c : Nat} {f : Nat → Nat → Int} {v : Nat → Int} (k : Int) : Sp p r c f v → Sp p r c f fun j => k * v j := fun ⟨y, g⟩ => ⟨fun i => k * y i, fun j hj => by
  rw [sumN_eq (g := fun i => k * (y i * f i j)) r fun i _ => Int.mul_assoc .., sumN_mul]
  exact (Cg.refl k).mul (g j hj)⟩
theorem Sp.cg {p : Int} {r c : Nat} {f : Nat → Nat → Int} {v w : Nat → Int} (h : Sp p r c f v) (e : ∀ j, j < c → Cg p (w j) (v j)) : Sp p r c f w := by
  obtain ⟨y, g⟩ := h
  exact ⟨y, fun j hj => (e j hj).trans (g j hj)⟩
theorem Sp.comb {p : Int} {r c : Nat} {f g : Nat → Nat → Int} {co : Nat → Int} : ∀ n, (∀ i, i < n → Sp p r c g (f i)) → Sp p r c g fun j => sumN (fun i => co i * f i j) n
  | 0, _ => Sp.zero
  | n + 1, h => (Sp.comb n fun i hi => h i (by omega)).add ((h n (by omega)).smul (co n))
theorem Sp.sub {p : Int} {r s c : Nat} {f g : Nat → Nat → Int} {v : Nat → Int} (h : Sp p r c f v) (hs : ∀ i, i < r → Sp p s c g (f i)) : Sp p s c g v := by
  obtain ⟨y, e⟩ := h
  exact (Sp.comb (co := y) r hs).cg e
/-- both tables span the same -/
def SS (p : Int) (r s c : Nat) (f g : Nat → Nat → Int) : Prop := (∀ i, i < r → Sp p s c g (f i)) ∧ (∀ i, i < s → Sp p r c f (g i))
theorem SS.refl {p : Int} {r c : Nat} {f : Nat → Nat → Int} : SS p r r c f f := ⟨fun i hi => Sp.row hi, fun i hi => Sp.row hi⟩
theorem SS.symm {p : Int} {r s c : Nat} {f g : Nat → Nat → Int} (h : SS p r s c f g) : SS p s r c g f := ⟨h.2, h.1⟩
theorem SS.trans {p : Int} {r s t c : Nat} {f g h : Nat → Nat → Int} (a : SS p r s c f g) (b : SS p s t c g h) : SS p r t c f h :=
  ⟨fun i hi => (a.1 i hi).sub b.1, fun i hi => (b.2 i hi).sub a.2⟩
theorem SS.iff {p : Int} {r s c : Nat} {f g : Nat → Nat → Int} (h : SS p r s c f g) (v : Nat → Int) : Sp p r c f v ↔ Sp p s c g v := ⟨fun x => x.sub h.1, fun x => x.sub h.2⟩

theorem ss_swap {p : Int} {r c : Nat} {f : Nat → Nat → Int} {t a : Nat} (ht : t < r) (ha : a < r) : SS p r r c f (swapF f t a) := by
  have et : swapF f t a t = f a := by funext j; simp [swapF]
  have ea : swapF f t a a = f t := by funext j; by_cases h : a = t <;> simp [swapF, h]
  have eo : ∀ i, i ≠ t → i ≠ a → swapF f t a i = f i := fun i h1 h2 => by funext j; simp [swapF, h1, h2]
  constructor
  · intro i hi
    by_cases h1 : i = t
    · subst h1; rw [← ea]; exact Sp.row ha
    · by_cases h2 : i = a
      · subst h2; rw [← et]; exact Sp.row ht
      · rw [← eo i h1 h2]; exact Sp.row hi
  · intro i hi
    by_cases h1 : i = t
    · subst h1; rw [et]; exact Sp.row ha
    · by_cases h2 : i = a
      · subst h2; rw [ea]; exact Sp.row ht
      · rw [eo i h1 h2]; exact Sp.row hi
theorem ss_scale {p : Int} {r c : Nat} {f : Nat → Nat → Int} {t : Nat} {s s' : Int} (ht : t < r) (hs : Cg p (s * s') 1) : SS p r r c f (scaleF p f t s) := by
  have et : ∀ j, Cg p (scaleF p f t s t j) (s * f t j) := fun j => by
    have : scaleF p f t s t j = f t j * s % p := by simp [scaleF]
    rw [this, Int.mul_comm]; exact .mod ..
  have eo : ∀ i, i ≠ t → scaleF p f t s i = f i := fun i h1 => by funext j; simp [scaleF, h1]
  constructor
  · intro i hi
    by_cases h1 : i = t
    · subst h1
      refine ((Sp.row hi).smul s').cg fun j _ => ?_
      have h := (Cg.refl s').mul (et j)
      have h2 := hs.mul (Cg.refl (f i j))
      rw [Int.one_mul] at h2
      refine h2.symm.trans (Cg.trans ?_ h.symm)
      rw [← Int.mul_assoc, Int.mul_comm s' s]; exact .refl _
    · rw [← eo i h1]; exact Sp.row hi
  · intro i hi
    by_cases h1 : i = t
    · subst h1
      exact ((Sp.row hi).smul s).cg fun j _ => et j
    · rw [eo i h1]; exact Sp.row hi
theorem ss_clear {p : Int} {r c : Nat} {f : Nat → Nat → Int} {t k : Nat} (ht : t < r) : SS p r r c f (clearF p f t k) := by
  have et : clearF p f t k t = f t := by funext j; simp [clearF]
  have eo : ∀ i, i ≠ t → ∀ j, Cg p (clearF p f t k i j) (f i j + (p - f i k) * f t j) := fun i h1 j => by
    have : clearF p f t k i j = (f i j + (p - f i k) * f t j) % p := by simp [clearF, h1]
    rw [this]; exact .mod ..
  constructor
  · intro i hi
    by_cases h1 : i = t
    · subst h1; rw [← et]; exact Sp.row hi
    · refine ((Sp.row hi).add ((Sp.row ht).smul (f i k))).cg fun j _ => ?_
      rw [et]
      refine Cg.symm (((eo i h1 j).add (.refl _)).trans ⟨f t j, ?_⟩)
      grind
  · intro i hi
    by_cases h1 : i = t
    · subst h1; rw [et]; exact Sp.row hi
    · exact ((Sp.row hi).add ((Sp.row ht).smul (p - f i k))).cg fun j _ => eo i h1 j

theorem invP_mul {p x : Int} (h : isF p = true) (hx : 0 ≤ x ∧ x ≤ p - 1) (h0 : x ≠ 0) : x * invP p x % p = 1 := by
  rcases isF_spec.mp h with rfl | rfl | rfl
  · have : x = 1 := by omega
    subst this; decide
  · have : x = 1 ∨ x = 2 := by omega
    rcases this with rfl | rfl <;> decide
  · have : x = 1 ∨ x = 2 ∨ x = 3 ∨ x = 4 := by omega
    rcases this with rfl | rfl | rfl | rfl <;> decide

/-- a reduced form of r rows, of which the columns before k are done -/
structure Ech (r k : Nat) (g : Nat → Nat → Int) (piv : List Nat) : Prop where
  le : piv.length ≤ r
  lt : ∀ i, i < piv.length → piv.getD i 0 < k
  inc : ∀ i j, i < j → j < piv.length → piv.getD i 0 < piv.getD j 0
  one : ∀ i, i < piv.length → ∀ j, j < piv.length → g i (piv.getD j 0) = if i = j then 1 else 0
  low : ∀ i, piv.length ≤ i → i < r → ∀ j, j < k → g i j = 0
  lead : ∀ i, i < piv.length → ∀ j, j < piv.getD i 0 → g i j = 0
theorem snoc_lt {l : List Nat} {k i : Nat} (h : i < l.length) : (l ++ [k]).getD i 0 = l.getD i 0 := by
  simp [List.getElem?_append_left h]
theorem snoc_at (l : List Nat) (k : Nat) : (l ++ [k]).getD l.length 0 = k := by simp
theorem step_ech {p : Int} {r c k : Nat} {g : Nat → Nat → Int} {piv : List Nat} (hF : isF p = true) (hb : BdF p r c g) (hk : k < c) (h : Ech r k g piv) :
    Ech r (k + 1) (stepE p r (g, piv) k).1 (stepE p r (g, piv) k).2 ∧ SS p r r c g (stepE p r (g, piv) k).1 := by
  have hp := isF_pos hF
  have hle := h.le
  unfold stepE
  dsimp only
  have hbd := findR_bd g k (r - piv.length) piv.length
  by_cases hn : findR g k (r - piv.length) piv.length = r
  · rw [if_pos hn]
    show Ech r (k + 1) g piv ∧ SS p r r c g g
    refine ⟨⟨hle, fun i hi => by have := h.lt i hi; omega, h.inc, h.one, fun i h1 h2 j hj => ?_, h.lead⟩, .refl⟩
    by_cases e : j = k
    · subst e; exact findR_z h1 (by rw [hn]; exact h2)
    · exact h.low i h1 h2 j (by omega)
  · rw [if_neg hn]
    have hne := findR_ne (f := g) (k := k) (n := r - piv.length) (a := piv.length) (by omega)
    generalize findR g k (r - piv.length) piv.length = a at hn hbd hne ⊢
    have ht : piv.length < r := by omega
    have ha : a < r := by omega
    have w1 : ∀ i, piv.length ≤ i → i < r → ∀ j, j < k → swapF g piv.length a i j = 0 := fun i h1 h2 j hj => by
      unfold swapF
      split
      · exact h.low a hbd.1 ha j hj
      · split
        · exact h.low _ (Nat.le_refl _) ht j hj
        · exact h.low i h1 h2 j hj
    have w2 : ∀ i, i < piv.length → ∀ j, swapF g piv.length a i j = g i j := fun i hi j => by simp [swapF, show i ≠ piv.length by omega, show i ≠ a by omega]
    have w3 : swapF g piv.length a piv.length k = g a k := by simp [swapF]
    have wb := hb.swap ht ha
    have s1 := ss_swap (p := p) (c := c) (f := g) ht ha
    generalize swapF g piv.length a = g1 at w1 w2 w3 wb s1 ⊢
    have hx := wb _ ht k hk
    have hm := invP_mul hF hx (by rw [w3]; exact hne)
    generalize invP p (g1 piv.length k) = s at hm ⊢
    have v0 : ∀ j, scaleF p g1 piv.length s piv.length j = g1 piv.length j * s % p := fun j => by simp [scaleF]
    have v1 : ∀ j, j < k → scaleF p g1 piv.length s piv.length j = 0 := fun j hj => by rw [v0, w1 _ (Nat.le_refl _) ht j hj]; simp
    have v2 : ∀ i, i ≠ piv.length → ∀ j, scaleF p g1 piv.length s i j = g1 i j := fun i hi j => by simp [scaleF, hi]
    have v3 : scaleF p g1 piv.length s piv.length k = 1 := by rw [v0]; exact hm
    have s2 := ss_scale (p := p) (c := c) (f := g1) (t := piv.length) (s := s) (s' := g1 piv.length k) ht (Cg.iff.mpr (by rw [Int.mul_comm, hm]; exact (Int.emod_eq_of_lt (by omega) (by omega)).symm))
    have vb := wb.scale (t := piv.length) (s := s) (show 0 < p by omega)
    generalize scaleF p g1 piv.length s = g2 at v1 v2 v3 s2 vb ⊢
    have u0 : ∀ j, clearF p g2 piv.length k piv.length j = g2 piv.length j := fun j => by simp [clearF]
    have u1 : ∀ i, i ≠ piv.length → ∀ j, clearF p g2 piv.length k i j = (g2 i j + (p - g2 i k) * g2 piv.length j) % p := fun i hi j => by simp [clearF, hi]
    have u2 : ∀ i, i < r → i ≠ piv.length → ∀ j, j < k → clearF p g2 piv.length k i j = g2 i j := fun i hr hi j hj => by
      have := vb i hr j (by omega)
      rw [u1 i hi, v1 j hj, Int.mul_zero, Int.add_zero]
      exact Int.emod_eq_of_lt this.1 (by omega)
    have u3 : ∀ i, i ≠ piv.length → clearF p g2 piv.length k i k = 0 := fun i hi => by
      rw [u1 i hi, v3, Int.mul_one, show g2 i k + (p - g2 i k) = p by omega, Int.emod_self]
    have s3 := ss_clear (p := p) (r := r) (c := c) (f := g2) (t := piv.length) (k := k) ht
    generalize clearF p g2 piv.length k = g3 at u0 u2 u3 s3 ⊢
    show Ech r (k + 1) g3 (piv ++ [k]) ∧ SS p r r c g g3
    refine ⟨⟨by simp; omega, ?_, ?_, ?_, ?_, ?_⟩, (s1.trans s2).trans s3⟩
    · intro i hi
      by_cases e : i < piv.length
      · rw [snoc_lt e]; have := h.lt i e; omega
      · have : i = piv.length := by simp at hi; omega
        subst this; rw [snoc_at]; omega
    · intro i j hij hj
      rw [snoc_lt (show i < piv.length by simp at hj; omega)]
      by_cases e : j < piv.length
      · rw [snoc_lt e]; exact h.inc i j hij e
      · have : j = piv.length := by simp at hj; omega
        subst this; rw [snoc_at]; exact h.lt i hij
    · intro i hi j hj
      simp only [List.length_append, List.length_cons, List.length_nil] at hi hj
      by_cases ej : j < piv.length
      · rw [snoc_lt ej]
        have hjk := h.lt j ej
        by_cases ei : i < piv.length
        · rw [u2 i (by omega) (by omega) _ hjk, v2 i (by omega), w2 i ei, h.one i ei j ej]
        · have : i = piv.length := by omega
          subst this
          rw [u0, v1 _ hjk, if_neg (by omega)]
      · have : j = piv.length := by omega
        subst this
        rw [snoc_at]
        by_cases ei : i < piv.length
        · rw [u3 i (by omega), if_neg (by omega)]
        · have : i = piv.length := by omega
          subst this
          rw [u0, v3, if_pos rfl]
    · intro i h1 h2 j hj
      simp only [List.length_append, List.length_cons, List.length_nil] at h1
      by_cases e : j = k
      · subst e; exact u3 i (by omega)
      · rw [u2 i h2 (by omega) j (by omega), v2 i (by omega), w1 i (by omega) h2 j (by omega)]
    · intro i hi j hj
      by_cases ei : i < piv.length
      · rw [snoc_lt ei] at hj
        have := h.lt i ei
        rw [u2 i (by omega) (by omega) j (by omega), v2 i (by omega), w2 i ei]
        exact h.lead i ei j hj
      · have : i = piv.length := by simp at hi; omega
        subst this
        rw [snoc_at] at hj
        rw [u0]; exact v1 j hj
theorem redK_ech {p : Int} {r c : Nat} {f : Nat → Nat → Int} (hF : isF p = true) (hb : BdF p r c f) : ∀ k, k ≤ c → Ech r k (redK p r f k).1 (redK p r f k).2 ∧ SS p r r c f (redK p r f k).1
  | 0, _ => ⟨⟨by simp [redK], by simp [redK], by simp [redK], by simp [redK], fun i _ _ j hj => absurd hj (by omega), by simp [redK]⟩, .refl⟩
  | k + 1, hk => by
    obtain ⟨h1, h2⟩ := redK_ech hF hb k (by omega)
    have h3 := (redK_bd (by have := isF_pos hF; omega) hb k).1
    have h4 := step_ech hF h3 (by omega) h1
    exact ⟨h4.1, h2.trans h4.2⟩

/-- a combination of the rows is told by its numbers at the leading ones -/
theorem Ech.comb {p : Int} {r c : Nat} {g : Nat → Nat → Int} {piv : List Nat} (h : Ech r c g piv) {v : Nat → Int} (hv : Sp p r c g v) : ∀ j, j < c → Cg p (v j) (sumN (fun i => v (piv.getD i 0) * g i j) piv.length) := by
  obtain ⟨co, e⟩ := hv
  have cut : ∀ j, j < c → ∀ n, piv.length + n ≤ r → sumN (fun i => co i * g i j) (piv.length + n) = sumN (fun i => co i * g i j) piv.length := fun j hj n => by
    induction n with
    | zero => intro _; rfl
    | succ n ih => intro hn; rw [← Nat.add_assoc, sumN, ih (by omega), h.low _ (by omega) (by omega) j hj]; simp
  have e2 : ∀ j, j < c → Cg p (v j) (sumN (fun i => co i * g i j) piv.length) := fun j hj => by
    have := cut j hj (r - piv.length) (by have := h.le; omega)
    rw [show piv.length + (r - piv.length) = r by have := h.le; omega] at this
    rw [← this]; exact e j hj
  have e3 : ∀ i, i < piv.length → Cg p (v (piv.getD i 0)) (co i) := fun i hi => by
    have h1 := e2 _ (h.lt i hi)
    have h2 : sumN (fun t => co t * g t (piv.getD i 0)) piv.length = co i := by
      rw [sumN_eq (g := fun t => (if t = i then 1 else 0) * co t) _ fun t ht => by rw [h.one t ht i hi, Int.mul_comm], sumN_one, if_pos hi]
    rwa [h2] at h1
  intro j hj
  exact (e2 j hj).trans (sumN_cg _ fun i hi => ((e3 i hi).symm).mul (.refl _))
theorem Ech.zero {p : Int} {r c : Nat} {g : Nat → Nat → Int} {piv : List Nat} (h : Ech r c g piv) {v : Nat → Int} (hv : Sp p r c g v) (h0 : ∀ i, i < piv.length → Cg p (v (piv.getD i 0)) 0) : ∀ j, j < c → Cg p (v j) 0 := fun j hj => by
  have h1 := h.comb hv j hj
  have h2 := sumN_cg (p := p) (h := fun i => v (piv.getD i 0) * g i j) (g := fun _ => 0) piv.length fun i hi => by
    have := (h0 i hi).mul (Cg.refl (g i j)); rwa [Int.zero_mul] at this
  rw [sumN_zero (h := fun _ => 0) piv.length fun _ _ => rfl] at h2
  exact h1.trans h2
/-- a column has a leading one if and only if there is a combination that begins there -/
theorem Ech.mem {p : Int} {r c : Nat} {g : Nat → Nat → Int} {piv : List Nat} (hp : 2 ≤ p) (h : Ech r c g piv) {k : Nat} (hk : k < c) : k ∈ piv ↔ ∃ v, Sp p r c g v ∧ (∀ j, j < k → Cg p (v j) 0) ∧ ¬ Cg p (v k) 0 := by
  constructor
  · intro hm
    obtain ⟨i, hi, e⟩ := List.getElem_of_mem hm
    have e' : piv.getD i 0 = k := by simp [hi, e]
    refine ⟨g i, Sp.row (by have := h.le; omega), fun j hj => by rw [h.lead i hi j (by omega)]; exact .refl _, fun h0 => ?_⟩
    have h1 := h.one i hi i hi
    rw [if_pos rfl, e'] at h1
    rw [h1] at h0
    have := h0.eq ⟨by omega, by omega⟩ ⟨by omega, by omega⟩
    omega
  · rintro ⟨v, hv, h0, hne⟩
    refine Classical.byContradiction fun hm => hne ?_
    have h1 := h.comb hv k hk
    refine h1.trans ?_
    have h2 := sumN_cg (p := p) (h := fun i => v (piv.getD i 0) * g i k) (g := fun _ => 0) piv.length fun i hi => by
      have hmm : piv.getD i 0 ≠ k := fun e => hm (by rw [← e]; simp [hi])
      rcases Nat.lt_or_gt_of_ne hmm with hl | hl
      · have := (h0 _ hl).mul (Cg.refl (g i k)); rwa [Int.zero_mul] at this
      · rw [h.lead i hi k hl, Int.mul_zero]; exact .refl _
    rw [sumN_zero (h := fun _ => 0) piv.length fun _ _ => rfl] at h2
    exact h2
/-- rising lists with the same members are the same -/
theorem inc_ext : ∀ {a b : List Nat}, a.Pairwise (· < ·) → b.Pairwise (· < ·) → (∀ x, x ∈ a ↔ x ∈ b) → a = b
  | [], [], _, _, _ => rfl
  | [], y :: b, _, _, h => absurd ((h y).mpr (by simp)) (by simp)
  | x :: a, [], _, _, h => absurd ((h x).mp (by simp)) (by simp)
  | x :: a, y :: b, h1, h2, h => by
    rw [List.pairwise_cons] at h1 h2
    have e : x = y := by
      have hx := (h x).mp (by simp)
      have hy := (h y).mpr (by simp)
      rw [List.mem_cons] at hx hy
      rcases hx with hx | hx
      · exact hx
      · rcases hy with hy | hy
        · exact hy.symm
        · have := h1.1 y hy; have := h2.1 x hx; omega
    subst e
    rw [inc_ext h1.2 h2.2 fun z => ?_]
    constructor
    · intro hz
      have := (h z).mp (by simp [hz])
      rw [List.mem_cons] at this
      rcases this with rfl | h3
      · exact absurd (h1.1 z hz) (by omega)
      · exact h3
    · intro hz
      have := (h z).mpr (by simp [hz])
      rw [List.mem_cons] at this
      rcases this with rfl | h3
      · exact absurd (h2.1 z hz) (by omega)
      · exact h3
theorem Ech.pw {r c : Nat} {g : Nat → Nat → Int} {piv : List Nat} (h : Ech r c g piv) : piv.Pairwise (· < ·) := by
  rw [List.pairwise_iff_getElem]
  intro i j hi hj hij
  have := h.inc i j hij hj
  simpa [hi, hj] using this
theorem Ech.uniq {p : Int} {r s c : Nat} {g g' : Nat → Nat → Int} {piv piv' : List Nat} (hp : 2 ≤ p) (h : Ech r c g piv) (h' : Ech s c g' piv') (hb : BdF p r c g) (hb' : BdF p s c g') (hs : SS p r s c g g') :
    piv = piv' ∧ ∀ i, i < piv.length → ∀ j, j < c → g i j = g' i j := by
  have e : piv = piv' := inc_ext h.pw h'.pw fun k => by
    by_cases hk : k < c
    · rw [h.mem hp hk, h'.mem hp hk]
      constructor
      · rintro ⟨v, h1, h2⟩; exact ⟨v, (hs.iff v).mp h1, h2⟩
      · rintro ⟨v, h1, h2⟩; exact ⟨v, (hs.iff v).mpr h1, h2⟩
    · constructor
      · intro hm
        obtain ⟨i, hi, e⟩ := List.getElem_of_mem hm
        have := h.lt i hi; simp [hi] at this; omega
      · intro hm
        obtain ⟨i, hi, e⟩ := List.getElem_of_mem hm
        have := h'.lt i hi; simp [hi] at this; omega
  subst e
  refine ⟨rfl, fun i hi j hj => ?_⟩
  have hr := h.le
  have hs' := h'.le
  have h1 : Sp p r c g fun j => g i j + (-1) * g' i j := (Sp.row (by omega)).add (((hs.iff _).mpr (Sp.row (by omega))).smul (-1))
  have h2 := h.zero h1 (fun t ht => by
    show Cg p (g i _ + (-1) * g' i _) 0
    rw [h.one i hi t ht, h'.one i hi t ht]
    split <;> exact ⟨0, by omega⟩) j hj
  have h3 : Cg p (g i j) (g' i j) := by
    have := h2.add (Cg.refl (g' i j))
    rwa [Int.zero_add, show g i j + -1 * g' i j + g' i j = g i j by omega] at this
  exact h3.eq (hb i (by omega) j hj) (hb' i (by omega) j hj)
/-- the reduced forms of tables that span the same are the same -/
theorem redK_uniq {p : Int} {r s c : Nat} {f f' : Nat → Nat → Int} (hF : isF p = true) (hb : BdF p r c f) (hb' : BdF p s c f') (hs : SS p r s c f f') :
    (redK p r f c).2 = (redK p s f' c).2 ∧ ∀ i, i < (redK p r f c).2.length → ∀ j, j < c → (redK p r f c).1 i j = (redK p s f' c).1 i j := by
  have hp := isF_pos hF
  obtain ⟨h1, h2⟩ := redK_ech hF hb c (Nat.le_refl _)
  obtain ⟨g1, g2⟩ := redK_ech hF hb' c (Nat.le_refl _)
  exact Ech.uniq (by omega) h1 g1 (redK_bd (by omega) hb c).1 (redK_bd (by omega) hb' c).1 ((h2.symm.trans hs).trans g2)
end Go.Proofs.YtedjajokbdokhaaGreat.V

/- Columns without a leading one, kernels, solutions of systems. No program is walked. -/
namespace Go.Proofs.YtedjajokbdokhaaGreat.V
open Go.RowKit G D
set_option linter.unusedVariables false
set_option linter.unusedSimpArgs false
set_option maxHeartbeats 1000000
set_option maxRecDepth 4000

theorem ints_mem (l : List Nat) (k : Nat) : ((k : Int) ∈ ints l) ↔ k ∈ l := by
  simp only [ints, List.mem_map]
  constructor
  · rintro ⟨x, hx, h⟩
    have : x = k := by omega
    subst this; exact hx
  · intro h; exact ⟨k, h, rfl⟩
/-- the columns without a leading one -/
def freeL (c : Nat) (piv : List Nat) : List Nat := (List.range c).filter fun k => decide (k ∉ piv)
theorem pw_filter (c : Nat) (q : Nat → Bool) : ((List.range c).filter q).Pairwise (· < ·) := List.Pairwise.filter _ List.pairwise_lt_range
theorem piv_filter {c : Nat} {piv : List Nat} (h : piv.Pairwise (· < ·)) (hl : ∀ x ∈ piv, x < c) : (List.range c).filter (fun k => decide (k ∈ piv)) = piv :=
  inc_ext (pw_filter c _) h fun x => by simp; exact hl x
theorem freeL_len {c : Nat} {piv : List Nat} (h : piv.Pairwise (· < ·)) (hl : ∀ x ∈ piv, x < c) : (freeL c piv).length + piv.length = c := by
  have h1 := List.length_eq_countP_add_countP (fun k => decide (k ∈ piv)) (l := List.range c)
  rw [List.countP_eq_length_filter, List.countP_eq_length_filter, piv_filter h hl, List.length_range] at h1
  have e : freeL c piv = (List.range c).filter (fun k => decide ¬decide (k ∈ piv) = true) := by
    unfold freeL; congr 1; funext k; simp
  rw [e]; omega
theorem freeL_succ (c : Nat) (piv : List Nat) : freeL (c + 1) piv = if c ∈ piv then freeL c piv else freeL c piv ++ [c] := by
  unfold freeL
  rw [List.range_succ, List.filter_append]
  by_cases h : c ∈ piv <;> simp [h]
theorem freeL_lt {c : Nat} {piv : List Nat} : ∀ k ∈ freeL c piv, k < c ∧ k ∉ piv := fun k hk => by
  simpa [freeL] using hk
theorem freeL_le (c : Nat) (piv : List Nat) : (freeL c piv).length ≤ c := by
  have := List.length_filter_le (fun k => decide (k ∉ piv)) (List.range c)
  rw [List.length_range] at this
  exact this
/-- the vector of the kernel at a column without a leading one, when n leading ones are done -/
def kerV (p : Int) (c : Nat) (g : Nat → Nat → Int) (piv : List Nat) (k : Nat) : Nat → List Int
  | 0 => unitL c k
  | n + 1 => (kerV p c g piv k n).set (piv.getD n 0) (-(g n k) % p)
theorem kerV_len (p : Int) (c : Nat) (g : Nat → Nat → Int) (piv : List Nat) (k : Nat) : ∀ n, (kerV p c g piv k n).length = c
  | 0 => unitL_len c k
  | n + 1 => by rw [kerV, List.length_set, kerV_len p c g piv k n]
theorem neg_mod (p x : Int) : (p - x) % p = -x % p := by
  rw [show p - x = -x + p * 1 by omega, Int.add_mul_emod_self_left]
def kerL (p : Int) (r c : Nat) (f : Nat → Nat → Int) : List (List Int) := (freeL c (redK p r f c).2).map fun k => kerV p c (redK p r f c).1 (redK p r f c).2 k (redK p r f c).2.length
/-- the equations with a column beside -/
def augF (c : Nat) (f : Nat → Nat → Int) (v : List Int) : Nat → Nat → Int := fun i j => if j < c then f i j else v.getD i default
def solV (c : Nat) (g : Nat → Nat → Int) (piv : List Nat) : Nat → List Int
  | 0 => List.replicate c 0
  | n + 1 => (solV c g piv n).set (piv.getD n 0) (g n c)
theorem solV_len (c : Nat) (g : Nat → Nat → Int) (piv : List Nat) : ∀ n, (solV c g piv n).length = c
  | 0 => by simp [solV]
  | n + 1 => by rw [solV, List.length_set, solV_len c g piv n]
def solL (p : Int) (r c : Nat) (f : Nat → Nat → Int) (v : List Int) : List Int × Bool := if c ∈ (redK p r (augF c f v) (c + 1)).2 then ([], false) else (solV c (redK p r (augF c f v) (c + 1)).1 (redK p r (augF c f v) (c + 1)).2 (redK p r (augF c f v) (c + 1)).2.length, true)
theorem redK_pw {p : Int} {r c : Nat} {f : Nat → Nat → Int} (hF : isF p = true) (hb : BdF p r c f) : (redK p r f c).2.Pairwise (· < ·) := (redK_ech hF hb c (Nat.le_refl _)).1.pw
/-- the number of vectors of the kernel -/
theorem kerL_len {p : Int} {r c : Nat} {f : Nat → Nat → Int} (hF : isF p = true) (hb : BdF p r c f) : (kerL p r c f).length + (redK p r f c).2.length = c := by
  have h := redK_bd (by have := isF_pos hF; omega) hb c
  rw [kerL, List.length_map]
  exact freeL_len (redK_pw hF hb) h.2.2.2
end Go.Proofs.YtedjajokbdokhaaGreat.V

/- Contracts: the program's lists of cells, matrices from columns, and the matrix of the coboundaries. -/
namespace Go.Proofs.YtedjajokbdokhaaGreat.V
open V.Enc (enc)
open Go.RowKit G D
set_option linter.unusedVariables false
set_option linter.unusedSimpArgs false
set_option maxHeartbeats 4000000
set_option maxRecDepth 4000
attribute [local irreducible] AW ARg ARA ARet MRet ASil AC AM

/-- matrices of zeros by the vertices -/
def zerL (a b : Rep) : List Mat := (List.range a.d.length).map fun v => zeroM (b.d.getD v default) (a.d.getD v default)
theorem zerL_len (a b : Rep) : (zerL a b).length = a.d.length := by simp [zerL]
theorem zerL_take {a b : Rep} {k : Nat} (h : k < a.d.length) : (zerL a b).take (k + 1) = (zerL a b).take k ++ [zeroM (b.d.getD k default) (a.d.getD k default)] := by
  simp only [zerL, ← List.map_take, range_take h, List.map_append, List.map_cons, List.map_nil]
/-- cells cut into matrices of the sizes of others -/
def shpL : List Mat → List Int → List Mat
  | [], _ => []
  | m :: l, x => ⟨m.r, m.c, x.take m.m.length⟩ :: shpL l (x.drop m.m.length)
theorem shpL_len : ∀ (l : List Mat) (x : List Int), (shpL l x).length = l.length
  | [], _ => rfl
  | m :: l, x => by simp [shpL, shpL_len l]
theorem shpL_snoc (m : Mat) : ∀ (l : List Mat) (x : List Int), shpL (l ++ [m]) x = shpL l x ++ [⟨m.r, m.c, (x.drop (catM l).length).take m.m.length⟩]
  | [], x => by simp [shpL, catM]
  | n :: l, x => by
    have e : catM (n :: l) = n.m ++ catM l := by simp [catM]
    simp only [List.cons_append, shpL]
    rw [shpL_snoc m l, e, List.length_append, List.drop_drop]
theorem shpL_take (l : List Mat) (x : List Int) {k : Nat} (h : k < l.length) : shpL (l.take (k + 1)) x = shpL (l.take k) x ++ [⟨(l.getD k default).r, (l.getD k default).c, (x.drop (catM (l.take k)).length).take (l.getD k default).m.length⟩] := by
  rw [← shpL_snoc, List.take_add_one]
  congr 2
  simp [h]
/-! ### matrices from columns -/
/-- the columns before k are set, and of column k the first n numbers -/
def fcK (cs : List (List Int)) (k n : Nat) : Nat → Nat → Int := fun i j => if j < k ∨ (j = k ∧ i < n) then (cs.getD j default).getD i default else 0
def fcF (cs : List (List Int)) : Nat → Nat → Int := fun i j => (cs.getD j default).getD i default
theorem fcK_zero (cs : List (List Int)) : fcK cs 0 0 = fun _ _ => 0 := by funext i j; simp [fcK]
theorem fcK_set (cs : List (List Int)) (k n : Nat) : updF (fcK cs k n) n k ((cs.getD k default).getD n default) = fcK cs k (n + 1) := by
  funext i j
  simp only [fcK, updF]
  by_cases h1 : j = k
  · subst h1
    by_cases h2 : i = n
    · subst h2; simp
    · have : i < n + 1 ↔ i < n := by omega
      simp [h2, this]
  · simp [h1]
theorem fcK_next (cs : List (List Int)) (k r c : Nat) : tab r c (fcK cs k r) = tab r c (fcK cs (k + 1) 0) := tab_ext fun i hi j hj => by
  have e : (j < k ∨ j = k ∧ i < r) ↔ (j < k + 1 ∨ j = k + 1 ∧ i < 0) := by omega
  simp only [fcK, e]
theorem fcK_all (cs : List (List Int)) (r : Nat) : tab r cs.length (fcK cs cs.length 0) = tab r cs.length (fcF cs) := tab_ext fun i hi j hj => by simp [fcK, fcF, hj]
theorem fromColumns_a (r : Nat) (cs : List (List Int)) (hr : r ≤ 1024) (hc : cs.length ≤ 1024) (hl : ∀ k, k < cs.length → (cs.getD k default).length = r) : AC Tryz.prog 130 [.i (r : Int), ar false cs] [.agg (enc true (tm r cs.length (fcF cs)))] := by
  refine AC.go Tryz.func130 Tryz.ntmps130 rfl rfl fun w0 hw => ?_; simp [WfL, WfA, E_length, Enc.enc, In64] at hw
  have hZ := zeroT_a r cs.length hr hc
  repeat' first | refine s1 ?_ | refine q1 ?_ | (refine kR ?_; first | refine F.c (hZ) ?_) | fail
  refine F.loop (σ := Nat) [6, 7, 8, 9, 16, 17, 18, 19, 20, 21, 22, 23, 24, 25, 26, 27, 28, 29, 30, 31, 32, 33, 34, 35, 36, 37, 38, 39] (fun k => [(16, .i k)]) (fun k => [(1, .live false 1 (E true (tab r cs.length (fcK cs k 0))))]) (fun k => k ≤ cs.length) (fun k => cs.length - k) 0 ⟨rfl, trivial⟩ ⟨obE (by rw [fcK_zero]), trivial⟩ (Nat.zero_le _) ?_
  rintro k k1
  by_cases hk : k < cs.length
  · have hlk : (cs.getD (0 + k) default).length = r := by rw [Nat.zero_add]; exact hl k hk
    have hlk' := hl k hk
    repeat' first | refine s1 ?_ | refine q1 ?_ | fail
    refine F.loop (σ := Nat) [8, 9, 23, 24, 25, 26, 27, 28, 29, 30, 31, 32, 33, 34, 35, 36, 37, 38] (fun i => [(23, .i i)]) (fun i => [(1, .live false 1 (E true (tab r cs.length (fcK cs k i))))]) (fun i => i ≤ r) (fun i => r - i) 0 ⟨rfl, trivial⟩ ⟨rfl, trivial⟩ (Nat.zero_le _) ?_
    rintro i i1
    by_cases hi : i < r
    · obtain ⟨t1, t2⟩ := tab_in (i := i) (j := k) (r := r) (c := cs.length) hi hk hr hc
      repeat' first | refine s1 ?_ | refine q1 ?_ | fail
      exact ⟨i + 1, F.fit ⟨rfl, trivial⟩ ⟨obE (by rw [← fcK_set]), trivial⟩, by omega, by omega⟩
    · obtain rfl : i = r := by omega
      repeat' first | refine s1 ?_ | refine q1 ?_ | fail
      exact ⟨k + 1, F.fit ⟨rfl, trivial⟩ ⟨obE (by rw [fcK_next]), trivial⟩, by omega, by omega⟩
  · obtain rfl : k = cs.length := by omega
    rw [fcK_all]
    repeat' first | refine s1 ?_ | refine q1 ?_ | fail
    (refine kZ ?_; exact F.ret rfl)
end Go.Proofs.YtedjajokbdokhaaGreat.V

/- Contracts: rows, transposes, columns without a leading one. -/
namespace Go.Proofs.YtedjajokbdokhaaGreat.V
open V.Enc (enc)
open Go.RowKit G D
set_option linter.unusedVariables false
set_option linter.unusedSimpArgs false
set_option maxHeartbeats 4000000
set_option maxRecDepth 4000
attribute [local irreducible] AW ARg ARA ARet MRet ASil AC AM

def rowsL (r c : Nat) (f : Nat → Nat → Int) : List (List Int) := (List.range r).map fun i => rowL c (f i)
theorem rowsL_len (r c : Nat) (f : Nat → Nat → Int) : (rowsL r c f).length = r := by simp [rowsL]
theorem rowsL_take {r : Nat} (c : Nat) (f : Nat → Nat → Int) {k : Nat} (h : k < r) : (rowsL r c f).take (k + 1) = (rowsL r c f).take k ++ [rowL c (f k)] := by
  simp only [rowsL, ← List.map_take, range_take h, List.map_append, List.map_cons, List.map_nil]
theorem rowsL_get {r : Nat} (c : Nat) (f : Nat → Nat → Int) {k : Nat} (h : k < r) : (rowsL r c f).getD k default = rowL c (f k) := by simp [rowsL, h]
theorem rows_fc (r c : Nat) (f : Nat → Nat → Int) : tm c (rowsL r c f).length (fcF (rowsL r c f)) = tm c r fun i j => f j i := by
  unfold tm
  rw [rowsL_len]
  congr 1
  apply tab_ext
  intro i hi j hj
  unfold fcF
  rw [rowsL_get c f hj, rowL_get _ hi]
theorem l3Transpose_a (r c : Nat) (f : Nat → Nat → Int) (hr : r ≤ 1024) (hc : c ≤ 1024) : AC Tryz.prog 96 [.agg (enc false (tm r c f))] [.agg (enc true (tm c r fun i j => f j i))] := by
  refine AC.go Tryz.func96 Tryz.ntmps96 rfl rfl fun w0 hw => ?_; simp [WfL, WfA, E_length, Enc.enc, In64] at hw
  have hZ := l3ZeroT_a c r hc hr
  have hg := fun k (hk : k < r) => rowsL_get c f hk
  rw [← rows_fc]
  have hll := rowsL_len r c f
  generalize hRL : rowsL r c f = RL at hg hll ⊢
  repeat' first | refine s1 ?_ | refine q1 ?_ | (refine kR ?_; first | refine F.c (hZ) ?_) | fail
  refine F.loop (σ := Nat) [4, 5, 11, 12, 13, 14, 15, 16, 17, 18, 19, 20, 21, 22, 23, 24, 25, 26, 27, 28, 29, 30, 31, 32, 33, 34, 35, 36, 37, 38, 39, 40, 41] (fun i => [(4, .i i)]) (fun i => [(2, .live false 1 (E true (tab c r (fcK RL i 0))))]) (fun i => i ≤ r) (fun i => r - i) 0 ⟨rfl, trivial⟩ ⟨obE (by rw [fcK_zero]), trivial⟩ (Nat.zero_le _) ?_
  rintro i i1
  by_cases hi : i < r
  · repeat' first | refine s1 ?_ | refine q1 ?_ | fail
    refine F.loop (σ := Nat) [5, 17, 18, 19, 20, 21, 22, 23, 24, 25, 26, 27, 28, 29, 30, 31, 32, 33, 34, 35, 36, 37, 38, 39, 40, 41] (fun k => [(5, .i k)]) (fun k => [(2, .live false 1 (E true (tab c r (fcK RL i k))))]) (fun k => k ≤ c) (fun k => c - k) 0 ⟨rfl, trivial⟩ ⟨rfl, trivial⟩ (Nat.zero_le _) ?_
    rintro k k1
    by_cases hk : k < c
    · obtain ⟨t1, t2⟩ := tab_in (i := i) (j := k) (r := r) (c := c) hi hk hr hc
      obtain ⟨t3, t4⟩ := tab_in (i := k) (j := i) (r := c) (c := r) hk hi hc hr
      have hv : f i k = (RL.getD i default).getD k default := by rw [hg i hi, rowL_get _ hk]
      repeat' first | refine s1 ?_ | refine q1 ?_ | fail
      refine AW.draw 19 G.mixed (by kernel_rfl) ?_
      refine dP 0 ?_
      first | refine dL 1 ?_ | refine dLQ 1 ?_
      refine dP 2 ?_
      refine dP 3 ?_
      first | refine dL 4 ?_ | refine dLQ 4 ?_
      refine dP 5 ?_
      refine dP 6 ?_
      refine dP 7 ?_
      refine dP 8 ?_
      first | refine dL 9 ?_ | refine dLQ 9 ?_
      refine dP 10 ?_
      refine dP 11 ?_
      first | refine dL 12 ?_ | refine dLQ 12 ?_
      refine dP 13 ?_
      refine dP 14 ?_
      refine dP 15 ?_
      first | refine dP 16 ?_ | refine dQ 16 ?_
      first | refine dL 17 ?_ | refine dLQ 17 ?_
      first | refine dP 18 ?_ | refine dQ 18 ?_
      refine dO 19 false ?_
      first | refine s1 ?_ | refine q1 ?_
      refine ARg.nil (ATh.normal ?_)
      refine dN ?_
      repeat' first | refine s1 ?_ | refine q1 ?_ | fail
      exact ⟨k + 1, F.fit ⟨rfl, trivial⟩ ⟨obE (by rw [hv, fcK_set]), trivial⟩, by omega, by omega⟩
    · obtain rfl : k = c := by omega
      repeat' first | refine s1 ?_ | refine q1 ?_ | fail
      exact ⟨i + 1, F.fit ⟨rfl, trivial⟩ ⟨obE (by rw [fcK_next]), trivial⟩, by omega, by omega⟩
  · obtain rfl : i = r := by omega
    have e : tab c i (fcK RL i 0) = tab c RL.length (fcF RL) := by rw [← fcK_all, hll]
    have e2 : tm c RL.length (fcF RL) = ⟨(c : Nat), (i : Nat), tab c RL.length (fcF RL)⟩ := by unfold tm; rw [hll]
    rw [e, e2]
    have e3 : (tab c RL.length (fcF RL)).length = c * i := by rw [tab_len, hll]
    generalize tab c RL.length (fcF RL) = T at e3 ⊢
    repeat' first | refine s1 ?_ | refine q1 ?_ | fail
    (refine kZ ?_; exact F.ret rfl)
theorem freeL_snoc_ints (k : Nat) (piv : List Nat) : ints (freeL (k + 1) piv) = if k ∈ piv then ints (freeL k piv) else ints (freeL k piv) ++ [(k : Int)] := by
  rw [freeL_succ]
  split
  · rfl
  · rw [ints_snoc]
theorem freeColumns_a (c : Nat) (piv : List Nat) (hc : c ≤ 1000000) : AC Tryz.prog 171 [.i (c : Int), ar false (ints piv)] [.dt true 1 (E true (ints (freeL c piv)))] := by
  refine AC.go Tryz.func171 Tryz.ntmps171 rfl rfl fun w0 hw => ?_; simp [WfL, WfA, E_length, Enc.enc, In64] at hw
  repeat' first | refine s1 ?_ | refine q1 ?_ | fail
  refine AW.open 5 1 (.inl rfl) ?_
  refine F.loop (σ := Nat) [5, 6, 8, 9, 10, 11, 12, 13, 14, 15, 16, 17, 18, 19] (fun k => [(5, .sl 0 (ints (freeL k piv)).length 0 (ints (freeL k piv)).length), (8, .i k)]) (fun k => [(0, .live false 1 (E true (ints (freeL k piv))))]) (fun k => k ≤ c) (fun k => c - k) 0 ⟨rfl, rfl, trivial⟩ ⟨rfl, trivial⟩ (Nat.zero_le _) ?_
  rintro k k1
  have hl := freeL_le k piv
  rw [← ints_len (freeL k piv)] at hl
  by_cases hk : k < c
  · have hH := contains_a (ints piv) (k : Int)
    have hs := freeL_snoc_ints k piv
    generalize ints (freeL k piv) = X at hl hs ⊢
    by_cases hm : k ∈ piv
    · rw [decide_eq_true ((ints_mem piv k).mpr hm)] at hH
      rw [if_pos hm] at hs
      repeat' first | refine s1 ?_ | refine q1 ?_ | (refine kR ?_; first | refine F.c (hH) ?_) | fail
      exact ⟨k + 1, F.fit ⟨slE (by rw [hs]), rfl, trivial⟩ ⟨obE (by rw [hs]), trivial⟩, by omega, by omega⟩
    · rw [decide_eq_false (fun h => hm ((ints_mem piv k).mp h))] at hH
      rw [if_neg hm] at hs
      repeat' first | refine s1 ?_ | refine q1 ?_ | (refine kR ?_; first | refine F.c (hH) ?_ | refine F.a1 Int ?_) | fail
      exact ⟨k + 1, F.fit ⟨slE (by rw [hs]; simp), rfl, trivial⟩ ⟨obE (by rw [hs]), trivial⟩, by omega, by omega⟩
  · obtain rfl : k = c := by omega
    repeat' first | refine s1 ?_ | refine q1 ?_ | fail
    (refine kZ ?_; exact F.ret rfl)
end Go.Proofs.YtedjajokbdokhaaGreat.V
