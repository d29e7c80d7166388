/- Texts that the proof needs: B4. -/
import Derived.Test.YtoilkinagffhiaaQffB3
namespace Go.Proofs.Ytoilkinagffhiaa.V
open Go.RowKit G D
set_option linter.unusedVariables false
set_option linter.unusedSimpArgs false
set_option maxHeartbeats 1000000
set_option maxRecDepth 4000
attribute [local irreducible] AW ARg ARA ARet MRet ASil AC AM
theorem index_a (xs : List Int) (v : Int) : AC Try.prog 98 [ar false xs, .i v] [.i (idxFrom (fun x => decide (v = x)) xs 0)] := by
 refine AC.go Try.func98 Try.ntmps98 rfl rfl fun w0 hw => ?_; simp [WfL, WfA, E_length, Enc.enc, In64] at hw
 repeat' first | refine s1 ?_ | refine q1 ?_ | fail
 refine F.loop (σ := Nat) [4, 5, 8, 9, 10, 11, 12, 13, 14, 15, 16, 17, 18] (fun k => [(8, .i k)]) (fun _ => []) (fun k => k ≤ xs.length ∧ idxFrom (fun x => decide (v = x)) xs 0 = idxFrom (fun x => decide (v = x)) (xs.drop k) k) (fun k => xs.length - k) 0 ⟨rfl, trivial⟩ trivial ⟨Nat.zero_le _, rfl⟩ ?_
 rintro k ⟨hk, hi⟩
 by_cases hlt : k < xs.length
 ·rw [idxFrom_drop _ xs hlt] at hi
  by_cases he : v = xs.getD k default
  ·rw [decide_eq_true he] at hi
   repeat' first | refine s1 ?_ | refine q1 ?_ | fail
   refine F.ret ?_
   rw [hi]; rfl
  ·rw [decide_eq_false he] at hi
   repeat' first | refine s1 ?_ | refine q1 ?_ | fail
   exact ⟨k + 1, F.fit ⟨rfl, trivial⟩ trivial, ⟨by omega, hi⟩, by omega⟩
 ·obtain rfl : k = xs.length := by omega
  repeat' first | refine s1 ?_ | refine q1 ?_ | fail
  refine F.ret ?_
  simp [hi, idxFrom]
theorem any_mem (xs : List Int) (v : Int) : (xs.any fun x => decide (v = x)) = decide (v ∈ xs) := by
 rw [Bool.eq_iff_iff]; simp
theorem contains_a (xs : List Int) (v : Int) : AC Try.prog 89 [ar false xs, .i v] [.b (decide (v ∈ xs))] := by
 refine AC.go Try.func89 Try.ntmps89 rfl rfl fun w0 hw => ?_; simp [WfL, WfA, E_length, Enc.enc, In64] at hw
 repeat' first | refine s1 ?_ | refine q1 ?_ | (refine kR ?_; first | (refine jCf 98 ?_; refine F.c (index_a xs v) ?_)) | fail
 refine F.ret ?_
 rw [← any_mem, ← idxFrom_any _ xs 0]
theorem l4Has_a (xs : List Int) (v : Int) : AC Try.prog 93 [ar false xs, .i v] [.b (decide (v ∈ xs))] := by
 refine AC.go Try.func93 Try.ntmps93 rfl rfl fun w0 hw => ?_; simp [WfL, WfA, E_length, Enc.enc, In64] at hw
 repeat' first | refine s1 ?_ | refine q1 ?_ | fail
 refine F.loop (σ := Nat) [4, 5, 6, 7, 8, 9, 10, 11, 12, 13, 14, 15, 16, 17] (fun k => [(5, .i k)]) (fun _ => []) (fun k => k ≤ xs.length ∧ ∀ j, j < k → xs.getD j default ≠ v) (fun k => xs.length - k) 0 ⟨rfl, trivial⟩ trivial ⟨Nat.zero_le _, fun j hj => by omega⟩ ?_
 rintro k ⟨hk, hi⟩
 by_cases hlt : k < xs.length
 ·by_cases he : xs.getD k default = v
  ·repeat' first | refine s1 ?_ | refine q1 ?_ | fail
   refine F.ret ?_
   rw [decide_eq_true (he ▸ gm hlt)]
  ·repeat' first | refine s1 ?_ | refine q1 ?_ | fail
   exact ⟨k + 1, F.fit ⟨rfl, trivial⟩ trivial, ⟨by omega, snocP hi he⟩, by omega⟩
 ·obtain rfl : k = xs.length := by omega
  repeat' first | refine s1 ?_ | refine q1 ?_ | fail
  refine F.ret ?_
  rw [decide_eq_false]
  intro hm
  obtain ⟨i, hi', rfl⟩ := List.mem_iff_getElem.1 hm
  exact hi i hi' (by simp [hi'])
theorem isReady_a (q : Quiv) (v : Int) (out : List Int) (hq : okQ q = true) : AC Try.prog 90 [.agg (enc false q), .i v, ar false out] [.b (ready q out v)] := by
 refine AC.go Try.func90 Try.ntmps90 rfl rfl fun w0 hw => ?_; simp [WfL, WfA, E_length, Enc.enc, In64] at hw
 have h5 := okQ_spec hq
 repeat' first | refine s1 ?_ | refine q1 ?_ | fail
 refine F.loop (σ := Nat) [6, 7, 8, 12, 13, 14, 15, 16, 17, 18, 19, 20, 21, 22, 23, 24, 25, 26, 27, 28, 29, 30] (fun k => [(12, .i k)]) (fun _ => []) (fun k => k ≤ q.fr.length ∧ ∀ j, j < k → (decide (q.to.getD j default ≠ v) || decide (q.fr.getD j default ∈ out)) = true) (fun k => q.fr.length - k) 0 ⟨rfl, trivial⟩ trivial ⟨Nat.zero_le _, fun j hj => by omega⟩ ?_
 rintro k ⟨hk, hi⟩
 by_cases hlt : k < q.fr.length
 ·have hC := contains_a out (q.fr.getD k default)
  by_cases he : q.to.getD k default = v
  ·by_cases hm : q.fr.getD k default ∈ out
   ·rw [decide_eq_true hm] at hC
    repeat' first | refine s1 ?_ | refine q1 ?_ | (refine kR ?_; first | refine F.c (hC) ?_) | fail
    exact ⟨k + 1, F.fit ⟨rfl, trivial⟩ trivial, ⟨by omega, snocP hi (by rw [decide_eq_true hm, Bool.or_true])⟩, by omega⟩
   ·rw [decide_eq_false hm] at hC
    repeat' first | refine s1 ?_ | refine q1 ?_ | (refine kR ?_; first | refine F.c (hC) ?_) | fail
    refine F.ret ?_
    rw [ready, all_no (k := k) hlt (by rw [decide_eq_false (fun h => h he), decide_eq_false hm]; rfl)]
  ·repeat' first | refine s1 ?_ | refine q1 ?_ | fail
   exact ⟨k + 1, F.fit ⟨rfl, trivial⟩ trivial, ⟨by omega, snocP hi (by rw [decide_eq_true he, Bool.true_or])⟩, by omega⟩
 ·obtain rfl : k = q.fr.length := by omega
  repeat' first | refine s1 ?_ | refine q1 ?_ | fail
  refine F.ret ?_
  rw [ready, all_yes hi]
theorem implOrderOf_a (q : Quiv) : AC Try.prog 75 [.agg (enc false q)] [.dt true 1 (E true (orderQ q).1), .b (orderQ q).2] := by
 refine AC.go Try.func75 Try.ntmps75 rfl rfl fun w0 hw => ?_; simp [WfL, WfA, E_length, Enc.enc, In64] at hw
 have hQ := implIsQuiver_a q
 cases hq : okQ q with
 | false =>
  rw [hq] at hQ
  rw [orderQ, if_neg (by simp [hq])]
  repeat' first | refine s1 ?_ | refine q1 ?_ | (refine kR ?_; first | refine F.c (hQ) ?_) | fail
  (refine kZ ?_; exact F.ret rfl)
 | true =>
  rw [hq] at hQ
  have h5 := okQ_spec hq
  have hn : ((q.n.toNat : Nat) : Int) = q.n := Int.toNat_of_nonneg (by omega)
  have hR : orderQ q = ordQ q q.n.toNat [] := by rw [orderQ, if_pos hq]
  generalize orderQ q = R at hR ⊢
  generalize hN : q.n.toNat = n at hn hR
  repeat' first | refine s1 ?_ | refine q1 ?_ | (refine kR ?_; first | refine F.c (hQ) ?_) | fail
  refine AW.open 4 1 (.inl rfl) ?_
  refine F.loop (σ := List Int) [2, 3, 4, 5, 6, 10, 11, 12, 13, 14, 15, 16, 17, 18, 19, 20, 21, 22, 23, 24, 25, 26, 27, 28, 29, 30, 31, 32, 33, 34, 35, 36, 37, 38] (fun out => [(4, .sl 1 out.length 0 out.length)]) (fun out => [(1, .live false 1 (E true out))]) (fun out => out.length ≤ n ∧ R = ordQ q (n - out.length) out) (fun out => n - out.length) [] ⟨rfl, trivial⟩ ⟨rfl, trivial⟩ ⟨Nat.zero_le _, by simpa using hR⟩ ?_
  rintro out ⟨g1, g2⟩
  by_cases hlt : out.length < n
  ·repeat' first | refine s1 ?_ | refine q1 ?_ | fail
   refine F.loop (σ := Nat) [5, 6, 18, 19, 20, 21, 22, 23, 24, 25, 26, 27, 28, 29, 30, 31, 32] (fun u => [(5, .i (nextV q out (n - u) u)), (6, .i ((u : Int) - 1))]) (fun _ => []) (fun u => u ≤ n) (fun u => u) n ⟨iE (by rw [Nat.sub_self]; rfl), iE (by omega), trivial⟩ trivial (Nat.le_refl _) ?_
   rintro u hu
   cases u with
   | zero =>
    obtain ⟨f, hf⟩ : ∃ f, n - out.length = f + 1 := ⟨n - out.length - 1, by omega⟩
    rw [hf, ordQ, hN] at g2
    rw [Nat.sub_zero]
    have hb := nextV_bd q out n 0
    generalize nextV q out n 0 = x at g2 hb ⊢
    by_cases hx : x < 0
    ·rw [if_pos hx] at g2
     subst g2
     repeat' first | refine s1 ?_ | refine q1 ?_ | fail
     (refine kZ ?_; exact F.ret rfl)
    ·rw [if_neg hx] at g2
     repeat' first | refine s1 ?_ | refine q1 ?_ | (refine kR ?_; first | refine F.a1 Int ?_) | fail
     exact ⟨out ++ [x], F.fit ⟨slE (by simp), trivial⟩ ⟨rfl, trivial⟩, ⟨by simp; omega, by rw [g2]; congr 1; simp; omega⟩, by simp; omega⟩
   | succ i =>
    rw [show (((i + 1 : Nat)) : Int) - 1 = (i : Int) by omega]
    have hC := contains_a out (i : Int)
    have hr := isReady_a q (i : Int) out hq
    cases hfr : freeV q out (i : Int) with
    | true =>
     have hx := nextV_hit (n := n) (by omega) hfr
     simp only [freeV, Bool.and_eq_true, Bool.not_eq_true'] at hfr
     rw [hfr.1] at hC
     rw [hfr.2] at hr
     repeat' first | refine s1 ?_ | refine q1 ?_ | (refine kR ?_; first | refine F.c (hC) ?_ | refine F.c (hr) ?_) | fail
     exact ⟨i, F.fit ⟨iE hx.symm, rfl, trivial⟩ trivial, by omega, by omega⟩
    | false =>
     have hx := nextV_miss (n := n) (by omega) hfr
     rw [freeV, Bool.and_eq_false_iff] at hfr
     cases hc1 : decide ((i : Int) ∈ out) with
     | true =>
      rw [hc1] at hC
      repeat' first | refine s1 ?_ | refine q1 ?_ | (refine kR ?_; first | refine F.c (hC) ?_) | fail
      exact ⟨i, F.fit ⟨iE hx.symm, rfl, trivial⟩ trivial, by omega, by omega⟩
     | false =>
      rw [hc1] at hC hfr
      have hrd := hfr.resolve_left (by simp)
      rw [hrd] at hr
      repeat' first | refine s1 ?_ | refine q1 ?_ | (refine kR ?_; first | refine F.c (hC) ?_ | refine F.c (hr) ?_) | fail
      exact ⟨i, F.fit ⟨iE hx.symm, rfl, trivial⟩ trivial, by omega, by omega⟩
  ·have e0 : n - out.length = 0 := by omega
   rw [e0, ordQ] at g2
   subst g2
   repeat' first | refine s1 ?_ | refine q1 ?_ | fail
   (refine kZ ?_; exact F.ret rfl)
def freeK (q : Quiv) (out : List Int) (v : Int) (j : Nat) : Bool := !decide (v ∈ out) && (List.range j).all fun i => decide (q.to.getD i default ≠ v) || decide (q.fr.getD i default ∈ out)
theorem freeK_zero (q : Quiv) (out : List Int) (v : Int) : freeK q out v 0 = !decide (v ∈ out) := by simp [freeK]
theorem freeK_succ (q : Quiv) (out : List Int) (v : Int) (j : Nat) : freeK q out v (j + 1) = (freeK q out v j && (decide (q.to.getD j default ≠ v) || decide (q.fr.getD j default ∈ out))) := by
 simp [freeK, List.range_succ, Bool.and_assoc]
theorem specOrderOf_a (q : Quiv) : AC Try.prog 79 [.agg (enc false q)] [.dt true 1 (E true (orderQ q).1), .b (orderQ q).2] := by
 refine AC.go Try.func79 Try.ntmps79 rfl rfl fun w0 hw => ?_; simp [WfL, WfA, E_length, Enc.enc, In64] at hw
 have hQ := specIsQuiver_a q
 cases hq : okQ q with
 | false =>
  rw [hq] at hQ
  rw [orderQ, if_neg (by simp [hq])]
  repeat' first | refine s1 ?_ | refine q1 ?_ | fail
  refine F.loop (σ := Unit) [2, 3, 4, 5, 6, 7, 8, 10, 11, 12, 13, 14, 15, 16, 17, 18, 19, 20, 21, 22, 23, 24, 25, 26, 27, 28, 29, 30, 31, 32, 33, 34, 35, 36, 37, 38, 39, 40, 41, 42, 43, 44, 45, 46, 47, 48, 49, 50, 51, 52, 53, 54, 55, 56, 57, 58, 59, 60, 61, 62, 63, 64] (fun _ => [(4, .em)]) (fun _ => []) (fun _ => True) (fun _ => 0) () ⟨rfl, trivial⟩ trivial trivial ?_
  rintro _ _
  repeat' first | refine s1 ?_ | refine q1 ?_ | (refine kR ?_; first | refine F.c (hQ) ?_) | fail
  (refine kZ ?_; exact F.ret rfl)
 | true =>
  rw [hq] at hQ
  have h5 := okQ_spec hq
  have hn : ((q.n.toNat : Nat) : Int) = q.n := Int.toNat_of_nonneg (by omega)
  have hR : orderQ q = ordQ q q.n.toNat [] := by rw [orderQ, if_pos hq]
  generalize orderQ q = R at hR ⊢
  generalize hN : q.n.toNat = n at hn hR
  repeat' first | refine s1 ?_ | refine q1 ?_ | fail
  refine AW.open 4 1 (.inr rfl) ?_
  refine F.loop (σ := List Int) [2, 3, 4, 5, 6, 7, 8, 10, 11, 12, 13, 14, 15, 16, 17, 18, 19, 20, 21, 22, 23, 24, 25, 26, 27, 28, 29, 30, 31, 32, 33, 34, 35, 36, 37, 38, 39, 40, 41, 42, 43, 44, 45, 46, 47, 48, 49, 50, 51, 52, 53, 54, 55, 56, 57, 58, 59, 60, 61, 62, 63, 64] (fun out => [(4, .sl 1 out.length 0 out.length)]) (fun out => [(1, .live false 1 (E true out))]) (fun out => out.length ≤ n ∧ R = ordQ q (n - out.length) out) (fun out => n - out.length) [] ⟨rfl, trivial⟩ ⟨rfl, trivial⟩ ⟨Nat.zero_le _, by simpa using hR⟩ ?_
  rintro out ⟨g1, g2⟩
  by_cases hlt : out.length < n
  ·repeat' first | refine s1 ?_ | refine q1 ?_ | (refine kR ?_; first | refine F.c (hQ) ?_) | fail
   refine F.loop (σ := Nat) [5, 6, 7, 8, 22, 23, 24, 25, 26, 27, 28, 29, 30, 31, 32, 33, 34, 35, 36, 37, 38, 39, 40, 41, 42, 43, 44, 45, 46, 47, 48, 49, 50, 51, 52, 53, 54, 55, 56, 57] (fun u => [(5, .i (nextV q out (n - u) u)), (6, .i ((u : Int) - 1))]) (fun _ => []) (fun u => u ≤ n) (fun u => u) n ⟨iE (by rw [Nat.sub_self]; rfl), iE (by omega), trivial⟩ trivial (Nat.le_refl _) ?_
   rintro u hu
   cases u with
   | zero =>
    obtain ⟨f, hf⟩ : ∃ f, n - out.length = f + 1 := ⟨n - out.length - 1, by omega⟩
    rw [hf, ordQ, hN] at g2
    rw [Nat.sub_zero]
    have hb := nextV_bd q out n 0
    generalize nextV q out n 0 = x at g2 hb ⊢
    by_cases hx : x < 0
    ·rw [if_pos hx] at g2
     subst g2
     repeat' first | refine s1 ?_ | refine q1 ?_ | fail
     (refine kZ ?_; exact F.ret rfl)
    ·rw [if_neg hx] at g2
     repeat' first | refine s1 ?_ | refine q1 ?_ | (refine kR ?_; first | refine F.a1 Int ?_) | fail
     exact ⟨out ++ [x], F.fit ⟨slE (by simp), trivial⟩ ⟨rfl, trivial⟩, ⟨by simp; omega, by rw [g2]; congr 1; simp; omega⟩, by simp; omega⟩
   | succ i =>
    rw [show (((i + 1 : Nat)) : Int) - 1 = (i : Int) by omega]
    have hC := l4Has_a out (i : Int)
    have hk0 := freeK_zero q out (i : Int)
    generalize hX : decide ((i : Int) ∈ out) = X at hC hk0
    repeat' first | refine s1 ?_ | refine q1 ?_ | (refine kR ?_; first | refine F.c (hC) ?_) | fail
    refine F.loop (σ := Nat) [7, 8, 30, 31, 32, 33, 34, 35, 36, 37, 38, 39, 40, 41, 42, 43, 44, 45, 46, 47, 48, 49, 50, 51, 52, 53, 54, 55] (fun j => [(7, .b (freeK q out (i : Int) j)), (8, .i j)]) (fun _ => []) (fun j => j ≤ q.fr.length) (fun j => q.fr.length - j) 0 ⟨by rw [hk0]; rfl, rfl, trivial⟩ trivial (Nat.zero_le _) ?_
    rintro j hj
    by_cases hjl : j < q.fr.length
    ·have hC2 := l4Has_a out (q.fr.getD j default)
     have hks := freeK_succ q out (i : Int) j
     cases hfk : freeK q out (i : Int) j with
     | false =>
      rw [hfk, Bool.false_and] at hks
      repeat' first | refine s1 ?_ | refine q1 ?_ | fail
      exact ⟨j + 1, F.fit ⟨by rw [hks]; rfl, rfl, trivial⟩ trivial, by omega, by omega⟩
     | true =>
      rw [hfk, Bool.true_and] at hks
      by_cases he : q.to.getD j default = (i : Int)
      ·rw [decide_eq_false (fun h => h he), Bool.false_or] at hks
       generalize decide (q.fr.getD j default ∈ out) = Y at hC2 hks
       repeat' first | refine s1 ?_ | refine q1 ?_ | (refine kR ?_; first | refine F.c (hC2) ?_) | fail
       exact ⟨j + 1, F.fit ⟨by rw [hks]; rfl, rfl, trivial⟩ trivial, by omega, by omega⟩
      ·rw [decide_eq_true he, Bool.true_or] at hks
       repeat' first | refine s1 ?_ | refine q1 ?_ | fail
       exact ⟨j + 1, F.fit ⟨by rw [hks]; rfl, rfl, trivial⟩ trivial, by omega, by omega⟩
    ·obtain rfl : j = q.fr.length := by omega
     have hfr : freeK q out (i : Int) q.fr.length = freeV q out (i : Int) := rfl
     rw [hfr]
     cases hfv : freeV q out (i : Int) with
     | true =>
      have hx := nextV_hit (n := n) (by omega) hfv
      repeat' first | refine s1 ?_ | refine q1 ?_ | fail
      exact ⟨i, F.fit ⟨iE hx.symm, rfl, trivial⟩ trivial, by omega, by omega⟩
     | false =>
      have hx := nextV_miss (n := n) (by omega) hfv
      repeat' first | refine s1 ?_ | refine q1 ?_ | fail
      exact ⟨i, F.fit ⟨iE hx.symm, rfl, trivial⟩ trivial, by omega, by omega⟩
  ·have e0 : n - out.length = 0 := by omega
   rw [e0, ordQ] at g2
   subst g2
   repeat' first | refine s1 ?_ | refine q1 ?_ | (refine kR ?_; first | refine F.c (hQ) ?_) | fail
   (refine kZ ?_; exact F.ret rfl)
theorem implIsAcyclic_a (q : Quiv) : AC Try.prog 56 [.agg (enc false q)] [.b (orderQ q).2] := by
 refine AC.go Try.func56 Try.ntmps56 rfl rfl fun w0 hw => ?_; simp [WfL, WfA, E_length, Enc.enc, In64] at hw
 have hO := implOrderOf_a q
 generalize orderQ q = R at hO ⊢
 obtain ⟨l, b⟩ := R
 dsimp only at hO ⊢
 repeat' first | refine s1 ?_ | refine q1 ?_ | (refine kR ?_; first | refine F.c (hO) ?_) | fail
 (refine kZ ?_; exact F.ret rfl)
theorem specIsAcyclic_a (q : Quiv) : AC Try.prog 58 [.agg (enc false q)] [.b (orderQ q).2] := by
 refine AC.go Try.func58 Try.ntmps58 rfl rfl fun w0 hw => ?_; simp [WfL, WfA, E_length, Enc.enc, In64] at hw
 have hO := specOrderOf_a q
 generalize orderQ q = R at hO ⊢
 obtain ⟨l, b⟩ := R
 dsimp only at hO ⊢
 repeat' first | refine s1 ?_ | refine q1 ?_ | (refine kR ?_; first | refine F.c (hO) ?_) | fail
 (refine kZ ?_; exact F.ret rfl)
def Cg (p x y : Int) : Prop := ∃ q, x = y + p * q
theorem Cg.refl {p : Int} (x : Int) : Cg p x x := ⟨0, by simp⟩
theorem Cg.symm {p x y : Int} : Cg p x y → Cg p y x := fun ⟨q, h⟩ => ⟨-q, by rw [h, Int.mul_neg]; omega⟩
theorem Cg.trans {p x y z : Int} : Cg p x y → Cg p y z → Cg p x z := fun ⟨q, h⟩ ⟨s, g⟩ => ⟨s + q, by rw [h, g, Int.mul_add]; omega⟩
theorem Cg.add {p x y u v : Int} : Cg p x y → Cg p u v → Cg p (x + u) (y + v) := fun ⟨q, h⟩ ⟨s, g⟩ => ⟨q + s, by rw [h, g, Int.mul_add]; omega⟩
theorem Cg.mul {p x y u v : Int} : Cg p x y → Cg p u v → Cg p (x * u) (y * v) := fun ⟨q, h⟩ ⟨s, g⟩ => ⟨y * s + q * v + p * q * s, by subst h g; grind⟩
def sumN (h : Nat → Int) : Nat → Int
 | 0 => 0
 | n + 1 => sumN h n + h n
theorem sumN_cg {p : Int} {h g : Nat → Int} : ∀ n, (∀ i, i < n → Cg p (h i) (g i)) → Cg p (sumN h n) (sumN g n)
 | 0, _ => .refl _
 | n + 1, H => (sumN_cg n fun i hi => H i (by omega)).add (H n (by omega))
theorem sumN_eq {h g : Nat → Int} : ∀ n, (∀ i, i < n → h i = g i) → sumN h n = sumN g n
 | 0, _ => rfl
 | n + 1, H => by rw [sumN, sumN, sumN_eq n fun i hi => H i (by omega), H n (by omega)]
theorem sumN_add (h g : Nat → Int) : ∀ n, sumN (fun i => h i + g i) n = sumN h n + sumN g n
 | 0 => rfl
 | n + 1 => by simp only [sumN]; rw [sumN_add h g n]; omega
theorem sumN_mul (k : Int) (h : Nat → Int) : ∀ n, sumN (fun i => k * h i) n = k * sumN h n
 | 0 => by simp [sumN]
 | n + 1 => by simp only [sumN]; rw [sumN_mul k h n, Int.mul_add]
theorem sumN_one (h : Nat → Int) (t : Nat) : ∀ n, sumN (fun i => (if i = t then 1 else 0) * h i) n = if t < n then h t else 0
 | 0 => rfl
 | n + 1 => by
  simp only [sumN]
  rw [sumN_one h t n]
  by_cases e : n = t
  ·subst e; simp
  ·by_cases e2 : t < n
   ·simp [e, e2, show t < n + 1 by omega]
   ·simp [e, e2, show ¬ t < n + 1 by omega]
theorem sumN_zero {h : Nat → Int} : ∀ n, (∀ i, i < n → h i = 0) → sumN h n = 0
 | 0, _ => rfl
 | n + 1, H => by rw [sumN, sumN_zero n fun i hi => H i (by omega), H n (by omega)]; rfl
def Sp (p : Int) (r c : Nat) (f : Nat → Nat → Int) (v : Nat → Int) : Prop := ∃ co : Nat → Int, ∀ j, j < c → Cg p (v j) (sumN (fun i => co i * f i j) r)
theorem Sp.row {p : Int} {r c : Nat} {f : Nat → Nat → Int} {i : Nat} (hi : i < r) : Sp p r c f (f i) := ⟨fun t => if t = i then 1 else 0, fun j _ => by
 have h := sumN_one (fun t => f t j) i r
 rw [if_pos hi] at h
 show Cg p (f i j) (sumN (fun t => (if t = i then 1 else 0) * f t j) r)
 rw [h]; exact .refl _⟩
theorem Sp.zero {p : Int} {r c : Nat} {f : Nat → Nat → Int} : Sp p r c f fun _ => 0 := ⟨fun _ => 0, fun j _ => by rw [sumN_zero r fun i _ => Int.zero_mul _]; exact .refl _⟩
theorem Sp.add {p : Int} {r c : Nat} {f : Nat → Nat → Int} {u v : Nat → Int} : Sp p r c f u → Sp p r c f v → Sp p r c f fun j => u j + v j := fun ⟨x, h⟩ ⟨y, g⟩ => ⟨fun i => x i + y i, fun j hj => by
 rw [sumN_eq (g := fun i => x i * f i j + y i * f i j) r fun i _ => Int.add_mul .., sumN_add]
 exact (h j hj).add (g j hj)⟩
theorem Sp.smul {p : Int} {r c : Nat} {f : Nat → Nat → Int} {v : Nat → Int} (k : Int) : Sp p r c f v → Sp p r c f fun j => k * v j := fun ⟨y, g⟩ => ⟨fun i => k * y i, fun j hj => by
 rw [sumN_eq (g := fun i => k * (y i * f i j)) r fun i _ => Int.mul_assoc .., sumN_mul]
 exact (Cg.refl k).mul (g j hj)⟩
theorem Sp.cg {p : Int} {r c : Nat} {f : Nat → Nat → Int} {v w : Nat → Int} (h : Sp p r c f v) (e : ∀ j, j < c → Cg p (w j) (v j)) : Sp p r c f w := by
 obtain ⟨y, g⟩ := h
 exact ⟨y, fun j hj => (e j hj).trans (g j hj)⟩
theorem Sp.comb {p : Int} {r c : Nat} {f g : Nat → Nat → Int} {co : Nat → Int} : ∀ n, (∀ i, i < n → Sp p r c g (f i)) → Sp p r c g fun j => sumN (fun i => co i * f i j) n
 | 0, _ => Sp.zero
 | n + 1, h => (Sp.comb n fun i hi => h i (by omega)).add ((h n (by omega)).smul (co n))
theorem Sp.sub {p : Int} {r s c : Nat} {f g : Nat → Nat → Int} {v : Nat → Int} (h : Sp p r c f v) (hs : ∀ i, i < r → Sp p s c g (f i)) : Sp p s c g v := by
 obtain ⟨y, e⟩ := h
 exact (Sp.comb (co := y) r hs).cg e
def SS (p : Int) (r s c : Nat) (f g : Nat → Nat → Int) : Prop := (∀ i, i < r → Sp p s c g (f i)) ∧ (∀ i, i < s → Sp p r c f (g i))
theorem SS.refl {p : Int} {r c : Nat} {f : Nat → Nat → Int} : SS p r r c f f := ⟨fun i hi => Sp.row hi, fun i hi => Sp.row hi⟩
theorem SS.symm {p : Int} {r s c : Nat} {f g : Nat → Nat → Int} (h : SS p r s c f g) : SS p s r c g f := ⟨h.2, h.1⟩
theorem SS.trans {p : Int} {r s t c : Nat} {f g h : Nat → Nat → Int} (a : SS p r s c f g) (b : SS p s t c g h) : SS p r t c f h :=
 ⟨fun i hi => (a.1 i hi).sub b.1, fun i hi => (b.2 i hi).sub a.2⟩
structure Ech (r k : Nat) (g : Nat → Nat → Int) (piv : List Nat) : Prop where
 le : piv.length ≤ r
 lt : ∀ i, i < piv.length → piv.getD i 0 < k
 inc : ∀ i j, i < j → j < piv.length → piv.getD i 0 < piv.getD j 0
 one : ∀ i, i < piv.length → ∀ j, j < piv.length → g i (piv.getD j 0) = if i = j then 1 else 0
 low : ∀ i, piv.length ≤ i → i < r → ∀ j, j < k → g i j = 0
 lead : ∀ i, i < piv.length → ∀ j, j < piv.getD i 0 → g i j = 0
theorem Ech.comb {p : Int} {r c : Nat} {g : Nat → Nat → Int} {piv : List Nat} (h : Ech r c g piv) {v : Nat → Int} (hv : Sp p r c g v) : ∀ j, j < c → Cg p (v j) (sumN (fun i => v (piv.getD i 0) * g i j) piv.length) := by
 obtain ⟨co, e⟩ := hv
 have cut : ∀ j, j < c → ∀ n, piv.length + n ≤ r → sumN (fun i => co i * g i j) (piv.length + n) = sumN (fun i => co i * g i j) piv.length := fun j hj n => by
  induction n with
  | zero => intro _; rfl
  | succ n ih => intro hn; rw [← Nat.add_assoc, sumN, ih (by omega), h.low _ (by omega) (by omega) j hj]; simp
 have e2 : ∀ j, j < c → Cg p (v j) (sumN (fun i => co i * g i j) piv.length) := fun j hj => by
  have := cut j hj (r - piv.length) (by have := h.le; omega)
  rw [show piv.length + (r - piv.length) = r by have := h.le; omega] at this
  rw [← this]; exact e j hj
 have e3 : ∀ i, i < piv.length → Cg p (v (piv.getD i 0)) (co i) := fun i hi => by
  have h1 := e2 _ (h.lt i hi)
  have h2 : sumN (fun t => co t * g t (piv.getD i 0)) piv.length = co i := by
   rw [sumN_eq (g := fun t => (if t = i then 1 else 0) * co t) _ fun t ht => by rw [h.one t ht i hi, Int.mul_comm], sumN_one, if_pos hi]
  rwa [h2] at h1
 intro j hj
 exact (e2 j hj).trans (sumN_cg _ fun i hi => ((e3 i hi).symm).mul (.refl _))
theorem Ech.zero {p : Int} {r c : Nat} {g : Nat → Nat → Int} {piv : List Nat} (h : Ech r c g piv) {v : Nat → Int} (hv : Sp p r c g v) (h0 : ∀ i, i < piv.length → Cg p (v (piv.getD i 0)) 0) : ∀ j, j < c → Cg p (v j) 0 := fun j hj => by
 have h1 := h.comb hv j hj
 have h2 := sumN_cg (p := p) (h := fun i => v (piv.getD i 0) * g i j) (g := fun _ => 0) piv.length fun i hi => by
  have := (h0 i hi).mul (Cg.refl (g i j)); rwa [Int.zero_mul] at this
 rw [sumN_zero (h := fun _ => 0) piv.length fun _ _ => rfl] at h2
 exact h1.trans h2
end Go.Proofs.Ytoilkinagffhiaa.V
namespace Go.Proofs.Ytoilkinagffhiaa.V
open Go.RowKit G D
set_option linter.unusedVariables false
set_option linter.unusedSimpArgs false
set_option maxHeartbeats 4000000
set_option maxRecDepth 4000
attribute [local irreducible] AW ARg ARA ARet MRet ASil AC AM
end Go.Proofs.Ytoilkinagffhiaa.V
