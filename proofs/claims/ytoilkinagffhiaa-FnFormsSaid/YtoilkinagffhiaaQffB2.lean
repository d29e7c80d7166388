/- Texts that the proof needs: A140, A6, B2. -/
import Derived.Test.YtoilkinagffhiaaQffUv
import Derived.Test.YtoilkinagffhiaaQffUk
namespace Go.Proofs.Ytoilkinagffhiaa.V
open Go.RowKit G D
set_option linter.unusedVariables false
set_option linter.unusedSimpArgs false
set_option maxHeartbeats 4000000
set_option maxRecDepth 4000
attribute [local irreducible] AW ARg ARA ARet MRet ASil AC AM
theorem allIn_no2 {lo hi : Int} {xs : List Int} {k : Nat} (hk : k < xs.length) (h : ¬(lo ≤ xs.getD k default ∧ xs.getD k default ≤ hi)) : allIn lo hi xs = false := by
 rw [← Bool.not_eq_true]
 intro ha
 exact h (allIn_spec ha hk)
theorem allIn_all2 {lo hi : Int} {xs : List Int} (h : ∀ j, j < xs.length → lo ≤ xs.getD j default ∧ xs.getD j default ≤ hi) : allIn lo hi xs = true := by
 simp only [allIn, List.all_eq_true, Bool.and_eq_true, decide_eq_true_eq]
 intro x hx
 obtain ⟨i, hi, rfl⟩ := List.mem_iff_getElem.mp hx
 have := h i hi
 simpa [hi] using this
def arrK (q : Quiv) (x y : List Int) : Nat → Int
 | 0 => 0
 | k + 1 => arrK q x y k + x.getD (q.fr.getD k default).toNat default * y.getD (q.to.getD k default).toNat default
def eulF (q : Quiv) (x y : List Int) : Int := D.dotK x y x.length - arrK q x y q.fr.length
def okX (q : Quiv) (x : List Int) : Bool := okQ q && (decide ((x.length : Int) = q.n) && allIn (-100) 100 x)
theorem okX_spec {q : Quiv} {x : List Int} (h : okX q x = true) : okQ q = true ∧ (x.length : Int) = q.n ∧ allIn (-100) 100 x = true := by
 simp only [okX, Bool.and_eq_true, decide_eq_true_eq] at h
 exact ⟨h.1, h.2.1, h.2.2⟩
def eulP (q : Quiv) (x y : List Int) : Int := if okX q x = true ∧ okX q y = true then eulF q x y else 0
theorem arrK_bd {q : Quiv} {x y : List Int} (hx : okX q x = true) (hy : okX q y = true) : ∀ k, k ≤ q.fr.length → -(10000 * (k : Int)) ≤ arrK q x y k ∧ arrK q x y k ≤ 10000 * (k : Int)
 | 0, _ => by simp [arrK]
 | k + 1, h1 => by
  have ih := arrK_bd hx hy k (by omega)
  obtain ⟨q1, l1, a1⟩ := okX_spec hx
  obtain ⟨_, l2, a2⟩ := okX_spec hy
  have f : 0 ≤ q.fr.getD k default ∧ q.fr.getD k default < q.n := okQ_fr q1 (by omega)
  have t : 0 ≤ q.to.getD k default ∧ q.to.getD k default < q.n := okQ_to q1 (by omega)
  have a : -100 ≤ x.getD (q.fr.getD k default).toNat default ∧ x.getD (q.fr.getD k default).toNat default ≤ 100 := allIn_spec a1 (by omega)
  have b : -100 ≤ y.getD (q.to.getD k default).toNat default ∧ y.getD (q.to.getD k default).toNat default ≤ 100 := allIn_spec a2 (by omega)
  have m := mul_bd (A := 100) (B := 100) (by omega) a.2 (by omega) b.2
  simp only [arrK]
  omega
theorem euler_a (q : Quiv) (x y : List Int) (hx : okX q x = true) (hy : okX q y = true) : AC Try.prog 43 [.agg (enc false q), ar false x, ar false y] [.i (eulF q x y)] := by
 refine AC.go Try.func43 Try.ntmps43 rfl rfl fun w0 hw => ?_; simp [WfL, WfA, E_length, Enc.enc, In64] at hw
 obtain ⟨q1, l1, a1⟩ := okX_spec hx
 obtain ⟨_, l2, a2⟩ := okX_spec hy
 have h5 := okQ_spec q1
 have hbd := fun k h1 h2 => D.dotK_bd a1 a2 k h1 h2
 have hab := fun k h => arrK_bd hx hy k h
 have hxv : ∀ k, k < x.length → -100 ≤ x.getD k default ∧ x.getD k default ≤ 100 := fun k hk => allIn_spec a1 hk
 have hyv : ∀ k, k < y.length → -100 ≤ y.getD k default ∧ y.getD k default ≤ 100 := fun k hk => allIn_spec a2 hk
 repeat' first | refine s1 ?_ | fail
 refine AW.freezeP (α := Quiv) (oo := false) q 3 rfl rfl ?_
 refine F.loop (σ := Nat) [7, 8, 9, 14, 15, 16, 17, 18, 19, 20, 21, 22, 23, 24, 25, 26, 27] (fun k => [(7, .i (D.dotK x y k)), (14, .i k)]) (fun _ => []) (fun k => k ≤ x.length) (fun k => x.length - k) 0 ⟨rfl, rfl, trivial⟩ trivial (Nat.zero_le _) ?_
 rintro k k1
 by_cases hk : k < x.length
 ·have e : D.dotK x y (k + 1) = D.dotK x y k + x.getD k default * y.getD k default := rfl
  have b1 := hbd k k1 (by omega)
  have b2 := hxv k hk
  have b3 := hyv k (by omega)
  have m := mul_bd (A := 100) (B := 100) (by omega) b2.2 (by omega) b3.2
  generalize D.dotK x y k = s at e b1 ⊢
  repeat' first | refine s1 ?_ | fail
  exact ⟨k + 1, F.fit ⟨iE (by rw [e]), rfl, trivial⟩ trivial, by omega, by omega⟩
 ·obtain rfl : k = x.length := by omega
  have b1 := hbd x.length (Nat.le_refl _) (by omega)
  have hE : eulF q x y = D.dotK x y x.length - arrK q x y q.fr.length := rfl
  rw [hE]
  generalize D.dotK x y x.length = s at b1 ⊢
  repeat' first | refine s1 ?_ | fail
  refine F.loop (σ := Nat) [7, 10, 11, 31, 32, 33, 34, 35, 36, 37, 38, 39, 40, 41, 42, 43, 44, 45, 46, 47, 48, 49, 50, 51] (fun k => [(7, .i (s - arrK q x y k)), (31, .i k)]) (fun _ => []) (fun k => k ≤ q.fr.length) (fun k => q.fr.length - k) 0 ⟨iE (by simp [arrK]), rfl, trivial⟩ trivial (Nat.zero_le _) ?_
  rintro k k2
  by_cases hk : k < q.fr.length
  ·have e : arrK q x y (k + 1) = arrK q x y k + x.getD (q.fr.getD k default).toNat default * y.getD (q.to.getD k default).toNat default := rfl
   have b4 := hab k k2
   have f : 0 ≤ q.fr.getD k default ∧ q.fr.getD k default < q.n := okQ_fr q1 (by omega)
   have t : 0 ≤ q.to.getD k default ∧ q.to.getD k default < q.n := okQ_to q1 (by omega)
   have b2 := hxv (q.fr.getD k default).toNat (by omega)
   have b3 := hyv (q.to.getD k default).toNat (by omega)
   have m := mul_bd (A := 100) (B := 100) (by omega) b2.2 (by omega) b3.2
   generalize arrK q x y k = z at e b4 ⊢
   repeat' first | refine s1 ?_ | fail
   refine AW.draw 16 G.mixed (by kernel_rfl) ?_
   refine dP 0 ?_
   refine dP 1 ?_
   refine dP 2 ?_
   refine dP 3 ?_
   refine dL 4 ?_
   refine dP 5 ?_
   refine dP 6 ?_
   refine dL 7 ?_
   refine dP 8 ?_
   refine dP 9 ?_
   refine dL 10 ?_
   refine dP 11 ?_
   refine dL 12 ?_
   refine dP 13 ?_
   refine dP 14 ?_
   refine dP 15 ?_
   refine dN ?_
   rotate_left
   all_goals
    repeat' first | refine s1 ?_ | fail
    exact ⟨k + 1, F.fit ⟨iE (by rw [e]; omega), rfl, trivial⟩ trivial, by omega, by omega⟩
  ·obtain rfl : k = q.fr.length := by omega
   repeat' first | refine s1 ?_ | fail
   (refine kZ ?_; exact F.ret rfl)
theorem l18Vector_a (q : Quiv) (x : List Int) : AC Try.prog 61 [.agg (enc false q), ar false x] [.b (okX q x)] := by
 refine AC.go Try.func61 Try.ntmps61 rfl rfl fun w0 hw => ?_; simp [WfL, WfA, E_length, Enc.enc, In64] at hw
 have hq := specIsQuiver_a q
 have hw1 := fun k => l1In_a (x.getD k default) (-100) 100
 repeat' first | refine s1 ?_ | fail
 refine F.loop (σ := Nat) [4, 5, 6, 7, 8, 9, 10, 11, 12, 13, 14, 15, 16, 17] (fun k => [(5, .i k)]) (fun _ => []) (fun k => k ≤ x.length ∧ ∀ j, j < k → -100 ≤ x.getD j default ∧ x.getD j default ≤ 100) (fun k => x.length - k) 0 ⟨rfl, trivial⟩ trivial ⟨Nat.zero_le _, fun j hj => absurd hj (Nat.not_lt_zero _)⟩ ?_
 rintro k ⟨k1, k2⟩
 by_cases hk : k < x.length
 ·have hwk := hw1 k
  by_cases hb : -100 ≤ x.getD k default ∧ x.getD k default ≤ 100
  ·rw [decide_eq_true hb] at hwk
   repeat' first | refine s1 ?_ | (refine kR ?_; first | refine F.c (hwk) ?_) | fail
   exact ⟨k + 1, F.fit ⟨rfl, trivial⟩ trivial, ⟨by omega, fun j hj => by rcases Nat.lt_succ_iff_lt_or_eq.1 hj with h | h; exact k2 j h; rw [h]; exact hb⟩, by omega⟩
  ·rw [decide_eq_false hb] at hwk
   have e : okX q x = false := by unfold okX; rw [allIn_no2 hk hb, Bool.and_false, Bool.and_false]
   rw [e]
   repeat' first | refine s1 ?_ | (refine kR ?_; first | refine F.c (hwk) ?_) | fail
   (refine kZ ?_; exact F.ret rfl)
 ·obtain rfl : k = x.length := by omega
  have e : okX q x = (okQ q && decide ((x.length : Int) = q.n)) := by unfold okX; rw [allIn_all2 k2, Bool.and_true]
  rw [e]
  cases hb : okQ q with
  | false =>
   rw [hb] at hq
   repeat' first | refine s1 ?_ | (refine kR ?_; first | refine F.c (hq) ?_) | fail
   (refine kZ ?_; exact F.ret rfl)
  | true =>
   rw [hb] at hq
   by_cases hn : (x.length : Int) = q.n
   ·rw [decide_eq_true hn]
    repeat' first | refine s1 ?_ | (refine kR ?_; first | refine F.c (hq) ?_) | fail
    refine F.ret ?_
    simp [hn]
   ·rw [decide_eq_false hn]
    repeat' first | refine s1 ?_ | (refine kR ?_; first | refine F.c (hq) ?_) | fail
    refine F.ret ?_
    simp [hn]
theorem specEulerForm_a (q : Quiv) (x y : List Int) : AC Try.prog 32 [.agg (enc false q), ar false x, ar false y] [.i (eulP q x y)] := by
 refine AC.go Try.func32 Try.ntmps32 rfl rfl fun w0 hw => ?_; simp [WfL, WfA, E_length, Enc.enc, In64] at hw
 have hX := l18Vector_a q x
 have hY := l18Vector_a q y
 unfold eulP
 cases hx : okX q x with
 | false =>
  rw [hx] at hX
  rw [if_neg (by simp)]
  repeat' first | refine s1 ?_ | (refine kR ?_; first | refine F.c (hX) ?_) | fail
  (refine kZ ?_; exact F.ret rfl)
 | true =>
  rw [hx] at hX
  cases hy : okX q y with
  | false =>
   rw [hy] at hY
   rw [if_neg (by simp)]
   repeat' first | refine s1 ?_ | (refine kR ?_; first | refine F.c (hX) ?_ | refine F.c (hY) ?_) | fail
   (refine kZ ?_; exact F.ret rfl)
  | true =>
   rw [hy] at hY
   rw [if_pos ⟨rfl, rfl⟩]
   obtain ⟨q1, l1, a1⟩ := okX_spec hx
   obtain ⟨_, l2, a2⟩ := okX_spec hy
   have h5 := okQ_spec q1
   have hbd := fun k h1 h2 => D.dotK_bd a1 a2 k h1 h2
   have hab := fun k h => arrK_bd hx hy k h
   have hxv : ∀ k, k < x.length → -100 ≤ x.getD k default ∧ x.getD k default ≤ 100 := fun k hk => allIn_spec a1 hk
   have hyv : ∀ k, k < y.length → -100 ≤ y.getD k default ∧ y.getD k default ≤ 100 := fun k hk => allIn_spec a2 hk
   repeat' first | refine s1 ?_ | (refine kR ?_; first | refine F.c (hX) ?_ | refine F.c (hY) ?_) | fail
   refine AW.freezeP (α := Quiv) (oo := false) q 3 rfl rfl ?_
   refine F.loop (σ := Nat) [7, 8, 20, 21, 22, 23, 24, 25, 26, 27, 28, 29, 30, 31, 32, 33, 34, 35, 36] (fun k => [(7, .i (D.dotK x y k)), (8, .i k)]) (fun _ => []) (fun k => k ≤ x.length) (fun k => x.length - k) 0 ⟨rfl, rfl, trivial⟩ trivial (Nat.zero_le _) ?_
   rintro k k1
   by_cases hk : k < x.length
   ·have e : D.dotK x y (k + 1) = D.dotK x y k + x.getD k default * y.getD k default := rfl
    have b1 := hbd k k1 (by omega)
    have b2 := hxv k hk
    have b3 := hyv k (by omega)
    have m := mul_bd (A := 100) (B := 100) (by omega) b2.2 (by omega) b3.2
    generalize D.dotK x y k = s at e b1 ⊢
    repeat' first | refine s1 ?_ | fail
    refine AW.draw 12 G.mixed (by kernel_rfl) ?_
    refine dP 0 ?_
    refine dP 1 ?_
    refine dP 2 ?_
    refine dP 3 ?_
    refine dL 4 ?_
    refine dP 5 ?_
    refine dP 6 ?_
    refine dP 7 ?_
    refine dL 8 ?_
    refine dP 9 ?_
    refine dP 10 ?_
    refine dP 11 ?_
    refine dN ?_
    rotate_left
    all_goals
     repeat' first | refine s1 ?_ | fail
     exact ⟨k + 1, F.fit ⟨iE (by rw [e]), rfl, trivial⟩ trivial, by omega, by omega⟩
   ·obtain rfl : k = x.length := by omega
    have b1 := hbd x.length (Nat.le_refl _) (by omega)
    have hE : eulF q x y = D.dotK x y x.length - arrK q x y q.fr.length := rfl
    rw [hE]
    generalize D.dotK x y x.length = s at b1 ⊢
    repeat' first | refine s1 ?_ | fail
    refine F.loop (σ := Nat) [7, 9, 37, 38, 39, 40, 41, 42, 43, 44, 45, 46, 47, 48, 49, 50, 51, 52, 53, 54, 55, 56, 57, 58, 59, 60, 61, 62] (fun k => [(7, .i (s - arrK q x y k)), (9, .i k)]) (fun _ => []) (fun k => k ≤ q.fr.length) (fun k => q.fr.length - k) 0 ⟨iE (by simp [arrK]), rfl, trivial⟩ trivial (Nat.zero_le _) ?_
    rintro k k2
    by_cases hk : k < q.fr.length
    ·have e : arrK q x y (k + 1) = arrK q x y k + x.getD (q.fr.getD k default).toNat default * y.getD (q.to.getD k default).toNat default := rfl
     have b4 := hab k k2
     have f : 0 ≤ q.fr.getD k default ∧ q.fr.getD k default < q.n := okQ_fr q1 (by omega)
     have t : 0 ≤ q.to.getD k default ∧ q.to.getD k default < q.n := okQ_to q1 (by omega)
     have b2 := hxv (q.fr.getD k default).toNat (by omega)
     have b3 := hyv (q.to.getD k default).toNat (by omega)
     have m := mul_bd (A := 100) (B := 100) (by omega) b2.2 (by omega) b3.2
     generalize arrK q x y k = z at e b4 ⊢
     repeat' first | refine s1 ?_ | fail
     refine AW.draw 20 G.mixed (by kernel_rfl) ?_
     refine dP 0 ?_
     refine dP 1 ?_
     refine dP 2 ?_
     refine dL 3 ?_
     refine dP 4 ?_
     refine dP 5 ?_
     refine dL 6 ?_
     refine dP 7 ?_
     refine dL 8 ?_
     refine dP 9 ?_
     refine dP 10 ?_
     refine dL 11 ?_
     refine dP 12 ?_
     refine dP 13 ?_
     refine dL 14 ?_
     refine dP 15 ?_
     refine dL 16 ?_
     refine dP 17 ?_
     refine dP 18 ?_
     refine dP 19 ?_
     refine dN ?_
     rotate_left
     all_goals
      repeat' first | refine s1 ?_ | fail
      exact ⟨k + 1, F.fit ⟨iE (by rw [e]; omega), rfl, trivial⟩ trivial, by omega, by omega⟩
    ·obtain rfl : k = q.fr.length := by omega
     repeat' first | refine s1 ?_ | fail
     (refine kZ ?_; exact F.ret rfl)
theorem specTitsForm_a (q : Quiv) (x : List Int) : AC Try.prog 18 [.agg (enc false q), ar false x] [.i (eulP q x x)] := by
 refine AC.go Try.func18 Try.ntmps18 rfl rfl fun w0 hw => ?_; simp [WfL, WfA, E_length, Enc.enc, In64] at hw
 have hE := specEulerForm_a q x x
 generalize eulP q x x = z at hE ⊢
 repeat' first | refine s1 ?_ | (refine kR ?_; first | refine F.c (hE) ?_) | fail
 (refine kZ ?_; exact F.ret rfl)
end Go.Proofs.Ytoilkinagffhiaa.V
namespace Go.Proofs.Ytoilkinagffhiaa.V
open Go.RowKit G D
set_option linter.unusedVariables false
set_option linter.unusedSimpArgs false
set_option maxHeartbeats 400000
def isF (p : Int) : Bool := decide (p = 2) || decide (p = 3) || decide (p = 5)
def isVec (p : Int) (v : List Int) : Bool := isF p && decide (v.length ≤ 64) && allIn 0 (p - 1) v
def isMat (p : Int) (m : Mat) : Bool := decide (0 ≤ m.r ∧ m.r ≤ 8) && decide (0 ≤ m.c ∧ m.c ≤ 8) && decide ((m.m.length : Int) = m.r * m.c) && isVec p m.m
theorem snocP {p : Nat → Prop} {k : Nat} (h : ∀ j, j < k → p j) (hk : p k) : ∀ j, j < k + 1 → p j := fun j hj => by
 rcases Nat.lt_or_ge j k with h1 | h1
 ·exact h j h1
 ·obtain rfl : j = k := by omega
  exact hk
theorem all_no {n k : Nat} {f : Nat → Bool} (hk : k < n) (h : f k = false) : (List.range n).all f = false := by
 rw [← Bool.not_eq_true, List.all_eq_true]
 intro ha
 have := ha k (by simpa using hk)
 rw [h] at this; cases this
theorem all_yes {n : Nat} {f : Nat → Bool} (h : ∀ j, j < n → f j = true) : (List.range n).all f = true := by
 rw [List.all_eq_true]
 exact fun x hx => h x (by simpa using hx)
def sameQ (a b : Quiv) : Bool := decide (a.n = b.n) && decide (a.fr = b.fr) && decide (a.to = b.to)
theorem sum_take {xs : List Int} {k : Nat} (hk : k < xs.length) : (xs.take (k + 1)).sum = (xs.take k).sum + xs.getD k default := by
 rw [List.take_succ_eq_append_getElem hk, List.sum_append]; simp [hk]
theorem sum_bd {xs : List Int} {B : Int} (hB : 0 ≤ B) (h : ∀ j, j < xs.length → -B ≤ xs.getD j default ∧ xs.getD j default ≤ B) : ∀ k, k ≤ xs.length → -(k * B) ≤ (xs.take k).sum ∧ (xs.take k).sum ≤ k * B
 | 0, _ => by simp
 | k + 1, hk => by
  have h1 := sum_bd hB h k (by omega)
  have h2 := h k (by omega)
  rw [sum_take (by omega)]
  have : ((k + 1 : Nat) : Int) * B = k * B + B := by push_cast; rw [Int.add_mul, Int.one_mul]
  omega
theorem sumOf_a (xs : List Int) (hl : xs.length ≤ 1048576) (h : ∀ j, j < xs.length → -1048576 ≤ xs.getD j default ∧ xs.getD j default ≤ 1048576) : AC Try.prog 42 [ar false xs] [.i xs.sum] := by
 refine AC.go Try.func42 Try.ntmps42 rfl rfl fun w0 hw => ?_; simp [WfL, WfA, E_length, Enc.enc, In64] at hw
 repeat' first | refine s1 ?_ | fail
 refine F.loop (σ := Nat) [3, 5, 8, 9, 10, 11, 12, 13, 14, 15] (fun k => [(3, .i (xs.take k).sum), (8, .i k)]) (fun _ => []) (fun k => k ≤ xs.length) (fun k => xs.length - k) 0 ⟨rfl, rfl, trivial⟩ trivial (Nat.zero_le _) ?_
 rintro k h1
 have hb := sum_bd (by decide) h k h1
 by_cases hlt : k < xs.length
 ·have h2 := h k hlt
  have hi : In64 ((xs.take k).sum + xs.getD k default) := by unfold In64; omega
  repeat' first | refine s1 ?_ | fail
  exact ⟨k + 1, F.fit ⟨iE (sum_take hlt).symm, rfl, trivial⟩ trivial, by omega, by omega⟩
 ·obtain rfl : k = xs.length := by omega
  rw [List.take_length] at hb ⊢
  repeat' first | refine s1 ?_ | fail
  exact F.ret rfl
def areDims (q : Quiv) (d : List Int) : Bool := okQ q && decide ((d.length : Int) = q.n) && allIn 0 4 d && decide (d.sum ≤ 8)
end Go.Proofs.Ytoilkinagffhiaa.V
namespace Go.Proofs.Ytoilkinagffhiaa.V
open Go.RowKit G D
set_option linter.unusedVariables false
set_option linter.unusedSimpArgs false
set_option maxHeartbeats 400000
attribute [local irreducible] AW ARg ARA ARet MRet ASil AC AM
theorem clone_a (xs : List Int) (h : xs.length ≤ 1048576) : AC Try.prog 44 [ar false xs] [.dt true 1 (E true xs)] := by
 refine AC.go Try.func44 Try.ntmps44 rfl rfl fun w0 hw => ?_; simp [WfL, WfA, E_length, Enc.enc, In64] at hw
 repeat' first | refine s1 ?_ | refine q1 ?_ | fail
 refine F.eqD (xs := E false xs) rfl rfl rfl fun b hb => ?_
 rw [E_length] at hb
 cases b with
 | true =>
  obtain rfl := List.eq_nil_of_length_eq_zero (hb rfl)
  repeat' first | refine s1 ?_ | refine q1 ?_ | fail
  exact F.ret rfl
 | false =>
  repeat' first | refine s1 ?_ | refine q1 ?_ | (refine kR ?_; first | refine F.aLN (α := Int) ?_) | fail
  exact F.ret rfl
theorem hasVertex_a (q : Quiv) (v : Int) (h : okQ q = true) : AC Try.prog 91 [.agg (enc false q), .i v] [.b (decide (0 ≤ v ∧ v ≤ q.n - 1))] := by
 refine AC.go Try.func91 Try.ntmps91 rfl rfl fun w0 hw => ?_; simp [WfL, WfA, E_length, Enc.enc, In64] at hw
 have h5 := okQ_spec h
 repeat' first | refine s1 ?_ | refine q1 ?_ | (refine kR ?_; first | (refine jCf 72 ?_; refine F.c (within_a _ _ _) ?_)) | fail
 exact F.ret rfl
end Go.Proofs.Ytoilkinagffhiaa.V
namespace Go.Proofs.Ytoilkinagffhiaa.V
open Go.RowKit G D
set_option linter.unusedVariables false
set_option linter.unusedSimpArgs false
set_option maxHeartbeats 400000
set_option maxRecDepth 4000
attribute [local irreducible] AW ARg ARA ARet MRet ASil AC AM
theorem IndexFuncP_a (xs : List Pth) (f : Nat) [IsFn Try.prog f] (cs : List AV) (p : Pth → Bool) (hcs : ∀ hp, SnapL hp cs cs) (hf : ∀ x ∈ xs, AC Try.prog f (.agg (enc false x) :: cs) [.b (p x)]) :
  AC Try.prog 108 [ar false xs, .fn f cs] [.i (idxFrom p xs 0)] := by
 refine AC.go Try.func108 Try.ntmps108 rfl rfl fun w0 hw => ?_; simp [WfL, WfA, E_length, Enc.enc, In64] at hw
 repeat' first | refine s1 ?_ | refine q1 ?_ | (refine s2 ?_ ?_ <;> intro hc <;> (try simp only [decide_eq_true_eq, decide_eq_false_iff_not, Bool.not_eq_true', Bool.not_eq_false'] at hc)) | fail
 refine F.loop (σ := Nat) [4, 5, 8, 9, 10, 11, 12, 13, 14, 15, 16, 17, 18] (fun k => [(8, .i k)]) (fun _ => []) (fun k => k ≤ xs.length ∧ idxFrom p xs 0 = idxFrom p (xs.drop k) k) (fun k => xs.length - k) 0 ⟨rfl, trivial⟩ trivial ⟨Nat.zero_le _, rfl⟩ ?_
 rintro k ⟨hk, hi⟩
 by_cases hlt : k < xs.length
 ·rw [idxFrom_drop p xs hlt] at hi
  have h1 := hf (xs.getD k default) (gm hlt)
  cases hpx : p (xs.getD k default) with
  | true =>
   rw [hpx] at hi h1
   repeat' first | refine s1 ?_ | refine q1 ?_ | (refine kR ?_; first | refine F.cv (h1) ?_) | (refine s2 ?_ ?_ <;> intro hc <;> (try simp only [decide_eq_true_eq, decide_eq_false_iff_not, Bool.not_eq_true', Bool.not_eq_false'] at hc)) | fail
   refine F.ret ?_
   simp [hi]
  | false =>
   rw [hpx] at hi h1
   repeat' first | refine s1 ?_ | refine q1 ?_ | (refine kR ?_; first | refine F.cv (h1) ?_) | (refine s2 ?_ ?_ <;> intro hc <;> (try simp only [decide_eq_true_eq, decide_eq_false_iff_not, Bool.not_eq_true', Bool.not_eq_false'] at hc)) | fail
   exact ⟨k + 1, F.fit ⟨rfl, trivial⟩ trivial, ⟨by omega, hi⟩, by omega⟩
 ·have e : k = xs.length := by omega
  subst e
  repeat' first | refine s1 ?_ | refine q1 ?_ | (refine s2 ?_ ?_ <;> intro hc <;> (try simp only [decide_eq_true_eq, decide_eq_false_iff_not, Bool.not_eq_true', Bool.not_eq_false'] at hc)) | fail
  refine F.ret ?_
  simp [hi, idxFrom]
end Go.Proofs.Ytoilkinagffhiaa.V
