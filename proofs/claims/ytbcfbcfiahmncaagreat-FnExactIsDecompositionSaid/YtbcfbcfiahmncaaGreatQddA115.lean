/- Texts that the proof needs: A115. -/
import Derived.Test.YtbcfbcfiahmncaaGreatQddA114
import Derived.Test.YtbcfbcfiahmncaaGreatQddA111
namespace Go.Proofs.YtbcfbcfiahmncaaGreat.V
open Go.RowKit G D
set_option linter.unusedVariables false
set_option linter.unusedSimpArgs false
set_option maxHeartbeats 4000000
set_option maxRecDepth 4000
attribute [local irreducible] AW ARg ARA ARet MRet ASil AC AM ARI
def sumK (l : List Rep) : Nat → Rep
 | 0 => l.getD 0 default
 | k + 1 => (sumP (sumK l k) (l.getD (k + 1) default)).1
def sumB (l : List Rep) (k : Nat) : Bool := (sumP (sumK l k) (l.getD (k + 1) default)).2
def sumOk (l : List Rep) : Bool := decide (1 ≤ (l.length : Int) ∧ (l.length : Int) ≤ 8) && (isRep (l.getD 0 default) && (List.range (l.length - 1)).all (sumB l))
def sumL (l : List Rep) : Rep × Bool := if sumOk l = true then (sumK l (l.length - 1), true) else (noR, false)
theorem sumL_len {l : List Rep} (h : ¬(1 ≤ (l.length : Int) ∧ (l.length : Int) ≤ 8)) : sumL l = (noR, false) := by
 unfold sumL sumOk
 rw [decide_eq_false h, Bool.false_and, if_neg (by simp)]
theorem sumL_rep {l : List Rep} (h : isRep (l.getD 0 default) = false) : sumL l = (noR, false) := by
 unfold sumL sumOk
 rw [h, Bool.false_and, Bool.and_false, if_neg (by simp)]
theorem sumL_no {l : List Rep} {k : Nat} (hk : k < l.length - 1) (h : sumB l k = false) : sumL l = (noR, false) := by
 unfold sumL sumOk
 have : (List.range (l.length - 1)).all (sumB l) = false := by
  rw [List.all_eq_false]
  exact ⟨k, by simpa using hk, by simp [h]⟩
 rw [this, Bool.and_false, Bool.and_false, if_neg (by simp)]
theorem sumL_yes {l : List Rep} (h1 : 1 ≤ (l.length : Int) ∧ (l.length : Int) ≤ 8) (h2 : isRep (l.getD 0 default) = true) (h3 : ∀ k, k < l.length - 1 → sumB l k = true) : sumL l = (sumK l (l.length - 1), true) := by
 unfold sumL sumOk
 have : (List.range (l.length - 1)).all (sumB l) = true := by
  rw [List.all_eq_true]
  exact fun k hk => h3 k (by simpa using hk)
 rw [this, h2, decide_eq_true h1]
 rfl
theorem implSumOf_a (l : List Rep) : AC Tryz.prog 35 [ar false l] [.agg (enc true (sumL l).1), .b (sumL l).2] := by
 refine AC.go Tryz.func35 Tryz.ntmps35 rfl rfl fun w0 hw => ?_; simp [WfL, WfA, E_length, Enc.enc, In64] at hw
 have hW := within_a (l.length : Int) 1 8
 have hR := implIsRep_a (l.getD 0 default)
 by_cases h1 : 1 ≤ (l.length : Int) ∧ (l.length : Int) ≤ 8
 ·rw [decide_eq_true h1] at hW
  cases h2 : isRep (l.getD 0 default) with
  | false =>
   rw [h2] at hR
   rw [sumL_rep h2]
   repeat' first | refine s1 ?_ | (refine kR ?_; first | refine F.c (hW) ?_ | refine F.c (hR) ?_) | fail
   (refine kZ ?_; exact F.ret rfl)
  | true =>
   rw [h2] at hR
   have hC := repClone_a (l.getD 0 default) h2
   have hD := fun k => implDirectSum_a (sumK l k) (l.getD (k + 1) default)
   have hno := fun k (hk : k < l.length - 1) (hb : sumB l k = false) => sumL_no hk hb
   have hyes := fun h3 => sumL_yes h1 h2 h3
   rw [show l.getD 0 default = sumK l 0 from rfl] at hC
   have hstep : ∀ k, (sumP (sumK l k) (l.getD (k + 1) default)) = (sumK l (k + 1), sumB l k) := fun k => rfl
   repeat' first | refine s1 ?_ | (refine kR ?_; first | refine F.c (hW) ?_ | refine F.c (hR) ?_ | refine F.c (hC) ?_ | refine F.sil (A.slcD (α := Rep) (lo := 1) rfl rfl rfl (by omega) (by omega)) rfl rfl ?_) | fail
   refine AW.putV 4 2 rfl rfl rfl rfl (E_length _ _) (E_pure _ _) rfl ?_
   refine AW.putV 4 3 rfl rfl rfl rfl (E_length _ _) (E_pure _ _) rfl ?_
   refine AW.putV 4 4 rfl rfl rfl rfl (E_length _ _) (E_pure _ _) rfl ?_
   refine AW.putV 4 5 rfl rfl rfl rfl (E_length _ _) (E_pure _ _) rfl ?_
   have hdt : (l.take l.length).drop 1 = l.drop 1 := by rw [List.take_length]
   have hdl : (l.drop 1).length = l.length - 1 := List.length_drop
   have hel : ∀ k, (l.drop 1).getD k default = l.getD (k + 1) default := fun k => by simp [Nat.add_comm]
   rw [hdt]
   generalize l.drop 1 = TL at hdl hel ⊢
   refine F.loop (σ := Nat) [3, 5, 7, 27, 28, 29, 30, 31, 32, 33, 34, 35, 36, 37, 38, 39, 40] (fun k => [(5, .b true), (27, .i k)]) (fun k => [(5, .live false 6 (E true [sumK l k]))]) (fun k => k ≤ l.length - 1 ∧ ∀ j, j < k → sumB l j = true) (fun k => l.length - 1 - k) 0 ⟨rfl, rfl, trivial⟩ ⟨rfl, trivial⟩ ⟨Nat.zero_le _, fun j hj => absurd hj (Nat.not_lt_zero _)⟩ ?_
   rintro k ⟨k1, k2⟩
   have hDk := hD k
   rw [hstep] at hDk
   rw [← hel k] at hDk
   by_cases hk : k < l.length - 1
   ·cases hb : sumB l k with
    | false =>
     rw [hb] at hDk
     rw [hno k hk hb]
     refine AW.takeV 5 2 rfl rfl (E_length _ _) rfl ?_
     refine AW.takeV 5 3 rfl rfl (E_length _ _) rfl ?_
     refine AW.takeV 5 4 rfl rfl (E_length _ _) rfl ?_
     refine AW.takeV 5 5 rfl rfl (E_length _ _) rfl ?_
     generalize sumK l (k + 1) = Y at hDk
     repeat' first | refine s1 ?_ | (refine kR ?_; first | refine F.c (hDk) ?_) | fail
     (refine kZ ?_; exact F.ret rfl)
    | true =>
     rw [hb] at hDk
     refine AW.takeV 5 2 rfl rfl (E_length _ _) rfl ?_
     refine AW.takeV 5 3 rfl rfl (E_length _ _) rfl ?_
     refine AW.takeV 5 4 rfl rfl (E_length _ _) rfl ?_
     refine AW.takeV 5 5 rfl rfl (E_length _ _) rfl ?_
     generalize hY : sumK l (k + 1) = Y at hDk
     repeat' first | refine AW.putV (o2 := 11) 4 2 rfl rfl rfl rfl (E_length _ _) (E_pure _ _) rfl ?_ | refine AW.putV (o2 := 12) 4 3 rfl rfl rfl rfl (E_length _ _) (E_pure _ _) rfl ?_ | refine AW.putV (o2 := 13) 4 4 rfl rfl rfl rfl (E_length _ _) (E_pure _ _) rfl ?_ | refine AW.putV (o2 := 14) 4 5 rfl rfl rfl rfl (E_length _ _) (E_pure _ _) rfl ?_ | refine s1 ?_ | (refine kR ?_; first | refine F.c (hDk) ?_) | fail
     exact ⟨k + 1, F.fit ⟨rfl, rfl, trivial⟩ ⟨obE (by rw [hY]; rfl), trivial⟩, ⟨by omega, fun j hj => by rcases Nat.lt_succ_iff_lt_or_eq.1 hj with h | h; exact k2 j h; rw [h]; exact hb⟩, by omega⟩
   ·obtain rfl : k = l.length - 1 := by omega
    rw [hyes k2]
    refine AW.takeV 5 2 rfl rfl (E_length _ _) rfl ?_
    refine AW.takeV 5 3 rfl rfl (E_length _ _) rfl ?_
    refine AW.takeV 5 4 rfl rfl (E_length _ _) rfl ?_
    refine AW.takeV 5 5 rfl rfl (E_length _ _) rfl ?_
    repeat' first | refine s1 ?_ | fail
    (refine kZ ?_; exact F.ret rfl)
 ·rw [decide_eq_false h1] at hW
  rw [sumL_len h1]
  repeat' first | refine s1 ?_ | (refine kR ?_; first | refine F.c (hW) ?_) | fail
  (refine kZ ?_; exact F.ret rfl)
theorem specSumOf_a (l : List Rep) : AC Tryz.prog 29 [ar false l] [.agg (enc true (sumL l).1), .b (sumL l).2] := by
 refine AC.go Tryz.func29 Tryz.ntmps29 rfl rfl fun w0 hw => ?_; simp [WfL, WfA, E_length, Enc.enc, In64] at hw
 have hW := l1In_a (l.length : Int) 1 8
 have hR := specIsRep_a (l.getD 0 default)
 by_cases h1 : 1 ≤ (l.length : Int) ∧ (l.length : Int) ≤ 8
 ·rw [decide_eq_true h1] at hW
  cases h2 : isRep (l.getD 0 default) with
  | false =>
   rw [h2] at hR
   rw [sumL_rep h2]
   repeat' first | refine s1 ?_ | (refine kR ?_; first | refine F.c (hW) ?_ | refine F.c (hR) ?_) | fail
   (refine kZ ?_; exact F.ret rfl)
  | true =>
   rw [h2] at hR
   have hC := l8Copy_a (l.getD 0 default) h2
   have hD := fun k => specDirectSum_a (sumK l k) (l.getD (k + 1) default)
   have hno := fun k (hk : k < l.length - 1) (hb : sumB l k = false) => sumL_no hk hb
   have hyes := fun h3 => sumL_yes h1 h2 h3
   rw [show l.getD 0 default = sumK l 0 from rfl] at hC
   have hstep : ∀ k, (sumP (sumK l k) (l.getD (k + 1) default)) = (sumK l (k + 1), sumB l k) := fun k => rfl
   repeat' first | refine s1 ?_ | (refine kR ?_; first | refine F.c (hW) ?_ | refine F.c (hR) ?_ | refine F.c (hC) ?_) | fail
   refine AW.putV 4 2 rfl rfl rfl rfl (E_length _ _) (E_pure _ _) rfl ?_
   refine AW.putV 4 3 rfl rfl rfl rfl (E_length _ _) (E_pure _ _) rfl ?_
   refine AW.putV 4 4 rfl rfl rfl rfl (E_length _ _) (E_pure _ _) rfl ?_
   refine AW.putV 4 5 rfl rfl rfl rfl (E_length _ _) (E_pure _ _) rfl ?_
   refine F.loop (σ := Nat) [3, 5, 6, 7, 24, 25, 26, 27, 28, 29, 30, 31, 32, 33, 34, 35, 36, 37, 38, 39, 40, 41, 42] (fun k => [(5, .i ((k + 1 : Nat) : Int))]) (fun k => [(5, .live false 6 (E true [sumK l k]))]) (fun k => k ≤ l.length - 1 ∧ ∀ j, j < k → sumB l j = true) (fun k => l.length - 1 - k) 0 ⟨rfl, trivial⟩ ⟨rfl, trivial⟩ ⟨Nat.zero_le _, fun j hj => absurd hj (Nat.not_lt_zero _)⟩ ?_
   rintro k ⟨k1, k2⟩
   have hDk := hD k
   rw [hstep] at hDk
   by_cases hk : k < l.length - 1
   ·cases hb : sumB l k with
    | false =>
     rw [hb] at hDk
     rw [hno k hk hb]
     refine AW.takeV 5 2 rfl rfl (E_length _ _) rfl ?_
     refine AW.takeV 5 3 rfl rfl (E_length _ _) rfl ?_
     refine AW.takeV 5 4 rfl rfl (E_length _ _) rfl ?_
     refine AW.takeV 5 5 rfl rfl (E_length _ _) rfl ?_
     generalize sumK l (k + 1) = Y at hDk
     repeat' first | refine s1 ?_ | fail
     refine AW.draw 10 G.mixed (by kernel_rfl) ?_
     refine dL 0 ?_
     refine dP 1 ?_
     refine dP 2 ?_
     refine dP 3 ?_
     refine dL 4 ?_
     refine ARA.any [5, 9] (by kernel_rfl) (by simp) ?_
     intro k hk
     simp only [List.mem_cons, List.not_mem_nil, or_false] at hk
     rcases hk with rfl | rfl
     refine ⟨_, true, rfl, rfl, ?_⟩
     first | refine s1 ?_ | refine F.c (hDk) ?_
     refine tN ?_
     refine dP 6 ?_
     refine dP 7 ?_
     refine dP 8 ?_
     refine dO 9 true ?_
     refine s1 ?_
     refine tN ?_
     refine dO 10 false ?_
     refine s1 ?_
     refine tN ?_
     refine dP 11 ?_
     refine dN ?_
     rotate_left
     refine ⟨_, true, rfl, rfl, ?_⟩
     refine s1 ?_
     refine tN ?_
     refine dO 5 true ?_
     first | refine s1 ?_ | refine F.c (hDk) ?_
     refine tN ?_
     refine dP 6 ?_
     refine dP 7 ?_
     refine dP 8 ?_
     refine dO 10 false ?_
     refine s1 ?_
     refine tN ?_
     refine dP 11 ?_
     refine dN ?_
     rotate_left
     all_goals
      repeat' first | refine s1 ?_ | fail
      (refine kZ ?_; exact F.ret rfl)
    | true =>
     rw [hb] at hDk
     refine AW.takeV 5 2 rfl rfl (E_length _ _) rfl ?_
     refine AW.takeV 5 3 rfl rfl (E_length _ _) rfl ?_
     refine AW.takeV 5 4 rfl rfl (E_length _ _) rfl ?_
     refine AW.takeV 5 5 rfl rfl (E_length _ _) rfl ?_
     generalize hY : sumK l (k + 1) = Y at hDk
     repeat' first | refine s1 ?_ | fail
     refine AW.draw 10 G.mixed (by kernel_rfl) ?_
     refine dL 0 ?_
     refine dP 1 ?_
     refine dP 2 ?_
     refine dP 3 ?_
     refine dL 4 ?_
     refine ARA.any [5, 9] (by kernel_rfl) (by simp) ?_
     intro k hk
     simp only [List.mem_cons, List.not_mem_nil, or_false] at hk
     rcases hk with rfl | rfl
     refine ⟨_, true, rfl, rfl, ?_⟩
     first | refine s1 ?_ | refine F.c (hDk) ?_
     refine tN ?_
     refine dP 6 ?_
     refine dP 7 ?_
     refine dP 8 ?_
     refine dO 9 true ?_
     refine s1 ?_
     refine tN ?_
     refine dO 10 false ?_
     refine s1 ?_
     refine tN ?_
     refine dP 11 ?_
     refine dN ?_
     rotate_left
     refine ⟨_, true, rfl, rfl, ?_⟩
     refine s1 ?_
     refine tN ?_
     refine dO 5 true ?_
     first | refine s1 ?_ | refine F.c (hDk) ?_
     refine tN ?_
     refine dP 6 ?_
     refine dP 7 ?_
     refine dP 8 ?_
     refine dO 10 false ?_
     refine s1 ?_
     refine tN ?_
     refine dP 11 ?_
     refine dN ?_
     rotate_left
     all_goals
      repeat' first | refine AW.putV (o2 := 11) 4 2 rfl rfl rfl rfl (E_length _ _) (E_pure _ _) rfl ?_ | refine AW.putV (o2 := 12) 4 3 rfl rfl rfl rfl (E_length _ _) (E_pure _ _) rfl ?_ | refine AW.putV (o2 := 13) 4 4 rfl rfl rfl rfl (E_length _ _) (E_pure _ _) rfl ?_ | refine AW.putV (o2 := 14) 4 5 rfl rfl rfl rfl (E_length _ _) (E_pure _ _) rfl ?_ | refine AW.putV (o2 := 10) 4 2 rfl rfl rfl rfl (E_length _ _) (E_pure _ _) rfl ?_ | refine AW.putV (o2 := 11) 4 3 rfl rfl rfl rfl (E_length _ _) (E_pure _ _) rfl ?_ | refine AW.putV (o2 := 12) 4 4 rfl rfl rfl rfl (E_length _ _) (E_pure _ _) rfl ?_ | refine AW.putV (o2 := 13) 4 5 rfl rfl rfl rfl (E_length _ _) (E_pure _ _) rfl ?_ | refine s1 ?_ | fail
      exact ⟨k + 1, F.fit ⟨rfl, trivial⟩ ⟨obE (by rw [hY]; rfl), trivial⟩, ⟨by omega, fun j hj => by rcases Nat.lt_succ_iff_lt_or_eq.1 hj with h | h; exact k2 j h; rw [h]; exact hb⟩, by omega⟩
   ·obtain rfl : k = l.length - 1 := by omega
    rw [hyes k2]
    refine AW.takeV 5 2 rfl rfl (E_length _ _) rfl ?_
    refine AW.takeV 5 3 rfl rfl (E_length _ _) rfl ?_
    refine AW.takeV 5 4 rfl rfl (E_length _ _) rfl ?_
    refine AW.takeV 5 5 rfl rfl (E_length _ _) rfl ?_
    repeat' first | refine s1 ?_ | fail
    (refine kZ ?_; exact F.ret rfl)
 ·rw [decide_eq_false h1] at hW
  rw [sumL_len h1]
  repeat' first | refine s1 ?_ | (refine kR ?_; first | refine F.c (hW) ?_) | fail
  (refine kZ ?_; exact F.ret rfl)
end Go.Proofs.YtbcfbcfiahmncaaGreat.V
