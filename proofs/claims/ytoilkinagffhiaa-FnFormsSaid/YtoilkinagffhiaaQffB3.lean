/- Texts that the proof needs: A166, A12, A17, A13, A24, A25, B3. -/
import Derived.Test.YtoilkinagffhiaaQffA162
namespace Go.Proofs.Ytoilkinagffhiaa.V
open Go.RowKit G D
set_option linter.unusedVariables false
set_option linter.unusedSimpArgs false
set_option maxHeartbeats 4000000
set_option maxRecDepth 4000
attribute [local irreducible] AW ARg ARA ARet MRet ASil AC AM AMx AD
theorem areNumbers_a (q : Quiv) (x : List Int) : AC Try.prog 60 [.agg (enc false q), ar false x] [.b (okX q x)] := by
 refine AC.go Try.func60 Try.ntmps60 rfl rfl fun w0 hw => ?_; simp [WfL, WfA, E_length, Enc.enc, In64] at hw
 have hQ := implIsQuiver_a q
 have hW := allWithin_a x (-100) 100
 unfold okX
 cases hq : okQ q with
 | false =>
  rw [hq] at hQ
  repeat' first | refine s1 ?_ | (refine kR ?_; first | refine F.c (hQ) ?_) | fail
  (refine kZ ?_; exact F.ret rfl)
 | true =>
  rw [hq] at hQ
  by_cases hn : (x.length : Int) = q.n
  ·rw [decide_eq_true hn]
   cases ha : allIn (-100) 100 x <;> rw [ha] at hW <;>
   ·repeat' first | refine s1 ?_ | (refine kR ?_; first | refine F.c (hQ) ?_ | refine F.c (hW) ?_) | fail
    (refine kZ ?_; exact F.ret rfl)
  ·rw [decide_eq_false hn]
   repeat' first | refine s1 ?_ | (refine kR ?_; first | refine F.c (hQ) ?_) | fail
   (refine kZ ?_; exact F.ret rfl)
theorem implEulerForm_a (q : Quiv) (x y : List Int) : AC Try.prog 31 [.agg (enc false q), ar false x, ar false y] [.i (eulP q x y)] := by
 refine AC.go Try.func31 Try.ntmps31 rfl rfl fun w0 hw => ?_; simp [WfL, WfA, E_length, Enc.enc, In64] at hw
 have hX := areNumbers_a q x
 have hY := areNumbers_a q y
 unfold eulP
 cases hx : okX q x with
 | false =>
  rw [hx] at hX
  rw [if_neg (by simp)]
  repeat' first | refine s1 ?_ | (refine kR ?_; first | refine F.c (hX) ?_) | fail
  (refine kZ ?_; exact F.ret rfl)
 | true =>
  rw [hx] at hX
  cases hy : okX q y with
  | false =>
   rw [hy] at hY
   rw [if_neg (by simp)]
   repeat' first | refine s1 ?_ | (refine kR ?_; first | refine F.c (hX) ?_ | refine F.c (hY) ?_) | fail
   (refine kZ ?_; exact F.ret rfl)
  | true =>
   rw [hy] at hY
   rw [if_pos ⟨rfl, rfl⟩]
   have hE := euler_a q x y hx hy
   generalize eulF q x y = z at hE ⊢
   repeat' first | refine s1 ?_ | (refine kR ?_; first | refine F.c (hX) ?_ | refine F.c (hY) ?_ | refine F.c (hE) ?_) | fail
   (refine kZ ?_; exact F.ret rfl)
theorem implTitsForm_a (q : Quiv) (x : List Int) : AC Try.prog 16 [.agg (enc false q), ar false x] [.i (eulP q x x)] := by
 refine AC.go Try.func16 Try.ntmps16 rfl rfl fun w0 hw => ?_; simp [WfL, WfA, E_length, Enc.enc, In64] at hw
 have hE := implEulerForm_a q x x
 generalize eulP q x x = z at hE ⊢
 repeat' first | refine s1 ?_ | (refine kR ?_; first | refine F.c (hE) ?_) | fail
 (refine kZ ?_; exact F.ret rfl)
def wordK (k : Int) : ByteArray := if k = 1 then ⟨#[102, 105, 110, 105, 116, 101]⟩ else if k = 2 then ⟨#[116, 97, 109, 101]⟩ else if k = 3 then ⟨#[119, 105, 108, 100]⟩ else ⟨#[]⟩
theorem implKindWord_a (k : Int) : AC Try.prog 35 [.i k] [strA (wordK k)] := by
 refine AC.go Try.func35 Try.ntmps35 rfl rfl fun w0 hw => ?_; simp [WfL, WfA, E_length, Enc.enc, In64] at hw
 unfold wordK
 by_cases h1 : k = 1
 ·rw [if_pos h1]
  repeat' first | refine s1 ?_ | fail
  (refine kZ ?_; exact F.ret rfl)
 ·rw [if_neg h1]
  by_cases h2 : k = 2
  ·rw [if_pos h2]
   repeat' first | refine s1 ?_ | fail
   (refine kZ ?_; exact F.ret rfl)
  ·rw [if_neg h2]
   by_cases h3 : k = 3
   ·rw [if_pos h3]
    repeat' first | refine s1 ?_ | fail
    (refine kZ ?_; exact F.ret rfl)
   ·rw [if_neg h3]
    repeat' first | refine s1 ?_ | fail
    (refine kZ ?_; exact F.ret rfl)
theorem specKindWord_a (k : Int) : AC Try.prog 36 [.i k] [strA (wordK k)] := by
 refine AC.go Try.func36 Try.ntmps36 rfl rfl fun w0 hw => ?_; simp [WfL, WfA, E_length, Enc.enc, In64] at hw
 have hI := l1In_a k 1 3
 unfold wordK
 by_cases h : 1 ≤ k ∧ k ≤ 3
 ·rw [decide_eq_true h] at hI
  have h3 : k = 1 ∨ k = 2 ∨ k = 3 := by omega
  rcases h3 with rfl | rfl | rfl <;>
  ·repeat' first | refine s1 ?_ | (refine kR ?_; first | refine F.c (hI) ?_ | refine F.litN (xs := V.E true ([⟨#[102, 105, 110, 105, 116, 101]⟩, ⟨#[116, 97, 109, 101]⟩, ⟨#[119, 105, 108, 100]⟩] : List ByteArray)) rfl rfl rfl rfl rfl rfl rfl rfl ?_) | fail
   (refine kZ ?_; exact F.ret rfl)
 ·rw [decide_eq_false h] at hI
  rw [if_neg (by omega), if_neg (by omega), if_neg (by omega)]
  repeat' first | refine s1 ?_ | (refine kR ?_; first | refine F.c (hI) ?_) | fail
  (refine kZ ?_; exact F.ret rfl)
theorem big_a (b : List UInt8) : AC Try.prog 14 [ar false b] [.b (decide ((1048576 : Int) < b.length))] := by
 refine AC.go Try.func14 Try.ntmps14 rfl rfl fun w0 hw => ?_; simp [WfL, WfA, E_length, Enc.enc, In64] at hw
 repeat' first | refine s1 ?_ | fail
 (refine kZ ?_; exact F.ret rfl)
theorem sameInts_a (xs ys : List Int) : AC Try.prog 25 [ar false xs, ar false ys] [.b (decide (xs = ys))] := by
 refine AC.go Try.func25 Try.ntmps25 rfl rfl fun w0 hw => ?_; simp [WfL, WfA, E_length, Enc.enc, In64] at hw
 by_cases hl : xs.length = ys.length
 ·repeat' first | refine s1 ?_ | fail
  refine F.loop (σ := Nat) [4, 5, 11, 12, 13, 14, 15, 16, 17, 18, 19, 20, 21, 22, 23, 24, 25] (fun k => [(5, .i k)]) (fun _ => []) (fun k => k ≤ xs.length ∧ ∀ j, j < k → xs.getD j default = ys.getD j default) (fun k => xs.length - k) 0 ⟨rfl, trivial⟩ trivial ⟨Nat.zero_le _, fun j hj => absurd hj (Nat.not_lt_zero _)⟩ ?_
  rintro k ⟨k1, k2⟩
  by_cases hk : k < xs.length
  ·by_cases he : xs.getD k default = ys.getD k default
   ·repeat' first | refine s1 ?_ | fail
    refine AW.draw 9 G.mixed (by kernel_rfl) ?_
    refine dP 0 ?_
    refine dP 1 ?_
    refine dP 2 ?_
    refine dL 3 ?_
    refine dP 4 ?_
    refine dP 5 ?_
    refine dP 6 ?_
    refine dL 7 ?_
    refine dP 8 ?_
    refine dN ?_
    rotate_left
    all_goals
     repeat' first | refine s1 ?_ | fail
     exact ⟨k + 1, F.fit ⟨rfl, trivial⟩ trivial, ⟨by omega, fun j hj => by rcases Nat.lt_succ_iff_lt_or_eq.1 hj with h | h; exact k2 j h; rw [h]; exact he⟩, by omega⟩
   ·have e : decide (xs = ys) = false := decide_eq_false fun h => he (by rw [h])
    rw [e]
    repeat' first | refine s1 ?_ | fail
    refine AW.draw 9 G.mixed (by kernel_rfl) ?_
    refine dP 0 ?_
    refine dP 1 ?_
    refine dP 2 ?_
    refine dL 3 ?_
    refine dP 4 ?_
    refine dP 5 ?_
    refine dP 6 ?_
    refine dL 7 ?_
    refine dP 8 ?_
    refine dN ?_
    rotate_left
    all_goals
     repeat' first | refine s1 ?_ | fail
     (refine kZ ?_; exact F.ret rfl)
  ·have e : decide (xs = ys) = true := decide_eq_true (List.ext_getElem hl fun j h1 h2 => by have := k2 j (by omega); simpa [h1, h2] using this)
   rw [e]
   repeat' first | refine s1 ?_ | fail
   (refine kZ ?_; exact F.ret rfl)
 ·have e : decide (xs = ys) = false := decide_eq_false fun h => hl (by rw [h])
  rw [e]
  repeat' first | refine s1 ?_ | fail
  (refine kZ ?_; exact F.ret rfl)
theorem sameLists_a (xs ys : List (List Int)) : AC Try.prog 19 [ar false xs, ar false ys] [.b (decide (xs = ys))] := by
 refine AC.go Try.func19 Try.ntmps19 rfl rfl fun w0 hw => ?_; simp [WfL, WfA, E_length, Enc.enc, In64] at hw
 have hE := fun k => sameInts_a (xs.getD k default) (ys.getD k default)
 by_cases hl : xs.length = ys.length
 ·repeat' first | refine s1 ?_ | fail
  refine F.loop (σ := Nat) [4, 5, 11, 12, 13, 14, 15, 16, 17, 18, 19, 20, 21, 22, 23, 24, 25, 26] (fun k => [(5, .i k)]) (fun _ => []) (fun k => k ≤ xs.length ∧ ∀ j, j < k → xs.getD j default = ys.getD j default) (fun k => xs.length - k) 0 ⟨rfl, trivial⟩ trivial ⟨Nat.zero_le _, fun j hj => absurd hj (Nat.not_lt_zero _)⟩ ?_
  rintro k ⟨k1, k2⟩
  have hEk := hE k
  by_cases hk : k < xs.length
  ·by_cases he : xs.getD k default = ys.getD k default
   ·rw [decide_eq_true he] at hEk
    repeat' first | refine s1 ?_ | fail
    refine AW.draw 10 G.mixed (by kernel_rfl) ?_
    refine dP 0 ?_
    refine dP 1 ?_
    refine dP 2 ?_
    refine dL 3 ?_
    refine dP 4 ?_
    refine dP 5 ?_
    refine dP 6 ?_
    refine dL 7 ?_
    refine dO 8 true ?_
    first | refine s1 ?_ | refine F.c (hEk) ?_
    refine tN ?_
    refine dP 9 ?_
    refine dN ?_
    rotate_left
    all_goals
     repeat' first | refine s1 ?_ | fail
     exact ⟨k + 1, F.fit ⟨rfl, trivial⟩ trivial, ⟨by omega, fun j hj => by rcases Nat.lt_succ_iff_lt_or_eq.1 hj with h | h; exact k2 j h; rw [h]; exact he⟩, by omega⟩
   ·rw [decide_eq_false he] at hEk
    have e : decide (xs = ys) = false := decide_eq_false fun h => he (by rw [h])
    rw [e]
    repeat' first | refine s1 ?_ | fail
    refine AW.draw 10 G.mixed (by kernel_rfl) ?_
    refine dP 0 ?_
    refine dP 1 ?_
    refine dP 2 ?_
    refine dL 3 ?_
    refine dP 4 ?_
    refine dP 5 ?_
    refine dP 6 ?_
    refine dL 7 ?_
    refine dO 8 true ?_
    first | refine s1 ?_ | refine F.c (hEk) ?_
    refine tN ?_
    refine dP 9 ?_
    refine dN ?_
    rotate_left
    all_goals
     repeat' first | refine s1 ?_ | fail
     (refine kZ ?_; exact F.ret rfl)
  ·have e : decide (xs = ys) = true := decide_eq_true (List.ext_getElem hl fun j h1 h2 => by have := k2 j (by omega); simpa [h1, h2] using this)
   rw [e]
   repeat' first | refine s1 ?_ | fail
   (refine kZ ?_; exact F.ret rfl)
 ·have e : decide (xs = ys) = false := decide_eq_false fun h => hl (by rw [h])
  rw [e]
  repeat' first | refine s1 ?_ | fail
  (refine kZ ?_; exact F.ret rfl)
theorem total_a (xs : List Int) (hl : xs.length ≤ 1000) (h : ∀ j, j < xs.length → -1000 ≤ xs.getD j default ∧ xs.getD j default ≤ 1000) : AC Try.prog 24 [ar false xs] [.i xs.sum] := by
 refine AC.go Try.func24 Try.ntmps24 rfl rfl fun w0 hw => ?_; simp [WfL, WfA, E_length, Enc.enc, In64] at hw
 have hs : ∀ k, k ≤ xs.length → -(1000 * (k : Int)) ≤ (xs.take k).sum ∧ (xs.take k).sum ≤ 1000 * (k : Int) := fun k => by
  induction k with
  | zero => intro _; simp
  | succ k ih =>
   intro hk
   have h1 := ih (by omega)
   have h2 := h k (by omega)
   rw [List.take_add_one, List.sum_append]
   rw [show xs[k]?.toList = [xs.getD k default] by simp [List.getElem?_eq_getElem (show k < xs.length by omega)]]
   simp only [List.sum_cons, List.sum_nil]
   omega
 have hst : ∀ k, k < xs.length → (xs.take (k + 1)).sum = (xs.take k).sum + xs.getD k default := fun k hk => by
  rw [List.take_add_one, List.sum_append]
  rw [show xs[k]?.toList = [xs.getD k default] by simp [List.getElem?_eq_getElem hk]]
  simp only [List.sum_cons, List.sum_nil]
  omega
 have he : (xs.take xs.length).sum = xs.sum := by rw [List.take_length]
 repeat' first | refine s1 ?_ | fail
 refine F.loop (σ := Nat) [3, 4, 5, 6, 7, 8, 9, 10, 11, 12, 13, 14, 15, 16] (fun k => [(3, .i (xs.take k).sum), (4, .i k)]) (fun _ => []) (fun k => k ≤ xs.length) (fun k => xs.length - k) 0 ⟨rfl, rfl, trivial⟩ trivial (Nat.zero_le _) ?_
 rintro k k1
 have hb := hs k k1
 by_cases hk : k < xs.length
 ·have h2 := h k hk
  have e := hst k hk
  generalize (xs.take k).sum = z at hb e ⊢
  repeat' first | refine s1 ?_ | fail
  exact ⟨k + 1, F.fit ⟨iE (by rw [e]), rfl, trivial⟩ trivial, by omega, by omega⟩
 ·obtain rfl : k = xs.length := by omega
  rw [← he]
  generalize (xs.take xs.length).sum = z at hb ⊢
  repeat' first | refine s1 ?_ | fail
  (refine kZ ?_; exact F.ret rfl)
end Go.Proofs.Ytoilkinagffhiaa.V
namespace Go.Proofs.Ytoilkinagffhiaa.V
open Go.RowKit G D
set_option linter.unusedVariables false
set_option linter.unusedSimpArgs false
set_option maxHeartbeats 400000
set_option maxRecDepth 4000
attribute [local irreducible] AW ARg ARA ARet MRet ASil AC AM
def fitM (r : Rep) (i : Nat) : Bool := isMat r.p (r.m.getD i default) && decide ((r.m.getD i default).c = r.d.getD (r.q.fr.getD i default).toNat default) && decide ((r.m.getD i default).r = r.d.getD (r.q.to.getD i default).toNat default)
def isRep (r : Rep) : Bool := isF r.p && areDims r.q r.d && decide (r.m.length = r.q.fr.length) && (List.range r.m.length).all (fitM r)
theorem areDims_spec {q : Quiv} {d : List Int} (h : areDims q d = true) : okQ q = true ∧ (d.length : Int) = q.n ∧ allIn 0 4 d = true ∧ d.sum ≤ 8 := by
 simp only [areDims, Bool.and_eq_true, decide_eq_true_eq] at h
 exact ⟨h.1.1.1, h.1.1.2, h.1.2, h.2⟩
theorem isRep_spec {r : Rep} (h : isRep r = true) : isF r.p = true ∧ areDims r.q r.d = true ∧ r.m.length = r.q.fr.length ∧ ∀ j, j < r.m.length → fitM r j = true := by
 simp only [isRep, Bool.and_eq_true, decide_eq_true_eq, List.all_eq_true] at h
 exact ⟨h.1.1.1, h.1.1.2, h.1.2, fun j hj => h.2 j (by simpa using hj)⟩
def fitR (a b : Rep) : Bool := isRep a && isRep b && decide (a.p = b.p) && sameQ a.q b.q
theorem fitR_spec {a b : Rep} (h : fitR a b = true) : isRep a = true ∧ isRep b = true ∧ a.p = b.p ∧ a.q = b.q := by
 simp only [fitR, sameQ, Bool.and_eq_true, decide_eq_true_eq] at h
 refine ⟨h.1.1.1, h.1.1.2, h.1.2, ?_⟩
 obtain ⟨⟨h1, h2⟩, h3⟩ := h.2
 cases ha : a.q; cases hb : b.q; simp_all
theorem isMat_spec {p : Int} {m : Mat} (h : isMat p m = true) : isF p = true ∧ (0 ≤ m.r ∧ m.r ≤ 8) ∧ (0 ≤ m.c ∧ m.c ≤ 8) ∧ (m.m.length : Int) = m.r * m.c ∧ ∀ j, j < m.m.length → 0 ≤ m.m.getD j default ∧ m.m.getD j default ≤ p - 1 := by
 simp only [isMat, isVec, Bool.and_eq_true, decide_eq_true_eq] at h
 exact ⟨h.2.1.1, h.1.1.1, h.1.1.2, h.1.2, fun j hj => allIn_spec h.2.2 hj⟩
structure Fits (a b : Rep) : Prop where
 q : a.q = b.q
 p : a.p = b.p
 f : isF a.p = true
 ok : okQ a.q = true
 da : (a.d.length : Int) = a.q.n
 db : (b.d.length : Int) = a.q.n
 ba : ∀ j, j < a.d.length → 0 ≤ a.d.getD j default ∧ a.d.getD j default ≤ 4
 bb : ∀ j, j < b.d.length → 0 ≤ b.d.getD j default ∧ b.d.getD j default ≤ 4
 ma : a.m.length = a.q.fr.length
 mb : b.m.length = a.q.fr.length
theorem Fits.of {a b : Rep} (h : fitR a b = true) : Fits a b := by
 obtain ⟨h1, h2, h3, h4⟩ := fitR_spec h
 obtain ⟨a1, a2, a3, a4⟩ := isRep_spec h1
 obtain ⟨b1, b2, b3, b4⟩ := isRep_spec h2
 obtain ⟨c1, c2, c3, c4⟩ := areDims_spec a2
 obtain ⟨d1, d2, d3, d4⟩ := areDims_spec b2
 exact ⟨h4, h3, a1, c1, c2, by rw [h4]; exact d2, fun j hj => allIn_spec c3 hj, fun j hj => allIn_spec d3 hj, a3, by rw [h4]; exact b3⟩
end Go.Proofs.Ytoilkinagffhiaa.V
namespace Go.Proofs.Ytoilkinagffhiaa.V
open Go.RowKit G D
set_option linter.unusedVariables false
set_option linter.unusedSimpArgs false
set_option maxHeartbeats 2000000
set_option maxRecDepth 4000
attribute [local irreducible] AW ARg ARA ARet MRet ASil AC AM
def fitV (a b : Rep) (f : List Mat) (v : Nat) : Bool := isMat a.p (f.getD v default) && decide ((f.getD v default).c = a.d.getD v default) && decide ((f.getD v default).r = b.d.getD v default)
def areM (a b : Rep) (f : List Mat) : Bool := fitR a b && decide (f.length = a.d.length) && (List.range f.length).all (fitV a b f)
theorem areM_spec {a b : Rep} {f : List Mat} (h : areM a b f = true) : fitR a b = true ∧ f.length = a.d.length ∧ ∀ v, v < f.length → fitV a b f v = true := by
 simp only [areM, Bool.and_eq_true, decide_eq_true_eq, List.all_eq_true] at h
 exact ⟨h.1.1, h.1.2, fun v hv => h.2 v (by simpa using hv)⟩
end Go.Proofs.Ytoilkinagffhiaa.V
namespace Go.Proofs.Ytoilkinagffhiaa.V
open Go.RowKit G D
set_option linter.unusedVariables false
set_option linter.unusedSimpArgs false
set_option maxHeartbeats 4000000
set_option maxRecDepth 4000
attribute [local irreducible] AW ARg ARA ARet MRet ASil AC AM
structure ArF (a b : Rep) (f : List Mat) (i : Nat) : Prop where
 fr : 0 ≤ a.q.fr.getD i default ∧ (a.q.fr.getD i default).toNat < f.length
 to : 0 ≤ a.q.to.getD i default ∧ (a.q.to.getD i default).toNat < f.length
 mb : isMat a.p (b.m.getD i default) = true
 ma : isMat a.p (a.m.getD i default) = true
 ff : isMat a.p (f.getD (a.q.fr.getD i default).toNat default) = true
 ft : isMat a.p (f.getD (a.q.to.getD i default).toNat default) = true
 cx : (b.m.getD i default).c = (f.getD (a.q.fr.getD i default).toNat default).r
 cy : (f.getD (a.q.to.getD i default).toNat default).c = (a.m.getD i default).r
 rr : (b.m.getD i default).r = (f.getD (a.q.to.getD i default).toNat default).r
 cc : (f.getD (a.q.fr.getD i default).toNat default).c = (a.m.getD i default).c
theorem ArF.of {a b : Rep} {f : List Mat} (h : areM a b f = true) {i : Nat} (hi : i < a.q.fr.length) : ArF a b f i := by
 obtain ⟨h1, h2, h3⟩ := areM_spec h
 have hh := Fits.of h1
 obtain ⟨i1, i2, _, _⟩ := fitR_spec h1
 obtain ⟨_, _, a3, a4⟩ := isRep_spec i1
 obtain ⟨_, _, b3, b4⟩ := isRep_spec i2
 have h5 := okQ_spec hh.ok
 have hda := hh.da
 have hq := hh.q
 have hp := hh.p
 have fr := okQ_fr hh.ok hi
 have to := okQ_to hh.ok hi
 have fr' : 0 ≤ a.q.fr.getD i default ∧ a.q.fr.getD i default < a.q.n := fr
 have to' : 0 ≤ a.q.to.getD i default ∧ a.q.to.getD i default < a.q.n := to
 have f1 := h3 (a.q.fr.getD i default).toNat (by omega)
 have f2 := h3 (a.q.to.getD i default).toNat (by omega)
 have m1 := a4 i (by omega)
 have m2 := b4 i (by rw [b3, ← hq]; exact hi)
 simp only [fitV, fitM, Bool.and_eq_true, decide_eq_true_eq] at f1 f2 m1 m2
 rw [← hp, ← hq] at m2
 exact ⟨⟨fr'.1, by omega⟩, ⟨to'.1, by omega⟩, m2.1.1, m1.1.1, f1.1.1, f2.1.1, by rw [m2.1.2, f1.2], by rw [f2.1.2, m1.2], by rw [m2.2, f2.2], by rw [f1.1.2, m1.1.2]⟩
abbrev vF (a : Rep) (i : Nat) : Nat := (a.q.fr.getD i default).toNat
abbrev vT (a : Rep) (i : Nat) : Nat := (a.q.to.getD i default).toNat
abbrev dim (a : Rep) (v : Nat) : Nat := (a.d.getD v default).toNat
def updAt (p : Int) (L : List Int) (t : Nat) (y : Int) : List Int := L.set t ((L.getD t default + y) % p)
def RowOk (p : Int) (n : Nat) (L : List Int) : Prop := L.length = n ∧ ∀ t, t < n → 0 ≤ L.getD t default ∧ L.getD t default ≤ p - 1
theorem RowOk.zero {p : Int} (hp : 0 < p) (n : Nat) : RowOk p n (List.replicate n 0) := by
 refine ⟨List.length_replicate, fun t ht => ?_⟩
 have : (List.replicate n (0 : Int)).getD t default = 0 := by simp [ht]
 omega
theorem RowOk.upd {p : Int} {n : Nat} {L : List Int} (hp : 0 < p) (h : RowOk p n L) (t : Nat) (y : Int) : RowOk p n (updAt p L t y) := by
 refine ⟨by rw [updAt, List.length_set, h.1], fun u hu => ?_⟩
 by_cases e : u = t
 ·subst e
  have : (updAt p L u y).getD u default = (L.getD u default + y) % p := by simp [updAt, h.1, hu]
  rw [this]; exact mod_bd hp
 ·have : (updAt p L t y).getD u default = L.getD u default := by
   simp only [updAt, List.getD_eq_getElem?_getD]
   rw [List.getElem?_set_ne (Ne.symm e)]
  rw [this]; exact h.2 u hu
structure EqF (a b : Rep) (i : Nat) : Prop where
 fr : a.q.fr.getD i default = (vF a i : Int)
 to : a.q.to.getD i default = (vT a i : Int)
 v : vF a i < a.d.length
 w : vT a i < a.d.length
 av : a.d.getD (vF a i) default = (dim a (vF a i) : Int)
 aw : a.d.getD (vT a i) default = (dim a (vT a i) : Int)
 bv : b.d.getD (vF a i) default = (dim b (vF a i) : Int)
 bw : b.d.getD (vT a i) default = (dim b (vT a i) : Int)
 av4 : dim a (vF a i) ≤ 4
 aw4 : dim a (vT a i) ≤ 4
 bv4 : dim b (vF a i) ≤ 4
 bw4 : dim b (vT a i) ≤ 4
 mb : isMat a.p (b.m.getD i default) = true
 ma : isMat a.p (a.m.getD i default) = true
 lb : (b.m.getD i default).m.length = dim b (vT a i) * dim b (vF a i)
 la : (a.m.getD i default).m.length = dim a (vT a i) * dim a (vF a i)
 br : (b.m.getD i default).r = (dim b (vT a i) : Int)
 bc : (b.m.getD i default).c = (dim b (vF a i) : Int)
 ar : (a.m.getD i default).r = (dim a (vT a i) : Int)
 ac : (a.m.getD i default).c = (dim a (vF a i) : Int)
theorem EqF.of {a b : Rep} (h : fitR a b = true) {i : Nat} (hi : i < a.q.fr.length) : EqF a b i := by
 have hh := Fits.of h
 obtain ⟨h1, h2, h3, h4⟩ := fitR_spec h
 obtain ⟨_, _, m1, a4⟩ := isRep_spec h1
 obtain ⟨_, _, m2, b4⟩ := isRep_spec h2
 have f : 0 ≤ a.q.fr.getD i default ∧ a.q.fr.getD i default < a.q.n := okQ_fr hh.ok hi
 have t : 0 ≤ a.q.to.getD i default ∧ a.q.to.getD i default < a.q.n := okQ_to hh.ok hi
 have hda := hh.da
 have hdb := hh.db
 have hma := hh.ma
 have hmb := hh.mb
 have va : vF a i < a.d.length := by show (a.q.fr.getD i default).toNat < _; omega
 have ta : vT a i < a.d.length := by show (a.q.to.getD i default).toNat < _; omega
 have vb : vF a i < b.d.length := by omega
 have tb : vT a i < b.d.length := by omega
 have x1 := hh.ba _ va
 have x2 := hh.ba _ ta
 have x3 := hh.bb _ vb
 have x4 := hh.bb _ tb
 have y1 := a4 i (by omega)
 have y2 := b4 i (by omega)
 simp only [fitM, Bool.and_eq_true, decide_eq_true_eq] at y1 y2
 rw [← h3, ← h4] at y2
 obtain ⟨⟨p1, p2⟩, p3⟩ := y1
 obtain ⟨⟨q1, q2⟩, q3⟩ := y2
 obtain ⟨_, _, _, l1, _⟩ := isMat_spec p1
 obtain ⟨_, _, _, l2, _⟩ := isMat_spec q1
 have e1 : a.d.getD (vF a i) default = (dim a (vF a i) : Int) := (Int.toNat_of_nonneg x1.1).symm
 have e2 : a.d.getD (vT a i) default = (dim a (vT a i) : Int) := (Int.toNat_of_nonneg x2.1).symm
 have e3 : b.d.getD (vF a i) default = (dim b (vF a i) : Int) := (Int.toNat_of_nonneg x3.1).symm
 have e4 : b.d.getD (vT a i) default = (dim b (vT a i) : Int) := (Int.toNat_of_nonneg x4.1).symm
 have g1 := p2.trans e1
 have g2 := p3.trans e2
 have g3 := q2.trans e3
 have g4 := q3.trans e4
 rw [g1, g2] at l1
 rw [g3, g4] at l2
 exact ⟨(Int.toNat_of_nonneg f.1).symm, (Int.toNat_of_nonneg t.1).symm, va, ta, e1, e2, e3, e4, by show (_ : Int).toNat ≤ 4; omega, by show (_ : Int).toNat ≤ 4; omega, by show (_ : Int).toNat ≤ 4; omega, by show (_ : Int).toNat ≤ 4; omega,
  q1, p1, by exact_mod_cast l2, by exact_mod_cast l1, g4, g3, g2, g1⟩
end Go.Proofs.Ytoilkinagffhiaa.V
