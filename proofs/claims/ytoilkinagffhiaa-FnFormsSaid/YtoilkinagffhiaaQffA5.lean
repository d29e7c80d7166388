/- Texts that the proof needs: A22, A5. -/
import Derived.Test.YtoilkinagffhiaaQffA21
namespace Go.Proofs.Ytoilkinagffhiaa.V
open Go.RowKit G D
set_option linter.unusedVariables false
set_option linter.unusedSimpArgs false
set_option maxHeartbeats 4000000
set_option maxRecDepth 4000
attribute [local irreducible] AW ARg ARA ARet MRet KRet ASil AC AM AK
def dimsF (q : Quiv) (v : Int) (g : Int → Int) : List Int := if (orderQ q).2 = true ∧ 0 ≤ v ∧ v ≤ q.n - 1 then (List.range q.n.toNat).map fun (w : Nat) => g (w : Int) else []
theorem dimsF_len {q : Quiv} {v : Int} {g : Int → Int} : (dimsF q v g).length ≤ 5 := by
 unfold dimsF
 split
 ·rename_i h
  have h5 := okQ_spec (order_ok h.1)
  simp; omega
 ·simp
theorem rmap_succ {β : Type} (g : Nat → β) (k : Nat) : (List.range (k + 1)).map g = (List.range k).map g ++ [g k] := by simp [List.range_succ]
theorem countAll_a (q : Quiv) (v : Int) (f : Nat) [IsFn Try.prog f] (cs : List AV) (g : Int → Int) (hcs : ∀ hp, SnapL hp cs cs) (hf : ∀ w : Int, AC Try.prog f (.i w :: cs) [.i (g w)]) :
  AC Try.prog 76 [.agg (enc false q), .i v, .fn f cs] [.dt true 1 (E true (dimsF q v g))] := by
 refine AC.go Try.func76 Try.ntmps76 rfl rfl fun w0 hw => ?_; simp [WfL, WfA, E_length, Enc.enc, In64] at hw
 have hA := implIsAcyclic_a q
 unfold dimsF
 cases ho : (orderQ q).2 with
 | false =>
  rw [ho] at hA
  rw [if_neg (by simp)]
  repeat' first | refine s1 ?_ | (refine kR ?_; first | refine F.c (hA) ?_) | fail
  (refine kZ ?_; exact F.ret rfl)
 | true =>
  rw [ho] at hA
  have hq := order_ok ho
  have h5 := okQ_spec hq
  have hV := hasVertex_a q v hq
  by_cases h1 : 0 ≤ v ∧ v ≤ q.n - 1
  ·rw [decide_eq_true h1] at hV
   rw [if_pos ⟨rfl, h1⟩]
   repeat' first | refine s1 ?_ | (refine kR ?_; first | refine F.c (hA) ?_ | refine F.c (hV) ?_) | fail
   refine AW.open 7 1 (.inl rfl) ?_
   refine F.loop (σ := Nat) [7, 8, 20, 21, 22, 23, 24, 25, 26, 27, 28, 29] (fun k => [(7, .sl 1 k 0 k), (20, .i k)]) (fun k => [(1, .live false 1 (E true ((List.range k).map fun (w : Nat) => g (w : Int))))]) (fun k => k ≤ q.n.toNat) (fun k => q.n.toNat - k) 0 ⟨rfl, rfl, trivial⟩ ⟨rfl, trivial⟩ (Nat.zero_le _) ?_
   rintro k h2
   by_cases hlt : k < q.n.toNat
   ·have hg := hf (k : Int)
    have hks := rmap_succ (fun (w : Nat) => g (w : Int)) k
    have hkl : ((List.range k).map fun (w : Nat) => g (w : Int)).length = k := by simp
    generalize ((List.range k).map fun (w : Nat) => g (w : Int)) = L at hks hkl ⊢
    repeat' first | refine s1 ?_ | (refine kR ?_; first | refine F.cv (hg) ?_ | refine F.a1 Int ?_) | fail
    exact ⟨k + 1, F.fit ⟨rfl, rfl, trivial⟩ ⟨obE (by rw [hks]), trivial⟩, by omega, by omega⟩
   ·obtain rfl : k = q.n.toNat := by omega
    have hkl : ((List.range q.n.toNat).map fun (w : Nat) => g (w : Int)).length = q.n.toNat := by simp
    generalize ((List.range q.n.toNat).map fun (w : Nat) => g (w : Int)) = L at hkl ⊢
    repeat' first | refine s1 ?_ | fail
    (refine kZ ?_; exact F.ret rfl)
  ·rw [decide_eq_false h1] at hV
   rw [if_neg (fun h => h1 h.2)]
   repeat' first | refine s1 ?_ | (refine kR ?_; first | refine F.c (hA) ?_ | refine F.c (hV) ?_) | fail
   (refine kZ ?_; exact F.ret rfl)
def projD (q : Quiv) (v : Int) : List Int := dimsF q v fun w => countP q v w
theorem projD1_a (q : Quiv) (v w : Int) : AC Try.prog 77 [.i w, .ip (enc false q), .ip (enc false v)] [.i (countP q v w)] := by
 refine AC.go Try.func77 Try.ntmps77 rfl rfl fun w0 hw => ?_; simp [WfL, WfA, E_length, Enc.enc, In64] at hw
 have hC := implCountPaths_a q v w
 repeat' first | refine s1 ?_ | (refine kR ?_; first | refine F.c (hC) ?_) | fail
 (refine kZ ?_; exact F.ret rfl)
theorem implProjectiveDims_a (q : Quiv) (v : Int) : AC Try.prog 57 [.agg (enc false q), .i v] [.dt true 1 (E true (projD q v))] := by
 refine AC.go Try.func57 Try.ntmps57 rfl rfl fun w0 hw => ?_; simp [WfL, WfA, E_length, Enc.enc, In64] at hw
 have hC := countAll_a q v 77 [.ip (enc false q), .ip (enc false v)] (fun w => countP q v w) (fun _ => .ip (.ip .nil)) fun w => projD1_a q v w
 rw [show dimsF q v (fun w => countP q v w) = projD q v from rfl] at hC
 generalize projD q v = R at hC ⊢
 repeat' first | refine s1 ?_ | (refine kR ?_; first | refine F.c (hC) ?_) | fail
 (refine kZ ?_; exact F.ret rfl)
theorem specProjectiveDims_a (q : Quiv) (v : Int) : AC Try.prog 59 [.agg (enc false q), .i v] [.dt true 1 (E true (projD q v))] := by
 refine AC.go Try.func59 Try.ntmps59 rfl rfl fun w0 hw => ?_; simp [WfL, WfA, E_length, Enc.enc, In64] at hw
 have hA := specIsAcyclic_a q
 have hV := l1In_a v 0 (RowKit.wrap64 (q.n - 1))
 by_cases hok : (orderQ q).2 = true ∧ 0 ≤ v ∧ v ≤ q.n - 1
 ·obtain ⟨ho, h1⟩ := hok
  have hd : projD q v = (List.range q.n.toNat).map fun (w : Nat) => countP q v (w : Int) := by rw [projD, dimsF, if_pos ⟨ho, h1⟩]
  rw [hd]
  rw [ho] at hA
  have hq := order_ok ho
  have h5 := okQ_spec hq
  rw [wr_in (show In64 (q.n - 1) by unfold In64; omega), decide_eq_true h1] at hV
  repeat' first | refine s1 ?_ | fail
  refine AW.open 5 1 (.inr rfl) ?_
  refine F.loop (σ := Nat) [5, 6, 8, 9, 10, 11, 12, 13, 14, 15, 16, 17, 18, 19, 20, 21, 22, 23, 24, 25, 26, 27, 28, 29, 30, 31] (fun k => [(5, .sl 1 k 0 k), (6, .i k)]) (fun k => [(1, .live false 1 (E true ((List.range k).map fun (w : Nat) => countP q v (w : Int))))]) (fun k => k ≤ q.n.toNat) (fun k => q.n.toNat - k) 0 ⟨rfl, rfl, trivial⟩ ⟨rfl, trivial⟩ (Nat.zero_le _) ?_
  rintro k h2
  by_cases hlt : k < q.n.toNat
  ·have hg := specCountPaths_a q v (k : Int)
   have hks := rmap_succ (fun (w : Nat) => countP q v (w : Int)) k
   have hkl : ((List.range k).map fun (w : Nat) => countP q v (w : Int)).length = k := by simp
   generalize ((List.range k).map fun (w : Nat) => countP q v (w : Int)) = L at hks hkl ⊢
   repeat' first | refine s1 ?_ | (refine kR ?_; first | refine F.c (hA) ?_ | refine F.c (hV) ?_ | refine F.c (hg) ?_ | refine F.a1 Int ?_) | fail
   exact ⟨k + 1, F.fit ⟨rfl, rfl, trivial⟩ ⟨obE (by rw [hks]), trivial⟩, by omega, by omega⟩
  ·obtain rfl : k = q.n.toNat := by omega
   have hkl : ((List.range q.n.toNat).map fun (w : Nat) => countP q v (w : Int)).length = q.n.toNat := by simp
   generalize ((List.range q.n.toNat).map fun (w : Nat) => countP q v (w : Int)) = L at hkl ⊢
   repeat' first | refine s1 ?_ | fail
   (refine kZ ?_; exact F.ret rfl)
 ·have hd : projD q v = [] := by rw [projD, dimsF, if_neg hok]
  rw [hd]
  repeat' first | refine s1 ?_ | fail
  refine F.loop (σ := Unit) [5, 6, 8, 9, 10, 11, 12, 13, 14, 15, 16, 17, 18, 19, 20, 21, 22, 23, 24, 25, 26, 27, 28, 29, 30, 31] (fun _ => [(5, .em), (6, .i 0)]) (fun _ => []) (fun _ => True) (fun _ => 0) () ⟨rfl, rfl, trivial⟩ trivial trivial ?_
  rintro _ _
  by_cases hn : 0 < q.n
  ·cases ho : (orderQ q).2 with
   | false =>
    rw [ho] at hA
    repeat' first | refine s1 ?_ | (refine kR ?_; first | refine F.c (hA) ?_) | fail
    (refine kZ ?_; exact F.ret rfl)
   | true =>
    rw [ho] at hA
    have hq := order_ok ho
    have h5 := okQ_spec hq
    rw [wr_in (show In64 (q.n - 1) by unfold In64; omega), decide_eq_false (fun h => hok ⟨ho, h⟩)] at hV
    repeat' first | refine s1 ?_ | (refine kR ?_; first | refine F.c (hA) ?_ | refine F.c (hV) ?_) | fail
    (refine kZ ?_; exact F.ret rfl)
  ·repeat' first | refine s1 ?_ | fail
   (refine kZ ?_; exact F.ret rfl)
def cartQ (q : Quiv) : List (List Int) × Bool := if (orderQ q).2 = true then ((List.range q.n.toNat).map fun (v : Nat) => projD q (v : Int), true) else ([], false)
theorem implCartanOf_a (q : Quiv) : AC Try.prog 28 [.agg (enc false q)] [.dt true 1 (E true (cartQ q).1), .b (cartQ q).2] := by
 refine AC.go Try.func28 Try.ntmps28 rfl rfl fun w0 hw => ?_; simp [WfL, WfA, E_length, Enc.enc, In64] at hw
 have hA := implIsAcyclic_a q
 unfold cartQ
 cases ho : (orderQ q).2 with
 | false =>
  rw [ho] at hA
  rw [if_neg (by simp)]
  repeat' first | refine s1 ?_ | (refine kR ?_; first | refine F.c (hA) ?_) | fail
  (refine kZ ?_; exact F.ret rfl)
 | true =>
  rw [ho] at hA
  rw [if_pos rfl]
  have h5 := okQ_spec (order_ok ho)
  dsimp only
  repeat' first | refine s1 ?_ | (refine kR ?_; first | refine F.c (hA) ?_) | fail
  refine AW.open 4 1 (.inl rfl) ?_
  refine F.loop (σ := Nat) [4, 5, 11, 12, 13, 14, 15, 16, 17, 18, 19, 20] (fun k => [(4, .sl 1 k 0 k), (11, .i k)]) (fun k => [(1, .live false 1 (E true ((List.range k).map fun (v : Nat) => projD q (v : Int))))]) (fun k => k ≤ q.n.toNat) (fun k => q.n.toNat - k) 0 ⟨rfl, rfl, trivial⟩ ⟨rfl, trivial⟩ (Nat.zero_le _) ?_
  rintro k h2
  by_cases hlt : k < q.n.toNat
  ·have hg := implProjectiveDims_a q (k : Int)
   have hks := rmap_succ (fun (v : Nat) => projD q (v : Int)) k
   have hkl : ((List.range k).map fun (v : Nat) => projD q (v : Int)).length = k := by simp
   generalize ((List.range k).map fun (v : Nat) => projD q (v : Int)) = L at hks hkl ⊢
   have hrl : (projD q (k : Int)).length ≤ 5 := dimsF_len
   generalize projD q (k : Int) = R at hg hks hrl
   repeat' first | refine s1 ?_ | (refine kR ?_; first | refine F.c (hg) ?_ | refine F.a1 (List Int) (a := R) ?_) | fail
   exact ⟨k + 1, F.fit ⟨rfl, rfl, trivial⟩ ⟨obE (by rw [hks]), trivial⟩, by omega, by omega⟩
  ·obtain rfl : k = q.n.toNat := by omega
   have hkl : ((List.range q.n.toNat).map fun (v : Nat) => projD q (v : Int)).length = q.n.toNat := by simp
   generalize ((List.range q.n.toNat).map fun (v : Nat) => projD q (v : Int)) = L at hkl ⊢
   repeat' first | refine s1 ?_ | fail
   (refine kZ ?_; exact F.ret rfl)
theorem specCartanOf_a (q : Quiv) : AC Try.prog 29 [.agg (enc false q)] [.dt true 1 (E true (cartQ q).1), .b (cartQ q).2] := by
 refine AC.go Try.func29 Try.ntmps29 rfl rfl fun w0 hw => ?_; simp [WfL, WfA, E_length, Enc.enc, In64] at hw
 have hA := specIsAcyclic_a q
 unfold cartQ
 cases ho : (orderQ q).2 with
 | false =>
  rw [ho] at hA
  rw [if_neg (by simp)]
  repeat' first | refine s1 ?_ | fail
  refine F.loop (σ := Unit) [4, 5, 7, 8, 9, 10, 11, 12, 13, 14, 15, 16, 17, 18, 19, 20, 21, 22] (fun _ => [(4, .em), (5, .i 0)]) (fun _ => []) (fun _ => True) (fun _ => 0) () ⟨rfl, rfl, trivial⟩ trivial trivial ?_
  rintro _ _
  by_cases hn : 0 < q.n
  ·repeat' first | refine s1 ?_ | (refine kR ?_; first | refine F.c (hA) ?_) | fail
   (refine kZ ?_; exact F.ret rfl)
  ·repeat' first | refine s1 ?_ | (refine kR ?_; first | refine F.c (hA) ?_) | fail
   (refine kZ ?_; exact F.ret rfl)
 | true =>
  rw [ho] at hA
  rw [if_pos rfl]
  have h5 := okQ_spec (order_ok ho)
  dsimp only
  repeat' first | refine s1 ?_ | fail
  refine AW.open 4 1 (.inr rfl) ?_
  refine F.loop (σ := Nat) [4, 5, 7, 8, 9, 10, 11, 12, 13, 14, 15, 16, 17, 18, 19, 20, 21, 22] (fun k => [(4, .sl 1 k 0 k), (5, .i k)]) (fun k => [(1, .live false 1 (E true ((List.range k).map fun (v : Nat) => projD q (v : Int))))]) (fun k => k ≤ q.n.toNat) (fun k => q.n.toNat - k) 0 ⟨rfl, rfl, trivial⟩ ⟨rfl, trivial⟩ (Nat.zero_le _) ?_
  rintro k h2
  by_cases hlt : k < q.n.toNat
  ·have hg := specProjectiveDims_a q (k : Int)
   have hks := rmap_succ (fun (v : Nat) => projD q (v : Int)) k
   have hkl : ((List.range k).map fun (v : Nat) => projD q (v : Int)).length = k := by simp
   generalize ((List.range k).map fun (v : Nat) => projD q (v : Int)) = L at hks hkl ⊢
   have hrl : (projD q (k : Int)).length ≤ 5 := dimsF_len
   generalize projD q (k : Int) = R at hg hks hrl
   repeat' first | refine s1 ?_ | (refine kR ?_; first | refine F.c (hA) ?_ | refine F.c (hg) ?_ | refine F.a1 (List Int) (a := R) ?_) | fail
   exact ⟨k + 1, F.fit ⟨rfl, rfl, trivial⟩ ⟨obE (by rw [hks]), trivial⟩, by omega, by omega⟩
  ·obtain rfl : k = q.n.toNat := by omega
   have hkl : ((List.range q.n.toNat).map fun (v : Nat) => projD q (v : Int)).length = q.n.toNat := by simp
   generalize ((List.range q.n.toNat).map fun (v : Nat) => projD q (v : Int)) = L at hkl ⊢
   repeat' first | refine s1 ?_ | (refine kR ?_; first | refine F.c (hA) ?_) | fail
   (refine kZ ?_; exact F.ret rfl)
end Go.Proofs.Ytoilkinagffhiaa.V
namespace Go.Proofs.Ytoilkinagffhiaa.V
open Go.RowKit G D
set_option linter.unusedVariables false
set_option linter.unusedSimpArgs false
set_option maxHeartbeats 400000
theorem IndexFunc2_a (xs : List (List Int)) (f : Nat) [IsFn Try.prog f] (cs : List AV) (p : List Int → Bool) (hcs : ∀ hp, SnapL hp cs cs) (hf : ∀ x ∈ xs, AC Try.prog f (ar false x :: cs) [.b (p x)]) :
  AC Try.prog 81 [ar false xs, .fn f cs] [.i (idxFrom p xs 0)] := by
 refine AC.go Try.func81 Try.ntmps81 rfl rfl fun w0 hw => ?_; simp [WfL, WfA, E_length, Enc.enc, In64] at hw
 repeat' first | refine s1 ?_ | (refine s2 ?_ ?_ <;> intro hc <;> (try simp only [decide_eq_true_eq, decide_eq_false_iff_not, Bool.not_eq_true', Bool.not_eq_false'] at hc)) | fail
 refine F.loop (σ := Nat) [4, 5, 8, 9, 10, 11, 12, 13, 14, 15, 16, 17, 18] (fun k => [(8, .i k)]) (fun _ => []) (fun k => k ≤ xs.length ∧ idxFrom p xs 0 = idxFrom p (xs.drop k) k) (fun k => xs.length - k) 0 ⟨rfl, trivial⟩ trivial ⟨Nat.zero_le _, rfl⟩ ?_
 rintro k ⟨hk, hi⟩
 by_cases hlt : k < xs.length
 ·rw [idxFrom_drop p xs hlt] at hi
  cases hpx : p (xs.getD k default) with
  | true =>
   rw [hpx] at hi
   have h1 := hf (xs.getD k default) (gm hlt)
   rw [hpx] at h1
   repeat' first | refine s1 ?_ | (refine kR ?_; first | refine F.cv (h1) ?_) | (refine s2 ?_ ?_ <;> intro hc <;> (try simp only [decide_eq_true_eq, decide_eq_false_iff_not, Bool.not_eq_true', Bool.not_eq_false'] at hc)) | fail
   refine F.ret ?_
   simp [hi]
  | false =>
   rw [hpx] at hi
   have h1 := hf (xs.getD k default) (gm hlt)
   rw [hpx] at h1
   repeat' first | refine s1 ?_ | (refine kR ?_; first | refine F.cv (h1) ?_) | (refine s2 ?_ ?_ <;> intro hc <;> (try simp only [decide_eq_true_eq, decide_eq_false_iff_not, Bool.not_eq_true', Bool.not_eq_false'] at hc)) | fail
   exact ⟨k + 1, F.fit ⟨rfl, trivial⟩ trivial, ⟨by omega, hi⟩, by omega⟩
 ·have e : k = xs.length := by omega
  subst e
  repeat' first | refine s1 ?_ | (refine s2 ?_ ?_ <;> intro hc <;> (try simp only [decide_eq_true_eq, decide_eq_false_iff_not, Bool.not_eq_true', Bool.not_eq_false'] at hc)) | fail
  refine F.ret ?_
  simp [hi, idxFrom]
theorem ContainsFunc2_a (xs : List (List Int)) (f : Nat) [IsFn Try.prog f] (cs : List AV) (p : List Int → Bool) (hcs : ∀ hp, SnapL hp cs cs) (hf : ∀ x ∈ xs, AC Try.prog f (ar false x :: cs) [.b (p x)]) :
  AC Try.prog 62 [ar false xs, .fn f cs] [.b (xs.any p)] := by
 refine AC.go Try.func62 Try.ntmps62 rfl rfl fun w0 hw => ?_; simp [WfL, WfA, E_length, Enc.enc, In64] at hw
 repeat' first | refine s1 ?_ | (refine kR ?_; first | refine F.c (IndexFunc2_a xs f cs p hcs hf) ?_) | fail
 exact F.ret (by rw [← idxFrom_any p xs 0])
def okRow (n : Nat) (r : List Int) : Bool := decide (r.length = n) && allIn (-100) 100 r
def okDet (m : List (List Int)) : Bool := decide (m.length ≤ 5) && m.all (okRow m.length)
theorem okDet_rows {m : List (List Int)} (h : okDet m = true) : m.length ≤ 5 ∧ Rows m.length m.length m := by
 simp only [okDet, okRow, Bool.and_eq_true, decide_eq_true_eq, List.all_eq_true, allIn] at h
 exact ⟨h.1, rfl, fun x hx => ⟨(h.2 x hx).1, fun y hy => by have := (h.2 x hx).2 y hy; omega⟩⟩
def detOf (m : List (List Int)) : Int := bif okDet m then det m.length m else 0
theorem implDet1_a (x : List Int) (m : List (List Int)) : AC Try.prog 63 [ar false x, .ip [ar false m]] [.b (!okRow m.length x)] := by
 refine AC.go Try.func63 Try.ntmps63 rfl rfl fun w0 hw => ?_; simp [WfL, WfA, E_length, Enc.enc, In64] at hw
 repeat' first | refine s1 ?_ | (refine kR ?_; first | (refine jCf 64 ?_; refine F.c (allWithin_a _ _ _) ?_)) | (refine s2 ?_ ?_ <;> intro hc <;> (try simp only [decide_eq_true_eq, decide_eq_false_iff_not, Bool.not_eq_true', Bool.not_eq_false'] at hc)) | fail
 all_goals
  refine F.ret ?_
  simp [okRow, *] <;> omega
theorem implDeterminantOf_a (m : List (List Int)) : AC Try.prog 33 [ar false m] [.i (detOf m)] := by
 refine AC.go Try.func33 Try.ntmps33 rfl rfl fun w0 hw => ?_; simp [WfL, WfA, E_length, Enc.enc, In64] at hw
 cases ho : okDet m with
 | true =>
  have h1 := okDet_rows ho
  have h2 : m.any (fun x => !okRow m.length x) = false := by
   simp only [okDet, Bool.and_eq_true] at ho
   rw [← List.not_all_eq_any_not, ho.2]; rfl
  have hC := ContainsFunc2_a m 63 [.ip [ar false m]] (fun x => !okRow m.length x) (fun _ => .ip .nil) (fun x _ => implDet1_a x m)
  rw [h2] at hC
  repeat' first | refine s1 ?_ | (refine kR ?_; first | refine F.c (hC) ?_ | (refine jCf 51 ?_; refine F.c (implDet_a m.length h1.1 m h1.2) ?_)) | fail
  refine F.ret ?_
  simp [detOf, ho]
 | false =>
  have h2 : 5 < m.length ∨ m.any (fun x => !okRow m.length x) = true := by
   simp only [okDet, Bool.and_eq_false_iff, decide_eq_false_iff_not] at ho
   rcases ho with ho | ho
   ·exact .inl (by omega)
   ·exact .inr (by rw [← List.not_all_eq_any_not, ho]; rfl)
  have hC := ContainsFunc2_a m 63 [.ip [ar false m]] (fun x => !okRow m.length x) (fun _ => .ip .nil) (fun x _ => implDet1_a x m)
  have h0 : detOf m = 0 := by simp [detOf, ho]
  rcases h2 with h2 | h2
  ·repeat' first | refine s1 ?_ | fail
   exact F.ret (by rw [h0])
  ·rw [h2] at hC
   repeat' first | refine s1 ?_ | (refine kR ?_; first | refine F.c (hC) ?_) | (refine s2 ?_ ?_ <;> intro hc <;> (try simp only [decide_eq_true_eq, decide_eq_false_iff_not, Bool.not_eq_true', Bool.not_eq_false'] at hc)) | fail
   all_goals exact F.ret (by rw [h0])
theorem specDeterminantOf_a (m : List (List Int)) : AC Try.prog 34 [ar false m] [.i (detOf m)] := by
 refine AC.go Try.func34 Try.ntmps34 rfl rfl fun w0 hw => ?_; simp [WfL, WfA, E_length, Enc.enc, In64] at hw
 repeat' first | refine s1 ?_ | fail
 refine F.loop (σ := Nat) [2, 3, 4, 5, 6, 7, 8, 9, 10, 11, 12, 13, 14, 15, 16, 17, 18, 19, 20, 21, 22, 23, 24, 25, 26, 27, 28, 29, 30, 31, 32, 33, 34, 35, 36, 37, 38, 39, 40, 41] (fun k => [(3, .i k)]) (fun _ => []) (fun k => k ≤ m.length ∧ (0 < k → m.length ≤ 5) ∧ ∀ j, j < k → okRow m.length (m.getD j default) = true) (fun k => m.length - k) 0 ⟨rfl, trivial⟩ trivial ⟨Nat.zero_le _, fun h => by omega, fun j hj => by omega⟩ ?_
 rintro k ⟨h1, h2, h3⟩
 have hno : ∀ j, j < m.length → okRow m.length (m.getD j default) = false → detOf m = 0 := fun j hj h => by
  have : okDet m = false := by
   rw [← Bool.not_eq_true]
   intro ho
   simp only [okDet, Bool.and_eq_true, List.all_eq_true] at ho
   have := ho.2 (m.getD j default) (gm hj)
   rw [h] at this; cases this
  simp [detOf, this]
 by_cases hlt : k < m.length
 ·by_cases hr : (m.getD k default).length = m.length
  ·by_cases h5 : 5 < m.length
   ·repeat' first | refine s1 ?_ | fail
    refine F.ret ?_
    have hof : okDet m = false := by rw [okDet, decide_eq_false (by omega), Bool.false_and]
    rw [detOf, hof]; rfl
   ·repeat' first | refine s1 ?_ | fail
    refine F.loop (σ := Nat) [2, 4, 24, 25, 26, 27, 28, 29, 30, 31, 32, 33, 34, 35, 36, 37, 38, 39, 40, 41] (fun i => [(4, .i i)]) (fun _ => []) (fun i => i ≤ m.length ∧ ∀ j, j < i → -100 ≤ (m.getD k default).getD j default ∧ (m.getD k default).getD j default ≤ 100) (fun i => m.length - i) 0 ⟨rfl, trivial⟩ trivial ⟨Nat.zero_le _, fun j hj => by omega⟩ ?_
    rintro i ⟨h6, h7⟩
    by_cases hli : i < m.length
    ·by_cases hx : -100 ≤ (m.getD k default).getD i default ∧ (m.getD k default).getD i default ≤ 100
     ·repeat' first | refine s1 ?_ | (refine kR ?_; first | (refine jCf 65 ?_; refine F.c (l1In_a _ _ _) ?_)) | fail
      refine ⟨i + 1, F.fit ⟨rfl, trivial⟩ trivial, ⟨by omega, fun j hj => ?_⟩, by omega⟩
      rcases Nat.lt_or_ge j i with h | h
      ·exact h7 j h
      ·obtain rfl : j = i := by omega
       exact hx
     ·repeat' first | refine s1 ?_ | (refine kR ?_; first | (refine jCf 65 ?_; refine F.c (l1In_a _ _ _) ?_)) | fail
      refine F.ret ?_
      rw [hno k hlt]
      simp only [okRow, hr, decide_true, Bool.true_and]
      rw [← Bool.not_eq_true]
      intro ha
      exact hx (by have := allIn_spec ha (k := i) (by omega); exact this)
    ·repeat' first | refine s1 ?_ | fail
     refine ⟨k + 1, F.fit ⟨rfl, trivial⟩ trivial, ⟨by omega, fun _ => by omega, fun j hj => ?_⟩, by omega⟩
     rcases Nat.lt_or_ge j k with h | h
     ·exact h3 j h
     ·obtain rfl : j = k := by omega
      simp only [okRow, hr, decide_true, Bool.true_and, allIn, List.all_eq_true, Bool.and_eq_true, decide_eq_true_eq]
      intro x hx
      obtain ⟨i', hi', rfl⟩ := List.mem_iff_getElem.mp hx
      have := h7 i' (by omega)
      generalize m.getD j default = l at this hi'
      simpa [hi'] using this
  ·repeat' first | refine s1 ?_ | fail
   refine F.ret ?_
   rw [hno k hlt]
   rw [okRow, decide_eq_false hr, Bool.false_and]
 ·have ho : okDet m = true := by
   simp only [okDet, Bool.and_eq_true, decide_eq_true_eq, List.all_eq_true]
   refine ⟨by omega, fun x hx => ?_⟩
   obtain ⟨i', hi', rfl⟩ := List.mem_iff_getElem.mp hx
   have := h3 i' (by omega)
   simpa [hi'] using this
  have h1 := okDet_rows ho
  repeat' first | refine s1 ?_ | (refine kR ?_; first | (refine jCf 52 ?_; refine F.c (specDet_a m.length h1.1 m h1.2) ?_)) | fail
  refine F.ret ?_
  simp [detOf, ho]
end Go.Proofs.Ytoilkinagffhiaa.V
