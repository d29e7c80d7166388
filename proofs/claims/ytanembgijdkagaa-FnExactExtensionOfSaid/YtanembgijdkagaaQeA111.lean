/- Contracts: block matrices and sums of representations (the reference's). -/
import Derived.Test.YtanembgijdkagaaQeUi
import Derived.Test.YtanembgijdkagaaQeUg
import Derived.Test.YtanembgijdkagaaQeUq
import Derived.Test.YtanembgijdkagaaQeUk
import Derived.Test.YtanembgijdkagaaQeA106
import Derived.Test.YtanembgijdkagaaQeA23
namespace Go.Proofs.Ytanembgijdkagaa.V
open V.Enc (enc)
open Go.RowKit G D
set_option linter.unusedVariables false
set_option linter.unusedSimpArgs false
set_option maxHeartbeats 4000000
set_option maxRecDepth 4000
attribute [local irreducible] AW ARg ARA ARet MRet ASil AC AM ARI
/-- the first i rows, and k numbers of row i, of the upper left block -/
def p1F (r1 c1 : Nat) (f : Nat → Nat → Int) (i k : Nat) : Nat → Nat → Int := fun i' j => if (i' < i ∨ (i' = i ∧ j < k)) ∧ i' < r1 ∧ j < c1 then f i' j else 0
/-- then the same of the lower right one -/
def p2F (r1 c1 r2 c2 : Nat) (f g : Nat → Nat → Int) (i k : Nat) : Nat → Nat → Int := fun i' j => if i' < r1 ∧ j < c1 then f i' j else if r1 ≤ i' ∧ c1 ≤ j ∧ (i' < r1 + i ∨ (i' = r1 + i ∧ j < c1 + k)) ∧ i' < r1 + r2 ∧ j < c1 + c2 then g (i' - r1) (j - c1) else 0
theorem p1F_zero (r1 c1 : Nat) (f : Nat → Nat → Int) : p1F r1 c1 f 0 0 = fun _ _ => 0 := by
  funext i j; unfold p1F; rw [if_neg (by omega)]
theorem p1F_set {r1 c1 : Nat} (f : Nat → Nat → Int) {i k : Nat} (hi : i < r1) (hk : k < c1) : updF (p1F r1 c1 f i k) i k (f i k) = p1F r1 c1 f i (k + 1) := by
  funext i' j
  unfold updF p1F
  by_cases e : i' = i ∧ j = k
  · obtain ⟨rfl, rfl⟩ := e
    rw [if_pos ⟨rfl, rfl⟩, if_pos (by omega)]
  · rw [if_neg e]
    by_cases e2 : (i' < i ∨ (i' = i ∧ j < k)) ∧ i' < r1 ∧ j < c1
    · rw [if_pos e2, if_pos (by omega)]
    · rw [if_neg e2, if_neg (by omega)]
theorem p1F_next (r1 c1 : Nat) (f : Nat → Nat → Int) (i : Nat) : p1F r1 c1 f i c1 = p1F r1 c1 f (i + 1) 0 := by
  funext i' j
  unfold p1F
  by_cases e2 : (i' < i ∨ (i' = i ∧ j < c1)) ∧ i' < r1 ∧ j < c1
  · rw [if_pos e2, if_pos (by omega)]
  · rw [if_neg e2, if_neg (by omega)]
theorem p12 (r1 c1 r2 c2 : Nat) (f g : Nat → Nat → Int) : p1F r1 c1 f r1 0 = p2F r1 c1 r2 c2 f g 0 0 := by
  funext i' j
  unfold p1F p2F
  by_cases e2 : i' < r1 ∧ j < c1
  · rw [if_pos (by omega), if_pos e2]
  · rw [if_neg (by omega), if_neg e2, if_neg (by omega)]
theorem p2F_set {r1 c1 r2 c2 : Nat} (f g : Nat → Nat → Int) {i k : Nat} (hi : i < r2) (hk : k < c2) : updF (p2F r1 c1 r2 c2 f g i k) (r1 + i) (c1 + k) (g i k) = p2F r1 c1 r2 c2 f g i (k + 1) := by
  funext i' j
  unfold updF p2F
  by_cases e : i' = r1 + i ∧ j = c1 + k
  · obtain ⟨rfl, rfl⟩ := e
    rw [if_pos ⟨rfl, rfl⟩, if_neg (by omega), if_pos (by omega), Nat.add_sub_cancel_left, Nat.add_sub_cancel_left]
  · rw [if_neg e]
    by_cases e0 : i' < r1 ∧ j < c1
    · rw [if_pos e0, if_pos e0]
    · rw [if_neg e0, if_neg e0]
      by_cases e2 : r1 ≤ i' ∧ c1 ≤ j ∧ (i' < r1 + i ∨ (i' = r1 + i ∧ j < c1 + k)) ∧ i' < r1 + r2 ∧ j < c1 + c2
      · rw [if_pos e2, if_pos (by omega)]
      · rw [if_neg e2, if_neg (by omega)]
theorem p2F_next (r1 c1 r2 c2 : Nat) (f g : Nat → Nat → Int) (i : Nat) : p2F r1 c1 r2 c2 f g i c2 = p2F r1 c1 r2 c2 f g (i + 1) 0 := by
  funext i' j
  unfold p2F
  by_cases e0 : i' < r1 ∧ j < c1
  · rw [if_pos e0, if_pos e0]
  · rw [if_neg e0, if_neg e0]
    by_cases e2 : r1 ≤ i' ∧ c1 ≤ j ∧ (i' < r1 + i ∨ (i' = r1 + i ∧ j < c1 + c2)) ∧ i' < r1 + r2 ∧ j < c1 + c2
    · rw [if_pos e2, if_pos (by omega)]
    · rw [if_neg e2, if_neg (by omega)]
theorem p2F_all (r1 c1 r2 c2 : Nat) (f g : Nat → Nat → Int) : tab (r1 + r2) (c1 + c2) (p2F r1 c1 r2 c2 f g r2 0) = tab (r1 + r2) (c1 + c2) (blkF r1 c1 f zerF g) := tab_ext fun i hi j hj => by
  unfold p2F blkF zerF
  by_cases h1 : i < r1
  · rw [if_pos h1]
    by_cases h2 : j < c1
    · rw [if_pos ⟨h1, h2⟩, if_pos h2]
    · rw [if_neg (by omega), if_neg h2, if_neg (by omega)]
  · rw [if_neg h1, if_neg (by omega)]
    by_cases h2 : j < c1
    · rw [if_pos h2, if_neg (by omega)]
    · rw [if_neg h2, if_pos (by omega)]
theorem l3Block_a (r1 c1 r2 c2 : Nat) (f g : Nat → Nat → Int) (hr : r1 + r2 ≤ 1000) (hc : c1 + c2 ≤ 1000) : AC Try.prog 61 [.agg (enc false (tm r1 c1 f)), .agg (enc false (tm r2 c2 g))] [.agg (enc true (tm (r1 + r2) (c1 + c2) (blkF r1 c1 f zerF g)))] := by
  refine AC.go Try.func61 Try.ntmps61 rfl rfl fun w0 hw => ?_; simp [WfL, WfA, E_length, Enc.enc, In64] at hw
  have hZ := l3ZeroT_a (r1 + r2) (c1 + c2) (by omega) (by omega)
  rw [← p1F_zero r1 c1 f] at hZ
  have hN : r1 + r2 ≤ 1000 := hr
  have hC : c1 + c2 ≤ 1000 := hc
  have e1 : (r1 : Int) + (r2 : Int) = ((r1 + r2 : Nat) : Int) := by push_cast; rfl
  have e2 : (c1 : Int) + (c2 : Int) = ((c1 + c2 : Nat) : Int) := by push_cast; rfl
  rw [← e1, ← e2] at hZ
  have hi1 : In64 ((r1 : Int) + (r2 : Int)) := by unfold In64; omega
  have hi2 : In64 ((c1 : Int) + (c2 : Int)) := by unfold In64; omega
  have s1' := fun i k (hi : i < r1) (hk : k < c1) => p1F_set f hi hk
  have n1 := p1F_next r1 c1 f
  have m12 := p12 r1 c1 r2 c2 f g
  have s2' := fun i k (hi : i < r2) (hk : k < c2) => p2F_set (r1 := r1) (c1 := c1) f g hi hk
  have n2 := p2F_next r1 c1 r2 c2 f g
  have a2 := p2F_all r1 c1 r2 c2 f g
  generalize p1F r1 c1 f = P1 at *
  generalize p2F r1 c1 r2 c2 f g = P2 at *
  generalize hBB : blkF r1 c1 f zerF g = BB at a2 ⊢
  generalize hRR : r1 + r2 = RR at *
  generalize hCC : c1 + c2 = CC at *
  repeat' first | refine s1 ?_ | refine q1 ?_ | (refine kR ?_; first | refine F.c (hZ) ?_) | fail
  refine AW.freezeP (α := Mat) (oo := false) (tm r1 c1 f) 2 rfl rfl ?_
  refine AW.freezeP (α := Mat) (oo := false) (tm r2 c2 g) 3 rfl rfl ?_
  refine F.loop (σ := Nat) [6, 7, 21, 22, 23, 24, 25, 26, 27, 28, 29, 30, 31, 32, 33, 34, 35, 36, 37, 38, 39, 40, 41, 42, 43, 44, 45, 46, 47, 48, 49, 50, 51] (fun i => [(6, .i i)]) (fun i => [(3, .live false 1 (E true (tab RR CC (P1 i 0))))]) (fun i => i ≤ r1) (fun i => r1 - i) 0 ⟨rfl, trivial⟩ ⟨rfl, trivial⟩ (Nat.zero_le _) ?_
  rintro i i1
  by_cases hi : i < r1
  · repeat' first | refine s1 ?_ | refine q1 ?_ | fail
    refine F.loop (σ := Nat) [7, 27, 28, 29, 30, 31, 32, 33, 34, 35, 36, 37, 38, 39, 40, 41, 42, 43, 44, 45, 46, 47, 48, 49, 50, 51] (fun k => [(7, .i k)]) (fun k => [(3, .live false 1 (E true (tab RR CC (P1 i k))))]) (fun k => k ≤ c1) (fun k => c1 - k) 0 ⟨rfl, trivial⟩ ⟨rfl, trivial⟩ (Nat.zero_le _) ?_
    rintro k k1
    by_cases hk : k < c1
    · obtain ⟨u1, u2⟩ := tab_in (i := i) (j := k) (r := RR) (c := CC) (by omega) (by omega) (by omega) (by omega)
      obtain ⟨u3, u4⟩ := tab_in (i := i) (j := k) (r := r1) (c := c1) hi hk (by omega) (by omega)
      have hs := s1' i k hi hk
      generalize P1 i k = G0 at hs ⊢
      repeat' first | refine s1 ?_ | refine q1 ?_ | fail
      refine AW.draw 19 G.mixed (by kernel_rfl) ?_
      refine dP 0 ?_
      first | refine dL 1 ?_ | refine dLQ 1 ?_
      refine dP 2 ?_
      refine dP 3 ?_
      first | refine dL 4 ?_ | refine dLQ 4 ?_
      refine dP 5 ?_
      refine dP 6 ?_
      refine dP 7 ?_
      refine dP 8 ?_
      first | refine dL 9 ?_ | refine dLQ 9 ?_
      refine dP 10 ?_
      refine dP 11 ?_
      first | refine dL 12 ?_ | refine dLQ 12 ?_
      refine dP 13 ?_
      refine dP 14 ?_
      refine dP 15 ?_
      first | refine dP 16 ?_ | refine dQ 16 ?_
      first | refine dL 17 ?_ | refine dLQ 17 ?_
      first | refine dP 18 ?_ | refine dQ 18 ?_
      refine dO 19 false ?_
      first | refine s1 ?_ | refine q1 ?_
      refine ARg.nil (ATh.normal ?_)
      refine dN ?_
      rotate_left
      all_goals
        repeat' first | refine s1 ?_ | refine q1 ?_ | fail
        exact ⟨k + 1, F.fit ⟨rfl, trivial⟩ ⟨obE (by rw [← hs]), trivial⟩, by omega, by omega⟩
    · obtain rfl : k = c1 := by omega
      rw [n1 i]
      repeat' first | refine s1 ?_ | refine q1 ?_ | fail
      exact ⟨i + 1, F.fit ⟨rfl, trivial⟩ ⟨rfl, trivial⟩, by omega, by omega⟩
  · obtain rfl : i = r1 := by omega
    rw [m12]
    repeat' first | refine s1 ?_ | refine q1 ?_ | fail
    refine F.loop (σ := Nat) [8, 9, 52, 53, 54, 55, 56, 57, 58, 59, 60, 61, 62, 63, 64, 65, 66, 67, 68, 69, 70, 71, 72, 73, 74, 75, 76, 77, 78, 79, 80, 81, 82, 83, 84, 85, 86, 87, 88] (fun j => [(8, .i j)]) (fun j => [(3, .live false 1 (E true (tab RR CC (P2 j 0))))]) (fun j => j ≤ r2) (fun j => r2 - j) 0 ⟨rfl, trivial⟩ ⟨rfl, trivial⟩ (Nat.zero_le _) ?_
    rintro j j1
    by_cases hj : j < r2
    · repeat' first | refine s1 ?_ | refine q1 ?_ | fail
      refine F.loop (σ := Nat) [9, 58, 59, 60, 61, 62, 63, 64, 65, 66, 67, 68, 69, 70, 71, 72, 73, 74, 75, 76, 77, 78, 79, 80, 81, 82, 83, 84, 85, 86, 87, 88] (fun k => [(9, .i k)]) (fun k => [(3, .live false 1 (E true (tab RR CC (P2 j k))))]) (fun k => k ≤ c2) (fun k => c2 - k) 0 ⟨rfl, trivial⟩ ⟨rfl, trivial⟩ (Nat.zero_le _) ?_
      rintro k k1
      by_cases hk : k < c2
      · obtain ⟨u1, u2⟩ := tab_in (i := i + j) (j := c1 + k) (r := RR) (c := CC) (by omega) (by omega) (by omega) (by omega)
        obtain ⟨u3, u4⟩ := tab_in (i := j) (j := k) (r := r2) (c := c2) hj hk (by omega) (by omega)
        have ea : ((i + j : Nat) : Int) = (i : Int) + (j : Int) := by push_cast; rfl
        have eb : ((c1 + k : Nat) : Int) = (c1 : Int) + (k : Int) := by push_cast; rfl
        rw [ea] at u1 u2
        rw [eb, ← Int.add_assoc] at u2
        have u5 : In64 (((i : Int) + (j : Int)) * (CC : Int) + (c1 : Int)) := by unfold In64 at u1 u2 ⊢; omega
        have hi3 : In64 ((i : Int) + (j : Int)) := by unfold In64; omega
        have hix : ((i : Int) + (j : Int)) * (CC : Int) + (c1 : Int) + (k : Int) = ((i + j : Nat) : Int) * (CC : Int) + ((c1 + k : Nat) : Int) := by rw [ea, eb]; omega
        have hs := s2' j k hj hk
        generalize P2 j k = G0 at hs ⊢
        repeat' first | refine s1 ?_ | refine q1 ?_ | fail
        refine AW.draw 25 G.mixed (by kernel_rfl) ?_
        refine dP 0 ?_
        first | refine dL 1 ?_ | refine dLQ 1 ?_
        refine dP 2 ?_
        first | refine dL 3 ?_ | refine dLQ 3 ?_
        refine dP 4 ?_
        refine dP 5 ?_
        refine dP 6 ?_
        first | refine dL 7 ?_ | refine dLQ 7 ?_
        refine dP 8 ?_
        refine dP 9 ?_
        first | refine dL 10 ?_ | refine dLQ 10 ?_
        refine dP 11 ?_
        refine dP 12 ?_
        refine dP 13 ?_
        refine dP 14 ?_
        first | refine dL 15 ?_ | refine dLQ 15 ?_
        refine dP 16 ?_
        refine dP 17 ?_
        first | refine dL 18 ?_ | refine dLQ 18 ?_
        refine dP 19 ?_
        refine dP 20 ?_
        refine dP 21 ?_
        first | refine dP 22 ?_ | refine dQ 22 ?_
        first | refine dL 23 ?_ | refine dLQ 23 ?_
        first | refine dP 24 ?_ (hs := by exact (A.idxQ (r := RR) (c := CC) (i := i + j) (j := c1 + k) rfl (congrArg AV.i hix) rfl (by omega) (by omega) (by first | rfl | (simp [tab_len]; done)) (by first | rfl | (simp [tab_len]; done)))) | refine dP 24 ?_ | refine dQ 24 ?_
        refine dO 25 false ?_
        first | refine s1 ?_ | refine q1 ?_
        refine ARg.nil (ATh.normal ?_)
        refine dN ?_
        rotate_left
        all_goals
          repeat' first | refine s1 ?_ | refine q1 ?_ | fail
          exact ⟨k + 1, F.fit ⟨rfl, trivial⟩ ⟨obE (by rw [← hs]), trivial⟩, by omega, by omega⟩
      · obtain rfl : k = c2 := by omega
        rw [n2 j]
        repeat' first | refine s1 ?_ | refine q1 ?_ | fail
        exact ⟨j + 1, F.fit ⟨rfl, trivial⟩ ⟨rfl, trivial⟩, by omega, by omega⟩
    · obtain rfl : j = r2 := by omega
      rw [a2]
      repeat' first | refine s1 ?_ | refine q1 ?_ | fail
      rw [e1, e2]
      (refine kZ ?_; exact F.ret rfl)
theorem l3BlockM_a {p : Int} {x z : Mat} (hx : isMat p x = true) (hz : isMat p z = true) : AC Try.prog 61 [.agg (enc false x), .agg (enc false z)] [.agg (enc true (blkM x z zerF))] := by
  obtain ⟨_, x1, x2, _, _⟩ := isMat_spec hx
  obtain ⟨_, z1, z2, _, _⟩ := isMat_spec hz
  have := l3Block_a x.r.toNat x.c.toNat z.r.toNat z.c.toNat (ent x) (ent z) (by omega) (by omega)
  rw [isMat_tm hx, isMat_tm hz] at this
  exact this
theorem specDirectSum_a (x y : Rep) : AC Try.prog 60 [.agg (enc false x), .agg (enc false y)] [.agg (enc true (sumP x y).1), .b (sumP x y).2] := by
  refine AC.go Try.func60 Try.ntmps60 rfl rfl fun w0 hw => ?_; simp [WfL, WfA, E_length, Enc.enc, In64] at hw
  have hF := l9Fit_a x y
  unfold sumP
  cases hf : fitR x y with
  | false =>
    rw [hf] at hF
    rw [if_neg (by simp)]
    repeat' first | refine s1 ?_ | refine q1 ?_ | (refine kR ?_; first | refine F.c (hF) ?_) | fail
    (refine kZ ?_; exact F.ret rfl)
  | true =>
    rw [hf] at hF
    have hh := Fits.of hf
    have hrx := (fitR_reps hf).1
    have hry := (fitR_reps hf).2
    have h5 := okQ_spec hh.ok
    have hda := hh.da
    have hdb := hh.db
    have hba := hh.ba
    have hbb := hh.bb
    obtain ⟨r1, r2, r3, r4⟩ := isRep_spec hrx
    obtain ⟨t1, t2, t3, t4⟩ := isRep_spec hry
    have hq := hh.q
    have hmm : y.m.length = x.m.length := by rw [r3, t3, hq]
    have hax := fun i (hi : i < x.m.length) => arrow_ok hrx hi
    have hay := fun i (hi : i < y.m.length) => arrow_ok hry hi
    have hp := hh.p
    have hC := l6Copy_a x.q (by omega)
    have hdl := sumDs_len x y
    have hdt := fun k hk => sumDs_take x y (k := k) hk
    have hml := sumMs_len x y fun _ => zerF
    have hmt := fun i hi => sumMs_take x y (fun _ => zerF) (k := i) hi
    have hR := specIsRep_a (sumR x y fun _ => zerF)
    have hS : (sumR x y fun _ => zerF) = ⟨x.p, x.q, sumDs x y, sumMs x y fun _ => zerF⟩ := rfl
    generalize (sumR x y fun _ => zerF) = S at hR hS ⊢
    generalize sumDs x y = SD at hdl hdt hS
    generalize sumMs x y (fun _ => zerF) = SM at hml hmt hS
    repeat' first | refine s1 ?_ | refine q1 ?_ | (refine kR ?_; first | refine F.c (hF) ?_) | fail
    refine AW.freezeP (α := Rep) (oo := false) x 2 rfl rfl ?_
    refine AW.freezeP (α := Rep) (oo := false) y 3 rfl rfl ?_
    apply V.tailedT
    · intro tail1
      apply V.tailedT
      · intro tail2
        refine AW.drawI G.mixed (by kernel_rfl) (by rfl) ?_
        intro T w1 MP1 I0
        refine iP 0 ?_
        refine iL 1 ?_
        refine iP 2 ?_
        refine iL 3 ?_
        refine ARI.any [4, 5, 6, 8] (by kernel_rfl) (by simp) ?_
        intro k hk
        simp only [List.mem_cons, List.not_mem_nil, or_false] at hk
        rcases hk with rfl | rfl | rfl | rfl
        refine ⟨_, rfl, ?_⟩
        first | refine s1 ?_ | refine F.c (hC) ?_
        refine ARg.nil (ATh.normal ?_)
        refine ARI.any [5, 6, 8] (by kernel_rfl) (by simp) ?_
        intro k hk
        simp only [List.mem_cons, List.not_mem_nil, or_false] at hk
        rcases hk with rfl | rfl | rfl
        refine ⟨_, rfl, ?_⟩
        refine s1 ?_
        refine ARg.nil (ATh.normal ?_)
        refine ARI.any [6, 8] (by kernel_rfl) (by simp) ?_
        intro k hk
        simp only [List.mem_cons, List.not_mem_nil, or_false] at hk
        rcases hk with rfl | rfl
        refine ⟨_, rfl, ?_⟩
        refine s1 ?_
        refine ARg.nil (ATh.normal ?_)
        refine iP 7 ?_
        refine iO 8 ?_
        refine s1 ?_
        refine ARg.nil (ATh.normal ?_)
        refine iO 9 ?_
        first | refine s1 ?_ | refine q1 ?_
        refine ARg.nil (ATh.normal ?_)
        refine iN ?_
        rotate_left
        refine ⟨_, rfl, ?_⟩
        refine s1 ?_
        refine ARg.nil (ATh.normal ?_)
        refine iO 6 ?_
        refine s1 ?_
        refine ARg.nil (ATh.normal ?_)
        refine iP 7 ?_
        refine iO 9 ?_
        first | refine s1 ?_ | refine q1 ?_
        refine ARg.nil (ATh.normal ?_)
        refine iN ?_
        rotate_left
        refine ⟨_, rfl, ?_⟩
        refine s1 ?_
        refine ARg.nil (ATh.normal ?_)
        refine ARI.any [5, 8] (by kernel_rfl) (by simp) ?_
        intro k hk
        simp only [List.mem_cons, List.not_mem_nil, or_false] at hk
        rcases hk with rfl | rfl
        refine ⟨_, rfl, ?_⟩
        refine s1 ?_
        refine ARg.nil (ATh.normal ?_)
        refine iP 7 ?_
        refine iO 8 ?_
        refine s1 ?_
        refine ARg.nil (ATh.normal ?_)
        refine iO 9 ?_
        first | refine s1 ?_ | refine q1 ?_
        refine ARg.nil (ATh.normal ?_)
        refine iN ?_
        rotate_left
        refine ⟨_, rfl, ?_⟩
        refine s1 ?_
        refine ARg.nil (ATh.normal ?_)
        refine iO 5 ?_
        refine s1 ?_
        refine ARg.nil (ATh.normal ?_)
        refine iP 7 ?_
        refine iO 9 ?_
        first | refine s1 ?_ | refine q1 ?_
        refine ARg.nil (ATh.normal ?_)
        refine iN ?_
        rotate_left
        refine ⟨_, rfl, ?_⟩
        refine s1 ?_
        refine ARg.nil (ATh.normal ?_)
        refine ARI.any [5, 6] (by kernel_rfl) (by simp) ?_
        intro k hk
        simp only [List.mem_cons, List.not_mem_nil, or_false] at hk
        rcases hk with rfl | rfl
        refine ⟨_, rfl, ?_⟩
        refine s1 ?_
        refine ARg.nil (ATh.normal ?_)
        refine iO 6 ?_
        refine s1 ?_
        refine ARg.nil (ATh.normal ?_)
        refine iP 7 ?_
        refine iO 9 ?_
        first | refine s1 ?_ | refine q1 ?_
        refine ARg.nil (ATh.normal ?_)
        refine iN ?_
        rotate_left
        refine ⟨_, rfl, ?_⟩
        refine s1 ?_
        refine ARg.nil (ATh.normal ?_)
        refine iO 5 ?_
        refine s1 ?_
        refine ARg.nil (ATh.normal ?_)
        refine iP 7 ?_
        refine iO 9 ?_
        first | refine s1 ?_ | refine q1 ?_
        refine ARg.nil (ATh.normal ?_)
        refine iN ?_
        rotate_left
        refine ⟨_, rfl, ?_⟩
        refine s1 ?_
        refine ARg.nil (ATh.normal ?_)
        refine ARI.any [4, 6, 8] (by kernel_rfl) (by simp) ?_
        intro k hk
        simp only [List.mem_cons, List.not_mem_nil, or_false] at hk
        rcases hk with rfl | rfl | rfl
        refine ⟨_, rfl, ?_⟩
        first | refine s1 ?_ | refine F.c (hC) ?_
        refine ARg.nil (ATh.normal ?_)
        refine ARI.any [6, 8] (by kernel_rfl) (by simp) ?_
        intro k hk
        simp only [List.mem_cons, List.not_mem_nil, or_false] at hk
        rcases hk with rfl | rfl
        refine ⟨_, rfl, ?_⟩
        refine s1 ?_
        refine ARg.nil (ATh.normal ?_)
        refine iP 7 ?_
        refine iO 8 ?_
        refine s1 ?_
        refine ARg.nil (ATh.normal ?_)
        refine iO 9 ?_
        first | refine s1 ?_ | refine q1 ?_
        refine ARg.nil (ATh.normal ?_)
        refine iN ?_
        rotate_left
        refine ⟨_, rfl, ?_⟩
        refine s1 ?_
        refine ARg.nil (ATh.normal ?_)
        refine iO 6 ?_
        refine s1 ?_
        refine ARg.nil (ATh.normal ?_)
        refine iP 7 ?_
        refine iO 9 ?_
        first | refine s1 ?_ | refine q1 ?_
        refine ARg.nil (ATh.normal ?_)
        refine iN ?_
        rotate_left
        refine ⟨_, rfl, ?_⟩
        refine s1 ?_
        refine ARg.nil (ATh.normal ?_)
        refine ARI.any [4, 8] (by kernel_rfl) (by simp) ?_
        intro k hk
        simp only [List.mem_cons, List.not_mem_nil, or_false] at hk
        rcases hk with rfl | rfl
        refine ⟨_, rfl, ?_⟩
        first | refine s1 ?_ | refine F.c (hC) ?_
        refine ARg.nil (ATh.normal ?_)
        refine iP 7 ?_
        refine iO 8 ?_
        refine s1 ?_
        refine ARg.nil (ATh.normal ?_)
        refine iO 9 ?_
        first | refine s1 ?_ | refine q1 ?_
        refine ARg.nil (ATh.normal ?_)
        refine iN ?_
        rotate_left
        refine ⟨_, rfl, ?_⟩
        refine s1 ?_
        refine ARg.nil (ATh.normal ?_)
        refine iO 4 ?_
        first | refine s1 ?_ | refine F.c (hC) ?_
        refine ARg.nil (ATh.normal ?_)
        refine iP 7 ?_
        refine iO 9 ?_
        first | refine s1 ?_ | refine q1 ?_
        refine ARg.nil (ATh.normal ?_)
        refine iN ?_
        rotate_left
        refine ⟨_, rfl, ?_⟩
        refine s1 ?_
        refine ARg.nil (ATh.normal ?_)
        refine ARI.any [4, 6] (by kernel_rfl) (by simp) ?_
        intro k hk
        simp only [List.mem_cons, List.not_mem_nil, or_false] at hk
        rcases hk with rfl | rfl
        refine ⟨_, rfl, ?_⟩
        first | refine s1 ?_ | refine F.c (hC) ?_
        refine ARg.nil (ATh.normal ?_)
        refine iO 6 ?_
        refine s1 ?_
        refine ARg.nil (ATh.normal ?_)
        refine iP 7 ?_
        refine iO 9 ?_
        first | refine s1 ?_ | refine q1 ?_
        refine ARg.nil (ATh.normal ?_)
        refine iN ?_
        rotate_left
        refine ⟨_, rfl, ?_⟩
        refine s1 ?_
        refine ARg.nil (ATh.normal ?_)
        refine iO 4 ?_
        first | refine s1 ?_ | refine F.c (hC) ?_
        refine ARg.nil (ATh.normal ?_)
        refine iP 7 ?_
        refine iO 9 ?_
        first | refine s1 ?_ | refine q1 ?_
        refine ARg.nil (ATh.normal ?_)
        refine iN ?_
        rotate_left
        refine ⟨_, rfl, ?_⟩
        refine s1 ?_
        refine ARg.nil (ATh.normal ?_)
        refine ARI.any [4, 5, 8] (by kernel_rfl) (by simp) ?_
        intro k hk
        simp only [List.mem_cons, List.not_mem_nil, or_false] at hk
        rcases hk with rfl | rfl | rfl
        refine ⟨_, rfl, ?_⟩
        first | refine s1 ?_ | refine F.c (hC) ?_
        refine ARg.nil (ATh.normal ?_)
        refine ARI.any [5, 8] (by kernel_rfl) (by simp) ?_
        intro k hk
        simp only [List.mem_cons, List.not_mem_nil, or_false] at hk
        rcases hk with rfl | rfl
        refine ⟨_, rfl, ?_⟩
        refine s1 ?_
        refine ARg.nil (ATh.normal ?_)
        refine iP 7 ?_
        refine iO 8 ?_
        refine s1 ?_
        refine ARg.nil (ATh.normal ?_)
        refine iO 9 ?_
        first | refine s1 ?_ | refine q1 ?_
        refine ARg.nil (ATh.normal ?_)
        refine iN ?_
        rotate_left
        refine ⟨_, rfl, ?_⟩
        refine s1 ?_
        refine ARg.nil (ATh.normal ?_)
        refine iO 5 ?_
        refine s1 ?_
        refine ARg.nil (ATh.normal ?_)
        refine iP 7 ?_
        refine iO 9 ?_
        first | refine s1 ?_ | refine q1 ?_
        refine ARg.nil (ATh.normal ?_)
        refine iN ?_
        rotate_left
        refine ⟨_, rfl, ?_⟩
        refine s1 ?_
        refine ARg.nil (ATh.normal ?_)
        refine ARI.any [4, 8] (by kernel_rfl) (by simp) ?_
        intro k hk
        simp only [List.mem_cons, List.not_mem_nil, or_false] at hk
        rcases hk with rfl | rfl
        refine ⟨_, rfl, ?_⟩
        first | refine s1 ?_ | refine F.c (hC) ?_
        refine ARg.nil (ATh.normal ?_)
        refine iP 7 ?_
        refine iO 8 ?_
        refine s1 ?_
        refine ARg.nil (ATh.normal ?_)
        refine iO 9 ?_
        first | refine s1 ?_ | refine q1 ?_
        refine ARg.nil (ATh.normal ?_)
        refine iN ?_
        rotate_left
        refine ⟨_, rfl, ?_⟩
        refine s1 ?_
        refine ARg.nil (ATh.normal ?_)
        refine iO 4 ?_
        first | refine s1 ?_ | refine F.c (hC) ?_
        refine ARg.nil (ATh.normal ?_)
        refine iP 7 ?_
        refine iO 9 ?_
        first | refine s1 ?_ | refine q1 ?_
        refine ARg.nil (ATh.normal ?_)
        refine iN ?_
        rotate_left
        refine ⟨_, rfl, ?_⟩
        refine s1 ?_
        refine ARg.nil (ATh.normal ?_)
        refine ARI.any [4, 5] (by kernel_rfl) (by simp) ?_
        intro k hk
        simp only [List.mem_cons, List.not_mem_nil, or_false] at hk
        rcases hk with rfl | rfl
        refine ⟨_, rfl, ?_⟩
        first | refine s1 ?_ | refine F.c (hC) ?_
        refine ARg.nil (ATh.normal ?_)
        refine iO 5 ?_
        refine s1 ?_
        refine ARg.nil (ATh.normal ?_)
        refine iP 7 ?_
        refine iO 9 ?_
        first | refine s1 ?_ | refine q1 ?_
        refine ARg.nil (ATh.normal ?_)
        refine iN ?_
        rotate_left
        refine ⟨_, rfl, ?_⟩
        refine s1 ?_
        refine ARg.nil (ATh.normal ?_)
        refine iO 4 ?_
        first | refine s1 ?_ | refine F.c (hC) ?_
        refine ARg.nil (ATh.normal ?_)
        refine iP 7 ?_
        refine iO 9 ?_
        first | refine s1 ?_ | refine q1 ?_
        refine ARg.nil (ATh.normal ?_)
        refine iN ?_
        rotate_left
        refine ⟨_, rfl, ?_⟩
        refine s1 ?_
        refine ARg.nil (ATh.normal ?_)
        refine ARI.any [4, 5, 6] (by kernel_rfl) (by simp) ?_
        intro k hk
        simp only [List.mem_cons, List.not_mem_nil, or_false] at hk
        rcases hk with rfl | rfl | rfl
        refine ⟨_, rfl, ?_⟩
        first | refine s1 ?_ | refine F.c (hC) ?_
        refine ARg.nil (ATh.normal ?_)
        refine ARI.any [5, 6] (by kernel_rfl) (by simp) ?_
        intro k hk
        simp only [List.mem_cons, List.not_mem_nil, or_false] at hk
        rcases hk with rfl | rfl
        refine ⟨_, rfl, ?_⟩
        refine s1 ?_
        refine ARg.nil (ATh.normal ?_)
        refine iO 6 ?_
        refine s1 ?_
        refine ARg.nil (ATh.normal ?_)
        refine iP 7 ?_
        refine iO 9 ?_
        first | refine s1 ?_ | refine q1 ?_
        refine ARg.nil (ATh.normal ?_)
        refine iN ?_
        rotate_left
        refine ⟨_, rfl, ?_⟩
        refine s1 ?_
        refine ARg.nil (ATh.normal ?_)
        refine iO 5 ?_
        refine s1 ?_
        refine ARg.nil (ATh.normal ?_)
        refine iP 7 ?_
        refine iO 9 ?_
        first | refine s1 ?_ | refine q1 ?_
        refine ARg.nil (ATh.normal ?_)
        refine iN ?_
        rotate_left
        refine ⟨_, rfl, ?_⟩
        refine s1 ?_
        refine ARg.nil (ATh.normal ?_)
        refine ARI.any [4, 6] (by kernel_rfl) (by simp) ?_
        intro k hk
        simp only [List.mem_cons, List.not_mem_nil, or_false] at hk
        rcases hk with rfl | rfl
        refine ⟨_, rfl, ?_⟩
        first | refine s1 ?_ | refine F.c (hC) ?_
        refine ARg.nil (ATh.normal ?_)
        refine iO 6 ?_
        refine s1 ?_
        refine ARg.nil (ATh.normal ?_)
        refine iP 7 ?_
        refine iO 9 ?_
        first | refine s1 ?_ | refine q1 ?_
        refine ARg.nil (ATh.normal ?_)
        refine iN ?_
        rotate_left
        refine ⟨_, rfl, ?_⟩
        refine s1 ?_
        refine ARg.nil (ATh.normal ?_)
        refine iO 4 ?_
        first | refine s1 ?_ | refine F.c (hC) ?_
        refine ARg.nil (ATh.normal ?_)
        refine iP 7 ?_
        refine iO 9 ?_
        first | refine s1 ?_ | refine q1 ?_
        refine ARg.nil (ATh.normal ?_)
        refine iN ?_
        rotate_left
        refine ⟨_, rfl, ?_⟩
        refine s1 ?_
        refine ARg.nil (ATh.normal ?_)
        refine ARI.any [4, 5] (by kernel_rfl) (by simp) ?_
        intro k hk
        simp only [List.mem_cons, List.not_mem_nil, or_false] at hk
        rcases hk with rfl | rfl
        refine ⟨_, rfl, ?_⟩
        first | refine s1 ?_ | refine F.c (hC) ?_
        refine ARg.nil (ATh.normal ?_)
        refine iO 5 ?_
        refine s1 ?_
        refine ARg.nil (ATh.normal ?_)
        refine iP 7 ?_
        refine iO 9 ?_
        first | refine s1 ?_ | refine q1 ?_
        refine ARg.nil (ATh.normal ?_)
        refine iN ?_
        rotate_left
        refine ⟨_, rfl, ?_⟩
        refine s1 ?_
        refine ARg.nil (ATh.normal ?_)
        refine iO 4 ?_
        first | refine s1 ?_ | refine F.c (hC) ?_
        refine ARg.nil (ATh.normal ?_)
        refine iP 7 ?_
        refine iO 9 ?_
        first | refine s1 ?_ | refine q1 ?_
        refine ARg.nil (ATh.normal ?_)
        refine iN ?_
        rotate_left
        all_goals
          repeat' first | refine s1 ?_ | refine q1 ?_ | fail
          first
            | (refine AW.only [(2, .ip (enc false x)), (3, .ip (enc false y)), (4, .pt 2 1 0 0), (6, .pt 5 1 0 0), (7, .i 0)] [(2, .live false 6 [[.i 0, .i 0, .nl, .nl, .nl, .nl]]), (3, .live false 1 (E true x.q.fr)), (4, .live false 1 (E true x.q.to)), (5, .live false 6 [[.i x.p, .i x.q.n, .sl 3 x.q.fr.length 0 x.q.fr.length, .sl 4 x.q.to.length 0 x.q.to.length, .em, .em]])] 6 ⟨rfl, rfl, rfl, rfl, rfl, trivial⟩ ⟨rfl, rfl, rfl, rfl, trivial⟩ rfl ?_
               exact tail1.t)
            | (refine AW.only [(2, .ip (enc false x)), (3, .ip (enc false y)), (4, .pt 2 1 0 0), (6, .pt 3 1 0 0), (7, .i 0)] [(2, .live false 6 [[.i 0, .i 0, .nl, .nl, .nl, .nl]]), (4, .live false 1 (E true x.q.fr)), (5, .live false 1 (E true x.q.to)), (3, .live false 6 [[.i x.p, .i x.q.n, .sl 4 x.q.fr.length 0 x.q.fr.length, .sl 5 x.q.to.length 0 x.q.to.length, .em, .em]])] 6 ⟨rfl, rfl, rfl, rfl, rfl, trivial⟩ ⟨rfl, rfl, rfl, rfl, trivial⟩ rfl ?_
               exact tail2.t)
      · refine AW.openV (o := 3) (j := 4) 1 rfl rfl (.inr rfl) rfl ?_
        refine AW.openV (o := 3) (j := 5) 3 rfl rfl (.inr rfl) rfl ?_
        refine F.loop (σ := Nat) [7, 22, 23, 24, 25, 26, 27, 28, 29, 30, 31, 32, 33, 34, 35, 36, 37, 38, 39, 40, 41, 42, 43, 44] (fun k => [(7, .i k)]) (fun k => [(3, .live false 6 [[.i x.p, .i x.q.n, .sl 4 x.q.fr.length 0 x.q.fr.length, .sl 5 x.q.to.length 0 x.q.to.length, .sl 6 k 0 k, .sl 7 0 0 0]]), (6, .live false 1 (E true (SD.take k)))]) (fun k => k ≤ x.d.length) (fun k => x.d.length - k) 0 ⟨rfl, trivial⟩ ⟨rfl, rfl, trivial⟩ (Nat.zero_le _) ?_
        rintro k k1
        have hp3 : (SD.take k).length = k := by rw [List.length_take]; omega
        by_cases hk : k < x.d.length
        · have b1 := hba k hk
          have b2 := hbb k (by omega)
          have ht := hdt k hk
          repeat' first | refine s1 ?_ | refine q1 ?_ | fail
          refine AW.draw 14 G.mixed (by kernel_rfl) ?_
          refine dP 0 ?_
          first | refine dL 1 ?_ | refine dLQ 1 ?_
          refine dP 2 ?_
          first | refine dL 3 ?_ | refine dLQ 3 ?_
          refine dP 4 ?_
          first | refine dP 5 ?_ | refine dQ 5 ?_
          first | refine dL 6 ?_ | refine dLQ 6 ?_
          refine dP 7 ?_
          first | refine dL 8 ?_ | refine dLQ 8 ?_
          refine dP 9 ?_
          first | refine dP 10 ?_ | refine dQ 10 ?_
          first | refine dL 11 ?_ | refine dLQ 11 ?_
          refine dP 12 ?_
          refine dO 13 true ?_
          refine s1 ?_
          refine ARg.nil (ATh.normal ?_)
          refine dO 14 false ?_
          first | refine s1 ?_ | refine F.a1 Int ?_
          refine ARg.nil (ATh.normal ?_)
          refine dP 15 ?_
          refine dO 16 false ?_
          first | refine s1 ?_ | refine q1 ?_
          refine ARg.nil (ATh.normal ?_)
          refine dN ?_
          rotate_left
          all_goals
            repeat' first | refine s1 ?_ | refine q1 ?_ | fail
            exact ⟨k + 1, F.fit ⟨rfl, trivial⟩ ⟨rfl, obE (by rw [ht]), trivial⟩, by omega, by omega⟩
        · obtain rfl : k = x.d.length := by omega
          have e : SD.take x.d.length = SD := List.take_of_length_le (by omega)
          rw [e]
          clear hp3 e
          repeat' first | refine s1 ?_ | refine q1 ?_ | fail
          refine F.loop (σ := Nat) [8, 45, 46, 47, 48, 49, 50, 51, 52, 53, 54, 55, 56, 57, 58, 59, 60, 61, 62, 63, 64, 65, 66, 67] (fun k => [(8, .i k)]) (fun k => [(3, .live false 6 [[.i x.p, .i x.q.n, .sl 4 x.q.fr.length 0 x.q.fr.length, .sl 5 x.q.to.length 0 x.q.to.length, .sl 6 x.d.length 0 x.d.length, .sl 7 k 0 k]]), (7, .live false 3 (E true (SM.take k)))]) (fun k => k ≤ x.m.length) (fun k => x.m.length - k) 0 ⟨rfl, trivial⟩ ⟨rfl, rfl, trivial⟩ (Nat.zero_le _) ?_
          rintro i i1
          have hp4 : (SM.take i).length = i := by rw [List.length_take]; omega
          by_cases hi : i < x.m.length
          · have a1 := (hax i hi).1
            have g1 := (hay i (by omega)).1
            rw [← hp] at g1
            have hB := l3BlockM_a a1 g1
            have ht := hmt i hi
            generalize blkM (x.m.getD i default) (y.m.getD i default) zerF = SA at hB ht
            repeat' first | refine s1 ?_ | refine q1 ?_ | fail
            refine AW.draw 14 G.mixed (by kernel_rfl) ?_
            refine dP 0 ?_
            first | refine dL 1 ?_ | refine dLQ 1 ?_
            refine dP 2 ?_
            first | refine dL 3 ?_ | refine dLQ 3 ?_
            refine dP 4 ?_
            first | refine dP 5 ?_ | refine dQ 5 ?_
            first | refine dL 6 ?_ | refine dLQ 6 ?_
            refine dP 7 ?_
            first | refine dL 8 ?_ | refine dLQ 8 ?_
            refine dP 9 ?_
            first | refine dP 10 ?_ | refine dQ 10 ?_
            first | refine dL 11 ?_ | refine dLQ 11 ?_
            refine dO 12 true ?_
            first | refine s1 ?_ | refine F.c (hB) ?_
            refine ARg.nil (ATh.normal ?_)
            refine dO 13 true ?_
            refine s1 ?_
            refine ARg.nil (ATh.normal ?_)
            refine dO 14 false ?_
            first | refine s1 ?_ | refine F.a1 Mat (a := SA) ?_
            refine ARg.nil (ATh.normal ?_)
            refine dP 15 ?_
            refine dO 16 false ?_
            first | refine s1 ?_ | refine q1 ?_
            refine ARg.nil (ATh.normal ?_)
            refine dN ?_
            rotate_left
            all_goals
              repeat' first | refine s1 ?_ | refine q1 ?_ | fail
              exact ⟨i + 1, F.fit ⟨rfl, trivial⟩ ⟨rfl, obE (by rw [ht]), trivial⟩, by omega, by omega⟩
          · obtain rfl : i = x.m.length := by omega
            have e : SM.take x.m.length = SM := List.take_of_length_le (by omega)
            rw [e]
            clear hp4 e
            rw [← hdl, ← hml]
            subst hS
            cases hr : isRep ⟨x.p, x.q, SD, SM⟩ with
            | false =>
              rw [hr] at hR
              rw [if_neg (by simp)]
              repeat' first | refine s1 ?_ | refine q1 ?_ | (refine kR ?_; first | refine F.c (hR) ?_) | fail
              (refine kZ ?_; exact F.ret rfl)
            | true =>
              rw [hr] at hR
              rw [if_pos ⟨rfl, rfl⟩]
              repeat' first | refine s1 ?_ | refine q1 ?_ | (refine kR ?_; first | refine F.c (hR) ?_) | fail
              (refine kZ ?_; exact F.ret rfl)
    · refine AW.openV (o := 5) (j := 4) 1 rfl rfl (.inr rfl) rfl ?_
      refine AW.openV (o := 5) (j := 5) 3 rfl rfl (.inr rfl) rfl ?_
      refine F.loop (σ := Nat) [7, 22, 23, 24, 25, 26, 27, 28, 29, 30, 31, 32, 33, 34, 35, 36, 37, 38, 39, 40, 41, 42, 43, 44] (fun k => [(7, .i k)]) (fun k => [(5, .live false 6 [[.i x.p, .i x.q.n, .sl 3 x.q.fr.length 0 x.q.fr.length, .sl 4 x.q.to.length 0 x.q.to.length, .sl 6 k 0 k, .sl 7 0 0 0]]), (6, .live false 1 (E true (SD.take k)))]) (fun k => k ≤ x.d.length) (fun k => x.d.length - k) 0 ⟨rfl, trivial⟩ ⟨rfl, rfl, trivial⟩ (Nat.zero_le _) ?_
      rintro k k1
      have hp3 : (SD.take k).length = k := by rw [List.length_take]; omega
      by_cases hk : k < x.d.length
      · have b1 := hba k hk
        have b2 := hbb k (by omega)
        have ht := hdt k hk
        repeat' first | refine s1 ?_ | refine q1 ?_ | fail
        refine AW.draw 14 G.mixed (by kernel_rfl) ?_
        refine dP 0 ?_
        first | refine dL 1 ?_ | refine dLQ 1 ?_
        refine dP 2 ?_
        first | refine dL 3 ?_ | refine dLQ 3 ?_
        refine dP 4 ?_
        first | refine dP 5 ?_ | refine dQ 5 ?_
        first | refine dL 6 ?_ | refine dLQ 6 ?_
        refine dP 7 ?_
        first | refine dL 8 ?_ | refine dLQ 8 ?_
        refine dP 9 ?_
        first | refine dP 10 ?_ | refine dQ 10 ?_
        first | refine dL 11 ?_ | refine dLQ 11 ?_
        refine dP 12 ?_
        refine dO 13 true ?_
        refine s1 ?_
        refine ARg.nil (ATh.normal ?_)
        refine dO 14 false ?_
        first | refine s1 ?_ | refine F.a1 Int ?_
        refine ARg.nil (ATh.normal ?_)
        refine dP 15 ?_
        refine dO 16 false ?_
        first | refine s1 ?_ | refine q1 ?_
        refine ARg.nil (ATh.normal ?_)
        refine dN ?_
        rotate_left
        all_goals
          repeat' first | refine s1 ?_ | refine q1 ?_ | fail
          exact ⟨k + 1, F.fit ⟨rfl, trivial⟩ ⟨rfl, obE (by rw [ht]), trivial⟩, by omega, by omega⟩
      · obtain rfl : k = x.d.length := by omega
        have e : SD.take x.d.length = SD := List.take_of_length_le (by omega)
        rw [e]
        clear hp3 e
        repeat' first | refine s1 ?_ | refine q1 ?_ | fail
        refine F.loop (σ := Nat) [8, 45, 46, 47, 48, 49, 50, 51, 52, 53, 54, 55, 56, 57, 58, 59, 60, 61, 62, 63, 64, 65, 66, 67] (fun k => [(8, .i k)]) (fun k => [(5, .live false 6 [[.i x.p, .i x.q.n, .sl 3 x.q.fr.length 0 x.q.fr.length, .sl 4 x.q.to.length 0 x.q.to.length, .sl 6 x.d.length 0 x.d.length, .sl 7 k 0 k]]), (7, .live false 3 (E true (SM.take k)))]) (fun k => k ≤ x.m.length) (fun k => x.m.length - k) 0 ⟨rfl, trivial⟩ ⟨rfl, rfl, trivial⟩ (Nat.zero_le _) ?_
        rintro i i1
        have hp4 : (SM.take i).length = i := by rw [List.length_take]; omega
        by_cases hi : i < x.m.length
        · have a1 := (hax i hi).1
          have g1 := (hay i (by omega)).1
          rw [← hp] at g1
          have hB := l3BlockM_a a1 g1
          have ht := hmt i hi
          generalize blkM (x.m.getD i default) (y.m.getD i default) zerF = SA at hB ht
          repeat' first | refine s1 ?_ | refine q1 ?_ | fail
          refine AW.draw 14 G.mixed (by kernel_rfl) ?_
          refine dP 0 ?_
          first | refine dL 1 ?_ | refine dLQ 1 ?_
          refine dP 2 ?_
          first | refine dL 3 ?_ | refine dLQ 3 ?_
          refine dP 4 ?_
          first | refine dP 5 ?_ | refine dQ 5 ?_
          first | refine dL 6 ?_ | refine dLQ 6 ?_
          refine dP 7 ?_
          first | refine dL 8 ?_ | refine dLQ 8 ?_
          refine dP 9 ?_
          first | refine dP 10 ?_ | refine dQ 10 ?_
          first | refine dL 11 ?_ | refine dLQ 11 ?_
          refine dO 12 true ?_
          first | refine s1 ?_ | refine F.c (hB) ?_
          refine ARg.nil (ATh.normal ?_)
          refine dO 13 true ?_
          refine s1 ?_
          refine ARg.nil (ATh.normal ?_)
          refine dO 14 false ?_
          first | refine s1 ?_ | refine F.a1 Mat (a := SA) ?_
          refine ARg.nil (ATh.normal ?_)
          refine dP 15 ?_
          refine dO 16 false ?_
          first | refine s1 ?_ | refine q1 ?_
          refine ARg.nil (ATh.normal ?_)
          refine dN ?_
          rotate_left
          all_goals
            repeat' first | refine s1 ?_ | refine q1 ?_ | fail
            exact ⟨i + 1, F.fit ⟨rfl, trivial⟩ ⟨rfl, obE (by rw [ht]), trivial⟩, by omega, by omega⟩
        · obtain rfl : i = x.m.length := by omega
          have e : SM.take x.m.length = SM := List.take_of_length_le (by omega)
          rw [e]
          clear hp4 e
          rw [← hdl, ← hml]
          subst hS
          cases hr : isRep ⟨x.p, x.q, SD, SM⟩ with
          | false =>
            rw [hr] at hR
            rw [if_neg (by simp)]
            repeat' first | refine s1 ?_ | refine q1 ?_ | (refine kR ?_; first | refine F.c (hR) ?_) | fail
            (refine kZ ?_; exact F.ret rfl)
          | true =>
            rw [hr] at hR
            rw [if_pos ⟨rfl, rfl⟩]
            repeat' first | refine s1 ?_ | refine q1 ?_ | (refine kR ?_; first | refine F.c (hR) ?_) | fail
            (refine kZ ?_; exact F.ret rfl)
end Go.Proofs.Ytanembgijdkagaa.V
