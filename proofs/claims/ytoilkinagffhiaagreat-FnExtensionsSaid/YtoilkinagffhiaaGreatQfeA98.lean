/- Texts that the proof needs: A26, A98. -/
import Derived.Test.YtoilkinagffhiaaGreatQfeA79
namespace Go.Proofs.YtoilkinagffhiaaGreat.V
open Go.RowKit G D
set_option linter.unusedVariables false
set_option linter.unusedSimpArgs false
set_option maxHeartbeats 4000000
set_option maxRecDepth 4000
attribute [local irreducible] AW ARg ARA ARet MRet ASil AC AM
theorem specIsMorphism_a (a b : Rep) (f : List Mat) : AC Tryz.prog 16 [.agg (enc false a), .agg (enc false b), ar false f] [.b (isMor a b f)] := by
 refine AC.go Tryz.func16 Tryz.ntmps16 rfl rfl fun w0 hw => ?_; simp [WfL, WfA, E_length, Enc.enc, In64] at hw
 have hA := specAreMatrices_a a b f
 cases ha : areM a b f with
 | false =>
  rw [ha] at hA
  repeat' first | refine s1 ?_ | (refine kR ?_; first | refine F.c (hA) ?_) | fail
  refine F.ret ?_
  rw [isMor, ha]; rfl
 | true =>
  rw [ha] at hA
  have h1 := (areM_spec ha).1
  have hh := Fits.of h1
  have h5 := okQ_spec hh.ok
  have hma := hh.ma
  have hmb := hh.mb
  repeat' first | refine s1 ?_ | (refine kR ?_; first | refine F.c (hA) ?_) | fail
  refine F.loop (σ := Nat) [6, 7, 8, 9, 15, 16, 17, 18, 19, 20, 21, 22, 23, 24, 25, 26, 27, 28, 29, 30, 31, 32, 33, 34, 35, 36, 37, 38, 39, 40, 41, 42, 43, 44, 45, 46, 47, 48, 49, 50, 51, 52, 53, 54, 55, 56, 57, 58, 59] (fun k => [(7, .i k)]) (fun _ => []) (fun k => k ≤ a.q.fr.length ∧ ∀ j, j < k → sameM (arX a b f j) (arY a b f j) = true) (fun k => a.q.fr.length - k) 0 ⟨rfl, trivial⟩ trivial ⟨Nat.zero_le _, fun j hj => by omega⟩ ?_
  rintro k ⟨g1, g2⟩
  by_cases hlt : k < a.q.fr.length
  ·have hAr := ArF.of ha hlt
   have fr := hAr.fr
   have to := hAr.to
   have hX := l3MulM_a hAr.mb hAr.ff hAr.cx
   have hY := l3MulM_a hAr.ft hAr.ma hAr.cy
   rw [show mulM a.p (b.m.getD k default) (f.getD (a.q.fr.getD k default).toNat default) = arX a b f k from rfl] at hX
   rw [show mulM a.p (f.getD (a.q.to.getD k default).toNat default) (a.m.getD k default) = arY a b f k from rfl] at hY
   have hE := specEqualMatrices_a (arX a b f k) (arY a b f k)
   cases hs : sameM (arX a b f k) (arY a b f k) with
   | true =>
    rw [hs] at hE
    generalize arX a b f k = X at hX hE
    generalize arY a b f k = Y at hY hE
    repeat' first | refine s1 ?_ | fail
    refine AW.draw 18 G.mixed (by kernel_rfl) ?_
    refine dP 0 ?_
    refine dL 1 ?_
    refine dP 2 ?_
    refine dL 3 ?_
    refine dP 4 ?_
    refine dP 5 ?_
    refine dL 6 ?_
    refine dP 7 ?_
    refine dP 8 ?_
    refine dP 9 ?_
    refine dL 10 ?_
    refine dP 11 ?_
    refine dP 12 ?_
    refine dL 13 ?_
    refine dP 14 ?_
    refine dL 15 ?_
    refine ARA.any [16, 17] (by kernel_rfl) (by simp) ?_
    intro k hk
    simp only [List.mem_cons, List.not_mem_nil, or_false] at hk
    rcases hk with rfl | rfl
    ·refine ⟨_, true, rfl, rfl, ?_⟩
     first | refine s1 ?_ | refine F.c (hX) ?_
     refine tN ?_
     refine dO 17 true ?_
     refine s1 ?_
     refine tN ?_
     refine dO 18 false ?_
     refine s1 ?_
     refine tN ?_
     refine dN ?_
     repeat' first | refine s1 ?_ | fail
     refine AW.draw 18 G.mixed (by kernel_rfl) ?_
     refine dP 0 ?_
     refine dL 1 ?_
     refine dP 2 ?_
     refine dP 3 ?_
     refine dP 4 ?_
     refine dL 5 ?_
     refine dP 6 ?_
     refine dP 7 ?_
     refine dL 8 ?_
     refine dP 9 ?_
     refine dL 10 ?_
     refine dP 11 ?_
     refine dL 12 ?_
     refine dP 13 ?_
     refine dP 14 ?_
     refine dL 15 ?_
     refine ARA.any [16, 17] (by kernel_rfl) (by simp) ?_
     intro k hk
     simp only [List.mem_cons, List.not_mem_nil, or_false] at hk
     rcases hk with rfl | rfl
     ·refine ⟨_, true, rfl, rfl, ?_⟩
      first | refine s1 ?_ | refine F.c (hY) ?_
      refine tN ?_
      refine dO 17 true ?_
      refine s1 ?_
      refine tN ?_
      refine dO 18 false ?_
      refine s1 ?_
      refine tN ?_
      refine dN ?_
      repeat' first | refine s1 ?_ | (refine kR ?_; first | refine F.c (hE) ?_) | fail
      exact ⟨k + 1, F.fit ⟨rfl, trivial⟩ trivial, ⟨by omega, snocP g2 hs⟩, by omega⟩
     ·refine ⟨_, true, rfl, rfl, ?_⟩
      refine s1 ?_
      refine tN ?_
      refine dO 16 true ?_
      first | refine s1 ?_ | refine F.c (hY) ?_
      refine tN ?_
      refine dO 18 false ?_
      refine s1 ?_
      refine tN ?_
      refine dN ?_
      repeat' first | refine s1 ?_ | (refine kR ?_; first | refine F.c (hE) ?_) | fail
      exact ⟨k + 1, F.fit ⟨rfl, trivial⟩ trivial, ⟨by omega, snocP g2 hs⟩, by omega⟩
    ·refine ⟨_, true, rfl, rfl, ?_⟩
     refine s1 ?_
     refine tN ?_
     refine dO 16 true ?_
     first | refine s1 ?_ | refine F.c (hX) ?_
     refine tN ?_
     refine dO 18 false ?_
     refine s1 ?_
     refine tN ?_
     refine dN ?_
     repeat' first | refine s1 ?_ | fail
     refine AW.draw 18 G.mixed (by kernel_rfl) ?_
     refine dP 0 ?_
     refine dL 1 ?_
     refine dP 2 ?_
     refine dP 3 ?_
     refine dP 4 ?_
     refine dL 5 ?_
     refine dP 6 ?_
     refine dP 7 ?_
     refine dL 8 ?_
     refine dP 9 ?_
     refine dL 10 ?_
     refine dP 11 ?_
     refine dL 12 ?_
     refine dP 13 ?_
     refine dP 14 ?_
     refine dL 15 ?_
     refine ARA.any [16, 17] (by kernel_rfl) (by simp) ?_
     intro k hk
     simp only [List.mem_cons, List.not_mem_nil, or_false] at hk
     rcases hk with rfl | rfl
     ·refine ⟨_, true, rfl, rfl, ?_⟩
      first | refine s1 ?_ | refine F.c (hY) ?_
      refine tN ?_
      refine dO 17 true ?_
      refine s1 ?_
      refine tN ?_
      refine dO 18 false ?_
      refine s1 ?_
      refine tN ?_
      refine dN ?_
      repeat' first | refine s1 ?_ | (refine kR ?_; first | refine F.c (hE) ?_) | fail
      exact ⟨k + 1, F.fit ⟨rfl, trivial⟩ trivial, ⟨by omega, snocP g2 hs⟩, by omega⟩
     ·refine ⟨_, true, rfl, rfl, ?_⟩
      refine s1 ?_
      refine tN ?_
      refine dO 16 true ?_
      first | refine s1 ?_ | refine F.c (hY) ?_
      refine tN ?_
      refine dO 18 false ?_
      refine s1 ?_
      refine tN ?_
      refine dN ?_
      repeat' first | refine s1 ?_ | (refine kR ?_; first | refine F.c (hE) ?_) | fail
      exact ⟨k + 1, F.fit ⟨rfl, trivial⟩ trivial, ⟨by omega, snocP g2 hs⟩, by omega⟩
   | false =>
    rw [hs] at hE
    generalize arX a b f k = X at hX hE
    generalize arY a b f k = Y at hY hE
    repeat' first | refine s1 ?_ | fail
    refine AW.draw 18 G.mixed (by kernel_rfl) ?_
    refine dP 0 ?_
    refine dL 1 ?_
    refine dP 2 ?_
    refine dL 3 ?_
    refine dP 4 ?_
    refine dP 5 ?_
    refine dL 6 ?_
    refine dP 7 ?_
    refine dP 8 ?_
    refine dP 9 ?_
    refine dL 10 ?_
    refine dP 11 ?_
    refine dP 12 ?_
    refine dL 13 ?_
    refine dP 14 ?_
    refine dL 15 ?_
    refine ARA.any [16, 17] (by kernel_rfl) (by simp) ?_
    intro k hk
    simp only [List.mem_cons, List.not_mem_nil, or_false] at hk
    rcases hk with rfl | rfl
    ·refine ⟨_, true, rfl, rfl, ?_⟩
     first | refine s1 ?_ | refine F.c (hX) ?_
     refine tN ?_
     refine dO 17 true ?_
     refine s1 ?_
     refine tN ?_
     refine dO 18 false ?_
     refine s1 ?_
     refine tN ?_
     refine dN ?_
     repeat' first | refine s1 ?_ | fail
     refine AW.draw 18 G.mixed (by kernel_rfl) ?_
     refine dP 0 ?_
     refine dL 1 ?_
     refine dP 2 ?_
     refine dP 3 ?_
     refine dP 4 ?_
     refine dL 5 ?_
     refine dP 6 ?_
     refine dP 7 ?_
     refine dL 8 ?_
     refine dP 9 ?_
     refine dL 10 ?_
     refine dP 11 ?_
     refine dL 12 ?_
     refine dP 13 ?_
     refine dP 14 ?_
     refine dL 15 ?_
     refine ARA.any [16, 17] (by kernel_rfl) (by simp) ?_
     intro k hk
     simp only [List.mem_cons, List.not_mem_nil, or_false] at hk
     rcases hk with rfl | rfl
     ·refine ⟨_, true, rfl, rfl, ?_⟩
      first | refine s1 ?_ | refine F.c (hY) ?_
      refine tN ?_
      refine dO 17 true ?_
      refine s1 ?_
      refine tN ?_
      refine dO 18 false ?_
      refine s1 ?_
      refine tN ?_
      refine dN ?_
      repeat' first | refine s1 ?_ | (refine kR ?_; first | refine F.c (hE) ?_) | fail
      refine F.ret ?_
      rw [isMor, all_no hlt hs, Bool.and_false]
     ·refine ⟨_, true, rfl, rfl, ?_⟩
      refine s1 ?_
      refine tN ?_
      refine dO 16 true ?_
      first | refine s1 ?_ | refine F.c (hY) ?_
      refine tN ?_
      refine dO 18 false ?_
      refine s1 ?_
      refine tN ?_
      refine dN ?_
      repeat' first | refine s1 ?_ | (refine kR ?_; first | refine F.c (hE) ?_) | fail
      refine F.ret ?_
      rw [isMor, all_no hlt hs, Bool.and_false]
    ·refine ⟨_, true, rfl, rfl, ?_⟩
     refine s1 ?_
     refine tN ?_
     refine dO 16 true ?_
     first | refine s1 ?_ | refine F.c (hX) ?_
     refine tN ?_
     refine dO 18 false ?_
     refine s1 ?_
     refine tN ?_
     refine dN ?_
     repeat' first | refine s1 ?_ | fail
     refine AW.draw 18 G.mixed (by kernel_rfl) ?_
     refine dP 0 ?_
     refine dL 1 ?_
     refine dP 2 ?_
     refine dP 3 ?_
     refine dP 4 ?_
     refine dL 5 ?_
     refine dP 6 ?_
     refine dP 7 ?_
     refine dL 8 ?_
     refine dP 9 ?_
     refine dL 10 ?_
     refine dP 11 ?_
     refine dL 12 ?_
     refine dP 13 ?_
     refine dP 14 ?_
     refine dL 15 ?_
     refine ARA.any [16, 17] (by kernel_rfl) (by simp) ?_
     intro k hk
     simp only [List.mem_cons, List.not_mem_nil, or_false] at hk
     rcases hk with rfl | rfl
     ·refine ⟨_, true, rfl, rfl, ?_⟩
      first | refine s1 ?_ | refine F.c (hY) ?_
      refine tN ?_
      refine dO 17 true ?_
      refine s1 ?_
      refine tN ?_
      refine dO 18 false ?_
      refine s1 ?_
      refine tN ?_
      refine dN ?_
      repeat' first | refine s1 ?_ | (refine kR ?_; first | refine F.c (hE) ?_) | fail
      refine F.ret ?_
      rw [isMor, all_no hlt hs, Bool.and_false]
     ·refine ⟨_, true, rfl, rfl, ?_⟩
      refine s1 ?_
      refine tN ?_
      refine dO 16 true ?_
      first | refine s1 ?_ | refine F.c (hY) ?_
      refine tN ?_
      refine dO 18 false ?_
      refine s1 ?_
      refine tN ?_
      refine dN ?_
      repeat' first | refine s1 ?_ | (refine kR ?_; first | refine F.c (hE) ?_) | fail
      refine F.ret ?_
      rw [isMor, all_no hlt hs, Bool.and_false]
  ·obtain rfl : k = a.q.fr.length := by omega
   repeat' first | refine s1 ?_ | fail
   refine F.ret ?_
   rw [isMor, ha, all_yes g2]; rfl
def sameL (f g : List Mat) : Bool := decide (f.length = g.length) && (List.range f.length).all fun v => sameM (f.getD v default) (g.getD v default)
theorem specEqualMorphisms_a (f g : List Mat) : AC Tryz.prog 15 [ar false f, ar false g] [.b (sameL f g)] := by
 refine AC.go Tryz.func15 Tryz.ntmps15 rfl rfl fun w0 hw => ?_; simp [WfL, WfA, E_length, Enc.enc, In64] at hw
 by_cases hl : f.length = g.length
 ·repeat' first | refine s1 ?_ | fail
  refine F.loop (σ := Nat) [4, 5, 11, 12, 13, 14, 15, 16, 17, 18, 19, 20, 21, 22, 23, 24, 25, 26] (fun k => [(5, .i k)]) (fun _ => []) (fun k => k ≤ f.length ∧ ∀ j, j < k → sameM (f.getD j default) (g.getD j default) = true) (fun k => f.length - k) 0 ⟨rfl, trivial⟩ trivial ⟨Nat.zero_le _, fun j hj => by omega⟩ ?_
  rintro k ⟨g1, g2⟩
  by_cases hlt : k < f.length
  ·have hE := specEqualMatrices_a (f.getD k default) (g.getD k default)
   cases hs : sameM (f.getD k default) (g.getD k default) with
   | true =>
    rw [hs] at hE
    repeat' first | refine s1 ?_ | fail
    refine AW.draw 10 G.mixed (by kernel_rfl) ?_
    refine dP 0 ?_
    refine dP 1 ?_
    refine dP 2 ?_
    refine dL 3 ?_
    refine dP 4 ?_
    refine dP 5 ?_
    refine dP 6 ?_
    refine dL 7 ?_
    refine dO 8 true ?_
    first | refine s1 ?_ | refine F.c (hE) ?_
    refine tN ?_
    refine dP 9 ?_
    refine dN ?_
    repeat' first | refine s1 ?_ | fail
    exact ⟨k + 1, F.fit ⟨rfl, trivial⟩ trivial, ⟨by omega, snocP g2 hs⟩, by omega⟩
   | false =>
    rw [hs] at hE
    repeat' first | refine s1 ?_ | fail
    refine AW.draw 10 G.mixed (by kernel_rfl) ?_
    refine dP 0 ?_
    refine dP 1 ?_
    refine dP 2 ?_
    refine dL 3 ?_
    refine dP 4 ?_
    refine dP 5 ?_
    refine dP 6 ?_
    refine dL 7 ?_
    refine dO 8 true ?_
    first | refine s1 ?_ | refine F.c (hE) ?_
    refine tN ?_
    refine dP 9 ?_
    refine dN ?_
    repeat' first | refine s1 ?_ | fail
    refine F.ret ?_
    rw [sameL, all_no hlt hs, Bool.and_false]
  ·obtain rfl : k = f.length := by omega
   repeat' first | refine s1 ?_ | fail
   refine F.ret ?_
   rw [sameL, decide_eq_true hl, all_yes g2]; rfl
 ·repeat' first | refine s1 ?_ | fail
  refine F.ret ?_
  rw [sameL, decide_eq_false hl]; rfl
theorem isMor_are {a b : Rep} {f : List Mat} (h : isMor a b f = true) : areM a b f = true := by
 simp only [isMor, Bool.and_eq_true] at h; exact h.1
theorem findR_col {f f' : Nat → Nat → Int} {k k' : Nat} (h : ∀ i, f i k = f' i k') : ∀ n a, findR f k n a = findR f' k' n a
 | 0, a => rfl
 | n + 1, a => by rw [findR, findR, h a, findR_col h n (a + 1)]
def SameC (C : Nat → Nat → Prop) (s s' : (Nat → Nat → Int) × List Nat) : Prop := s.2 = s'.2 ∧ ∀ j j', C j j' → ∀ i, s.1 i j = s'.1 i j'
theorem SameC.step {C : Nat → Nat → Prop} {p : Int} {r k : Nat} {s s' : (Nat → Nat → Int) × List Nat} (h : SameC C s s') (hk : C k k) : SameC C (stepE p r s k) (stepE p r s' k) := by
 obtain ⟨f, l⟩ := s
 obtain ⟨f', l'⟩ := s'
 obtain ⟨h1, h2⟩ := h
 dsimp only at h1 h2
 subst h1
 have e := findR_col (h2 k k hk) (r - l.length) l.length
 unfold stepE
 dsimp only
 rw [e]
 generalize findR f' k (r - l.length) l.length = a
 by_cases ha : a = r
 ·rw [if_pos ha, if_pos ha]; exact ⟨rfl, h2⟩
 ·rw [if_neg ha, if_neg ha]
  refine ⟨rfl, fun j j' hj i => ?_⟩
  have hsw : ∀ j j', C j j' → ∀ i, swapF f l.length a i j = swapF f' l.length a i j' := fun j j' hj i => by
   unfold swapF; rw [h2 j j' hj a, h2 j j' hj l.length, h2 j j' hj i]
  have hsc : ∀ j j', C j j' → ∀ i, scaleF p (swapF f l.length a) l.length (invP p (swapF f l.length a l.length k)) i j = scaleF p (swapF f' l.length a) l.length (invP p (swapF f' l.length a l.length k)) i j' := fun j j' hj i => by
   unfold scaleF; rw [hsw j j' hj i, hsw k k hk l.length]
  show clearF p _ _ k i j = clearF p _ _ k i j'
  unfold clearF
  rw [hsc j j' hj i, hsc k k hk i, hsc j j' hj l.length]
theorem SameC.red {C : Nat → Nat → Prop} {p : Int} {r : Nat} {f f' : Nat → Nat → Int} (h : ∀ j j', C j j' → ∀ i, f i j = f' i j') : ∀ k, (∀ j, j < k → C j j) → SameC C (redK p r f k) (redK p r f' k)
 | 0, _ => ⟨rfl, h⟩
 | k + 1, hk => (SameC.red h k fun j hj => hk j (by omega)).step (hk k (by omega))
def invF (p : Int) (n : Nat) (f : Nat → Nat → Int) : Nat → Nat → Int := fun i j => (redK p n (besF n f idF) (n + n)).1 i (n + j)
theorem solV_get {n : Nat} {g : Nat → Nat → Int} {piv : List Nat} {j : Nat} (hj : j < n) : ∀ m, (∀ i, i < m → piv.getD i 0 = i) → (solV n g piv m).getD j default = if j < m then g j n else 0
 | 0, _ => by simp [solV, hj]
 | m + 1, h => by
  have ih := solV_get (g := g) hj m fun i hi => h i (by omega)
  have e := h m (by omega)
  by_cases e2 : m = j
  ·subst e2
   rw [solV, e, set_get (by rw [solV_len]; exact hj), if_pos (by omega)]
  ·rw [solV, e, set_ne e2, ih]
   by_cases e3 : j < m
   ·rw [if_pos e3, if_pos (by omega)]
   ·rw [if_neg e3, if_neg (by omega)]
theorem piv_range {p : Int} {n : Nat} {f : Nat → Nat → Int} (hF : isF p = true) (hb : BdF p n n f) (h : (redK p n f n).2.length = n) : (redK p n f n).2 = List.range n := by
 have hp := isF_pos hF
 have hl := (redK_bd (show 0 < p by omega) hb n).2.2.2
 exact inc_sub (redK_pw hF hb) List.pairwise_lt_range (fun x hx => List.mem_range.2 (hl x hx)) (by rw [List.length_range]; omega)
theorem inv_sol {p : Int} {n k : Nat} {f : Nat → Nat → Int} (hF : isF p = true) (hb : BdF p n n f) (h : (redK p n f n).2.length = n) (hk : k < n) : solL p n n f (unitL n k) = (rowL n fun i => invF p n f i k, true) := by
 have hr := piv_range hF hb h
 have s1 : SameC (fun j j' => j = j' ∧ j < n) (redK p n f n) (redK p n (besF n f idF) n) := SameC.red (fun j j' hj i => by
  obtain ⟨rfl, hj⟩ := hj
  unfold besF; rw [if_pos hj]) n fun j hj => ⟨rfl, hj⟩
 have s2 : SameC (fun j j' => (j = j' ∧ j < n) ∨ (j = n ∧ j' = n + k)) (redK p n (augF n f (unitL n k)) n) (redK p n (besF n f idF) n) := SameC.red (fun j j' hj i => by
  rcases hj with ⟨rfl, hj⟩ | ⟨rfl, rfl⟩
  ·unfold augF besF; rw [if_pos hj, if_pos hj]
  ·unfold augF besF
   rw [if_neg (by omega), if_neg (by omega), Nat.add_sub_cancel_left]
   unfold idF
   by_cases hi : i < j
   ·exact unitL_get hi
   ·rw [if_neg (by omega)]
    have : (unitL j k).length ≤ i := by rw [unitL_len]; omega
    simp [List.getElem?_eq_none this]) n fun j hj => .inl ⟨rfl, hj⟩
 have l1 : (redK p n (besF n f idF) n).2.length = n := by rw [← s1.1]; exact h
 have l2 : (redK p n (augF n f (unitL n k)) n).2.length = n := by rw [s2.1]; exact l1
 have e1 := redK_full l1 n
 have e2 := redK_full l2 1
 have p2 : (redK p n (augF n f (unitL n k)) n).2 = List.range n := by rw [s2.1, ← s1.1]; exact hr
 unfold solL
 rw [e2, p2, if_neg (by simp), List.length_range]
 congr 1
 apply List.ext_getElem (by rw [solV_len, rowL_len])
 intro i h1 h2
 have hi : i < n := by rwa [solV_len] at h1
 have g1 := solV_get (g := (redK p n (augF n f (unitL n k)) n).1) (piv := List.range n) hi n fun t ht => by simp [ht]
 rw [if_pos hi] at g1
 have a1 : ∀ (L : List Int) (h : i < L.length), L.getD i default = L[i] := fun L h => by simp [h]
 rw [← a1 _ h1, g1, ← a1 _ h2, rowL_get _ hi]
 unfold invF
 rw [e1]
 exact s2.2 n (n + k) (.inr ⟨rfl, rfl⟩) i
theorem invF_bd {p : Int} {n : Nat} {f : Nat → Nat → Int} (hF : isF p = true) (hb : BdF p n n f) : BdF p n n (invF p n f) := fun i hi j hj => by
 have hp := isF_pos hF
 have h2 : BdF p n (n + n) (besF n f idF) := fun i hi j hj => by
  unfold besF
  by_cases h : j < n
  ·rw [if_pos h]; exact hb i hi j h
  ·rw [if_neg h]; exact idF_bd hp.1 n i hi (j - n) (by omega)
 exact (redK_bd (show 0 < p by omega) h2 (n + n)).1 i hi (n + j) (by omega)
end Go.Proofs.YtoilkinagffhiaaGreat.V
