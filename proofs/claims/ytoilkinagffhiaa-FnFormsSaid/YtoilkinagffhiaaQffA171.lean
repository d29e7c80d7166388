/- Texts that the proof needs: A170, A171. -/
import Derived.Test.YtoilkinagffhiaaQffA95
namespace Go.Proofs.Ytoilkinagffhiaa.V
open Go.RowKit G D
set_option linter.unusedVariables false
set_option linter.unusedSimpArgs false
set_option maxHeartbeats 4000000
set_option maxRecDepth 4000
def qfR (m : List (List Int)) (x : List Int) (n v : Nat) : Int := sumN (fun w => get2 m v w * x.getD v default * x.getD w default) n
def qfM (m : List (List Int)) (x : List Int) (n : Nat) : Int := sumN (fun v => qfR m x n v) n
theorem get2_dec2 {m : List (List Int)} {i k a b : Nat} (hi : i < m.length) (hk : k < (m.getD i []).length) : get2 (dec2 m i k) a b = get2 m a b - (if i = a ∧ k = b then 1 else 0) := by
 unfold dec2
 rw [get2_set2 _ hi hk]
 split
 ·rename_i h
  obtain ⟨rfl, rfl⟩ := h
  rfl
 ·omega
theorem sumN_single (i : Nat) (c : Int) : ∀ n, sumN (fun j => if i = j then c else 0) n = if i < n then c else 0
 | 0 => by simp [sumN]
 | n + 1 => by
  simp only [sumN, sumN_single i c n]
  by_cases h : i < n
  ·have h1 : ¬ i = n := by omega
   have h2 : i < n + 1 := by omega
   simp [h, h1, h2]
  ·by_cases h2 : i = n
   ·subst h2; simp
   ·have h1 : ¬ i < n + 1 := by omega
    simp [h, h1, h2]
theorem sumN_sub (h g : Nat → Int) : ∀ n, sumN (fun i => h i - g i) n = sumN h n - sumN g n
 | 0 => by simp [sumN]
 | n + 1 => by simp only [sumN, sumN_sub h g n]; omega
theorem qfM_dec2 {m : List (List Int)} {x : List Int} {n i k : Nat} {lo hi : Int} (h : Sq m n lo hi) (hi' : i < n) (hk : k < n) : qfM (dec2 m i k) x n = qfM m x n - x.getD i default * x.getD k default := by
 have e : ∀ v w, v < n → w < n → get2 (dec2 m i k) v w * x.getD v default * x.getD w default = get2 m v w * x.getD v default * x.getD w default - (if i = v then (if k = w then x.getD i default * x.getD k default else 0) else 0) := fun v w hv hw => by
  rw [get2_dec2 (by rw [h.1]; exact hi') (by rw [(h.2 i hi').1]; exact hk)]
  by_cases h1 : i = v
  ·subst h1
   by_cases h2 : k = w
   ·subst h2
    simp only [and_self, if_true]
    grind
   ·simp [h2]
  ·simp [h1]
 have e1 : ∀ v, v < n → qfR (dec2 m i k) x n v = qfR m x n v - (if i = v then x.getD i default * x.getD k default else 0) := fun v hv => by
  unfold qfR
  rw [sumN_eq n fun w hw => e v w hv hw, sumN_sub]
  by_cases h1 : i = v
  ·simp only [if_pos h1, sumN_single, if_pos hk]
  ·simp only [if_neg h1]
   rw [sumN_zero n fun _ _ => rfl]
 unfold qfM
 rw [sumN_eq n e1, sumN_sub, sumN_single, if_pos hi']
theorem dotL_sum (x y : List Int) : ∀ k, D.dotK x y k = sumN (fun v => x.getD v default * y.getD v default) k
 | 0 => by simp [D.dotK, sumN]
 | k + 1 => by simp only [D.dotK, sumN, dotL_sum x y k]; rfl
theorem symM_get {q : Quiv} (hq : okQ q = true) {v w : Nat} (hv : v < q.n.toNat) (hw : w < q.n.toNat) : get2 (symM q 0) v w = if v = w then 2 else 0 := by
 have e : (symM q 0).getD v [] = symRow q.n.toNat v := by simp [symM, hv]
 unfold get2
 rw [e, symRow, getD_set _ _ _ _ _ (by simpa using hv)]
 split
 ·rfl
 ·simp [hw]
theorem qfM_sym {q : Quiv} (hq : okQ q = true) {x : List Int} : ∀ k, k ≤ q.fr.length → qfM (symM q k) x q.n.toNat = 2 * (D.dotK x x q.n.toNat - arrK q x x k)
 | 0, _ => by
  have e1 : ∀ v, v < q.n.toNat → qfR (symM q 0) x q.n.toNat v = 2 * (x.getD v default * x.getD v default) := fun v hv => by
   unfold qfR
   rw [sumN_eq q.n.toNat (g := fun w => if v = w then 2 * (x.getD v default * x.getD v default) else 0) fun w hw => by
    rw [symM_get hq hv hw]
    by_cases h : v = w
    ·subst h; simp only [if_true]; grind
    ·simp [h]]
   rw [sumN_single, if_pos hv]
  unfold qfM
  rw [sumN_eq q.n.toNat e1, sumN_mul, dotL_sum]
  simp [arrK]
 | k + 1, hk => by
  have h1 : 0 ≤ q.fr.getD k 0 ∧ q.fr.getD k 0 < q.n := okQ_fr hq (k := k) (by omega)
  have h2 : 0 ≤ q.to.getD k 0 ∧ q.to.getD k 0 < q.n := okQ_to hq (k := k) (by omega)
  have h3 := symM_sq hq k (by omega)
  have ih := qfM_sym hq (x := x) k (by omega)
  simp only [symM, arrK]
  rw [qfM_dec2 (h3.dec2 (i := (q.fr.getD k 0).toNat) (k := (q.to.getD k 0).toNat) (by omega) (by omega)) (by omega) (by omega), qfM_dec2 h3 (by omega) (by omega), ih]
  have e1 : (q.fr.getD k 0).toNat = (q.fr.getD k default).toNat := rfl
  have e2 : (q.to.getD k 0).toNat = (q.to.getD k default).toNat := rfl
  rw [e1, e2]
  grind
theorem dec2_comm {m : List (List Int)} {i k : Nat} (hi : i < m.length) (hk : k < m.length) : dec2 (dec2 m i k) k i = dec2 (dec2 m k i) i k := by
 by_cases h : i = k
 ·subst h; rfl
 ·have h' : ¬ k = i := fun e => h e.symm
  have g1 : (dec2 m i k).getD k [] = m.getD k [] := by unfold dec2; rw [row_set2 _ hi, if_neg h]
  have g2 : (dec2 m k i).getD i [] = m.getD i [] := by unfold dec2; rw [row_set2 _ hk, if_neg h']
  have e1 : dec2 (dec2 m i k) k i = (dec2 m i k).set k ((m.getD k []).set i ((m.getD k []).getD i 0 - 1)) := by
   show set2 (dec2 m i k) k i (get2 (dec2 m i k) k i - 1) = _
   unfold set2 get2
   rw [g1]
  have e2 : dec2 (dec2 m k i) i k = (dec2 m k i).set i ((m.getD i []).set k ((m.getD i []).getD k 0 - 1)) := by
   show set2 (dec2 m k i) i k (get2 (dec2 m k i) i k - 1) = _
   unfold set2 get2
   rw [g2]
  rw [e1, e2]
  show ((m.set i _).set k _) = ((m.set k _).set i _)
  rw [List.set_comm _ _ h]
  rfl
theorem symM_opp {q : Quiv} (hq : okQ q = true) : ∀ k, k ≤ q.fr.length → symM (oppQ q) k = symM q k
 | 0, _ => rfl
 | k + 1, hk => by
  have h1 := okQ_fr hq (k := k) (by omega)
  have h2 := okQ_to hq (k := k) (by omega)
  have h3 := symM_sq hq k (by omega)
  have ih := symM_opp hq k (by omega)
  simp only [symM]
  rw [ih]
  simp only [oppQ]
  have e1 : (q.fr.getD k 0).toNat = (q.fr.getD k default).toNat := rfl
  have e2 : (q.to.getD k 0).toNat = (q.to.getD k default).toNat := rfl
  rw [e1, e2]
  exact dec2_comm (m := symM q k) (i := (q.to.getD k default).toNat) (k := (q.fr.getD k default).toNat) (by rw [h3.1]; omega) (by rw [h3.1]; omega)
theorem kind_opp {q : Quiv} (h : (oppP q).2 = true) : kindQ (oppP q).1 = kindQ q := by
 unfold oppP at h ⊢
 by_cases hq : okQ q = true
 ·rw [if_pos hq]
  have h5 := okQ_spec hq
  unfold kindQ
  rw [okQ_opp hq, hq]
  have e : detQ (oppQ q) = detQ q := by
   funext s
   unfold detQ
   have e1 : (oppQ q).fr.length = q.fr.length := h5.2.2.1.symm
   rw [e1, symM_opp hq _ (Nat.le_refl _)]
   rfl
  show kindR (detQ (oppQ q)) _ _ _ = kindR (detQ q) _ _ _
  rw [e]
  rfl
 ·rw [if_neg hq] at h
  cases h
theorem nulR_zero (q : Quiv) : ∀ k, (nulR q k).1 = [] ∨ eulP q (nulR q k).1 (nulR q k).1 = 0
 | 0 => .inl rfl
 | k + 1 => by
  simp only [nulR]
  unfold nulS
  split
  ·rename_i h
   exact .inr h.1
  ·exact nulR_zero q k
theorem nul_facts {q : Quiv} (h : (nulP q).2 = true) : kindQ q = 2 ∧ eulP q (nulP q).1 (nulP q).1 = 0 := by
 by_cases hk : kindQ q = 2
 ·rw [nulP_yes hk] at h ⊢
  refine ⟨hk, ?_⟩
  rcases nulR_zero q (5 ^ q.n.toNat - 1) with h1 | h1
  ·rw [h1] at h; simp at h
  ·exact h1
 ·rw [nulP_no hk] at h; cases h
end Go.Proofs.Ytoilkinagffhiaa.V
namespace Go.Proofs.Ytoilkinagffhiaa.V
open Go.RowKit G D
set_option linter.unusedVariables false
set_option linter.unusedSimpArgs false
set_option maxHeartbeats 4000000
set_option maxRecDepth 10000
def qfN (n : Nat) (f : Nat → Nat → Int) (x : Nat → Int) : Int := sumN (fun v => sumN (fun w => f v w * x v * x w) n) n
def schur (f : Nat → Nat → Int) : Nat → Nat → Int := fun i j => f 0 0 * f (i + 1) (j + 1) - f (i + 1) 0 * f 0 (j + 1)
def pd : Nat → (Nat → Nat → Int) → Bool
 | 0, _ => true
 | n + 1, f => decide (0 < f 0 0) && pd n (schur f)
theorem sumN_shift (h : Nat → Int) : ∀ n, sumN h (n + 1) = h 0 + sumN (fun i => h (i + 1)) n
 | 0 => by simp [sumN]
 | n + 1 => by
  have ih := sumN_shift h n
  simp only [sumN] at ih ⊢
  omega
theorem qfN_schur {n : Nat} {f : Nat → Nat → Int} (hs : ∀ i j, i < n + 1 → j < n + 1 → f i j = f j i) (x : Nat → Int) :
  f 0 0 * qfN (n + 1) f x = (f 0 0 * x 0 + sumN (fun j => f 0 (j + 1) * x (j + 1)) n) * (f 0 0 * x 0 + sumN (fun j => f 0 (j + 1) * x (j + 1)) n) + qfN n (schur f) (fun i => x (i + 1)) := by
 have e1 : ∀ v, sumN (fun w => f v w * x v * x w) (n + 1) = f v 0 * x v * x 0 + sumN (fun w => f v (w + 1) * x v * x (w + 1)) n := fun v => sumN_shift _ n
 have e2 : qfN (n + 1) f x = (f 0 0 * x 0 * x 0 + sumN (fun w => f 0 (w + 1) * x 0 * x (w + 1)) n) + sumN (fun v => f (v + 1) 0 * x (v + 1) * x 0 + sumN (fun w => f (v + 1) (w + 1) * x (v + 1) * x (w + 1)) n) n := by
  unfold qfN
  rw [sumN_shift, e1]
  rw [sumN_eq n fun i _ => e1 (i + 1)]
 have e3 : sumN (fun w => f 0 (w + 1) * x 0 * x (w + 1)) n = x 0 * sumN (fun j => f 0 (j + 1) * x (j + 1)) n := by
  rw [← sumN_mul]
  exact sumN_eq n fun i _ => by grind
 have e4 : sumN (fun v => f (v + 1) 0 * x (v + 1) * x 0) n = x 0 * sumN (fun j => f 0 (j + 1) * x (j + 1)) n := by
  rw [← sumN_mul]
  exact sumN_eq n fun i hi => by rw [hs (i + 1) 0 (by omega) (by omega)]; grind
 have e5 : ∀ v, v < n → sumN (fun w => schur f v w * x (v + 1) * x (w + 1)) n = f 0 0 * sumN (fun w => f (v + 1) (w + 1) * x (v + 1) * x (w + 1)) n - f 0 (v + 1) * x (v + 1) * sumN (fun j => f 0 (j + 1) * x (j + 1)) n := fun v hv => by
  rw [← sumN_mul, ← sumN_mul, ← sumN_sub]
  exact sumN_eq n fun i hi => by
   unfold schur
   rw [hs (v + 1) 0 (by omega) (by omega)]
   grind
 have e6 : qfN n (schur f) (fun i => x (i + 1)) = f 0 0 * sumN (fun v => sumN (fun w => f (v + 1) (w + 1) * x (v + 1) * x (w + 1)) n) n - sumN (fun j => f 0 (j + 1) * x (j + 1)) n * sumN (fun j => f 0 (j + 1) * x (j + 1)) n := by
  unfold qfN
  rw [sumN_eq n e5, sumN_sub, sumN_mul]
  congr 1
  have : ∀ (c : Int), sumN (fun v => f 0 (v + 1) * x (v + 1) * c) n = c * sumN (fun j => f 0 (j + 1) * x (j + 1)) n := fun c => by
   rw [← sumN_mul]
   exact sumN_eq n fun i _ => by grind
  exact this _
 rw [e2, e6, sumN_add, e3, e4]
 generalize sumN (fun j => f 0 (j + 1) * x (j + 1)) n = B
 generalize sumN (fun v => sumN (fun w => f (v + 1) (w + 1) * x (v + 1) * x (w + 1)) n) n = C
 grind
theorem sq_pos {a : Int} (h : a ≠ 0) : 0 < a * a := by
 rcases Int.lt_or_gt_of_ne h with h | h
 ·exact Int.mul_pos_of_neg_of_neg h h
 ·exact Int.mul_pos h h
theorem sq_nn (a : Int) : 0 ≤ a * a := by
 by_cases h : a = 0
 ·rw [h]; simp
 ·exact Int.le_of_lt (sq_pos h)
theorem pos_of {a b : Int} (h : 0 < a * b) (ha : 0 < a) : 0 < b := by
 rcases Int.lt_or_le 0 b with hb | hb
 ·exact hb
 ·have := Int.mul_le_mul_of_nonneg_left hb (Int.le_of_lt ha)
  rw [Int.mul_zero] at this
  omega
theorem pd_pos : ∀ (n : Nat) (f : Nat → Nat → Int), (∀ i j, i < n → j < n → f i j = f j i) → pd n f = true → ∀ x : Nat → Int, (∃ i, i < n ∧ x i ≠ 0) → 0 < qfN n f x
 | 0, _, _, _, _, ⟨i, hi, _⟩ => absurd hi (Nat.not_lt_zero _)
 | n + 1, f, hs, hp, x, ⟨i, hi, hx⟩ => by
  simp only [pd, Bool.and_eq_true, decide_eq_true_eq] at hp
  have hq := qfN_schur hs x
  have hS : ∀ i j, i < n → j < n → schur f i j = schur f j i := fun i j hi hj => by
   unfold schur
   rw [hs (i + 1) (j + 1) (by omega) (by omega), hs (i + 1) 0 (by omega) (by omega), hs 0 (j + 1) (by omega) (by omega)]
   grind
  by_cases h0 : ∃ i, i < n ∧ x (i + 1) ≠ 0
  ·have ih := pd_pos n (schur f) hS hp.2 (fun i => x (i + 1)) h0
   have h1 := sq_nn (f 0 0 * x 0 + sumN (fun j => f 0 (j + 1) * x (j + 1)) n)
   have h2 : 0 < f 0 0 * qfN (n + 1) f x := by rw [hq]; omega
   exact pos_of h2 hp.1
  ·have hz : ∀ i, i < n → x (i + 1) = 0 := fun i hi => Decidable.byContradiction fun h => h0 ⟨i, hi, h⟩
   have hx0 : x 0 ≠ 0 := by
    cases i with
    | zero => exact hx
    | succ i => exact absurd (hz i (by omega)) hx
   have e1 : sumN (fun j => f 0 (j + 1) * x (j + 1)) n = 0 := sumN_zero n fun i hi => by rw [hz i hi]; simp
   have e2 : qfN n (schur f) (fun i => x (i + 1)) = 0 := sumN_zero n fun v hv => sumN_zero n fun w hw => by dsimp only; rw [hz v hv]; simp
   rw [e1, e2] at hq
   have h1 : f 0 0 * x 0 ≠ 0 := fun h => by
    rcases Int.mul_eq_zero.1 h with h | h
    ·omega
    ·exact hx0 h
   have h2 := sq_pos h1
   have h3 : 0 < f 0 0 * qfN (n + 1) f x := by rw [hq]; simpa using h2
   exact pos_of h3 hp.1
def allS : Nat → (List Int → Bool) → Bool
 | 0, P => P []
 | k + 1, P => allS k (fun l => P (0 :: l)) && allS k (fun l => P (-1 :: l))
theorem allS_spec : ∀ {k : Nat} {P : List Int → Bool}, allS k P = true → ∀ l : List Int, l.length = k → (∀ y ∈ l, y = 0 ∨ y = -1) → P l = true
 | 0, P, h, l, hl, _ => by rw [List.eq_nil_of_length_eq_zero hl]; exact h
 | k + 1, P, h, [], hl, _ => by cases hl
 | k + 1, P, h, y :: l, hl, hy => by
  simp only [allS, Bool.and_eq_true] at h
  rcases hy y (by simp) with e | e
  ·subst e; exact allS_spec h.1 l (by simpa using hl) fun z hz => hy z (by simp [hz])
  ·subst e; exact allS_spec h.2 l (by simpa using hl) fun z hz => hy z (by simp [hz])
def gmat : Nat → List Int → List (List Int)
 | 1, [] => [[2]]
 | 2, [a] => [[2, a], [a, 2]]
 | 3, [a, b, c] => [[2, a, b], [a, 2, c], [b, c, 2]]
 | 4, [a, b, c, d, e, f] => [[2, a, b, c], [a, 2, d, e], [b, d, 2, f], [c, e, f, 2]]
 | 5, [a, b, c, d, e, f, g, h, i, j] => [[2, a, b, c, d], [a, 2, e, f, g], [b, e, 2, h, i], [c, f, h, 2, j], [d, g, i, j, 2]]
 | _, _ => []
def chkG (n : Nat) (cs : List Nat) (l : List Int) : Bool := pd n (get2 (gmat n l)) || cs.any fun s => decide (1 ≤ s) && decide (s < 2 ^ n) && decide (det (sel s n).length (pickM s n n (gmat n l)) ≤ 0)
theorem chk1 : allS 0 (chkG 1 []) = true := by kernel_rfl
theorem chk2 : allS 1 (chkG 2 []) = true := by kernel_rfl
theorem chk3 : allS 3 (chkG 3 [7]) = true := by kernel_rfl
theorem chk4 : allS 6 (chkG 4 [7, 11, 13, 14, 15]) = true := by kernel_rfl
def chkF : List Int → Bool
 | [a, b, c, d, e, f, g, h, i, j] => (let n := fun y : Int => decide (y = -1); (n a && n b && n e) || (n a && n c && n f) || (n a && n d && n g) || (n b && n c && n h) || (n b && n d && n i) || (n c && n d && n j) || (n e && n f && n h) || (n e && n g && n i) || (n f && n g && n j) || (n h && n i && n j)) || pd 5 (get2 (gmat 5 [a, b, c, d, e, f, g, h, i, j])) || [15, 23, 27, 29, 30, 31].any fun s => decide (det (sel s 5).length (pickM s 5 5 (gmat 5 [a, b, c, d, e, f, g, h, i, j])) ≤ 0)
 | _ => true
theorem chk5 : allS 10 chkF = true := by kernel_rfl
end Go.Proofs.Ytoilkinagffhiaa.V
