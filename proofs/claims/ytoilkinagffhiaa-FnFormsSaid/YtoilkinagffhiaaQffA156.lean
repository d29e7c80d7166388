/- Texts that the proof needs: A144, A152, A156. -/
import Derived.Test.YtoilkinagffhiaaQffA143
namespace Go.Proofs.Ytoilkinagffhiaa.V
open Go.RowKit G D
set_option linter.unusedVariables false
set_option linter.unusedSimpArgs false
set_option maxHeartbeats 4000000
set_option maxRecDepth 4000
attribute [local irreducible] AW ARg ARA ARet MRet ASil AC AM
theorem pow5_le {n k : Nat} (h : k ≤ n) (hn : n ≤ 5) : 1 ≤ 5 ^ k ∧ 5 ^ k ≤ 3125 := by
 have h1 : 5 ^ k ≤ 5 ^ 5 := Nat.pow_le_pow_right (by omega) (by omega)
 have h2 : 0 < 5 ^ k := Nat.pow_pos (by omega)
 exact ⟨h2, h1⟩
theorem l5Pow_a (n : Nat) (hn : n ≤ 5) : AC Try.prog 38 [.i 5, .i (n : Int)] [.i ((5 ^ n : Nat) : Int)] := by
 refine AC.go Try.func38 Try.ntmps38 rfl rfl fun w0 hw => ?_; simp [WfL, WfA, E_length, Enc.enc, In64] at hw
 repeat' first | refine s1 ?_ | fail
 refine F.loop (σ := Nat) [5, 6, 7, 8, 9, 10, 11, 12, 13, 14] (fun k => [(5, .i ((5 ^ k : Nat) : Int)), (6, .i k)]) (fun _ => []) (fun k => k ≤ n) (fun k => n - k) 0 ⟨rfl, rfl, trivial⟩ trivial (Nat.zero_le _) ?_
 rintro k k1
 have hb := pow5_le k1 hn
 have e : 5 ^ (k + 1) = 5 ^ k * 5 := Nat.pow_succ ..
 by_cases hk : k < n
 ·generalize 5 ^ k = z at hb e ⊢
  repeat' first | refine s1 ?_ | fail
  exact ⟨k + 1, F.fit ⟨iE (by rw [e]; push_cast; rfl), rfl, trivial⟩ trivial, by omega, by omega⟩
 ·obtain rfl : k = n := by omega
  generalize 5 ^ k = z at hb e ⊢
  repeat' first | refine s1 ?_ | fail
  (refine kZ ?_; exact F.ret rfl)
theorem specNullVector_m (q : Quiv) : AM Try.prog 6 [.agg (enc false q)] [] [.dt false 1 (E false (nulP q).1), .b (nulP q).2] [] := by
 refine AM.go Try.func6 Try.ntmps6 rfl rfl fun w0 mp hw => ?_; simp [WfL, WfA, E_length, Enc.enc, In64] at hw
 have hK := specKindOfQuiver_a q
 by_cases hk2 : kindQ q = 2
 ·rw [hk2] at hK
  rw [nulP_yes hk2]
  dsimp only
  have hq := kind_ok hk2
  have h5 := okQ_spec hq
  obtain ⟨n, hn⟩ : ∃ n : Nat, q.n = n := ⟨q.n.toNat, by omega⟩
  have hn5 : n ≤ 5 := by omega
  have hnn : q.n.toNat = n := by omega
  have hP := l5Pow_a n hn5
  rw [← hn] at hP
  have hbd := nulR_bd q (by omega)
  have hT := fun c => specTitsForm_a q (dgD n c)
  have hst : ∀ k, nulR q (k + 1) = nulS q (k + 1) (nulR q k) := fun k => rfl
  have hsd : ∀ k b, nulS q k b = if eulP q (dgD n k) (dgD n k) = 0 ∧ (b.1.length = 0 ∨ (dgD n k).sum < b.2) then (dgD n k, (dgD n k).sum) else b := fun k b => by unfold nulS; rw [hnn]
  rw [hnn]
  have hpw := pow5_le (Nat.le_refl n) hn5
  generalize hN : 5 ^ n = N at hP hpw ⊢
  repeat' first | refine s1 ?_ | (refine kR ?_; first | refine F.c (hK) ?_ | refine F.c (hP) ?_) | fail
  refine AW.freezeP (α := Quiv) (oo := false) q 1 rfl rfl ?_
  refine AW.open 5 1 (.inr rfl) ?_
  refine AW.freezeA (α := Int) (oo := true) (ls := []) 5 rfl rfl rfl ?_
  refine F.loop (σ := Nat) [5, 6, 7, 8, 9, 10, 11, 20, 21, 22, 23, 24, 25, 26, 27, 28, 29, 30, 31, 32, 33, 34, 35, 36, 37, 38, 39, 40, 41, 42, 43, 44, 45, 46, 47, 48, 49, 50, 51, 52, 53, 54, 55, 56, 57, 58, 59, 60, 61, 62, 63, 64] (fun k => [(5, ar false (nulR q k).1), (6, .i (nulR q k).2), (7, .i ((k + 1 : Nat) : Int))]) (fun _ => []) (fun k => k ≤ N - 1) (fun k => N - 1 - k) 0 ⟨rfl, rfl, rfl, trivial⟩ trivial (Nat.zero_le _) ?_
  rintro k k1
  have hbk := hbd k
  by_cases hk : k < N - 1
  ·have hTk := hT (k + 1)
   have hstk := hst k
   rw [hsd] at hstk
   have hlen : (dgD n (k + 1)).length = n := dgJ_len _ _ _
   have hsm := dgD_sum (n := n) (c := k + 1)
   generalize nulR q k = B at hbk hstk ⊢
   obtain ⟨B1, B2⟩ := B
   dsimp only at hbk hstk ⊢
   repeat' first | refine s1 ?_ | (refine kR ?_; first | refine F.mk (m := n) Int rfl rfl hn (mkB (by omega)) (by omega) rfl rfl ?_) | fail
   have hc3 : k + 1 ≤ 3125 := by omega
   have hJl := fun j => dgJ_len n (k + 1) j
   have hJ0 := dgJ_zero n (k + 1)
   have hJs := fun j (h : j < n) => dgJ_set (c := k + 1) h
   have hJm := fun j (h : j < n) => dgJ_sum (c := k + 1) h
   have hJb := fun j => dgJ_sb n (k + 1) j
   have hJn : dgJ n (k + 1) n = dgD n (k + 1) := rfl
   have hJz : (dgJ n (k + 1) 0).sum = 0 := by rw [hJ0]; simp
   rw [← hJ0]
   rw [← hJn] at hTk hlen hsm hstk
   have hdv := fun j => dgQ_le (k + 1) j
   have hds := fun j => dgQ_succ (k + 1) j
   have hd0 := dgQ_zero (k + 1)
   refine F.loop (σ := Nat) [9, 10, 11, 32, 33, 34, 35, 36, 37, 38, 39, 40, 41, 42, 43, 44, 45, 46, 47, 48] (fun j => [(9, .i (dgQ (k + 1) j : Nat)), (10, .i (dgJ n (k + 1) j).sum), (11, .i ((n : Int) - 1 - j))]) (fun j => [(2, .live false 1 (E true (dgJ n (k + 1) j)))]) (fun j => j ≤ n) (fun j => n - j) 0 ⟨iE (by rw [hd0]), iE hJz.symm, iE (by omega), trivial⟩ ⟨rfl, trivial⟩ (Nat.zero_le _) ?_
   rintro j j1
   have hlj := hJl j
   have hbj := hJb j
   by_cases hj : j < n
   ·have hs1 := hJs j hj
    have hm1 := hJm j hj
    have hz := hdv j
    have hz1 := hds j
    rw [show ((k + 1) / 5 ^ j % 5) = dgQ (k + 1) j % 5 from rfl] at hs1 hm1
    generalize dgQ (k + 1) j = z at hz hz1 hs1 hm1 ⊢
    generalize dgJ n (k + 1) j = X at hlj hbj hs1 hm1 ⊢
    obtain ⟨v, hv⟩ : ∃ v : Nat, n - 1 - j = v := ⟨_, rfl⟩
    rw [hv] at hs1
    rw [show (n : Int) - 1 - j = (v : Int) by omega]
    have e1 : (X.set (0 + v) ((z : Int) % 5)).getD (0 + v) default = (z : Int) % 5 := by
     rw [Nat.zero_add, List.getD_eq_getElem?_getD, List.getElem?_set_self (by omega)]
     rfl
    rw [show ((z % 5 : Nat) : Int) = (z : Int) % 5 by omega] at hs1 hm1
    have b1 : 0 ≤ (z : Int) % 5 ∧ (z : Int) % 5 < 5 := by omega
    have e2 : (X.set (0 + v) ((z : Int) % 5)).length = n := by rw [List.length_set]; exact hlj
    have i1 : In64 (X.sum + (X.set (0 + v) ((z : Int) % 5)).getD (0 + v) default) := by rw [e1]; unfold In64; omega
    repeat' first | refine s1 ?_ | fail
    exact ⟨j + 1, F.fit ⟨iE (by rw [hz1]; omega), iE (by rw [hm1, e1]), iE (by omega), trivial⟩ ⟨obE (by rw [← hs1]; try rw [Nat.zero_add]), trivial⟩, by omega, by omega⟩
   ·obtain rfl : j = n := by omega
    generalize eulP q (dgJ j (k + 1) j) (dgJ j (k + 1) j) = e at hTk hstk
    generalize dgJ j (k + 1) j = X at hlj hbj hTk hstk ⊢
    generalize hS : X.sum = S at hbj hstk ⊢
    by_cases he : e = 0
    ·by_cases hB : (B1.length : Int) = 0
     ·rw [if_pos ⟨he, .inl (by omega)⟩] at hstk
      repeat' first | refine AW.freezeA (α := Int) (oo := true) (ls := X) 8 rfl rfl hlj ?_ | refine s1 ?_ | (refine kR ?_; first | refine F.c (hTk) ?_) | fail
      exact ⟨k + 1, F.fit ⟨congrArg (fun l => AV.dt false 1 (E false l)) (show X = (nulR q (k + 1)).1 by rw [hstk]), iE (by rw [hstk]), rfl, trivial⟩ trivial, by omega, by omega⟩
     ·by_cases hL : S < B2
      ·rw [if_pos ⟨he, .inr hL⟩] at hstk
       repeat' first | refine AW.freezeA (α := Int) (oo := true) (ls := X) 8 rfl rfl hlj ?_ | refine s1 ?_ | (refine kR ?_; first | refine F.c (hTk) ?_) | fail
       exact ⟨k + 1, F.fit ⟨congrArg (fun l => AV.dt false 1 (E false l)) (show X = (nulR q (k + 1)).1 by rw [hstk]), iE (by rw [hstk]), rfl, trivial⟩ trivial, by omega, by omega⟩
      ·rw [if_neg (fun x => by rcases x.2 with y | y <;> omega)] at hstk
       repeat' first | refine AW.freezeA (α := Int) (oo := true) (ls := X) 8 rfl rfl hlj ?_ | refine s1 ?_ | (refine kR ?_; first | refine F.c (hTk) ?_) | fail
       exact ⟨k + 1, F.fit ⟨congrArg (fun l => AV.dt false 1 (E false l)) (show B1 = (nulR q (k + 1)).1 by rw [hstk]), iE (by rw [hstk]), rfl, trivial⟩ trivial, by omega, by omega⟩
    ·rw [if_neg (fun x => he x.1)] at hstk
     repeat' first | refine AW.freezeA (α := Int) (oo := true) (ls := X) 8 rfl rfl hlj ?_ | refine s1 ?_ | (refine kR ?_; first | refine F.c (hTk) ?_) | fail
     exact ⟨k + 1, F.fit ⟨congrArg (fun l => AV.dt false 1 (E false l)) (show B1 = (nulR q (k + 1)).1 by rw [hstk]), iE (by rw [hstk]), rfl, trivial⟩ trivial, by omega, by omega⟩
  ·obtain rfl : k = N - 1 := by omega
   repeat' first | refine s1 ?_ | fail
   refine kM ?_
   exact F.retM rfl trivial
 ·rw [nulP_no hk2]
  dsimp only
  generalize kindQ q = z at hK hk2
  repeat' first | (refine AW.open 2 1 (.inr rfl) ?_; refine AW.freezeA (α := Int) (oo := true) (ls := []) 2 rfl rfl rfl ?_) | refine s1 ?_ | (refine kR ?_; first | refine F.c (hK) ?_) | fail
  refine kM ?_
  exact F.retM rfl trivial
def zJ (n c j : Nat) : List Int := (List.range n).map fun v => if n ≤ v + j then 0 else ((c / 5 ^ (n - 1 - v) % 5 : Nat) : Int)
theorem zJ_len (n c j : Nat) : (zJ n c j).length = n := by simp [zJ]
theorem zJ_get {n c j v : Nat} (h : v < n) : (zJ n c j).getD v default = if n ≤ v + j then 0 else ((c / 5 ^ (n - 1 - v) % 5 : Nat) : Int) := by simp [zJ, h]
theorem zJ_zero (n c : Nat) : zJ n c 0 = dgD n c := by
 apply List.ext_getElem (by simp [zJ, dgD, dgJ])
 intro i h1 h2
 have hi : i < n := by simpa [zJ] using h1
 simp only [zJ, dgD, dgJ, List.getElem_map, List.getElem_range]
 rw [if_neg (by omega), if_pos (by omega)]
theorem zJ_set {n c j : Nat} (h : j < n) : (zJ n c j).set (n - 1 - j) 0 = zJ n c (j + 1) := by
 apply List.ext_getElem (by simp [zJ])
 intro i h1 h2
 have hi : i < n := by simpa [zJ] using h2
 rw [List.getElem_set]
 simp only [zJ, List.getElem_map, List.getElem_range]
 by_cases e : n - 1 - j = i
 ·rw [if_pos e, if_pos (by omega)]
 ·rw [if_neg e]
  by_cases e2 : n ≤ i + j
  ·rw [if_pos e2, if_pos (by omega)]
  ·rw [if_neg e2, if_neg (by omega)]
def full (c j : Nat) : Prop := c + 1 = 5 ^ j * (c / 5 ^ j + 1)
theorem full_zero (c : Nat) : full c 0 := by simp [full]
theorem full_succ {c j : Nat} (h : full c j) (h4 : c / 5 ^ j % 5 = 4) : full c (j + 1) := by
 unfold full at *
 rw [Nat.pow_succ, ← Nat.div_div_eq_div_mul, Nat.mul_assoc]
 rw [h]
 congr 1
 omega
theorem div_next {c j k : Nat} (h : full c j) (h4 : c / 5 ^ j % 5 ≠ 4) : (c + 1) / 5 ^ (j + 1 + k) = c / 5 ^ (j + 1 + k) := by
 have hp : 0 < 5 ^ j := Nat.pow_pos (by omega)
 have e : (c + 1) / 5 ^ j = c / 5 ^ j + 1 := by
  unfold full at h
  rw [h, Nat.mul_comm, Nat.mul_div_cancel _ hp]
 have e2 : 5 ^ (j + 1 + k) = 5 ^ j * 5 * 5 ^ k := by rw [Nat.pow_add, Nat.pow_succ]
 rw [e2, ← Nat.div_div_eq_div_mul, ← Nat.div_div_eq_div_mul, ← Nat.div_div_eq_div_mul, ← Nat.div_div_eq_div_mul, e]
 congr 1
 omega
theorem zJ_next {n c j : Nat} (h : j < n) (hf : full c j) (h4 : c / 5 ^ j % 5 ≠ 4) : (zJ n c j).set (n - 1 - j) ((zJ n c j).getD (n - 1 - j) default + 1) = dgD n (c + 1) := by
 have hp : 0 < 5 ^ j := Nat.pow_pos (by omega)
 have hf' := hf
 unfold full at hf'
 have e0 : (c + 1) / 5 ^ j = c / 5 ^ j + 1 := by rw [hf', Nat.mul_comm, Nat.mul_div_cancel _ hp]
 rw [zJ_get (by omega), if_neg (by omega), show n - 1 - (n - 1 - j) = j by omega]
 apply List.ext_getElem (by simp [zJ, dgD, dgJ])
 intro i h1 h2
 have hi : i < n := by simpa [dgD, dgJ] using h2
 rw [List.getElem_set]
 simp only [zJ, dgD, dgJ, List.getElem_map, List.getElem_range]
 rw [if_pos (show n ≤ i + n by omega)]
 by_cases e : n - 1 - j = i
 ·rw [if_pos e, show n - 1 - i = j by omega, e0]
  omega
 ·rw [if_neg e]
  by_cases e2 : n ≤ i + j
  ·rw [if_pos e2]
   obtain ⟨k, hk⟩ : ∃ k, j = (n - 1 - i) + 1 + k := ⟨j - (n - 1 - i) - 1, by omega⟩
   have : (c + 1) / 5 ^ (n - 1 - i) = 5 * (5 ^ k * (c / 5 ^ j + 1)) := by
    rw [hf', hk, show 5 ^ (n - 1 - i + 1 + k) = 5 ^ (n - 1 - i) * (5 * 5 ^ k) by rw [Nat.pow_add, Nat.pow_succ, Nat.mul_assoc], Nat.mul_assoc, Nat.mul_div_cancel_left _ (Nat.pow_pos (by omega)), Nat.mul_assoc]
   rw [this]
   omega
  ·rw [if_neg e2]
   obtain ⟨k, hk⟩ : ∃ k, n - 1 - i = j + 1 + k := ⟨n - 1 - i - j - 1, by omega⟩
   rw [hk, div_next hf h4]
theorem full_end {n c : Nat} (hf : full c n) (hc : c < 5 ^ n) : c = 5 ^ n - 1 := by
 unfold full at hf
 rw [Nat.div_eq_of_lt hc] at hf
 omega
theorem nulR_sum (q : Quiv) : ∀ k, (nulR q k).2 = (nulR q k).1.sum
 | 0 => rfl
 | k + 1 => by
  have ih := nulR_sum q k
  simp only [nulR]
  unfold nulS
  split
  ·rfl
  ·exact ih
theorem nulR_len (q : Quiv) : ∀ k, (nulR q k).1 = [] ∨ ((nulR q k).1.length = q.n.toNat ∧ ∀ j, j < q.n.toNat → 0 ≤ (nulR q k).1.getD j default ∧ (nulR q k).1.getD j default ≤ 4)
 | 0 => .inl rfl
 | k + 1 => by
  simp only [nulR]
  unfold nulS
  split
  ·exact .inr ⟨dgJ_len _ _ _, fun j hj => dgJ_bd hj⟩
  ·exact nulR_len q k
theorem dg_zero {n c : Nat} : ∀ j, j ≤ n → (dgJ n c j).sum = 0 → c % 5 ^ j = 0
 | 0, _, _ => by simp [Nat.mod_one]
 | j + 1, hj, h => by
  rw [dgJ_sum (n := n) (j := j) (by omega)] at h
  have h1 := (dgJ_sb n c j).1
  have h2 : c / 5 ^ j % 5 = 0 := by omega
  have ih := dg_zero (n := n) (c := c) j (by omega) (by omega)
  rw [Nat.pow_succ, Nat.mod_mul, ih, h2]
  rfl
theorem dgD_pos {n c : Nat} (h1 : 1 ≤ c) (h2 : c < 5 ^ n) : 0 < (dgD n c).sum := by
 have h := (dgJ_sb n c n).1
 rcases Int.lt_or_le 0 (dgD n c).sum with h3 | h3
 ·exact h3
 ·have h4 := dg_zero (n := n) (c := c) n (Nat.le_refl _) (by unfold dgD at h3; omega)
  rw [Nat.mod_eq_of_lt h2] at h4
  omega
theorem dgD_zero (n : Nat) : dgD n 0 = List.replicate n 0 := by
 apply List.ext_getElem (by simp [dgD, dgJ])
 intro i h1 h2
 simp [dgD, dgJ]
theorem dgD_okX {q : Quiv} {n c : Nat} (hq : okQ q = true) (hn : q.n = n) : okX q (dgD n c) = true := by
 have hl : (dgD n c).length = n := dgJ_len _ _ _
 unfold okX
 rw [hq, Bool.true_and, Bool.and_eq_true, decide_eq_true_eq]
 refine ⟨by rw [hl, hn], allIn_all2 fun j hj => ?_⟩
 have := dgJ_bd (n := n) (c := c) (j := n) (v := j) (by omega)
 unfold dgD
 omega
theorem dgD_eul {q : Quiv} {n c : Nat} (hq : okQ q = true) (hn : q.n = n) : eulP q (dgD n c) (dgD n c) = eulF q (dgD n c) (dgD n c) := by
 have h := dgD_okX (c := c) hq hn
 unfold eulP
 rw [if_pos ⟨h, h⟩]
def bestA : List Int → AV
 | [] => .nl
 | x :: l => .dt true 1 (E true (x :: l))
theorem bestA_ne {l : List Int} (h : l ≠ []) : bestA l = .dt true 1 (E true l) := by
 cases l with
 | nil => exact absurd rfl h
 | cons x l => rfl
theorem nul_round {q : Quiv} {n c : Nat} (hq : okQ q = true) (hn : q.n = n) (hn1 : 1 ≤ n) (hc : c < 5 ^ n) :
  (c = 0 ∧ (dgD n c).sum = 0 ∧ (nulR q c).1 = [] ∧ (nulR q (c - 1)).1 = []) ∨ (0 < (dgD n c).sum ∧ (nulR q c).1 = if eulF q (dgD n c) (dgD n c) = 0 ∧ ((nulR q (c - 1)).1 = [] ∨ (dgD n c).sum < (nulR q (c - 1)).1.sum) then dgD n c else (nulR q (c - 1)).1) := by
 have hnn : q.n.toNat = n := by omega
 rcases Nat.eq_zero_or_pos c with e | e
 ·subst e
  refine .inl ⟨rfl, ?_, rfl, rfl⟩
  rw [dgD_zero]; simp
 ·refine .inr ⟨dgD_pos e hc, ?_⟩
  obtain ⟨k, rfl⟩ : ∃ k, c = k + 1 := ⟨c - 1, by omega⟩
  simp only [Nat.add_sub_cancel]
  have h1 : nulR q (k + 1) = nulS q (k + 1) (nulR q k) := rfl
  rw [h1]
  unfold nulS
  rw [hnn, dgD_eul hq hn, nulR_sum q k]
  have h2 : (nulR q k).1.length = 0 ↔ (nulR q k).1 = [] := List.length_eq_zero_iff
  simp only [h2]
  split <;> rfl
end Go.Proofs.Ytoilkinagffhiaa.V
