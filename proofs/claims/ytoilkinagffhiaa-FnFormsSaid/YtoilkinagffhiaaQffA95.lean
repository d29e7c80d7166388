/- Texts that the proof needs: A173, A51, B6, A95. -/
import Derived.Test.YtoilkinagffhiaaQffA5
import Derived.Lib.MinMax
namespace Go.Proofs.Ytoilkinagffhiaa.V
open Go.RowKit G D
set_option linter.unusedVariables false
set_option linter.unusedSimpArgs false
set_option maxHeartbeats 4000000
set_option maxRecDepth 10000
def cutK {α : Type} (l : List α) (k : Nat) : List α := l.take k ++ l.drop (k + 1)
theorem cutK_get {α : Type} {l : List α} {k j : Nat} {d : α} (hk : k < l.length) : (cutK l k).getD j d = l.getD (if j < k then j else j + 1) d := by
 unfold cutK
 rw [List.getD_eq_getElem?_getD, List.getD_eq_getElem?_getD]
 congr 1
 by_cases h : j < k
 ·rw [if_pos h, List.getElem?_append_left (by rw [List.length_take]; omega), List.getElem?_take, if_pos h]
 ·rw [if_neg h, List.getElem?_append_right (by rw [List.length_take]; omega), List.getElem?_drop, List.length_take]
  congr 1
  omega
theorem cutK_len {α : Type} {l : List α} {k n : Nat} (hl : l.length = n + 1) (hk : k < n + 1) : (cutK l k).length = n := by
 unfold cutK
 rw [List.length_append, List.length_take, List.length_drop]
 omega
theorem cutK_sum : ∀ {l : List Nat} {k : Nat}, k < l.length → (cutK l k).sum + l.getD k 0 = l.sum
 | [], k, h => absurd h (Nat.not_lt_zero _)
 | a :: l, 0, _ => by simp [cutK]; omega
 | a :: l, k + 1, h => by
  have ih := cutK_sum (l := l) (k := k) (by simpa using h)
  have e : cutK (a :: l) (k + 1) = a :: cutK l k := by simp [cutK]
  rw [e, List.sum_cons, List.sum_cons]
  have e2 : (a :: l).getD (k + 1) 0 = l.getD k 0 := by simp
  rw [e2]
  omega
def sqN (n : Nat) (m : List (List Int)) : Prop := m.length = n ∧ ∀ i, i < n → (m.getD i default).length = n
theorem minor_row {m : List (List Int)} {k i : Nat} (hi : i + 1 < m.length) : (minor m k).getD i default = cutK (m.getD (i + 1) default) k := by
 unfold Proofs.Ytoilkinagffhiaa.minor
 rw [List.getD_eq_getElem?_getD, List.getElem?_map, List.getElem?_drop, List.getD_eq_getElem?_getD, show 1 + i = i + 1 by omega, List.getElem?_eq_getElem hi]
 rfl
theorem sqN.minor {n k : Nat} {m : List (List Int)} (h : sqN (n + 1) m) (hk : k < n + 1) : sqN n (minor m k) := by
 refine ⟨by unfold Proofs.Ytoilkinagffhiaa.minor; rw [List.length_map, List.length_drop, h.1]; omega, fun i hi => ?_⟩
 rw [minor_row (by rw [h.1]; omega)]
 exact cutK_len (h.2 (i + 1) (by omega)) hk
def ent2 (m : List (List Int)) (i j : Nat) : Int := (m.getD i default).getD j default
theorem minor_ent {n k i j : Nat} {m : List (List Int)} (h : sqN (n + 1) m) (hk : k < n + 1) (hi : i < n) : ent2 (minor m k) i j = ent2 m (i + 1) (if j < k then j else j + 1) := by
 unfold ent2
 rw [minor_row (by rw [h.1]; omega), cutK_get (by rw [h.2 (i + 1) (by omega)]; exact hk)]
theorem foldl_zero {f : Nat → Int} : ∀ (l : List Nat) (s : Int), (∀ k ∈ l, f k = 0) → l.foldl (fun s k => s + f k) s = s
 | [], s, _ => rfl
 | k :: l, s, h => by
  rw [List.foldl_cons, h k (by simp), Int.add_zero]
  exact foldl_zero l s fun j hj => h j (by simp [hj])
theorem det_zero : ∀ (n : Nat) {m : List (List Int)} {a b : List Nat}, sqN n m → a.length = n → b.length = n → (∀ i j, i < n → j < n → ent2 m i j ≠ 0 → b.getD j 0 ≤ a.getD i 0) → a.sum < b.sum → det n m = 0
 | 0, m, a, b, _, ha, hb, _, h => by
  rw [List.eq_nil_of_length_eq_zero ha, List.eq_nil_of_length_eq_zero hb] at h
  exact absurd h (Nat.lt_irrefl _)
 | n + 1, m, a, b, hm, ha, hb, he, h => by
  refine foldl_zero (f := fun k => sg k * (m.getD 0 default).getD k default * det n (minor m k)) _ _ fun k hk => ?_
  have hk : k < n + 1 := by simpa using hk
  by_cases h0 : (m.getD 0 default).getD k default = 0
  ·rw [h0]; simp
  ·have h1 := he 0 k (by omega) hk h0
   obtain ⟨a0, a', rfl⟩ : ∃ a0 a', a = a0 :: a' := by
    cases a with
    | nil => cases ha
    | cons x l => exact ⟨x, l, rfl⟩
   have h2 := cutK_sum (l := b) (k := k) (by omega)
   have e : det n (minor m k) = 0 := det_zero n (hm.minor hk) (by simpa using ha) (cutK_len hb hk) (fun i j hi hj hne => by
    rw [minor_ent hm hk hi] at hne
    rw [cutK_get (by omega)]
    have := he (i + 1) (if j < k then j else j + 1) (by omega) (by split <;> omega) hne
    simpa using this) (by
    rw [List.sum_cons] at h
    have : (a0 :: a').getD 0 0 = a0 := rfl
    omega)
   rw [e]; simp
theorem det_one : ∀ (n : Nat) {m : List (List Int)} {a : List Nat}, sqN n m → a.length = n → (∀ i, i < n → ent2 m i i = 1) → (∀ i j, i < n → j < n → i ≠ j → ent2 m i j ≠ 0 → a.getD j 0 < a.getD i 0) → det n m = 1
 | 0, _, _, _, _, _, _ => rfl
 | n + 1, m, a, hm, ha, h1, he => by
  have e0 : det (n + 1) m = (List.range (n + 1)).foldl (fun s k => s + sg k * (m.getD 0 default).getD k default * det n (minor m k)) 0 := rfl
  rw [e0, List.range_succ_eq_map, List.foldl_cons]
  obtain ⟨a0, a', rfl⟩ : ∃ a0 a', a = a0 :: a' := by
   cases a with
   | nil => cases ha
   | cons x l => exact ⟨x, l, rfl⟩
  have ih := det_one n (m := minor m 0) (a := a') (hm.minor (by omega)) (by simpa using ha) (fun i hi => by
   rw [minor_ent hm (by omega) hi, if_neg (by omega)]
   exact h1 (i + 1) (by omega)) (fun i j hi hj hij hne => by
   rw [minor_ent hm (by omega) hi, if_neg (by omega)] at hne
   have := he (i + 1) (j + 1) (by omega) (by omega) (by omega) hne
   simpa using this)
  rw [ih, show (m.getD 0 default).getD 0 default = 1 from h1 0 (by omega)]
  rw [foldl_zero (f := fun k => sg k * (m.getD 0 default).getD k default * det n (minor m k))]
  ·simp [sg]
  ·intro k hk
   obtain ⟨j, hj, rfl⟩ := List.mem_map.1 hk
   have hj : j < n := by simpa using hj
   by_cases h0 : (m.getD 0 default).getD (j + 1) default = 0
   ·show sg (j + 1) * (m.getD 0 default).getD (j + 1) default * _ = 0
    rw [h0]; simp
   ·have hr := he 0 (j + 1) (by omega) (by omega) (by omega) h0
    have h2 := cutK_sum (l := a0 :: a') (k := j + 1) (by rw [ha]; omega)
    have e : det n (minor m (j + 1)) = 0 := det_zero n (a := a') (b := cutK (a0 :: a') (j + 1)) (hm.minor (by omega)) (by simpa using ha) (cutK_len ha (by omega)) (fun i l hi hl hne => by
     rw [minor_ent hm (by omega) hi] at hne
     rw [cutK_get (by rw [ha]; omega)]
     by_cases e : i + 1 = (if l < j + 1 then l else l + 1)
     ·rw [← e]; simp
     ·have := he (i + 1) (if l < j + 1 then l else l + 1) (by omega) (by split <;> omega) e hne
      have e2 : (a0 :: a').getD (i + 1) 0 = a'.getD i 0 := by simp
      omega) (by
     rw [List.sum_cons] at h2
     have : (a0 :: a').getD 0 0 = a0 := rfl
     omega)
    show sg (j + 1) * (m.getD 0 default).getD (j + 1) default * det n (minor m (j + 1)) = 0
    rw [e]; simp
theorem lfQ_end {q : Quiv} {rk : Int → Nat} (h : Acy q rk) : ∀ (f : Nat) (v : Int), ∀ y ∈ lfQ q f v, y = ⟨v, []⟩ ∨ rk (endQ q y) < rk v
 | 0, v, y, hy => by simp [lfQ] at hy; exact .inl hy
 | f + 1, v, y, hy => by
  rcases List.mem_cons.1 hy with rfl | hy
  ·exact .inl rfl
  ·obtain ⟨i, hi, hy⟩ := List.mem_flatMap.1 hy
   have hi : i < q.fr.length := by simpa using hi
   split at hy
   ·rename_i he
    obtain ⟨z, hz, rfl⟩ := List.mem_map.1 hy
    have hd := h.dec i hi
    rw [he] at hd
    have e : endQ q ⟨v, (i : Int) :: z.a⟩ = endQ q z := by
     have hs := lfQ_s q f _ z hz
     unfold endQ
     cases ha : z.a with
     | nil => simp [hs]
     | cons b l =>
      have e1 : ((i : Int) :: b :: l).length - 1 = l.length + 1 := by simp
      simp
    refine .inr ?_
    rw [e]
    rcases lfQ_end h f _ z hz with rfl | hlt
    ·have e2 : endQ q ⟨q.to.getD i default, []⟩ = q.to.getD i default := by simp [endQ]
     rw [e2]; exact hd
    ·omega
   ·cases hy
theorem lfQ_tail {q : Quiv} {rk : Int → Nat} (h : Acy q rk) (f : Nat) (v : Int) : ∃ l, lfQ q (f + 1) v = ⟨v, []⟩ :: l ∧ ∀ y ∈ l, rk (endQ q y) < rk v := by
 refine ⟨_, rfl, fun y hy => ?_⟩
 obtain ⟨i, hi, hy⟩ := List.mem_flatMap.1 hy
 split at hy
 ·rename_i he
  obtain ⟨z, hz, rfl⟩ := List.mem_map.1 hy
  have hm : (⟨v, (i : Int) :: z.a⟩ : Pth) ∈ lfQ q (f + 1) v := List.mem_cons.2 (.inr (List.mem_flatMap.2 ⟨i, hi, by rw [if_pos he]; exact List.mem_map.2 ⟨z, hz, rfl⟩⟩))
  rcases lfQ_end h (f + 1) v _ hm with e | hlt
  ·cases e
  ·exact hlt
 ·cases hy
theorem betw_self {q : Quiv} {rk : Int → Nat} (h : Acy q rk) (v : Int) : (betw q v v).length = 1 := by
 obtain ⟨l, e, hl⟩ := lfQ_tail h 4 v
 unfold betw
 rw [e, List.filter_cons, if_pos (by simp [endQ])]
 rw [List.filter_eq_nil_iff.2 fun y hy => by
  have := hl y hy
  simp only [decide_eq_true_eq]
  intro hv
  rw [hv] at this
  omega]
 rfl
theorem betw_none {q : Quiv} {rk : Int → Nat} (h : Acy q rk) {v w : Int} (hvw : v ≠ w) (hr : ¬ rk w < rk v) : (betw q v w).length = 0 := by
 unfold betw
 rw [List.filter_eq_nil_iff.2 fun y hy => by
  simp only [decide_eq_true_eq]
  intro hw
  rcases lfQ_end h 5 v y hy with rfl | hlt
  ·simp [endQ] at hw; exact hvw hw
  ·rw [hw] at hlt; exact hr hlt]
 rfl
def arrN (q : Quiv) (rk : Int → Nat) (v : Int) : Nat := (List.range q.fr.length).countP fun i => decide (rk (q.fr.getD i default) ≤ rk v)
theorem countP_two {α : Type} {p r s : α → Bool} : ∀ (l : List α), (∀ x ∈ l, p x = true → s x = true) → (∀ x ∈ l, r x = true → s x = true) → (∀ x ∈ l, ¬ (p x = true ∧ r x = true)) → l.countP p + l.countP r ≤ l.countP s
 | [], _, _, _ => by simp
 | a :: l, h1, h2, h3 => by
  have ih := countP_two l (fun x hx => h1 x (by simp [hx])) (fun x hx => h2 x (by simp [hx])) (fun x hx => h3 x (by simp [hx]))
  rw [List.countP_cons, List.countP_cons, List.countP_cons]
  have g1 := h1 a (by simp)
  have g2 := h2 a (by simp)
  have g3 := h3 a (by simp)
  cases hp : p a <;> cases hr : r a <;> cases hs : s a <;> simp_all <;> omega
theorem flatQ_le {α : Type} {q : Quiv} {v : Int} {X : Nat → List α} {B : Nat} : ∀ (l : List Nat), (∀ i ∈ l, q.fr.getD i default = v → (X i).length ≤ B) → (l.flatMap fun i => if q.fr.getD i default = v then X i else []).length ≤ (l.countP fun i => decide (q.fr.getD i default = v)) * B
 | [], _ => by simp
 | a :: l, h => by
  have ih := flatQ_le l fun i hi => h i (by simp [hi])
  rw [List.flatMap_cons, List.length_append, List.countP_cons]
  by_cases e : q.fr.getD a default = v
  ·rw [if_pos e, if_pos (by simpa using e), Nat.add_mul, Nat.one_mul]
   have := h a (by simp) e
   omega
  ·rw [if_neg e, if_neg (by simpa using e)]
   simpa using ih
theorem pow_two : ∀ a, a < 7 → ∀ d, d < 7 → d ≤ a → 1 + d * 2 ^ (a - d) ≤ 2 ^ a := by decide
theorem lfQ_two {q : Quiv} {rk : Int → Nat} (h : Acy q rk) : ∀ (f : Nat) (v : Int), (lfQ q f v).length ≤ 2 ^ arrN q rk v
 | 0, v => by
  have : 0 < 2 ^ arrN q rk v := Nat.pow_pos (by omega)
  simp [lfQ]; omega
 | f + 1, v => by
  have h6 := (okQ_spec h.ok).2.2.2.1
  obtain ⟨d, hd⟩ : ∃ d, d = (List.range q.fr.length).countP fun i => decide (q.fr.getD i default = v) := ⟨_, rfl⟩
  have hA : arrN q rk v ≤ q.fr.length := by have := List.countP_le_length (p := fun i => decide (rk (q.fr.getD i default) ≤ rk v)) (l := List.range q.fr.length); simpa [arrN] using this
  have hdA : d ≤ arrN q rk v := by
   rw [hd]
   exact List.countP_mono_left fun i _ hi => by
    simp only [decide_eq_true_eq] at hi ⊢
    rw [hi]; exact Nat.le_refl _
  have hB : ∀ i ∈ List.range q.fr.length, q.fr.getD i default = v → ((lfQ q f (q.to.getD i default)).map fun y => (⟨v, (i : Int) :: y.a⟩ : Pth)).length ≤ 2 ^ (arrN q rk v - d) := fun i hi he => by
   have hi : i < q.fr.length := by simpa using hi
   rw [List.length_map]
   have hr := h.dec i hi
   rw [he] at hr
   refine Nat.le_trans (lfQ_two h f _) (Nat.pow_le_pow_right (by omega) ?_)
   have h2 : arrN q rk (q.to.getD i default) + d ≤ arrN q rk v := by
    rw [hd]
    refine countP_two _ (fun x _ hx => ?_) (fun x _ hx => ?_) (fun x _ hx => ?_)
    ·simp only [decide_eq_true_eq] at hx ⊢; omega
    ·simp only [decide_eq_true_eq] at hx ⊢; rw [hx]; exact Nat.le_refl _
    ·simp only [decide_eq_true_eq] at hx
     rw [hx.2] at hx
     omega
   omega
  have h3 := flatQ_le (q := q) (v := v) (X := fun i => (lfQ q f (q.to.getD i default)).map fun y => (⟨v, (i : Int) :: y.a⟩ : Pth)) (List.range q.fr.length) hB
  rw [← hd] at h3
  have h4 := pow_two (arrN q rk v) (by omega) d (by omega) hdA
  simp only [lfQ, List.length_cons]
  omega
theorem lfQ_64 {q : Quiv} {rk : Int → Nat} (h : Acy q rk) (f : Nat) (v : Int) : (lfQ q f v).length ≤ 64 := by
 have h6 := (okQ_spec h.ok).2.2.2.1
 have hA : arrN q rk v ≤ 6 := by have := List.countP_le_length (p := fun i => decide (rk (q.fr.getD i default) ≤ rk v)) (l := List.range q.fr.length); rw [List.length_range] at this; unfold arrN; omega
 exact Nat.le_trans (lfQ_two h f v) (Nat.le_trans (Nat.pow_le_pow_right (by omega) hA) (by decide))
theorem cart_det {q : Quiv} (h : (cartQ q).2 = true) : detOf (cartQ q).1 = 1 := by
 have ho : (orderQ q).2 = true := by
  unfold cartQ at h
  split at h
  ·assumption
  ·cases h
 obtain ⟨rk, hA⟩ := acy_of ho
 have h5 := okQ_spec hA.ok
 have e : (cartQ q).1 = (List.range q.n.toNat).map fun (v : Nat) => (List.range q.n.toNat).map fun (w : Nat) => countP q (v : Int) (w : Int) := by
  unfold cartQ
  rw [if_pos ho]
  refine List.map_congr_left fun v hv => ?_
  have hv : v < q.n.toNat := by simpa using hv
  unfold projD dimsF
  rw [if_pos ⟨ho, by omega, by omega⟩]
 have hc : ∀ v w : Nat, v < q.n.toNat → w < q.n.toNat → countP q (v : Int) (w : Int) = ((betw q v w).length : Nat) := fun v w hv hw => by
  unfold countP betwB
  rw [ho, if_pos]
  simp only [Bool.true_and, Bool.and_eq_true, decide_eq_true_eq]
  omega
 rw [e]
 generalize hM : (List.range q.n.toNat).map (fun (v : Nat) => (List.range q.n.toNat).map fun (w : Nat) => countP q (v : Int) (w : Int)) = M
 have hrow : ∀ i, i < q.n.toNat → M.getD i default = (List.range q.n.toNat).map fun (w : Nat) => countP q (i : Int) (w : Int) := fun i hi => by
  rw [← hM]; simp [hi]
 have hent : ∀ i j, i < q.n.toNat → j < q.n.toNat → ent2 M i j = ((betw q i j).length : Nat) := fun i j hi hj => by
  unfold ent2
  rw [hrow i hi, ← hc i j hi hj]
  simp [hj]
 have hsq : sqN q.n.toNat M := ⟨by rw [← hM]; simp, fun i hi => by rw [hrow i hi]; simp⟩
 have hok : okDet M = true := by
  simp only [okDet, okRow, Bool.and_eq_true, decide_eq_true_eq, List.all_eq_true, allIn]
  refine ⟨by rw [hsq.1]; omega, fun r hr => ?_⟩
  obtain ⟨i, hi, rfl⟩ := List.mem_iff_getElem.1 hr
  have hi' : i < q.n.toNat := by rw [← hsq.1]; exact hi
  have er : M[i] = M.getD i default := by simp [hi]
  rw [er, hrow i hi']
  refine ⟨by simp [hsq.1], fun y hy => ?_⟩
  obtain ⟨w, hw, rfl⟩ := List.mem_map.1 hy
  have hw : w < q.n.toNat := by simpa using hw
  rw [hc i w hi' hw]
  have h1 : (betw q i w).length ≤ 64 := Nat.le_trans (List.length_filter_le _ _) (lfQ_64 hA 5 i)
  omega
 unfold detOf
 rw [hok, hsq.1]
 show det q.n.toNat M = 1
 refine det_one q.n.toNat (a := (List.range q.n.toNat).map fun (v : Nat) => rk (v : Int)) hsq (by simp) (fun i hi => ?_) fun i j hi hj hij hne => ?_
 ·rw [hent i i hi hi, betw_self hA]; rfl
 ·rw [hent i j hi hj] at hne
  have h1 : ((List.range q.n.toNat).map fun (v : Nat) => rk (v : Int)).getD j 0 = rk (j : Int) := by simp [hj]
  have h2 : ((List.range q.n.toNat).map fun (v : Nat) => rk (v : Int)).getD i 0 = rk (i : Int) := by simp [hi]
  rw [h1, h2]
  refine Decidable.byContradiction fun hr => hne ?_
  rw [betw_none hA (by omega) hr]
  rfl
end Go.Proofs.Ytoilkinagffhiaa.V
namespace Go.Proofs.Ytoilkinagffhiaa.V
open Go.RowKit G D
set_option linter.unusedVariables false
set_option linter.unusedSimpArgs false
set_option maxHeartbeats 1000000
set_option maxRecDepth 4000
def VecB (p : Int) (n : Nat) (l : List (List Int)) : Prop := ∀ x ∈ l, x.length = n ∧ ∀ j, j < n → 0 ≤ x.getD j default ∧ x.getD j default ≤ p - 1
theorem VecB.app {p : Int} {n : Nat} {x y : List (List Int)} (hx : VecB p n x) (hy : VecB p n y) : VecB p n (x ++ y) := fun z hz => by
 rcases List.mem_append.1 hz with h | h
 ·exact hx z h
 ·exact hy z h
end Go.Proofs.Ytoilkinagffhiaa.V
namespace Go.Proofs.Ytoilkinagffhiaa.V
open Go.RowKit G D
set_option linter.unusedVariables false
set_option linter.unusedSimpArgs false
set_option maxHeartbeats 4000000
set_option maxRecDepth 4000
attribute [local irreducible] AW ARg ARA ARet MRet ASil AC AM
theorem VecB.len {p : Int} {n : Nat} {l : List (List Int)} (h : VecB p n l) : ∀ k, k < l.length → (l.getD k default).length = n := fun k hk => (h _ (gm hk)).1
end Go.Proofs.Ytoilkinagffhiaa.V
namespace Go.Proofs.Ytoilkinagffhiaa.V
open Go.RowKit G D
set_option linter.unusedVariables false
set_option linter.unusedSimpArgs false
set_option maxHeartbeats 4000000
set_option maxRecDepth 4000
attribute [local irreducible] AW ARg ARA ARet MRet ASil AC AM ARI
def oppQ (q : Quiv) : Quiv := ⟨q.n, q.to, q.fr⟩
theorem okQ_opp {q : Quiv} (h : okQ q = true) : okQ (oppQ q) = true := by
 rw [okQ_iff] at h ⊢
 obtain ⟨h1, h2, h3, h4, h5⟩ := h
 exact ⟨h1, h2, h3.symm, by show q.to.length ≤ 6; omega, fun j hj => by
  have hj : j < q.to.length := hj
  have := h5 j (by omega)
  exact ⟨this.2, this.1⟩⟩
def oppP (q : Quiv) : Quiv × Bool := if okQ q = true then (oppQ q, true) else (⟨0, [], []⟩, false)
theorem specOppositeOf_a (q : Quiv) : AC Try.prog 22 [.agg (enc false q)] [.agg (enc true (oppP q).1), .b (oppP q).2] := by
 refine AC.go Try.func22 Try.ntmps22 rfl rfl fun w0 hw => ?_; simp [WfL, WfA, E_length, Enc.enc, In64] at hw
 have hQ := specIsQuiver_a q
 unfold oppP
 cases h : okQ q with
 | false =>
  rw [h] at hQ
  rw [if_neg (by simp)]
  repeat' first | refine s1 ?_ | (refine kR ?_; first | refine F.c (hQ) ?_) | fail
  (refine kZ ?_; exact F.ret rfl)
 | true =>
  rw [h] at hQ
  rw [if_pos rfl]
  have h5 := okQ_spec h
  unfold oppQ
  dsimp only
  repeat' first | refine s1 ?_ | (refine kR ?_; first | refine F.c (hQ) ?_) | fail
  refine AW.draw 11 G.mixed (by kernel_rfl) ?_
  refine dP 0 ?_
  refine dL 1 ?_
  refine dP 3 ?_
  refine dL 4 ?_
  refine dP 7 ?_
  refine dL 8 ?_
  refine ARA.any [2, 6] (by kernel_rfl) (by simp) ?_
  intro k hk
  simp only [List.mem_cons, List.not_mem_nil, or_false] at hk
  rcases hk with rfl | rfl
  refine ⟨_, true, rfl, rfl, ?_⟩
  refine s1 ?_
  refine tN ?_
  refine ARA.any [5, 6] (by kernel_rfl) (by simp) ?_
  intro k hk
  simp only [List.mem_cons, List.not_mem_nil, or_false] at hk
  rcases hk with rfl | rfl
  refine ⟨_, true, rfl, rfl, ?_⟩
  first | refine s1 ?_ | refine F.appLN (α := Int) (oo := true) (.inr rfl) rfl .imm rfl rfl (by omega) (by omega) rfl rfl rfl rfl ?_
  refine tN ?_
  refine dO 6 true ?_
  refine s1 ?_
  refine tN ?_
  refine dO 9 true ?_
  first | refine s1 ?_ | refine F.appLN (α := Int) (oo := true) (.inr rfl) rfl .imm rfl rfl (by omega) (by omega) rfl rfl rfl rfl ?_
  refine tN ?_
  refine dP 10 ?_
  refine dO 11 false ?_
  refine s1 ?_
  refine tN ?_
  refine dP 12 ?_
  refine dN ?_
  rotate_left
  refine ⟨_, true, rfl, rfl, ?_⟩
  refine s1 ?_
  refine tN ?_
  refine dO 5 true ?_
  first | refine s1 ?_ | refine F.appLN (α := Int) (oo := true) (.inr rfl) rfl .imm rfl rfl (by omega) (by omega) rfl rfl rfl rfl ?_
  refine tN ?_
  refine dO 9 true ?_
  first | refine s1 ?_ | refine F.appLN (α := Int) (oo := true) (.inr rfl) rfl .imm rfl rfl (by omega) (by omega) rfl rfl rfl rfl ?_
  refine tN ?_
  refine dP 10 ?_
  refine dO 11 false ?_
  refine s1 ?_
  refine tN ?_
  refine dP 12 ?_
  refine dN ?_
  rotate_left
  refine ⟨_, true, rfl, rfl, ?_⟩
  refine s1 ?_
  refine tN ?_
  refine dO 2 true ?_
  refine s1 ?_
  refine tN ?_
  refine dO 5 true ?_
  first | refine s1 ?_ | refine F.appLN (α := Int) (oo := true) (.inr rfl) rfl .imm rfl rfl (by omega) (by omega) rfl rfl rfl rfl ?_
  refine tN ?_
  refine dO 9 true ?_
  first | refine s1 ?_ | refine F.appLN (α := Int) (oo := true) (.inr rfl) rfl .imm rfl rfl (by omega) (by omega) rfl rfl rfl rfl ?_
  refine tN ?_
  refine dP 10 ?_
  refine dO 11 false ?_
  refine s1 ?_
  refine tN ?_
  refine dP 12 ?_
  refine dN ?_
  rotate_left
  all_goals
   repeat' first | refine s1 ?_ | fail
   (refine kZ ?_; exact F.ret rfl)
end Go.Proofs.Ytoilkinagffhiaa.V
