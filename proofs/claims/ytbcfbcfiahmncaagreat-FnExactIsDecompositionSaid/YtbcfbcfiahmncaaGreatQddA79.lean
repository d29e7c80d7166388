/- Texts that the proof needs: A51, A64, A70, A78, A79. -/
import Derived.Test.YtbcfbcfiahmncaaGreatQddB4
namespace Go.Proofs.YtbcfbcfiahmncaaGreat.V
open Go.RowKit G D
set_option linter.unusedVariables false
set_option linter.unusedSimpArgs false
set_option maxHeartbeats 1000000
set_option maxRecDepth 4000
def vecF (l : List (List Int)) : Nat → Nat → Int := fun i j => (l.getD i default).getD j default
theorem rowL_ext {n : Nat} {f g : Nat → Int} (h : ∀ j, j < n → f j = g j) : rowL n f = rowL n g := List.map_congr_left fun j hj => h j (by simpa using hj)
theorem rowsL_ext {r n : Nat} {f g : Nat → Nat → Int} (h : ∀ i, i < r → ∀ j, j < n → f i j = g i j) : rowsL r n f = rowsL r n g := List.map_congr_left fun i hi => rowL_ext (h i (by simpa using hi))
theorem vecF_rows {r n : Nat} {f : Nat → Nat → Int} {i j : Nat} (hi : i < r) (hj : j < n) : vecF (rowsL r n f) i j = f i j := by
 unfold vecF; rw [rowsL_get n f hi, rowL_get _ hj]
def spanB (p : Int) (r n : Nat) (f : Nat → Nat → Int) : List (List Int) := rowsL (redK p r f n).2.length n (redK p r f n).1
theorem spanB_len (p : Int) (r n : Nat) (f : Nat → Nat → Int) : (spanB p r n f).length = (redK p r f n).2.length := rowsL_len ..
theorem spanB_uniq {p : Int} {r s n : Nat} {f f' : Nat → Nat → Int} (hF : isF p = true) (hb : BdF p r n f) (hb' : BdF p s n f') (hs : SS p r s n f f') : spanB p r n f = spanB p s n f' := by
 obtain ⟨e1, e2⟩ := redK_uniq hF hb hb' hs
 unfold spanB
 rw [← e1]
 exact rowsL_ext e2
def VecB (p : Int) (n : Nat) (l : List (List Int)) : Prop := ∀ x ∈ l, x.length = n ∧ ∀ j, j < n → 0 ≤ x.getD j default ∧ x.getD j default ≤ p - 1
theorem VecB.bd {p : Int} {n : Nat} {l : List (List Int)} (h : VecB p n l) : BdF p l.length n (vecF l) := fun i hi j hj => (h (l.getD i default) (gm hi)).2 j hj
theorem VecB.app {p : Int} {n : Nat} {x y : List (List Int)} (hx : VecB p n x) (hy : VecB p n y) : VecB p n (x ++ y) := fun z hz => by
 rcases List.mem_append.1 hz with h | h
 ·exact hx z h
 ·exact hy z h
theorem VecB.rows {p : Int} {r n : Nat} {f : Nat → Nat → Int} (h : BdF p r n f) : VecB p n (rowsL r n f) := fun x hx => by
 simp only [rowsL, List.mem_map, List.mem_range] at hx
 obtain ⟨i, hi, rfl⟩ := hx
 exact ⟨rowL_len .., fun j hj => by rw [rowL_get _ hj]; exact h i hi j hj⟩
theorem spanB_vec {p : Int} {r n : Nat} {f : Nat → Nat → Int} (hp : 0 < p) (hb : BdF p r n f) : VecB p n (spanB p r n f) := by
 obtain ⟨h1, h2, h3, h4⟩ := redK_bd hp hb n
 exact VecB.rows fun i hi j hj => h1 i (by omega) j hj
theorem spanB_le {p : Int} {r n : Nat} {f : Nat → Nat → Int} (hp : 0 < p) (hb : BdF p r n f) : (spanB p r n f).length ≤ r ∧ (spanB p r n f).length ≤ n := by
 rw [spanB_len]
 obtain ⟨h1, h2, h3, h4⟩ := redK_bd hp hb n
 exact ⟨h2, h3⟩
def spanL (p : Int) (n : Nat) (l : List (List Int)) : List (List Int) := spanB p l.length n (vecF l)
theorem spanL_idem {p : Int} {r n : Nat} {f : Nat → Nat → Int} (hF : isF p = true) (hb : BdF p r n f) : spanL p n (spanB p r n f) = spanB p r n f := by
 have hp := isF_pos hF
 obtain ⟨h1, h2⟩ := redK_ech hF hb n (Nat.le_refl _)
 have hv := spanB_vec (show 0 < p by omega) hb
 have hle := h1.le
 refine spanB_uniq hF hv.bd hb (SS.trans (s := r) (g := (redK p r f n).1) ?_ h2.symm)
 have hl := spanB_len p r n f
 constructor
 ·intro i hi
  rw [hl] at hi
  refine (Sp.row (show i < r by omega)).cg fun j hj => ?_
  rw [spanB, vecF_rows hi hj]; exact .refl _
 ·intro i hi
  by_cases e : i < (redK p r f n).2.length
  ·refine (Sp.row (show i < (spanB p r n f).length by omega)).cg fun j hj => ?_
   rw [spanB, vecF_rows e hj]; exact .refl _
  ·refine Sp.zero.cg fun j hj => ?_
   rw [h1.low i (by omega) hi j hj]; exact .refl _
def pivC (r : Nat) (f : Nat → Nat → Int) (piv : List Nat) : List (List Int) := piv.map fun k => rowL r fun t => f t k
theorem pivC_len (r : Nat) (f : Nat → Nat → Int) (piv : List Nat) : (pivC r f piv).length = piv.length := by simp [pivC]
theorem pivC_get (r : Nat) (f : Nat → Nat → Int) {piv : List Nat} {i : Nat} (hi : i < piv.length) : (pivC r f piv).getD i default = rowL r fun t => f t (piv.getD i 0) := by simp [pivC, hi]
theorem pivC_take (r : Nat) (f : Nat → Nat → Int) {piv : List Nat} {i : Nat} (hi : i < piv.length) : (pivC r f piv).take (i + 1) = (pivC r f piv).take i ++ [rowL r fun t => f t (piv.getD i 0)] := by
 have e : piv.getD i 0 = piv[i] := by simp [hi]
 rw [pivC, List.take_succ_eq_append_getElem (by simpa using hi), e]
 simp
theorem span_cols {p : Int} {r c : Nat} {f : Nat → Nat → Int} (hF : isF p = true) (hb : BdF p r c f) : spanL p r (pivC r f (redK p r f c).2) = spanL p r (rowsL c r fun k i => f i k) := by
 have hp := isF_pos hF
 obtain ⟨h1, h2⟩ := redK_ech hF hb c (Nat.le_refl _)
 obtain ⟨_, _, _, h4⟩ := redK_bd (show 0 < p by omega) hb c
 have hx : ∀ i, i < (redK p r f c).2.length → (redK p r f c).2.getD i 0 < c := fun i hi => h4 _ (by simp [hi])
 have hv1 : VecB p r (pivC r f (redK p r f c).2) := fun x hx' => by
  simp only [pivC, List.mem_map] at hx'
  obtain ⟨k, hk, rfl⟩ := hx'
  exact ⟨rowL_len .., fun j hj => by rw [rowL_get _ hj]; exact hb j hj k (h4 k hk)⟩
 have hv2 : VecB p r (rowsL c r fun k i => f i k) := VecB.rows fun k hk i hi => hb i hi k hk
 refine spanB_uniq hF hv1.bd hv2.bd ⟨fun i hi => ?_, fun k hk => ?_⟩
 ·rw [pivC_len] at hi
  refine (Sp.row (i := (redK p r f c).2.getD i 0) (by rw [rowsL_len]; exact hx i hi)).cg fun t ht => ?_
  rw [vecF_rows (hx i hi) ht]
  unfold vecF
  rw [pivC_get r f hi, rowL_get _ ht]; exact .refl _
 ·rw [rowsL_len] at hk
  refine ⟨fun i => (redK p r f c).1 i k, fun t ht => ?_⟩
  rw [vecF_rows hk ht, pivC_len]
  have := h1.comb (h2.1 t ht) k hk
  refine this.trans ?_
  rw [sumN_eq (g := fun i => (redK p r f c).1 i k * vecF (pivC r f (redK p r f c).2) i t) _ fun i hi => by
   unfold vecF
   rw [pivC_get r f hi, rowL_get _ ht, Int.mul_comm]]
  exact .refl _
def fineB (p n : Int) (l : List (List Int)) : Bool := (l.all fun x => decide ((x.length : Int) = n) && isVec p x) && (isF p && decide (0 ≤ n ∧ n ≤ 8) && decide (l.length ≤ 16))
def isSpc (p : Int) (s : Spc) : Bool := fineB p s.n s.b && decide (spanL p s.n.toNat s.b = s.b)
theorem fineB_spec {p n : Int} {l : List (List Int)} (h : fineB p n l = true) : isF p = true ∧ (0 ≤ n ∧ n ≤ 8) ∧ l.length ≤ 16 ∧ VecB p n.toNat l := by
 simp only [fineB, isVec, Bool.and_eq_true, decide_eq_true_eq, List.all_eq_true] at h
 refine ⟨h.2.1.1, h.2.1.2, h.2.2, fun x hx => ?_⟩
 obtain ⟨h1, h2⟩ := h.1 x hx
 exact ⟨by omega, fun j hj => allIn_spec h2.2 (by omega)⟩
theorem fineB_of {p : Int} {n : Nat} {l : List (List Int)} (hF : isF p = true) (hn : n ≤ 8) (hl : l.length ≤ 16) (hv : VecB p n l) : fineB p (n : Int) l = true := by
 simp only [fineB, isVec, Bool.and_eq_true, decide_eq_true_eq, List.all_eq_true]
 refine ⟨fun x hx => ?_, ⟨hF, by omega⟩, hl⟩
 obtain ⟨h1, h2⟩ := hv x hx
 exact ⟨by omega, ⟨hF, by omega⟩, allIn_all fun j hj => h2 j (by omega)⟩
theorem isSpc_span {p : Int} {r n : Nat} {f : Nat → Nat → Int} (hF : isF p = true) (hn : n ≤ 8) (hb : BdF p r n f) : isSpc p ⟨(n : Nat), spanB p r n f⟩ = true := by
 have hp := isF_pos hF
 have hle := spanB_le (show 0 < p by omega) hb
 simp only [isSpc, Bool.and_eq_true, decide_eq_true_eq]
 exact ⟨fineB_of hF hn (by omega) (spanB_vec (by omega) hb), by rw [Int.toNat_natCast]; exact spanL_idem hF hb⟩
theorem isSpc_spec {p : Int} {s : Spc} (h : isSpc p s = true) : isF p = true ∧ (0 ≤ s.n ∧ s.n ≤ 8) ∧ s.b.length ≤ 16 ∧ VecB p s.n.toNat s.b := by
 simp only [isSpc, Bool.and_eq_true] at h
 exact fineB_spec h.1
def addS (p : Int) (a b : Spc) : Spc := ⟨a.n, spanL p a.n.toNat (a.b ++ b.b)⟩
def imgS (p : Int) (m : Mat) : Spc := ⟨m.r, spanL p m.r.toNat (rowsL m.c.toNat m.r.toNat fun k i => ent m i k)⟩
theorem imgS_ok {p : Int} {m : Mat} (h : isMat p m = true) : isSpc p (imgS p m) = true := by
 obtain ⟨h0, h1, h2, h3, h4⟩ := isMat_spec h
 have hv : VecB p m.r.toNat (rowsL m.c.toNat m.r.toNat fun k i => ent m i k) := VecB.rows fun k hk i hi => ent_bd h i hi k hk
 have := isSpc_span h0 (show m.r.toNat ≤ 8 by omega) hv.bd
 rw [Int.toNat_of_nonneg h1.1] at this
 exact this
theorem set_ne {α : Type} [Inhabited α] {L : List α} {i j : Nat} (h : i ≠ j) (x : α) : (L.set i x).getD j default = L.getD j default := by simp [List.getElem?_set, h]
def radK (r : Rep) : Nat → List Spc
 | 0 => r.d.map fun d => ⟨d, []⟩
 | k + 1 => (radK r k).set (r.q.to.getD k default).toNat (addS r.p ((radK r k).getD (r.q.to.getD k default).toNat default) (imgS r.p (r.m.getD k default)))
theorem radK_len (r : Rep) : ∀ k, (radK r k).length = r.d.length
 | 0 => by simp [radK]
 | k + 1 => by rw [radK, List.length_set, radK_len r k]
def radL (r : Rep) : List Spc := radK r r.q.fr.length
theorem kerV_bd {p : Int} {c : Nat} {g : Nat → Nat → Int} {piv : List Nat} {k : Nat} (hp : 2 ≤ p) : ∀ n, ∀ j, j < c → 0 ≤ (kerV p c g piv k n).getD j default ∧ (kerV p c g piv k n).getD j default ≤ p - 1
 | 0, j, hj => by
  have := unitL_get (k := k) hj
  show 0 ≤ (unitL c k).getD j default ∧ _
  rw [kerV, this]
  split <;> omega
 | n + 1, j, hj => by
  rw [kerV]
  by_cases e : piv.getD n 0 = j
  ·subst e
   rw [set_get (by rw [kerV_len]; exact hj)]
   exact mod_bd (by omega)
  ·have e2 : ((kerV p c g piv k n).set (piv.getD n 0) (-(g n k) % p)).getD j default = (kerV p c g piv k n).getD j default := set_ne e _
   rw [e2]
   exact kerV_bd hp n j hj
theorem kerL_vec {p : Int} {r c : Nat} {f : Nat → Nat → Int} (hp : 2 ≤ p) : VecB p c (kerL p r c f) := fun x hx => by
 simp only [kerL, List.mem_map] at hx
 obtain ⟨k, _, rfl⟩ := hx
 exact ⟨kerV_len .., fun j hj => kerV_bd hp _ j hj⟩
theorem kerL_le (p : Int) (r c : Nat) (f : Nat → Nat → Int) : (kerL p r c f).length ≤ c := by
 rw [kerL, List.length_map]; exact freeL_le ..
def cmbV (p : Int) (n : Nat) (l : List (List Int)) (k : List Int) : Nat → List Int
 | 0 => List.replicate n 0
 | m + 1 => addK p (k.getD m default) 0 (l.getD m default) (cmbV p n l k m) n
theorem cmbV_len (p : Int) (n : Nat) (l : List (List Int)) (k : List Int) : ∀ m, (cmbV p n l k m).length = n
 | 0 => by simp [cmbV]
 | m + 1 => by rw [cmbV, addK_len, cmbV_len p n l k m]
theorem cmbV_bd {p : Int} {n : Nat} {l : List (List Int)} {k : List Int} (hp : 2 ≤ p) : ∀ m, ∀ j, j < n → 0 ≤ (cmbV p n l k m).getD j default ∧ (cmbV p n l k m).getD j default ≤ p - 1
 | 0, j, hj => by
  have : (cmbV p n l k 0).getD j default = 0 := by simp [cmbV, hj]
  rw [this]; omega
 | m + 1, j, hj => by
  have hl := cmbV_len p n l k m
  have e : (cmbV p n l k (m + 1)).getD j default = ((cmbV p n l k m).getD j default + k.getD m default * (l.getD m default).getD j default) % p := by
   rw [cmbV]
   simp only [addK, List.getD_eq_getElem?_getD, List.getElem?_map, List.getElem?_range (show j < (cmbV p n l k m).length by omega), Option.map_some, Option.getD_some]
   rw [if_pos (by omega)]
   rfl
  rw [e]
  exact mod_bd (by omega)
def kerS (p : Int) (m : Mat) : Spc := ⟨m.c, spanL p m.c.toNat (kerL p m.r.toNat m.c.toNat (ent m))⟩
theorem kerS_ok {p : Int} {m : Mat} (h : isMat p m = true) : isSpc p (kerS p m) = true := by
 obtain ⟨h0, h1, h2, h3, h4⟩ := isMat_spec h
 have hp := isF_pos h0
 have := isSpc_span h0 (show m.c.toNat ≤ 8 by omega) (kerL_vec (r := m.r.toNat) (c := m.c.toNat) (f := ent m) hp.1).bd
 rw [Int.toNat_of_nonneg h2.1] at this
 exact this
def idF : Nat → Nat → Int := fun i j => if i = j then 1 else 0
theorem map_take {α β : Type} [Inhabited α] (f : α → β) {l : List α} {k : Nat} (h : k < l.length) : (l.map f).take (k + 1) = (l.map f).take k ++ [f (l.getD k default)] := by
 have e : l.getD k default = l[k] := by simp [h]
 rw [List.take_succ_eq_append_getElem (by simpa using h), e]
 simp
def leadV (v : List Int) : Int := idxFrom (fun x => decide (x ≠ 0)) v 0
theorem addK_get0 (p k : Int) (b xs : List Int) {t n : Nat} (ht : t < xs.length) (hn : t < n) : (addK p k 0 b xs n).getD t default = (xs.getD t default + k * b.getD t default) % p := by
 simp only [addK, List.getD_eq_getElem?_getD, List.getElem?_map, List.getElem?_range ht, Option.map_some, Option.getD_some]
 rw [if_pos (by omega)]
 rfl
def appV (p : Int) (m : Mat) (v : List Int) : List Int := rowL m.r.toNat fun i => sumN (fun k => ent m i k * v.getD k default) m.c.toNat % p
theorem dotK_sum (f g : Nat → Nat → Int) (i c : Nat) : ∀ n, dotK f g i c n = sumN (fun k => f i k * g k c) n
 | 0 => rfl
 | n + 1 => by rw [dotK, sumN, dotK_sum f g i c n]
theorem sumN_swap (h : Nat → Nat → Int) (n : Nat) : ∀ m, sumN (fun i => sumN (fun j => h i j) n) m = sumN (fun j => sumN (fun i => h i j) m) n
 | 0 => by
  rw [sumN_zero (h := fun j => sumN (fun i => h i j) 0) n fun j _ => rfl]; rfl
 | m + 1 => by
  rw [sumN, sumN_swap h n m]
  exact (sumN_add (fun j => sumN (fun i => h i j) m) (fun j => h m j) n).symm
theorem arrow_ok {r : Rep} (h : isRep r = true) {i : Nat} (hi : i < r.m.length) : isMat r.p (r.m.getD i default) = true ∧ (0 ≤ r.q.fr.getD i default ∧ (r.q.fr.getD i default).toNat < r.d.length) ∧ (0 ≤ r.q.to.getD i default ∧ (r.q.to.getD i default).toNat < r.d.length) ∧ (r.m.getD i default).c = r.d.getD (r.q.fr.getD i default).toNat default ∧ (r.m.getD i default).r = r.d.getD (r.q.to.getD i default).toNat default := by
 obtain ⟨h1, h2, h3, h4⟩ := isRep_spec h
 obtain ⟨c1, c2, c3, _⟩ := areDims_spec h2
 have f : 0 ≤ r.q.fr.getD i default ∧ r.q.fr.getD i default < r.q.n := okQ_fr c1 (by omega)
 have t : 0 ≤ r.q.to.getD i default ∧ r.q.to.getD i default < r.q.n := okQ_to c1 (by omega)
 have hm := h4 i hi
 simp only [fitM, Bool.and_eq_true, decide_eq_true_eq] at hm
 exact ⟨hm.1.1, ⟨f.1, by omega⟩, ⟨t.1, by omega⟩, hm.1.2, hm.2⟩
def dotV (f : Nat → Int) (x : List Int) (c : Nat) : Int := sumN (fun j => f j * x.getD j default) c
theorem dotV_set (f : Nat → Int) (x : List Int) (a : Nat) (y : Int) (ha : a < x.length) : ∀ c, dotV f (x.set a y) c = dotV f x c + if a < c then f a * (y - x.getD a default) else 0
 | 0 => by simp [dotV, sumN]
 | c + 1 => by
  have ih := dotV_set f x a y ha c
  simp only [dotV, sumN] at ih ⊢
  rw [ih]
  by_cases e : a = c
  ·subst e
   rw [set_get ha, if_neg (by omega), if_pos (by omega), Int.mul_sub]; omega
  ·rw [set_ne e _]
   by_cases e2 : a < c
   ·rw [if_pos e2, if_pos (by omega)]; omega
   ·rw [if_neg e2, if_neg (by omega)]; omega
theorem dotV_unit (f : Nat → Int) (n k : Nat) (hk : k < n) : dotV f (unitL n k) n = f k := by
 have h := sumN_one f k n
 rw [if_pos hk] at h
 rw [← h]
 exact sumN_eq _ fun j hj => by rw [unitL_get hj, Int.mul_comm]
theorem kerV_free {p : Int} {c : Nat} {g : Nat → Nat → Int} {piv : List Nat} {k j : Nat} (hj : j < c) : ∀ n, (∀ i, i < n → piv.getD i 0 ≠ j) → (kerV p c g piv k n).getD j default = if j = k then 1 else 0
 | 0, _ => unitL_get hj
 | n + 1, h => by
  rw [kerV, set_ne (h n (by omega)) _]
  exact kerV_free hj n fun i hi => h i (by omega)
theorem ker_dot {p : Int} {r c : Nat} {g : Nat → Nat → Int} {piv : List Nat} (h : Ech r c g piv) {k : Nat} (hk : k < c) (hkp : k ∉ piv) {i : Nat} (hi : i < piv.length) : ∀ n, n ≤ piv.length → Cg p (dotV (g i) (kerV p c g piv k n) c) (if i < n then 0 else g i k)
  | 0, _ => by rw [kerV, dotV_unit _ _ _ hk, if_neg (by omega)]; exact .refl _
  | n + 1, hn => by
    have ih := ker_dot (p := p) h hk hkp hi n (by omega)
    have hpn := h.lt n (by omega)
    have hne : piv.getD n 0 ≠ k := fun e => hkp (by rw [← e]; have : n < piv.length := by omega
                                                    simp [this])
    have h0 : (kerV p c g piv k n).getD (piv.getD n 0) default = 0 := by
      rw [kerV_free hpn n fun t ht => by have := h.inc t n ht (by omega); omega, if_neg hne]
    rw [kerV, dotV_set _ _ _ _ (by rw [kerV_len]; exact hpn), if_pos hpn, h0, Int.sub_zero, h.one i hi n (by omega)]
    by_cases e : i = n
    · subst e
      rw [if_pos rfl, if_pos (by omega), Int.one_mul]
      rw [if_neg (by omega)] at ih
      have := ih.add (Cg.mod p (-(g i k)))
      rwa [show g i k + -(g i k) = 0 by omega] at this
    · rw [if_neg e, Int.zero_mul, Int.add_zero]
      by_cases e2 : i < n
      · rw [if_pos e2] at ih; rw [if_pos (by omega)]; exact ih
      · rw [if_neg e2] at ih; rw [if_neg (by omega)]; exact ih
theorem dotV_cg {p : Int} {f g : Nat → Int} {x : List Int} {c : Nat} (h : ∀ j, j < c → Cg p (f j) (g j)) : Cg p (dotV f x c) (dotV g x c) := sumN_cg _ fun j hj => (h j hj).mul (.refl _)
theorem dotV_comb (co : Nat → Int) (f : Nat → Nat → Int) (x : List Int) (c r : Nat) : dotV (fun j => sumN (fun i => co i * f i j) r) x c = sumN (fun i => co i * dotV (f i) x c) r := by
 unfold dotV
 rw [sumN_eq (g := fun j => sumN (fun i => co i * f i j * x.getD j default) r) _ fun j _ => by
  rw [Int.mul_comm, ← sumN_mul]
  exact sumN_eq _ fun i _ => Int.mul_comm .., sumN_swap]
 refine sumN_eq _ fun i _ => ?_
 rw [← sumN_mul]
 exact sumN_eq _ fun j _ => Int.mul_assoc ..
theorem kerL_spec {p : Int} {r c : Nat} {f : Nat → Nat → Int} (hF : isF p = true) (hb : BdF p r c f) {x : List Int} (hx : x ∈ kerL p r c f) : (∀ i, i < r → Cg p (dotV (f i) x c) 0) ∧ ∃ j, j < c ∧ x.getD j default = 1 := by
 obtain ⟨h1, h2⟩ := redK_ech hF hb c (Nat.le_refl _)
 simp only [kerL, List.mem_map] at hx
 obtain ⟨k, hk, rfl⟩ := hx
 obtain ⟨k1, k2⟩ := freeL_lt k hk
 constructor
 ·intro i hi
  obtain ⟨co, e⟩ := h2.1 i hi
  refine (dotV_cg e).trans ?_
  rw [dotV_comb]
  refine (sumN_cg (g := fun _ => 0) _ fun t ht => ?_).trans (by rw [sumN_zero (h := fun _ => 0) _ fun _ _ => rfl]; exact .refl _)
  have hz : Cg p (dotV ((redK p r f c).1 t) (kerV p c (redK p r f c).1 (redK p r f c).2 k (redK p r f c).2.length) c) 0 := by
   by_cases et : t < (redK p r f c).2.length
   ·have := ker_dot (p := p) h1 k1 k2 et _ (Nat.le_refl _)
    rwa [if_pos et] at this
   ·refine (dotV_cg (g := fun _ => 0) fun j hj => by rw [h1.low t (by omega) ht j hj]; exact .refl _).trans ?_
    unfold dotV
    rw [sumN_zero _ fun j _ => Int.zero_mul _]; exact .refl _
  have := (Cg.refl (co t)).mul hz
  rwa [Int.mul_zero] at this
 ·refine ⟨k, k1, ?_⟩
  rw [kerV_free k1 _ fun i hi e => k2 (by rw [← e]; simp [hi]), if_pos rfl]
theorem cmbV_cg {p : Int} {n : Nat} {l : List (List Int)} {k : List Int} {t : Nat} (ht : t < n) : ∀ m, Cg p ((cmbV p n l k m).getD t default) (sumN (fun i => k.getD i default * vecF l i t) m)
 | 0 => by
  have : (cmbV p n l k 0).getD t default = 0 := by simp [cmbV, ht]
  rw [this]; exact .refl _
 | m + 1 => by
  rw [cmbV, addK_get0 _ _ _ _ (by rw [cmbV_len]; exact ht) ht, sumN]
  exact (Cg.mod _ _).trans ((cmbV_cg ht m).add (.refl _))
end Go.Proofs.YtbcfbcfiahmncaaGreat.V
