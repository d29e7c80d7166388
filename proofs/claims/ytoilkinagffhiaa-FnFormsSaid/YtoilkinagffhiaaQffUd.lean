/- Texts that the proof needs: Ud. -/
import Derived.Test.YtoilkinagffhiaaQffUc
namespace Go.Proofs.Ytoilkinagffhiaa.D
open Go.RowKit G
set_option linter.unusedVariables false
theorem getD_set {α : Type} (l : List α) (i j : Nat) (x d : α) (hi : i < l.length) : (l.set i x).getD j d = if i = j then x else l.getD j d := by
 simp only [List.getD_eq_getElem?_getD, List.getElem?_set]
 by_cases h : i = j
 ·subst h; simp [hi]
 ·simp [h]
def Sq (m : List (List Int)) (n : Nat) (lo hi : Int) : Prop := m.length = n ∧ ∀ v, v < n → (m.getD v []).length = n ∧ ∀ j, j < n → lo ≤ get2 m v j ∧ get2 m v j ≤ hi
theorem get2_set2 {m : List (List Int)} {i k : Nat} (y : Int) {a b : Nat} (hi : i < m.length) (hk : k < (m.getD i []).length) : get2 (set2 m i k y) a b = if i = a ∧ k = b then y else get2 m a b := by
 unfold get2 set2
 rw [getD_set _ _ _ _ _ hi]
 by_cases h : i = a
 ·subst h
  rw [if_pos rfl, getD_set _ _ _ _ _ hk]
  by_cases h2 : k = b
  ·simp [h2]
  ·simp [h2]
 ·simp [h]
theorem row_set2 {m : List (List Int)} {i k : Nat} (y : Int) {a : Nat} (hi : i < m.length) : (set2 m i k y).getD a [] = if i = a then (m.getD i []).set k y else m.getD a [] := by
 unfold set2; exact getD_set _ _ _ _ _ hi
theorem Sq.set2 {m : List (List Int)} {n : Nat} {lo hi y : Int} (h : Sq m n lo hi) {i k : Nat} (hi' : i < n) (hk : k < n) (hy : lo ≤ y ∧ y ≤ hi) : Sq (set2 m i k y) n lo hi := by
 obtain ⟨h1, h2⟩ := h
 refine ⟨by rw [set2_length, h1], fun v hv => ⟨?_, fun j hj => ?_⟩⟩
 ·rw [row_set2 _ (by omega)]
  split
  ·rename_i e; subst e; rw [List.length_set]; exact (h2 i hv).1
  ·exact (h2 v hv).1
 ·rw [get2_set2 _ (by omega) (by rw [(h2 i hi').1]; exact hk)]
  split
  ·exact hy
  ·exact (h2 v hv).2 j hj
theorem Sq.mono {m : List (List Int)} {n : Nat} {lo hi lo' hi' : Int} (h : Sq m n lo hi) (h1 : lo' ≤ lo) (h2 : hi ≤ hi') : Sq m n lo' hi' :=
 ⟨h.1, fun v hv => ⟨(h.2 v hv).1, fun j hj => by have := (h.2 v hv).2 j hj; omega⟩⟩
def dec2 (m : List (List Int)) (i k : Nat) : List (List Int) := set2 m i k (get2 m i k - 1)
theorem Sq.dec2 {m : List (List Int)} {n : Nat} {lo hi : Int} (h : Sq m n lo hi) {i k : Nat} (hi' : i < n) (hk : k < n) : Sq (dec2 m i k) n (lo - 1) hi := by
 have h1 := (h.2 i hi').2 k hk
 exact (h.mono (show lo - 1 ≤ lo by omega) (Int.le_refl _)).set2 hi' hk (by omega)
def symRow (n v : Nat) : List Int := (List.replicate n 0).set v 2
def symM (q : Quiv) : Nat → List (List Int)
 | 0 => (List.range q.n.toNat).map fun v => symRow q.n.toNat v
 | k + 1 => dec2 (dec2 (symM q k) (q.fr.getD k 0).toNat (q.to.getD k 0).toNat) (q.to.getD k 0).toNat (q.fr.getD k 0).toNat
theorem symM_sq {q : Quiv} (hq : okQ q = true) : ∀ k, k ≤ q.fr.length → Sq (symM q k) q.n.toNat (-2 * (k : Int)) 2
 | 0, _ => by
  refine ⟨by simp [symM], fun v hv => ?_⟩
  have e : (symM q 0).getD v [] = symRow q.n.toNat v := by simp [symM, hv]
  refine ⟨by rw [e]; simp [symRow], fun j hj => ?_⟩
  unfold get2
  rw [e, symRow, getD_set _ _ _ _ _ (by simpa using hv)]
  split
  ·omega
  ·simp [hj]
 | k + 1, hk => by
  have h1 := okQ_fr hq (k := k) (by omega)
  have h2 := okQ_to hq (k := k) (by omega)
  have h3 := ((symM_sq hq k (by omega)).dec2 (i := (q.fr.getD k 0).toNat) (k := (q.to.getD k 0).toNat) (by omega) (by omega)).dec2 (i := (q.to.getD k 0).toNat) (k := (q.fr.getD k 0).toNat) (by omega) (by omega)
  exact h3.mono (by omega) (Int.le_refl _)
def decL (l : List Int) (k : Nat) : List Int := l.set k (l.getD k 0 - 1)
def rowK (q : Quiv) (v : Nat) : Nat → List Int
 | 0 => symRow q.n.toNat v
 | k + 1 =>
  let r1 := if q.fr.getD k 0 = (v : Int) then decL (rowK q v k) (q.to.getD k 0).toNat else rowK q v k
  if q.to.getD k 0 = (v : Int) then decL r1 (q.fr.getD k 0).toNat else r1
theorem row_dec2 {m : List (List Int)} {i k a : Nat} (hi : i < m.length) : (dec2 m i k).getD a [] = if i = a then decL (m.getD a []) k else m.getD a [] := by
 unfold dec2
 rw [row_set2 _ hi]
 by_cases h : i = a
 ·subst h; simp [decL, get2]
 ·simp [h]
theorem symM_row {q : Quiv} (hq : okQ q = true) (v : Nat) (hv : v < q.n.toNat) : ∀ k, k ≤ q.fr.length → (symM q k).getD v [] = rowK q v k
 | 0, _ => by simp [symM, hv, rowK]
 | k + 1, hk => by
  have h1 := okQ_fr hq (k := k) (by omega)
  have h2 := okQ_to hq (k := k) (by omega)
  have h3 := symM_sq hq k (by omega)
  have ih := symM_row hq v hv k (by omega)
  simp only [symM, rowK]
  have l1 : (dec2 (symM q k) (q.fr.getD k 0).toNat (q.to.getD k 0).toNat).length = q.n.toNat := (h3.dec2 (by omega) (by omega)).1
  rw [row_dec2 (by omega), row_dec2 (by rw [h3.1]; omega), ih]
  have e1 : ((q.fr.getD k 0).toNat = v) = (q.fr.getD k 0 = (v : Int)) := by apply propext; omega
  have e2 : ((q.to.getD k 0).toNat = v) = (q.to.getD k 0 = (v : Int)) := by apply propext; omega
  simp only [e1, e2]
def symF (q : Quiv) : List (List Int) := bif okQ q then symM q q.fr.length else []
theorem rowK_sq {q : Quiv} (hq : okQ q = true) (v : Nat) (hv : v < q.n.toNat) (k : Nat) (hk : k ≤ q.fr.length) : (rowK q v k).length = q.n.toNat ∧ ∀ j, j < q.n.toNat → -12 ≤ (rowK q v k).getD j 0 ∧ (rowK q v k).getD j 0 ≤ 2 := by
 have h := (symM_sq hq k hk).2 v hv
 have hl := (okQ_spec hq).2.2.2.1
 unfold get2 at h
 rw [symM_row hq v hv k hk] at h
 exact ⟨h.1, fun j hj => by have := h.2 j hj; omega⟩
end Go.Proofs.Ytoilkinagffhiaa.D
namespace Go.Proofs.Ytoilkinagffhiaa
def sg : Nat → Int
 | 0 => 1
 | k + 1 => -(sg k)
theorem sg_abs : ∀ k, sg k = 1 ∨ sg k = -1
 | 0 => .inl rfl
 | k + 1 => by rcases sg_abs k with h | h <;> simp [sg, h]
def minor (m : List (List Int)) (k : Nat) : List (List Int) := (m.drop 1).map fun r => r.take k ++ r.drop (k + 1)
def det : Nat → List (List Int) → Int
 | 0, _ => 1
 | n + 1, m => (List.range (n + 1)).foldl (fun s k => s + sg k * (m.getD 0 default).getD k default * det n (minor m k)) 0
def dsum (n : Nat) (m : List (List Int)) (k : Nat) : Int := (List.range k).foldl (fun s k => s + sg k * (m.getD 0 default).getD k default * det n (minor m k)) 0
theorem det_dsum (n : Nat) (m : List (List Int)) : det (n + 1) m = dsum n m (n + 1) := rfl
theorem dsum_succ (n : Nat) (m : List (List Int)) (k : Nat) : dsum n m (k + 1) = dsum n m k + sg k * (m.getD 0 default).getD k default * det n (minor m k) := by
 unfold dsum; rw [List.range_succ, List.foldl_append]; rfl
def Rows (r c : Nat) (m : List (List Int)) : Prop := m.length = r ∧ ∀ x ∈ m, x.length = c ∧ ∀ y ∈ x, -100 ≤ y ∧ y ≤ 100
theorem Rows.minor {r c k : Nat} {m : List (List Int)} (h : Rows (r + 1) (c + 1) m) (hk : k < c + 1) : Rows r c (minor m k) := by
 refine ⟨by simp [Proofs.Ytoilkinagffhiaa.minor, h.1], fun x hx => ?_⟩
 obtain ⟨y, hy, rfl⟩ := List.mem_map.1 hx
 have h1 := h.2 y (List.mem_of_mem_drop hy)
 refine ⟨by simp [h1.1]; omega, fun z hz => ?_⟩
 rcases List.mem_append.1 hz with hz | hz
 ·exact h1.2 z (List.mem_of_mem_take hz)
 ·exact h1.2 z (List.mem_of_mem_drop hz)
theorem Rows.row {r c k : Nat} {m : List (List Int)} (h : Rows r c m) (hk : k < r) : (m.getD k default).length = c ∧ ∀ j, j < c → -100 ≤ (m.getD k default).getD j default ∧ (m.getD k default).getD j default ≤ 100 := by
 have hm : m.getD k default ∈ m := by simp [h.1, hk]
 have h1 := h.2 _ hm
 refine ⟨h1.1, fun j hj => h1.2 _ ?_⟩
 have : j < (m.getD k default).length := by omega
 generalize m.getD k default = l at this
 simp [this]
def bnd : Nat → Int
 | 0 => 1
 | n + 1 => (n + 1) * (100 * bnd n)
theorem bnd_pos : ∀ n, 0 ≤ bnd n
 | 0 => by decide
 | n + 1 => Int.mul_nonneg (by omega) (Int.mul_nonneg (by omega) (bnd_pos n))
theorem mul_abs {a b A B : Int} (hA : 0 ≤ A) (hB : 0 ≤ B) (ha : -A ≤ a ∧ a ≤ A) (hb : -B ≤ b ∧ b ≤ B) : -(A * B) ≤ a * b ∧ a * b ≤ A * B := by
 have h : (a * b).natAbs ≤ (A * B).natAbs := by
  rw [Int.natAbs_mul, Int.natAbs_mul]
  exact Nat.mul_le_mul (by omega) (by omega)
 have : 0 ≤ A * B := Int.mul_nonneg hA hB
 omega
theorem term_bnd {n k : Nat} {m : List (List Int)} (h : Rows (n + 1) (n + 1) m) (hk : k < n + 1) (hd : -bnd n ≤ det n (minor m k) ∧ det n (minor m k) ≤ bnd n) :
  -(100 * bnd n) ≤ sg k * (m.getD 0 default).getD k default * det n (minor m k) ∧ sg k * (m.getD 0 default).getD k default * det n (minor m k) ≤ 100 * bnd n := by
 have h1 := (h.row (k := 0) (by omega)).2 k hk
 refine mul_abs (by omega) (bnd_pos n) ?_ hd
 rcases sg_abs k with e | e <;> rw [e] <;> omega
theorem dsum_bnd {n : Nat} {m : List (List Int)} (h : Rows (n + 1) (n + 1) m) (hd : ∀ k, k < n + 1 → -bnd n ≤ det n (minor m k) ∧ det n (minor m k) ≤ bnd n) : ∀ k, k ≤ n + 1 → -(k * (100 * bnd n)) ≤ dsum n m k ∧ dsum n m k ≤ k * (100 * bnd n)
 | 0, _ => by simp [dsum]
 | k + 1, hk => by
  have h1 := dsum_bnd h hd k (by omega)
  have h2 := term_bnd h (k := k) (by omega) (hd k (by omega))
  rw [dsum_succ]
  have : ((k + 1 : Nat) : Int) * (100 * bnd n) = k * (100 * bnd n) + 100 * bnd n := by push_cast; rw [Int.add_mul, Int.one_mul]
  omega
theorem det_bnd : ∀ (n : Nat) (m : List (List Int)), Rows n n m → -bnd n ≤ det n m ∧ det n m ≤ bnd n
 | 0, m, _ => by simp [det, bnd]
 | n + 1, m, h => by
  have := dsum_bnd h (fun k hk => det_bnd n _ (h.minor hk)) (n + 1) (Nat.le_refl _)
  rw [det_dsum]
  simpa [bnd] using this
theorem bnd_le {n : Nat} (h : n ≤ 5) : bnd n ≤ 1200000000000 := by
 have : n = 0 ∨ n = 1 ∨ n = 2 ∨ n = 3 ∨ n = 4 ∨ n = 5 := by omega
 rcases this with rfl | rfl | rfl | rfl | rfl | rfl <;> decide
end Go.Proofs.Ytoilkinagffhiaa
namespace Go.Proofs.Ytoilkinagffhiaa.V
open Go.RowKit G D
set_option linter.unusedVariables false
set_option linter.unusedSimpArgs false
def tab (r c : Nat) (f : Nat → Nat → Int) : List Int := (List.range (r * c)).map fun t => f (t / c) (t % c)
theorem tab_len (r c : Nat) (f : Nat → Nat → Int) : (tab r c f).length = r * c := by simp [tab]
theorem tab_lt {r c i j : Nat} (hi : i < r) (hj : j < c) : i * c + j < r * c := by
 have : (i + 1) * c ≤ r * c := Nat.mul_le_mul_right c hi
 rw [Nat.add_mul, Nat.one_mul] at this; omega
theorem tab_div {c i j : Nat} (hj : j < c) : (i * c + j) / c = i ∧ (i * c + j) % c = j := by
 constructor
 ·rw [Nat.mul_comm, Nat.mul_add_div (by omega), Nat.div_eq_of_lt hj]; omega
 ·rw [Nat.mul_comm, Nat.mul_add_mod, Nat.mod_eq_of_lt hj]
theorem tab_get {r c i j : Nat} (f : Nat → Nat → Int) (hi : i < r) (hj : j < c) : (tab r c f).getD (i * c + j) default = f i j := by
 have h := tab_lt hi hj
 have d := tab_div (i := i) hj
 simp [tab, h, d.1, d.2]
def updF (f : Nat → Nat → Int) (i j : Nat) (v : Int) : Nat → Nat → Int := fun i' j' => if i' = i ∧ j' = j then v else f i' j'
theorem tab_set {r c i j : Nat} (f : Nat → Nat → Int) (v : Int) (hi : i < r) (hj : j < c) : (tab r c f).set (i * c + j) v = tab r c (updF f i j v) := by
 apply List.ext_getElem (by simp [tab_len])
 intro t h1 h2
 have ht : t < r * c := by simpa [tab_len] using h2
 have e : t / c * c + t % c = t := Nat.div_add_mod' t c
 have d := tab_div (i := i) hj
 rw [List.getElem_set]
 simp only [tab, List.getElem_map, List.getElem_range, updF]
 by_cases h : i * c + j = t
 ·rw [if_pos h, if_pos]
  rw [← h]; exact d
 ·rw [if_neg h, if_neg]
  rintro ⟨a, b⟩
  exact h (by rw [← a, ← b]; exact e)
def rowL (c : Nat) (g : Nat → Int) : List Int := (List.range c).map g
theorem rowL_len (c : Nat) (g : Nat → Int) : (rowL c g).length = c := by simp [rowL]
theorem rowL_get {c j : Nat} (g : Nat → Int) (hj : j < c) : (rowL c g).getD j default = g j := by simp [rowL, hj]
attribute [simp] tab_len rowL_len
def clearF (p : Int) (f : Nat → Nat → Int) (t k : Nat) : Nat → Nat → Int := fun i j => if i = t then f i j else (f i j + (p - f i k) * f t j) % p
def BdF (p : Int) (r c : Nat) (f : Nat → Nat → Int) : Prop := ∀ i, i < r → ∀ j, j < c → 0 ≤ f i j ∧ f i j ≤ p - 1
theorem mod_bd {p x : Int} (hp : 0 < p) : 0 ≤ x % p ∧ x % p ≤ p - 1 := by
 have h1 := Int.emod_nonneg x (show p ≠ 0 by omega)
 have h2 := Int.emod_lt_of_pos x hp
 omega
theorem BdF.clear {p : Int} {r c : Nat} {f : Nat → Nat → Int} (h : BdF p r c f) (hp : 0 < p) {t k : Nat} : BdF p r c (clearF p f t k) := fun i hi j hj => by
 unfold clearF
 split
 ·exact h i hi j hj
 ·exact mod_bd hp
def ready (q : Quiv) (out : List Int) (v : Int) : Bool := (List.range q.fr.length).all fun i => decide (q.to.getD i default ≠ v) || decide (q.fr.getD i default ∈ out)
def freeV (q : Quiv) (out : List Int) (v : Int) : Bool := !decide (v ∈ out) && ready q out v
def nextV (q : Quiv) (out : List Int) : Nat → Nat → Int
 | 0, _ => -1
 | f + 1, u => if freeV q out u = true then (u : Int) else nextV q out f (u + 1)
def ordQ (q : Quiv) : Nat → List Int → List Int × Bool
 | 0, out => (out, true)
 | f + 1, out => if nextV q out q.n.toNat 0 < 0 then ([], false) else ordQ q f (out ++ [nextV q out q.n.toNat 0])
def orderQ (q : Quiv) : List Int × Bool := if okQ q = true then ordQ q q.n.toNat [] else ([], false)
theorem nextV_bd (q : Quiv) (out : List Int) : ∀ f u, -1 ≤ nextV q out f u ∧ nextV q out f u < (u + f : Nat)
 | 0, u => by simp [nextV]; omega
 | f + 1, u => by
  simp only [nextV]
  split
  ·omega
  ·have := nextV_bd q out f (u + 1); omega
theorem nextV_free {q : Quiv} {out : List Int} : ∀ {f u : Nat}, 0 ≤ nextV q out f u → freeV q out (nextV q out f u) = true
 | 0, u, h => by simp [nextV] at h
 | f + 1, u, h => by
  simp only [nextV] at h ⊢
  split
  ·assumption
  ·rename_i hn; rw [if_neg hn] at h; exact nextV_free h
theorem nextV_hit {q : Quiv} {out : List Int} {n i : Nat} (hi : i < n) (h : freeV q out (i : Int) = true) : nextV q out (n - i) i = i := by
 obtain ⟨m, hm⟩ : ∃ m, n - i = m + 1 := ⟨n - i - 1, by omega⟩
 rw [hm, nextV, if_pos h]
theorem nextV_miss {q : Quiv} {out : List Int} {n i : Nat} (hi : i < n) (h : freeV q out (i : Int) = false) : nextV q out (n - i) i = nextV q out (n - (i + 1)) (i + 1) := by
 obtain ⟨m, hm⟩ : ∃ m, n - i = m + 1 := ⟨n - i - 1, by omega⟩
 rw [hm, nextV, if_neg (by simp [h]), show n - (i + 1) = m by omega]
structure Acy (q : Quiv) (rk : Int → Nat) : Prop where
 ok : okQ q = true
 le : ∀ v, rk v ≤ 5
 dec : ∀ i, i < q.fr.length → rk (q.to.getD i default) < rk (q.fr.getD i default)
theorem count_snoc {out : List Int} {v : Nat} (hv : (v : Int) ∉ out) : ∀ n, (List.range n).countP (fun (u : Nat) => decide ((u : Int) ∉ out ++ [(v : Int)])) + (if v < n then 1 else 0) = (List.range n).countP (fun (u : Nat) => decide ((u : Int) ∉ out))
 | 0 => by simp
 | n + 1 => by
  have ih := count_snoc hv n
  rw [List.range_succ, List.countP_append, List.countP_append]
  by_cases h1 : v = n
  ·subst h1
   simp only [Nat.lt_irrefl, if_false, Nat.add_zero] at ih
   rw [ih]; simp [hv]
  ·have h2 : ((n : Int) ∈ out ++ [(v : Int)]) ↔ (n : Int) ∈ out := by simp; omega
   have h3 : (v < n + 1) ↔ v < n := by omega
   simp only [List.countP_cons, List.countP_nil, h2, h3]; omega
theorem ordQ_acy {q : Quiv} (hq : okQ q = true) : ∀ (f : Nat) (out : List Int), out.length + f = q.n.toNat → (∀ v ∈ out, 0 ≤ v ∧ v < q.n) → (List.range q.n.toNat).countP (fun (u : Nat) => decide ((u : Int) ∉ out)) = f →
  (∃ ps : Int → Nat, (∀ v ∈ out, ps v < out.length) ∧ ∀ i, i < q.fr.length → q.to.getD i default ∈ out → q.fr.getD i default ∈ out ∧ ps (q.fr.getD i default) < ps (q.to.getD i default)) → (ordQ q f out).2 = true → ∃ rk, Acy q rk
 | 0, out, hl, hr, hc, ⟨ps, h1, h2⟩, _ => by
  have h5 := okQ_spec hq
  have hall : ∀ v : Int, 0 ≤ v → v < q.n → v ∈ out := fun v a b => by
   rw [List.countP_eq_zero] at hc
   have := hc v.toNat (by simp; omega)
   rw [show ((v.toNat : Nat) : Int) = v by omega] at this
   simpa using this
  refine ⟨fun v => 5 - ps v, hq, fun v => by omega, fun i hi => ?_⟩
  have ft := okQ_to hq hi
  have ft' : 0 ≤ q.to.getD i default ∧ q.to.getD i default < q.n := ft
  have hto := hall _ ft'.1 ft'.2
  have h3 := h2 i hi hto
  have h4 := h1 _ hto
  show 5 - ps _ < 5 - ps _
  omega
 | f + 1, out, hl, hr, hc, ⟨ps, h1, h2⟩, h => by
  have h5 := okQ_spec hq
  rw [ordQ] at h
  split at h
  ·cases h
  ·rename_i hn
   have hb := nextV_bd q out q.n.toNat 0
   have hfree := nextV_free (q := q) (out := out) (f := q.n.toNat) (u := 0) (by omega)
   generalize nextV q out q.n.toNat 0 = v at h hn hb hfree
   simp only [freeV, ready, Bool.and_eq_true, Bool.not_eq_true', decide_eq_false_iff_not, List.all_eq_true, Bool.or_eq_true, decide_eq_true_eq] at hfree
   obtain ⟨hv, hrd⟩ := hfree
   obtain ⟨k, rfl⟩ : ∃ k : Nat, v = (k : Int) := ⟨v.toNat, by omega⟩
   have hcs := count_snoc hv q.n.toNat
   rw [if_pos (by omega), hc] at hcs
   refine ordQ_acy hq f (out ++ [(k : Int)]) (by simp; omega) (fun x hx => ?_) (by omega) ⟨fun x => if x = (k : Int) then out.length else ps x, fun x hx => ?_, fun i hi hto => ?_⟩ h
   ·rcases List.mem_append.1 hx with hx | hx
    ·exact hr x hx
    ·simp at hx; omega
   ·simp only [List.length_append, List.length_singleton]
    split
    ·omega
    ·rename_i hne
     rcases List.mem_append.1 hx with hx | hx
     ·have := h1 x hx; omega
     ·simp at hx; exact absurd hx hne
   ·rcases List.mem_append.1 hto with ht | ht
    ·have h3 := h2 i hi ht
     refine ⟨List.mem_append.2 (.inl h3.1), ?_⟩
     have e1 : q.fr.getD i default ≠ (k : Int) := fun e => hv (by rw [← e]; exact h3.1)
     have e2 : q.to.getD i default ≠ (k : Int) := fun e => hv (by rw [← e]; exact ht)
     show (if q.fr.getD i default = (k : Int) then out.length else ps _) < (if q.to.getD i default = (k : Int) then out.length else ps _)
     rw [if_neg e1, if_neg e2]
     exact h3.2
    ·simp only [List.mem_singleton] at ht
     have h3 : q.fr.getD i default ∈ out := (hrd i (by simpa using hi)).resolve_left (fun e => e ht)
     refine ⟨List.mem_append.2 (.inl h3), ?_⟩
     have e1 : q.fr.getD i default ≠ (k : Int) := fun e => hv (by rw [← e]; exact h3)
     show (if q.fr.getD i default = (k : Int) then out.length else ps _) < (if q.to.getD i default = (k : Int) then out.length else ps _)
     rw [if_neg e1, if_pos ht]
     exact h1 _ h3
theorem acy_of {q : Quiv} (h : (orderQ q).2 = true) : ∃ rk, Acy q rk := by
 unfold orderQ at h
 split at h
 ·rename_i hq
  have h5 := okQ_spec hq
  exact ordQ_acy hq q.n.toNat [] (by simp) (by simp) (by simp) ⟨fun _ => 0, by simp, by simp⟩ h
 ·cases h
def lfQ (q : Quiv) : Nat → Int → List Pth
 | 0, v => [⟨v, []⟩]
 | f + 1, v => ⟨v, []⟩ :: (List.range q.fr.length).flatMap fun i => if q.fr.getD i default = v then (lfQ q f (q.to.getD i default)).map fun y => ⟨v, (i : Int) :: y.a⟩ else []
def endQ (q : Quiv) (x : Pth) : Int := if x.a.length = 0 then x.s else q.to.getD (x.a.getD (x.a.length - 1) default).toNat default
def pfQ (q : Quiv) : Nat → Pth → List Pth
 | 0, x => [x]
 | f + 1, x => x :: (List.range q.fr.length).flatMap fun i => if q.fr.getD i default = endQ q x then pfQ q f ⟨x.s, x.a ++ [(i : Int)]⟩ else []
theorem endQ_snoc (q : Quiv) (s : Int) (a : List Int) (i : Nat) : endQ q ⟨s, a ++ [(i : Int)]⟩ = q.to.getD i default := by
 unfold endQ
 rw [if_neg (by simp)]
 congr 1
 simp
theorem pfQ_lfQ (q : Quiv) : ∀ (f : Nat) (x : Pth), pfQ q f x = (lfQ q f (endQ q x)).map fun y => ⟨x.s, x.a ++ y.a⟩
 | 0, x => by simp [pfQ, lfQ]
 | f + 1, x => by
  simp only [pfQ, lfQ, List.map_cons, List.append_nil, List.map_flatMap]
  congr 1
  refine congrArg (fun g => List.flatMap g (List.range q.fr.length)) (funext fun i => ?_)
  split
  ·rw [pfQ_lfQ q f ⟨x.s, x.a ++ [(i : Int)]⟩, endQ_snoc, List.map_map]
   apply List.map_congr_left
   intro y _
   simp
  ·rfl
theorem lfQ_s (q : Quiv) : ∀ (f : Nat) (v : Int), ∀ y ∈ lfQ q f v, y.s = v
 | 0, v, y, hy => by simp [lfQ] at hy; rw [hy]
 | f + 1, v, y, hy => by
  rcases List.mem_cons.1 hy with rfl | hy
  ·rfl
  ·obtain ⟨i, _, hy⟩ := List.mem_flatMap.1 hy
   split at hy
   ·obtain ⟨z, _, rfl⟩ := List.mem_map.1 hy; rfl
   ·cases hy
theorem pfQ_start (q : Quiv) (f : Nat) (v : Int) : pfQ q f ⟨v, []⟩ = lfQ q f v := by
 rw [pfQ_lfQ]
 have e : endQ q ⟨v, []⟩ = v := by simp [endQ]
 rw [e]
 conv => rhs; rw [← List.map_id (lfQ q f v)]
 apply List.map_congr_left
 intro y hy
 have := lfQ_s q f v y hy
 cases y; simp_all
theorem lfQ_len (q : Quiv) (h : q.fr.length ≤ 6) : ∀ (f : Nat) (v : Int), (lfQ q f v).length ≤ 7 ^ f
 | 0, v => by simp [lfQ]
 | f + 1, v => by
  have hs : ∀ l : List Nat, l.length ≤ 6 → (l.flatMap fun i => if q.fr.getD i default = v then (lfQ q f (q.to.getD i default)).map fun y => (⟨v, (i : Int) :: y.a⟩ : Pth) else []).length ≤ l.length * 7 ^ f := by
   intro l
   induction l with
   | nil => intro _; simp
   | cons a l ih =>
    intro hl
    have h1 := ih (by simp at hl; omega)
    rw [List.flatMap_cons, List.length_append, List.length_cons, Nat.add_mul, Nat.one_mul]
    have : (if q.fr.getD a default = v then (lfQ q f (q.to.getD a default)).map fun y => (⟨v, (a : Int) :: y.a⟩ : Pth) else []).length ≤ 7 ^ f := by
     split
     ·rw [List.length_map]; exact lfQ_len q h f _
     ·simp
    omega
  have h1 := hs (List.range q.fr.length) (by simpa using h)
  rw [List.length_range] at h1
  simp only [lfQ, List.length_cons, Nat.pow_succ]
  have h2 : q.fr.length * 7 ^ f ≤ 6 * 7 ^ f := Nat.mul_le_mul_right _ h
  have h3 : 0 < 7 ^ f := Nat.pow_pos (by omega)
  omega
def chain (q : Quiv) : Int → List Int → Prop
 | _, [] => True
 | v, i :: l => 0 ≤ i ∧ i < q.fr.length ∧ q.fr.getD i.toNat default = v ∧ chain q (q.to.getD i.toNat default) l
theorem lfQ_chain (q : Quiv) : ∀ (f : Nat) (v : Int), ∀ y ∈ lfQ q f v, chain q v y.a ∧ y.a.length ≤ f
 | 0, v, y, hy => by simp [lfQ] at hy; rw [hy]; exact ⟨trivial, by simp⟩
 | f + 1, v, y, hy => by
  rcases List.mem_cons.1 hy with rfl | hy
  ·exact ⟨trivial, by simp⟩
  ·obtain ⟨i, hi, hy⟩ := List.mem_flatMap.1 hy
   split at hy
   ·rename_i he
    obtain ⟨z, hz, rfl⟩ := List.mem_map.1 hy
    have h1 := lfQ_chain q f _ z hz
    have hi' : i < q.fr.length := by simpa using hi
    refine ⟨⟨by omega, by omega, ?_, ?_⟩, by simp; omega⟩
    ·simpa using he
    ·simpa using h1.1
   ·cases hy
section
variable {P : Program} {w0 : World} {MP : Fr} {st : St} {d : Option Tmp} {ty : TypeId} {pos : String} {af : Array Edge} {g : Option (Nat × Bool)} {x y : Operand}
theorem A.idxQ {t e bys : Nat} {zz : Value} [hu : HasU P t (.slice e)] [hi : HasI P e 1 bys zz] {o n m r c i j : Nat} {l oo : Bool} {f : Nat → Nat → Int} (hx : evA st x = .sl o n 0 m) (hy : evA st y = .i ((i : Int) * (c : Int) + (j : Int))) (hh : st.hp o = .live l 1 (V.E oo (tab r c f))) (h1 : i < r) (h2 : j < c) (hn : n = r * c) (hm : m = r * c) :
  ASil true P w0 MP st ⟨d, .indexAddr t x y, ty, pos, af, g⟩ (.pt o n (i * c + j) 0) := by
 have h := A.idxE (P := P) (w0 := w0) (MP := MP) (d := d) (ty := ty) (pos := pos) (af := af) (g := g) (t := t) (k := i * c + j) hx hy hh (by rw [tab_len, hn]) (by push_cast; rfl) (by rw [hm]; exact tab_lt h1 h2)
 rwa [Nat.zero_add] at h
theorem A.ldQ {t : TypeId} [h1 : One P t] {o n r c i j : Nat} {l oo : Bool} {f : Nat → Nat → Int} (hx : evA st x = .pt o n (i * c + j) 0) (hh : st.hp o = .live l 1 (V.E oo (tab r c f))) (h1 : i < r) (h2 : j < c) (hn : n = r * c) : ASil false P w0 MP st ⟨d, .load t x, ty, pos, af, g⟩ (.i (f i j)) :=
 A.ldE hx hh (by rw [tab_len, hn]) (by rw [tab_len]; exact tab_lt h1 h2) (by rw [tab_get f h1 h2]; rfl) rfl
theorem A.idxQD {t e bys : Nat} {zz : Value} [hu : HasU P t (.slice e)] [hi : HasI P e 1 bys zz] {r c i j : Nat} {o oo : Bool} {f : Nat → Nat → Int} (hx : evA st x = .dt o 1 (V.E oo (tab r c f))) (hy : evA st y = .i ((i : Int) * (c : Int) + (j : Int))) (h1 : i < r) (h2 : j < c) :
  ASil true P w0 MP st ⟨d, .indexAddr t x y, ty, pos, af, g⟩ (.ip [.i (f i j)]) := by
 have h := A.idxF (P := P) (w0 := w0) (MP := MP) (d := d) (ty := ty) (pos := pos) (af := af) (g := g) (t := t) (e := e) (k := i * c + j) hx hy (by push_cast; rfl) (by rw [tab_len]; exact tab_lt h1 h2)
 rwa [tab_get f h1 h2] at h
theorem A.idxRD {t e bys : Nat} {zz : Value} [hu : HasU P t (.slice e)] [hi : HasI P e 1 bys zz] {c j : Nat} {o oo : Bool} {f : Nat → Int} (hx : evA st x = .dt o 1 (V.E oo (rowL c f))) (hy : evA st y = .i (j : Int)) (h2 : j < c) :
  ASil true P w0 MP st ⟨d, .indexAddr t x y, ty, pos, af, g⟩ (.ip [.i (f j)]) := by
 have h := A.idxF (P := P) (w0 := w0) (MP := MP) (d := d) (ty := ty) (pos := pos) (af := af) (g := g) (t := t) (e := e) (k := j) hx hy rfl (by rw [rowL_len]; exact h2)
 rwa [rowL_get f h2] at h
end
section
variable {P : Program} {n : Nat} {w0 : World} {MP : Fr} {Q : Exit → St → Prop} {E : Nat → AV} {hp : Nat → Ob} {nx : Nat} {lb : Bool} {ops : Array Oper} {os : List Oper} {d : Option Tmp} {ty : TypeId} {pos : String} {af : Array Edge} {g : Option (Nat × Bool)} {x y : Operand}
theorem F.stQ {t bys o nn r c i j : Nat} {zz : Value} {l oo : Bool} {f : Nat → Nat → Int} {v : Int} [hi : HasI P t 1 bys zz] (hx : evA ⟨E, hp, nx⟩ x = .pt o nn (i * c + j) 0) (hy : evA ⟨E, hp, nx⟩ y = .i v) (hh : hp o = .live l 1 (V.E oo (tab r c f))) (h1 : i < r) (h2 : j < c) (hn : nn = r * c)
  (hw : awant n ops ⟨d, .store t x y, ty, pos, af, g⟩ E true = true) (hd : fits n d = true) (hlb : lb = false)
  (h : ARg P n w0 MP lb ops os Q ⟨putE E d .no, updA hp o (.live l 1 (V.E oo (tab r c (updF f i j v)))), nx⟩) : ARg P n w0 MP lb ops (⟨d, .store t x y, ty, pos, af, g⟩ :: os) Q ⟨E, hp, nx⟩ :=
 F.stI hx hy hh (by rw [tab_len, hn]) (by rw [tab_len]; exact tab_lt h1 h2) hw hd hlb (by rw [tab_set f v h1 h2]; exact h)
end
def dotK (f g : Nat → Nat → Int) (i c : Nat) : Nat → Int
 | 0 => 0
 | k + 1 => dotK f g i c k + f i k * g k c
theorem dotK_bd {f g : Nat → Nat → Int} {i c n : Nat} (hf : ∀ k, k < n → 0 ≤ f i k ∧ f i k ≤ 4) (hg : ∀ k, k < n → 0 ≤ g k c ∧ g k c ≤ 4) : ∀ k, k ≤ n → 0 ≤ dotK f g i c k ∧ dotK f g i c k ≤ 16 * k
 | 0, _ => by simp [dotK]
 | k + 1, h => by
  have h1 := dotK_bd hf hg k (by omega)
  have h2 := hf k (by omega)
  have h3 := hg k (by omega)
  have h4 : f i k * g k c ≤ 4 * 4 := Int.mul_le_mul h2.2 h3.2 h3.1 (by omega)
  have h5 := Int.mul_nonneg h2.1 h3.1
  simp only [dotK]; push_cast; omega
end Go.Proofs.Ytoilkinagffhiaa.V
