/- The symmetric form: by arrows, as the program builds it, and by rows, as the reference does. No program is spoken of. -/
import Derived.Test.YtcalkmlaodjpaaaPa
import Derived.Test.YtcalkmlaodjpaaaGj
namespace Go.Proofs.Ytcalkmlaodjpaaa.D
open Go.RowKit G
set_option linter.unusedVariables false

theorem getD_set {α : Type} (l : List α) (i j : Nat) (x d : α) (hi : i < l.length) : (l.set i x).getD j d = if i = j then x else l.getD j d := by
  simp only [List.getD_eq_getElem?_getD, List.getElem?_set]
  by_cases h : i = j
  · subst h; simp [hi]
  · simp [h]
/-- a square matrix of n rows, with numbers in bounds -/
def Sq (m : List (List Int)) (n : Nat) (lo hi : Int) : Prop := m.length = n ∧ ∀ v, v < n → (m.getD v []).length = n ∧ ∀ j, j < n → lo ≤ get2 m v j ∧ get2 m v j ≤ hi
theorem get2_set2 {m : List (List Int)} {i k : Nat} (y : Int) {a b : Nat} (hi : i < m.length) (hk : k < (m.getD i []).length) : get2 (set2 m i k y) a b = if i = a ∧ k = b then y else get2 m a b := by
  unfold get2 set2
  rw [getD_set _ _ _ _ _ hi]
  by_cases h : i = a
  · subst h
    rw [if_pos rfl, getD_set _ _ _ _ _ hk]
    by_cases h2 : k = b
    · simp [h2]
    · simp [h2]
  · simp [h]
theorem row_set2 {m : List (List Int)} {i k : Nat} (y : Int) {a : Nat} (hi : i < m.length) : (set2 m i k y).getD a [] = if i = a then (m.getD i []).set k y else m.getD a [] := by
  unfold set2; exact getD_set _ _ _ _ _ hi
theorem Sq.set2 {m : List (List Int)} {n : Nat} {lo hi y : Int} (h : Sq m n lo hi) {i k : Nat} (hi' : i < n) (hk : k < n) (hy : lo ≤ y ∧ y ≤ hi) : Sq (set2 m i k y) n lo hi := by
  obtain ⟨h1, h2⟩ := h
  refine ⟨by rw [set2_length, h1], fun v hv => ⟨?_, fun j hj => ?_⟩⟩
  · rw [row_set2 _ (by omega)]
    split
    · rename_i e; subst e; rw [List.length_set]; exact (h2 i hv).1
    · exact (h2 v hv).1
  · rw [get2_set2 _ (by omega) (by rw [(h2 i hi').1]; exact hk)]
    split
    · exact hy
    · exact (h2 v hv).2 j hj
theorem Sq.mono {m : List (List Int)} {n : Nat} {lo hi lo' hi' : Int} (h : Sq m n lo hi) (h1 : lo' ≤ lo) (h2 : hi ≤ hi') : Sq m n lo' hi' :=
  ⟨h.1, fun v hv => ⟨(h.2 v hv).1, fun j hj => by have := (h.2 v hv).2 j hj; omega⟩⟩

/-- one less at (i, k) -/
def dec2 (m : List (List Int)) (i k : Nat) : List (List Int) := set2 m i k (get2 m i k - 1)
theorem Sq.dec2 {m : List (List Int)} {n : Nat} {lo hi : Int} (h : Sq m n lo hi) {i k : Nat} (hi' : i < n) (hk : k < n) : Sq (dec2 m i k) n (lo - 1) hi := by
  have h1 := (h.2 i hi').2 k hk
  exact (h.mono (show lo - 1 ≤ lo by omega) (Int.le_refl _)).set2 hi' hk (by omega)
def symRow (n v : Nat) : List Int := (List.replicate n 0).set v 2
def symM (q : Quiv) : Nat → List (List Int)
  | 0 => (List.range q.n.toNat).map fun v => symRow q.n.toNat v
  | k + 1 => dec2 (dec2 (symM q k) (q.fr.getD k 0).toNat (q.to.getD k 0).toNat) (q.to.getD k 0).toNat (q.fr.getD k 0).toNat
theorem symM_sq {q : Quiv} (hq : okQ q = true) : ∀ k, k ≤ q.fr.length → Sq (symM q k) q.n.toNat (-2 * (k : Int)) 2
  | 0, _ => by
    refine ⟨by simp [symM], fun v hv => ?_⟩
    have e : (symM q 0).getD v [] = symRow q.n.toNat v := by simp [symM, hv]
    refine ⟨by rw [e]; simp [symRow], fun j hj => ?_⟩
    unfold get2
    rw [e, symRow, getD_set _ _ _ _ _ (by simpa using hv)]
    split
    · omega
    · simp [hj]
  | k + 1, hk => by
    have h1 := okQ_fr hq (k := k) (by omega)
    have h2 := okQ_to hq (k := k) (by omega)
    have h3 := ((symM_sq hq k (by omega)).dec2 (i := (q.fr.getD k 0).toNat) (k := (q.to.getD k 0).toNat) (by omega) (by omega)).dec2 (i := (q.to.getD k 0).toNat) (k := (q.fr.getD k 0).toNat) (by omega) (by omega)
    exact h3.mono (by omega) (Int.le_refl _)
/-- the rows of the reference -/
def decL (l : List Int) (k : Nat) : List Int := l.set k (l.getD k 0 - 1)
def rowK (q : Quiv) (v : Nat) : Nat → List Int
  | 0 => symRow q.n.toNat v
  | k + 1 =>
    let r1 := if q.fr.getD k 0 = (v : Int) then decL (rowK q v k) (q.to.getD k 0).toNat else rowK q v k
    if q.to.getD k 0 = (v : Int) then decL r1 (q.fr.getD k 0).toNat else r1
theorem row_dec2 {m : List (List Int)} {i k a : Nat} (hi : i < m.length) : (dec2 m i k).getD a [] = if i = a then decL (m.getD a []) k else m.getD a [] := by
  unfold dec2
  rw [row_set2 _ hi]
  by_cases h : i = a
  · subst h; simp [decL, get2]
  · simp [h]
theorem symM_row {q : Quiv} (hq : okQ q = true) (v : Nat) (hv : v < q.n.toNat) : ∀ k, k ≤ q.fr.length → (symM q k).getD v [] = rowK q v k
  | 0, _ => by simp [symM, hv, rowK]
  | k + 1, hk => by
    have h1 := okQ_fr hq (k := k) (by omega)
    have h2 := okQ_to hq (k := k) (by omega)
    have h3 := symM_sq hq k (by omega)
    have ih := symM_row hq v hv k (by omega)
    simp only [symM, rowK]
    have l1 : (dec2 (symM q k) (q.fr.getD k 0).toNat (q.to.getD k 0).toNat).length = q.n.toNat := (h3.dec2 (by omega) (by omega)).1
    rw [row_dec2 (by omega), row_dec2 (by rw [h3.1]; omega), ih]
    have e1 : ((q.fr.getD k 0).toNat = v) = (q.fr.getD k 0 = (v : Int)) := by apply propext; omega
    have e2 : ((q.to.getD k 0).toNat = v) = (q.to.getD k 0 = (v : Int)) := by apply propext; omega
    simp only [e1, e2]
theorem symM_rows {q : Quiv} (hq : okQ q = true) {k : Nat} (hk : k ≤ q.fr.length) : symM q k = (List.range q.n.toNat).map fun v => rowK q v k := by
  apply List.ext_getElem
  · simp [(symM_sq hq k hk).1]
  · intro i h1 h2
    have hi : i < q.n.toNat := by simpa using h2
    have := symM_row hq i hi k hk
    simpa [h1] using this
/-- the symmetric form; none of an invalid quiver -/
def symF (q : Quiv) : List (List Int) := bif okQ q then symM q q.fr.length else []
theorem rowK_sq {q : Quiv} (hq : okQ q = true) (v : Nat) (hv : v < q.n.toNat) (k : Nat) (hk : k ≤ q.fr.length) : (rowK q v k).length = q.n.toNat ∧ ∀ j, j < q.n.toNat → -12 ≤ (rowK q v k).getD j 0 ∧ (rowK q v k).getD j 0 ≤ 2 := by
  have h := (symM_sq hq k hk).2 v hv
  have hl := (okQ_spec hq).2.2.2.1
  unfold get2 at h
  rw [symM_row hq v hv k hk] at h
  exact ⟨h.1, fun j hj => by have := h.2 j hj; omega⟩
end Go.Proofs.Ytcalkmlaodjpaaa.D
