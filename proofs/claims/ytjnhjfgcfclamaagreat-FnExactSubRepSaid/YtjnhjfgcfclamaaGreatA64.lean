/- Kernels and meets of spaces, all of a space, the socle, plain. No program is walked. -/
import Derived.Test.YtjnhjfgcfclamaaGreatA51
namespace Go.Proofs.YtjnhjfgcfclamaaGreat.V
open Go.RowKit G D
set_option linter.unusedVariables false
set_option linter.unusedSimpArgs false
set_option maxHeartbeats 1000000
set_option maxRecDepth 4000

theorem fcF_bd {p : Int} {n : Nat} {l : List (List Int)} (h : VecB p n l) : BdF p n l.length (fcF l) := fun i hi j hj => (h (l.getD j default) (gm hj)).2 i hi
theorem kerV_bd {p : Int} {c : Nat} {g : Nat → Nat → Int} {piv : List Nat} {k : Nat} (hp : 2 ≤ p) : ∀ n, ∀ j, j < c → 0 ≤ (kerV p c g piv k n).getD j default ∧ (kerV p c g piv k n).getD j default ≤ p - 1
  | 0, j, hj => by
    have := unitL_get (k := k) hj
    show 0 ≤ (unitL c k).getD j default ∧ _
    rw [kerV, this]
    split <;> omega
  | n + 1, j, hj => by
    rw [kerV]
    by_cases e : piv.getD n 0 = j
    · subst e
      rw [set_get (by rw [kerV_len]; exact hj)]
      exact mod_bd (by omega)
    · have e2 : ((kerV p c g piv k n).set (piv.getD n 0) (-(g n k) % p)).getD j default = (kerV p c g piv k n).getD j default := set_ne e _
      rw [e2]
      exact kerV_bd hp n j hj
theorem kerL_vec {p : Int} {r c : Nat} {f : Nat → Nat → Int} (hp : 2 ≤ p) : VecB p c (kerL p r c f) := fun x hx => by
  simp only [kerL, List.mem_map] at hx
  obtain ⟨k, _, rfl⟩ := hx
  exact ⟨kerV_len .., fun j hj => kerV_bd hp _ j hj⟩
theorem kerL_le (p : Int) (r c : Nat) (f : Nat → Nat → Int) : (kerL p r c f).length ≤ c := by
  rw [kerL, List.length_map]; exact freeL_le ..
/-- a sum of the first m vectors of a list, each k times -/
def cmbV (p : Int) (n : Nat) (l : List (List Int)) (k : List Int) : Nat → List Int
  | 0 => List.replicate n 0
  | m + 1 => addK p (k.getD m default) 0 (l.getD m default) (cmbV p n l k m) n
theorem cmbV_len (p : Int) (n : Nat) (l : List (List Int)) (k : List Int) : ∀ m, (cmbV p n l k m).length = n
  | 0 => by simp [cmbV]
  | m + 1 => by rw [cmbV, addK_len, cmbV_len p n l k m]
theorem cmbV_bd {p : Int} {n : Nat} {l : List (List Int)} {k : List Int} (hp : 2 ≤ p) : ∀ m, ∀ j, j < n → 0 ≤ (cmbV p n l k m).getD j default ∧ (cmbV p n l k m).getD j default ≤ p - 1
  | 0, j, hj => by
    have : (cmbV p n l k 0).getD j default = 0 := by simp [cmbV, hj]
    rw [this]; omega
  | m + 1, j, hj => by
    have hl := cmbV_len p n l k m
    have e : (cmbV p n l k (m + 1)).getD j default = ((cmbV p n l k m).getD j default + k.getD m default * (l.getD m default).getD j default) % p := by
      rw [cmbV]
      simp only [addK, List.getD_eq_getElem?_getD, List.getElem?_map, List.getElem?_range (show j < (cmbV p n l k m).length by omega), Option.map_some, Option.getD_some]
      rw [if_pos (by omega)]
      rfl
    rw [e]
    exact mod_bd (by omega)
/-- what combinations of both bases that are 0 tell -/
def metK (p : Int) (a b : Spc) : List (List Int) := kerL p a.n.toNat (a.b ++ b.b).length (fcF (a.b ++ b.b))
def metL (p : Int) (a b : Spc) : List (List Int) := (metK p a b).map fun k => cmbV p a.n.toNat a.b k a.b.length
def metS (p : Int) (a b : Spc) : Spc := ⟨a.n, spanL p a.n.toNat (metL p a b)⟩
theorem metL_vec {p : Int} {a b : Spc} (hp : 2 ≤ p) : VecB p a.n.toNat (metL p a b) := fun x hx => by
  simp only [metL, List.mem_map] at hx
  obtain ⟨k, _, rfl⟩ := hx
  exact ⟨cmbV_len .., fun j hj => cmbV_bd hp _ j hj⟩
theorem metL_len (p : Int) (a b : Spc) : (metL p a b).length = (metK p a b).length := by simp [metL]
theorem metK_le (p : Int) (a b : Spc) : (metK p a b).length ≤ a.b.length + b.b.length := by
  have := kerL_le p a.n.toNat (a.b ++ b.b).length (fcF (a.b ++ b.b))
  rw [List.length_append] at this
  unfold metK
  rw [List.length_append]
  exact this
theorem metS_ok {p : Int} {a b : Spc} (ha : isSpc p a = true) : isSpc p (metS p a b) = true := by
  obtain ⟨h1, h2, h3, h4⟩ := isSpc_spec ha
  have hp := isF_pos h1
  have := isSpc_span h1 (show a.n.toNat ≤ 8 by omega) (metL_vec (a := a) (b := b) hp.1).bd
  rw [Int.toNat_of_nonneg h2.1] at this
  exact this
/-- the kernel of a matrix as a space -/
def kerS (p : Int) (m : Mat) : Spc := ⟨m.c, spanL p m.c.toNat (kerL p m.r.toNat m.c.toNat (ent m))⟩
theorem kerS_ok {p : Int} {m : Mat} (h : isMat p m = true) : isSpc p (kerS p m) = true := by
  obtain ⟨h0, h1, h2, h3, h4⟩ := isMat_spec h
  have hp := isF_pos h0
  have := isSpc_span h0 (show m.c.toNat ≤ 8 by omega) (kerL_vec (r := m.r.toNat) (c := m.c.toNat) (f := ent m) hp.1).bd
  rw [Int.toNat_of_nonneg h2.1] at this
  exact this
/-! ### all of a space -/
def idF : Nat → Nat → Int := fun i j => if i = j then 1 else 0
theorem idF_bd {p : Int} (hp : 2 ≤ p) (n : Nat) : BdF p n n idF := fun i _ j _ => by
  unfold idF; split <;> omega
theorem id_ech (n : Nat) : Ech n n idF (List.range n) := by
  have hg : ∀ i, i < n → (List.range n).getD i 0 = i := fun i hi => by simp [hi]
  refine ⟨by simp, fun i hi => ?_, fun i j hij hj => ?_, fun i hi j hj => ?_, fun i hi => ?_, fun i hi j hj => ?_⟩
  · simp at hi; rw [hg i hi]; exact hi
  · simp at hj; rw [hg i (by omega), hg j hj]; exact hij
  · simp at hi hj; rw [hg j hj]; rfl
  · simp at hi; intro h; omega
  · simp at hi
    rw [hg i hi] at hj
    unfold idF
    rw [if_neg (by omega)]
theorem span_id {p : Int} {n : Nat} (hF : isF p = true) : spanB p n n idF = rowsL n n idF := by
  have hp := isF_pos hF
  obtain ⟨h1, h2⟩ := redK_ech hF (idF_bd hp.1 n) n (Nat.le_refl _)
  obtain ⟨e1, e2⟩ := Ech.uniq hp.1 h1 (id_ech n) (redK_bd (by omega) (idF_bd hp.1 n) n).1 (idF_bd hp.1 n) h2.symm
  unfold spanB
  have hl : (redK p n idF n).2.length = n := by rw [e1]; simp
  rw [hl] at e2 ⊢
  exact rowsL_ext e2
def fulS (d : Int) : Spc := ⟨d, rowsL d.toNat d.toNat idF⟩
theorem fulS_ok {p d : Int} (hF : isF p = true) (hd : 0 ≤ d ∧ d ≤ 8) : isSpc p (fulS d) = true := by
  have hp := isF_pos hF
  have := isSpc_span hF (show d.toNat ≤ 8 by omega) (idF_bd hp.1 d.toNat)
  rw [Int.toNat_of_nonneg hd.1, span_id hF] at this
  exact this
/-! ### the socle -/
def socK (r : Rep) : Nat → List Spc
  | 0 => r.d.map fulS
  | k + 1 => (socK r k).set (r.q.fr.getD k default).toNat (metS r.p ((socK r k).getD (r.q.fr.getD k default).toNat default) (kerS r.p (r.m.getD k default)))
theorem socK_len (r : Rep) : ∀ k, (socK r k).length = r.d.length
  | 0 => by simp [socK]
  | k + 1 => by rw [socK, List.length_set, socK_len r k]
theorem socK_ok {r : Rep} (h : isRep r = true) : ∀ k, k ≤ r.q.fr.length → ∀ v, v < r.d.length → ((socK r k).getD v default).n = r.d.getD v default ∧ isSpc r.p ((socK r k).getD v default) = true
  | 0, _, v, hv => by
    obtain ⟨h1, h2, h3, h4⟩ := isRep_spec h
    obtain ⟨_, _, c3, _⟩ := areDims_spec h2
    have hd : 0 ≤ r.d.getD v default ∧ r.d.getD v default ≤ 4 := allIn_spec c3 hv
    have e : (socK r 0).getD v default = fulS (r.d.getD v default) := by simp [socK, hv]
    rw [e]
    exact ⟨rfl, fulS_ok h1 (by omega)⟩
  | k + 1, hk, v, hv => by
    obtain ⟨h1, h2, h3, h4⟩ := isRep_spec h
    obtain ⟨c1, c2, c3, _⟩ := areDims_spec h2
    have ih := socK_ok h k (by omega)
    rw [socK]
    by_cases e : (r.q.fr.getD k default).toNat = v
    · subst e
      obtain ⟨i1, i2⟩ := ih _ hv
      rw [set_get (by rw [socK_len]; exact hv)]
      exact ⟨i1, metS_ok i2⟩
    · rw [set_ne e _]; exact ih v hv
def socL (r : Rep) : List Spc := socK r r.q.fr.length
end Go.Proofs.YtjnhjfgcfclamaaGreat.V
