/- Texts that the proof needs: A51, A70, A78. -/
import Derived.Test.YtoilkinagffhiaaGreatQfeB4
namespace Go.Proofs.YtoilkinagffhiaaGreat.V
open Go.RowKit G D
set_option linter.unusedVariables false
set_option linter.unusedSimpArgs false
set_option maxHeartbeats 1000000
set_option maxRecDepth 4000
def vecF (l : List (List Int)) : Nat → Nat → Int := fun i j => (l.getD i default).getD j default
theorem rowL_ext {n : Nat} {f g : Nat → Int} (h : ∀ j, j < n → f j = g j) : rowL n f = rowL n g := List.map_congr_left fun j hj => h j (by simpa using hj)
theorem rowsL_ext {r n : Nat} {f g : Nat → Nat → Int} (h : ∀ i, i < r → ∀ j, j < n → f i j = g i j) : rowsL r n f = rowsL r n g := List.map_congr_left fun i hi => rowL_ext (h i (by simpa using hi))
theorem vecF_rows {r n : Nat} {f : Nat → Nat → Int} {i j : Nat} (hi : i < r) (hj : j < n) : vecF (rowsL r n f) i j = f i j := by
 unfold vecF; rw [rowsL_get n f hi, rowL_get _ hj]
def spanB (p : Int) (r n : Nat) (f : Nat → Nat → Int) : List (List Int) := rowsL (redK p r f n).2.length n (redK p r f n).1
theorem spanB_len (p : Int) (r n : Nat) (f : Nat → Nat → Int) : (spanB p r n f).length = (redK p r f n).2.length := rowsL_len ..
theorem spanB_uniq {p : Int} {r s n : Nat} {f f' : Nat → Nat → Int} (hF : isF p = true) (hb : BdF p r n f) (hb' : BdF p s n f') (hs : SS p r s n f f') : spanB p r n f = spanB p s n f' := by
 obtain ⟨e1, e2⟩ := redK_uniq hF hb hb' hs
 unfold spanB
 rw [← e1]
 exact rowsL_ext e2
def VecB (p : Int) (n : Nat) (l : List (List Int)) : Prop := ∀ x ∈ l, x.length = n ∧ ∀ j, j < n → 0 ≤ x.getD j default ∧ x.getD j default ≤ p - 1
theorem VecB.bd {p : Int} {n : Nat} {l : List (List Int)} (h : VecB p n l) : BdF p l.length n (vecF l) := fun i hi j hj => (h (l.getD i default) (gm hi)).2 j hj
theorem VecB.app {p : Int} {n : Nat} {x y : List (List Int)} (hx : VecB p n x) (hy : VecB p n y) : VecB p n (x ++ y) := fun z hz => by
 rcases List.mem_append.1 hz with h | h
 ·exact hx z h
 ·exact hy z h
theorem VecB.rows {p : Int} {r n : Nat} {f : Nat → Nat → Int} (h : BdF p r n f) : VecB p n (rowsL r n f) := fun x hx => by
 simp only [rowsL, List.mem_map, List.mem_range] at hx
 obtain ⟨i, hi, rfl⟩ := hx
 exact ⟨rowL_len .., fun j hj => by rw [rowL_get _ hj]; exact h i hi j hj⟩
theorem spanB_le {p : Int} {r n : Nat} {f : Nat → Nat → Int} (hp : 0 < p) (hb : BdF p r n f) : (spanB p r n f).length ≤ r ∧ (spanB p r n f).length ≤ n := by
 rw [spanB_len]
 obtain ⟨h1, h2, h3, h4⟩ := redK_bd hp hb n
 exact ⟨h2, h3⟩
def spanL (p : Int) (n : Nat) (l : List (List Int)) : List (List Int) := spanB p l.length n (vecF l)
def pivC (r : Nat) (f : Nat → Nat → Int) (piv : List Nat) : List (List Int) := piv.map fun k => rowL r fun t => f t k
theorem pivC_len (r : Nat) (f : Nat → Nat → Int) (piv : List Nat) : (pivC r f piv).length = piv.length := by simp [pivC]
theorem pivC_get (r : Nat) (f : Nat → Nat → Int) {piv : List Nat} {i : Nat} (hi : i < piv.length) : (pivC r f piv).getD i default = rowL r fun t => f t (piv.getD i 0) := by simp [pivC, hi]
theorem span_cols {p : Int} {r c : Nat} {f : Nat → Nat → Int} (hF : isF p = true) (hb : BdF p r c f) : spanL p r (pivC r f (redK p r f c).2) = spanL p r (rowsL c r fun k i => f i k) := by
 have hp := isF_pos hF
 obtain ⟨h1, h2⟩ := redK_ech hF hb c (Nat.le_refl _)
 obtain ⟨_, _, _, h4⟩ := redK_bd (show 0 < p by omega) hb c
 have hx : ∀ i, i < (redK p r f c).2.length → (redK p r f c).2.getD i 0 < c := fun i hi => h4 _ (by simp [hi])
 have hv1 : VecB p r (pivC r f (redK p r f c).2) := fun x hx' => by
  simp only [pivC, List.mem_map] at hx'
  obtain ⟨k, hk, rfl⟩ := hx'
  exact ⟨rowL_len .., fun j hj => by rw [rowL_get _ hj]; exact hb j hj k (h4 k hk)⟩
 have hv2 : VecB p r (rowsL c r fun k i => f i k) := VecB.rows fun k hk i hi => hb i hi k hk
 refine spanB_uniq hF hv1.bd hv2.bd ⟨fun i hi => ?_, fun k hk => ?_⟩
 ·rw [pivC_len] at hi
  refine (Sp.row (i := (redK p r f c).2.getD i 0) (by rw [rowsL_len]; exact hx i hi)).cg fun t ht => ?_
  rw [vecF_rows (hx i hi) ht]
  unfold vecF
  rw [pivC_get r f hi, rowL_get _ ht]; exact .refl _
 ·rw [rowsL_len] at hk
  refine ⟨fun i => (redK p r f c).1 i k, fun t ht => ?_⟩
  rw [vecF_rows hk ht, pivC_len]
  have := h1.comb (h2.1 t ht) k hk
  refine this.trans ?_
  rw [sumN_eq (g := fun i => (redK p r f c).1 i k * vecF (pivC r f (redK p r f c).2) i t) _ fun i hi => by
   unfold vecF
   rw [pivC_get r f hi, rowL_get _ ht, Int.mul_comm]]
  exact .refl _
theorem set_ne {α : Type} [Inhabited α] {L : List α} {i j : Nat} (h : i ≠ j) (x : α) : (L.set i x).getD j default = L.getD j default := by simp [List.getElem?_set, h]
theorem inc_sub {a b : List Nat} (ha : a.Pairwise (· < ·)) (hb : b.Pairwise (· < ·)) (h : ∀ x ∈ a, x ∈ b) (hl : b.length ≤ a.length) : a = b := by
 have e : a = b.filter (fun x => decide (x ∈ a)) := inc_ext ha (hb.filter _) fun x => by
  simp only [List.mem_filter, decide_eq_true_eq]
  exact ⟨fun hx => ⟨h x hx, hx⟩, fun hx => hx.2⟩
 have s : a.Sublist b := by
  have := List.filter_sublist (l := b) (p := fun x => decide (x ∈ a))
  rwa [← e] at this
 exact s.eq_of_length_le hl
theorem dotK_sum (f g : Nat → Nat → Int) (i c : Nat) : ∀ n, dotK f g i c n = sumN (fun k => f i k * g k c) n
 | 0 => rfl
 | n + 1 => by rw [dotK, sumN, dotK_sum f g i c n]
theorem sumN_swap (h : Nat → Nat → Int) (n : Nat) : ∀ m, sumN (fun i => sumN (fun j => h i j) n) m = sumN (fun j => sumN (fun i => h i j) m) n
 | 0 => by
  rw [sumN_zero (h := fun j => sumN (fun i => h i j) 0) n fun j _ => rfl]; rfl
 | m + 1 => by
  rw [sumN, sumN_swap h n m]
  exact (sumN_add (fun j => sumN (fun i => h i j) m) (fun j => h m j) n).symm
theorem arrow_ok {r : Rep} (h : isRep r = true) {i : Nat} (hi : i < r.m.length) : isMat r.p (r.m.getD i default) = true ∧ (0 ≤ r.q.fr.getD i default ∧ (r.q.fr.getD i default).toNat < r.d.length) ∧ (0 ≤ r.q.to.getD i default ∧ (r.q.to.getD i default).toNat < r.d.length) ∧ (r.m.getD i default).c = r.d.getD (r.q.fr.getD i default).toNat default ∧ (r.m.getD i default).r = r.d.getD (r.q.to.getD i default).toNat default := by
 obtain ⟨h1, h2, h3, h4⟩ := isRep_spec h
 obtain ⟨c1, c2, c3, _⟩ := areDims_spec h2
 have f : 0 ≤ r.q.fr.getD i default ∧ r.q.fr.getD i default < r.q.n := okQ_fr c1 (by omega)
 have t : 0 ≤ r.q.to.getD i default ∧ r.q.to.getD i default < r.q.n := okQ_to c1 (by omega)
 have hm := h4 i hi
 simp only [fitM, Bool.and_eq_true, decide_eq_true_eq] at hm
 exact ⟨hm.1.1, ⟨f.1, by omega⟩, ⟨t.1, by omega⟩, hm.1.2, hm.2⟩
end Go.Proofs.YtoilkinagffhiaaGreat.V
