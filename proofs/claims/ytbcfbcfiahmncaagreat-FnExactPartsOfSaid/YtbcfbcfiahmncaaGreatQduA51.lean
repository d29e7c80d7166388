/- Texts that the proof needs: A51. -/
import Derived.Test.YtbcfbcfiahmncaaGreatQduB4
namespace Go.Proofs.YtbcfbcfiahmncaaGreat.V
open Go.RowKit G D
set_option linter.unusedVariables false
set_option linter.unusedSimpArgs false
set_option maxHeartbeats 1000000
set_option maxRecDepth 4000
def vecF (l : List (List Int)) : Nat → Nat → Int := fun i j => (l.getD i default).getD j default
theorem rowL_ext {n : Nat} {f g : Nat → Int} (h : ∀ j, j < n → f j = g j) : rowL n f = rowL n g := List.map_congr_left fun j hj => h j (by simpa using hj)
theorem rowsL_ext {r n : Nat} {f g : Nat → Nat → Int} (h : ∀ i, i < r → ∀ j, j < n → f i j = g i j) : rowsL r n f = rowsL r n g := List.map_congr_left fun i hi => rowL_ext (h i (by simpa using hi))
theorem vecF_rows {r n : Nat} {f : Nat → Nat → Int} {i j : Nat} (hi : i < r) (hj : j < n) : vecF (rowsL r n f) i j = f i j := by
 unfold vecF; rw [rowsL_get n f hi, rowL_get _ hj]
def spanB (p : Int) (r n : Nat) (f : Nat → Nat → Int) : List (List Int) := rowsL (redK p r f n).2.length n (redK p r f n).1
theorem spanB_len (p : Int) (r n : Nat) (f : Nat → Nat → Int) : (spanB p r n f).length = (redK p r f n).2.length := rowsL_len ..
theorem spanB_uniq {p : Int} {r s n : Nat} {f f' : Nat → Nat → Int} (hF : isF p = true) (hb : BdF p r n f) (hb' : BdF p s n f') (hs : SS p r s n f f') : spanB p r n f = spanB p s n f' := by
 obtain ⟨e1, e2⟩ := redK_uniq hF hb hb' hs
 unfold spanB
 rw [← e1]
 exact rowsL_ext e2
def VecB (p : Int) (n : Nat) (l : List (List Int)) : Prop := ∀ x ∈ l, x.length = n ∧ ∀ j, j < n → 0 ≤ x.getD j default ∧ x.getD j default ≤ p - 1
theorem VecB.bd {p : Int} {n : Nat} {l : List (List Int)} (h : VecB p n l) : BdF p l.length n (vecF l) := fun i hi j hj => (h (l.getD i default) (gm hi)).2 j hj
theorem VecB.app {p : Int} {n : Nat} {x y : List (List Int)} (hx : VecB p n x) (hy : VecB p n y) : VecB p n (x ++ y) := fun z hz => by
 rcases List.mem_append.1 hz with h | h
 ·exact hx z h
 ·exact hy z h
theorem VecB.rows {p : Int} {r n : Nat} {f : Nat → Nat → Int} (h : BdF p r n f) : VecB p n (rowsL r n f) := fun x hx => by
 simp only [rowsL, List.mem_map, List.mem_range] at hx
 obtain ⟨i, hi, rfl⟩ := hx
 exact ⟨rowL_len .., fun j hj => by rw [rowL_get _ hj]; exact h i hi j hj⟩
theorem spanB_vec {p : Int} {r n : Nat} {f : Nat → Nat → Int} (hp : 0 < p) (hb : BdF p r n f) : VecB p n (spanB p r n f) := by
 obtain ⟨h1, h2, h3, h4⟩ := redK_bd hp hb n
 exact VecB.rows fun i hi j hj => h1 i (by omega) j hj
theorem spanB_le {p : Int} {r n : Nat} {f : Nat → Nat → Int} (hp : 0 < p) (hb : BdF p r n f) : (spanB p r n f).length ≤ r ∧ (spanB p r n f).length ≤ n := by
 rw [spanB_len]
 obtain ⟨h1, h2, h3, h4⟩ := redK_bd hp hb n
 exact ⟨h2, h3⟩
def spanL (p : Int) (n : Nat) (l : List (List Int)) : List (List Int) := spanB p l.length n (vecF l)
theorem spanL_idem {p : Int} {r n : Nat} {f : Nat → Nat → Int} (hF : isF p = true) (hb : BdF p r n f) : spanL p n (spanB p r n f) = spanB p r n f := by
 have hp := isF_pos hF
 obtain ⟨h1, h2⟩ := redK_ech hF hb n (Nat.le_refl _)
 have hv := spanB_vec (show 0 < p by omega) hb
 have hle := h1.le
 refine spanB_uniq hF hv.bd hb (SS.trans (s := r) (g := (redK p r f n).1) ?_ h2.symm)
 have hl := spanB_len p r n f
 constructor
 ·intro i hi
  rw [hl] at hi
  refine (Sp.row (show i < r by omega)).cg fun j hj => ?_
  rw [spanB, vecF_rows hi hj]; exact .refl _
 ·intro i hi
  by_cases e : i < (redK p r f n).2.length
  ·refine (Sp.row (show i < (spanB p r n f).length by omega)).cg fun j hj => ?_
   rw [spanB, vecF_rows e hj]; exact .refl _
  ·refine Sp.zero.cg fun j hj => ?_
   rw [h1.low i (by omega) hi j hj]; exact .refl _
def pivC (r : Nat) (f : Nat → Nat → Int) (piv : List Nat) : List (List Int) := piv.map fun k => rowL r fun t => f t k
theorem pivC_len (r : Nat) (f : Nat → Nat → Int) (piv : List Nat) : (pivC r f piv).length = piv.length := by simp [pivC]
theorem pivC_get (r : Nat) (f : Nat → Nat → Int) {piv : List Nat} {i : Nat} (hi : i < piv.length) : (pivC r f piv).getD i default = rowL r fun t => f t (piv.getD i 0) := by simp [pivC, hi]
theorem pivC_take (r : Nat) (f : Nat → Nat → Int) {piv : List Nat} {i : Nat} (hi : i < piv.length) : (pivC r f piv).take (i + 1) = (pivC r f piv).take i ++ [rowL r fun t => f t (piv.getD i 0)] := by
 have e : piv.getD i 0 = piv[i] := by simp [hi]
 rw [pivC, List.take_succ_eq_append_getElem (by simpa using hi), e]
 simp
theorem span_cols {p : Int} {r c : Nat} {f : Nat → Nat → Int} (hF : isF p = true) (hb : BdF p r c f) : spanL p r (pivC r f (redK p r f c).2) = spanL p r (rowsL c r fun k i => f i k) := by
 have hp := isF_pos hF
 obtain ⟨h1, h2⟩ := redK_ech hF hb c (Nat.le_refl _)
 obtain ⟨_, _, _, h4⟩ := redK_bd (show 0 < p by omega) hb c
 have hx : ∀ i, i < (redK p r f c).2.length → (redK p r f c).2.getD i 0 < c := fun i hi => h4 _ (by simp [hi])
 have hv1 : VecB p r (pivC r f (redK p r f c).2) := fun x hx' => by
  simp only [pivC, List.mem_map] at hx'
  obtain ⟨k, hk, rfl⟩ := hx'
  exact ⟨rowL_len .., fun j hj => by rw [rowL_get _ hj]; exact hb j hj k (h4 k hk)⟩
 have hv2 : VecB p r (rowsL c r fun k i => f i k) := VecB.rows fun k hk i hi => hb i hi k hk
 refine spanB_uniq hF hv1.bd hv2.bd ⟨fun i hi => ?_, fun k hk => ?_⟩
 ·rw [pivC_len] at hi
  refine (Sp.row (i := (redK p r f c).2.getD i 0) (by rw [rowsL_len]; exact hx i hi)).cg fun t ht => ?_
  rw [vecF_rows (hx i hi) ht]
  unfold vecF
  rw [pivC_get r f hi, rowL_get _ ht]; exact .refl _
 ·rw [rowsL_len] at hk
  refine ⟨fun i => (redK p r f c).1 i k, fun t ht => ?_⟩
  rw [vecF_rows hk ht, pivC_len]
  have := h1.comb (h2.1 t ht) k hk
  refine this.trans ?_
  rw [sumN_eq (g := fun i => (redK p r f c).1 i k * vecF (pivC r f (redK p r f c).2) i t) _ fun i hi => by
   unfold vecF
   rw [pivC_get r f hi, rowL_get _ ht, Int.mul_comm]]
  exact .refl _
def fineB (p n : Int) (l : List (List Int)) : Bool := (l.all fun x => decide ((x.length : Int) = n) && isVec p x) && (isF p && decide (0 ≤ n ∧ n ≤ 8) && decide (l.length ≤ 16))
def isSpc (p : Int) (s : Spc) : Bool := fineB p s.n s.b && decide (spanL p s.n.toNat s.b = s.b)
theorem fineB_spec {p n : Int} {l : List (List Int)} (h : fineB p n l = true) : isF p = true ∧ (0 ≤ n ∧ n ≤ 8) ∧ l.length ≤ 16 ∧ VecB p n.toNat l := by
 simp only [fineB, isVec, Bool.and_eq_true, decide_eq_true_eq, List.all_eq_true] at h
 refine ⟨h.2.1.1, h.2.1.2, h.2.2, fun x hx => ?_⟩
 obtain ⟨h1, h2⟩ := h.1 x hx
 exact ⟨by omega, fun j hj => allIn_spec h2.2 (by omega)⟩
theorem fineB_of {p : Int} {n : Nat} {l : List (List Int)} (hF : isF p = true) (hn : n ≤ 8) (hl : l.length ≤ 16) (hv : VecB p n l) : fineB p (n : Int) l = true := by
 simp only [fineB, isVec, Bool.and_eq_true, decide_eq_true_eq, List.all_eq_true]
 refine ⟨fun x hx => ?_, ⟨hF, by omega⟩, hl⟩
 obtain ⟨h1, h2⟩ := hv x hx
 exact ⟨by omega, ⟨hF, by omega⟩, allIn_all fun j hj => h2 j (by omega)⟩
theorem isSpc_span {p : Int} {r n : Nat} {f : Nat → Nat → Int} (hF : isF p = true) (hn : n ≤ 8) (hb : BdF p r n f) : isSpc p ⟨(n : Nat), spanB p r n f⟩ = true := by
 have hp := isF_pos hF
 have hle := spanB_le (show 0 < p by omega) hb
 simp only [isSpc, Bool.and_eq_true, decide_eq_true_eq]
 exact ⟨fineB_of hF hn (by omega) (spanB_vec (by omega) hb), by rw [Int.toNat_natCast]; exact spanL_idem hF hb⟩
theorem isSpc_spec {p : Int} {s : Spc} (h : isSpc p s = true) : isF p = true ∧ (0 ≤ s.n ∧ s.n ≤ 8) ∧ s.b.length ≤ 16 ∧ VecB p s.n.toNat s.b := by
 simp only [isSpc, Bool.and_eq_true] at h
 exact fineB_spec h.1
def addS (p : Int) (a b : Spc) : Spc := ⟨a.n, spanL p a.n.toNat (a.b ++ b.b)⟩
def imgS (p : Int) (m : Mat) : Spc := ⟨m.r, spanL p m.r.toNat (rowsL m.c.toNat m.r.toNat fun k i => ent m i k)⟩
theorem addS_ok {p : Int} {a b : Spc} (ha : isSpc p a = true) (hb : isSpc p b = true) (hn : b.n = a.n) : isSpc p (addS p a b) = true := by
 obtain ⟨h1, h2, h3, h4⟩ := isSpc_spec ha
 obtain ⟨_, _, g3, g4⟩ := isSpc_spec hb
 rw [hn] at g4
 have := isSpc_span h1 (show a.n.toNat ≤ 8 by omega) (h4.app g4).bd
 rw [Int.toNat_of_nonneg h2.1] at this
 exact this
theorem imgS_ok {p : Int} {m : Mat} (h : isMat p m = true) : isSpc p (imgS p m) = true := by
 obtain ⟨h0, h1, h2, h3, h4⟩ := isMat_spec h
 have hv : VecB p m.r.toNat (rowsL m.c.toNat m.r.toNat fun k i => ent m i k) := VecB.rows fun k hk i hi => ent_bd h i hi k hk
 have := isSpc_span h0 (show m.r.toNat ≤ 8 by omega) hv.bd
 rw [Int.toNat_of_nonneg h1.1] at this
 exact this
theorem set_ne {α : Type} [Inhabited α] {L : List α} {i j : Nat} (h : i ≠ j) (x : α) : (L.set i x).getD j default = L.getD j default := by simp [List.getElem?_set, h]
def radK (r : Rep) : Nat → List Spc
 | 0 => r.d.map fun d => ⟨d, []⟩
 | k + 1 => (radK r k).set (r.q.to.getD k default).toNat (addS r.p ((radK r k).getD (r.q.to.getD k default).toNat default) (imgS r.p (r.m.getD k default)))
theorem radK_len (r : Rep) : ∀ k, (radK r k).length = r.d.length
 | 0 => by simp [radK]
 | k + 1 => by rw [radK, List.length_set, radK_len r k]
def radL (r : Rep) : List Spc := radK r r.q.fr.length
end Go.Proofs.YtbcfbcfiahmncaaGreat.V
