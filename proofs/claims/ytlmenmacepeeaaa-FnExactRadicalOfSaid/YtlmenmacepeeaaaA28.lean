/- The matrix of the equations of morphisms: what it is, and that the reference's code makes it. -/
import Derived.Test.YtlmenmacepeeaaaA27
import Derived.Test.YtlmenmacepeeaaaA17
namespace Go.Proofs.Ytlmenmacepeeaaa.V
open Go.RowKit G D
set_option linter.unusedVariables false
set_option linter.unusedSimpArgs false
set_option maxHeartbeats 400000
set_option maxRecDepth 4000
attribute [local irreducible] AW ARg ARA ARet MRet ASil AC AM

abbrev vF (a : Rep) (i : Nat) : Nat := (a.q.fr.getD i default).toNat
abbrev vT (a : Rep) (i : Nat) : Nat := (a.q.to.getD i default).toNat
abbrev dim (a : Rep) (v : Nat) : Nat := (a.d.getD v default).toNat
def updAt (p : Int) (L : List Int) (t : Nat) (y : Int) : List Int := L.set t ((L.getD t default + y) % p)
def rX (a b : Rep) (i r k : Nat) : Nat → List Int
  | 0 => List.replicate (szT a b a.d.length) 0
  | j + 1 => updAt a.p (rX a b i r k j) (szT a b (vF a i) + j * dim a (vF a i) + k) ((b.m.getD i default).m.getD (r * dim b (vF a i) + j) default)
def rY (a b : Rep) (i r k : Nat) : Nat → List Int
  | 0 => rX a b i r k (dim b (vF a i))
  | j + 1 => updAt a.p (rY a b i r k j) (szT a b (vT a i) + r * dim a (vT a i) + j) (-((a.m.getD i default).m.getD (j * dim a (vF a i) + k) default))
def eqRow (a b : Rep) (i r k : Nat) : List Int := rY a b i r k (dim a (vT a i))
def eqK (a b : Rep) (i r k : Nat) : List Int := (List.range k).flatMap (eqRow a b i r)
def eqR (a b : Rep) (i r : Nat) : List Int := (List.range r).flatMap fun r => eqK a b i r (dim a (vF a i))
def eqA (a b : Rep) (i : Nat) : List Int := (List.range i).flatMap fun i => eqR a b i (dim b (vT a i))
theorem fm_succ (f : Nat → List Int) (k : Nat) : (List.range (k + 1)).flatMap f = (List.range k).flatMap f ++ f k := by
  simp [List.range_succ, List.flatMap_append]
theorem eqK_succ (a b : Rep) (i r k : Nat) : eqK a b i r (k + 1) = eqK a b i r k ++ eqRow a b i r k := fm_succ _ k
theorem eqR_succ (a b : Rep) (i r : Nat) : eqR a b i (r + 1) = eqR a b i r ++ eqK a b i r (dim a (vF a i)) := fm_succ _ r
theorem eqA_succ (a b : Rep) (i : Nat) : eqA a b (i + 1) = eqA a b i ++ eqR a b i (dim b (vT a i)) := fm_succ _ i
/-- a row of n numbers below p -/
def RowOk (p : Int) (n : Nat) (L : List Int) : Prop := L.length = n ∧ ∀ t, t < n → 0 ≤ L.getD t default ∧ L.getD t default ≤ p - 1
theorem RowOk.zero {p : Int} (hp : 0 < p) (n : Nat) : RowOk p n (List.replicate n 0) := by
  refine ⟨List.length_replicate, fun t ht => ?_⟩
  have : (List.replicate n (0 : Int)).getD t default = 0 := by simp [ht]
  omega
theorem RowOk.upd {p : Int} {n : Nat} {L : List Int} (hp : 0 < p) (h : RowOk p n L) (t : Nat) (y : Int) : RowOk p n (updAt p L t y) := by
  refine ⟨by rw [updAt, List.length_set, h.1], fun u hu => ?_⟩
  by_cases e : u = t
  · subst e
    have : (updAt p L u y).getD u default = (L.getD u default + y) % p := by simp [updAt, h.1, hu]
    rw [this]; exact mod_bd hp
  · have : (updAt p L t y).getD u default = L.getD u default := by
      simp only [updAt, List.getD_eq_getElem?_getD]
      rw [List.getElem?_set_ne (Ne.symm e)]
    rw [this]; exact h.2 u hu
theorem rX_ok {a b : Rep} (hp : 0 < a.p) (i r k : Nat) : ∀ j, RowOk a.p (szT a b a.d.length) (rX a b i r k j)
  | 0 => .zero hp _
  | j + 1 => (rX_ok hp i r k j).upd hp _ _
theorem rY_ok {a b : Rep} (hp : 0 < a.p) (i r k : Nat) : ∀ j, RowOk a.p (szT a b a.d.length) (rY a b i r k j)
  | 0 => rX_ok hp i r k _
  | j + 1 => (rY_ok hp i r k j).upd hp _ _
theorem eqRow_ok {a b : Rep} (hp : 0 < a.p) (i r k : Nat) : RowOk a.p (szT a b a.d.length) (eqRow a b i r k) := rY_ok hp i r k _
theorem eqK_len {a b : Rep} (hp : 0 < a.p) (i r : Nat) : ∀ k, (eqK a b i r k).length = k * szT a b a.d.length
  | 0 => by simp [eqK]
  | k + 1 => by rw [eqK_succ, List.length_append, eqK_len hp i r k, (eqRow_ok hp i r k).1, Nat.add_mul, Nat.one_mul]
theorem eqR_len {a b : Rep} (hp : 0 < a.p) (i : Nat) : ∀ r, (eqR a b i r).length = r * dim a (vF a i) * szT a b a.d.length
  | 0 => by simp [eqR]
  | r + 1 => by rw [eqR_succ, List.length_append, eqR_len hp i r, eqK_len hp, Nat.add_mul, Nat.one_mul, Nat.add_mul]
theorem eqA_len {a b : Rep} (hp : 0 < a.p) : ∀ i, (eqA a b i).length = szA a b i * szT a b a.d.length
  | 0 => by simp [eqA, szA]
  | i + 1 => by rw [eqA_succ, List.length_append, eqA_len hp i, eqR_len hp, ← Nat.add_mul]; rfl
/-- what is known of an arrow of a pair that fits -/
structure EqF (a b : Rep) (i : Nat) : Prop where
  fr : a.q.fr.getD i default = (vF a i : Int)
  to : a.q.to.getD i default = (vT a i : Int)
  v : vF a i < a.d.length
  w : vT a i < a.d.length
  av : a.d.getD (vF a i) default = (dim a (vF a i) : Int)
  aw : a.d.getD (vT a i) default = (dim a (vT a i) : Int)
  bv : b.d.getD (vF a i) default = (dim b (vF a i) : Int)
  bw : b.d.getD (vT a i) default = (dim b (vT a i) : Int)
  av4 : dim a (vF a i) ≤ 4
  aw4 : dim a (vT a i) ≤ 4
  bv4 : dim b (vF a i) ≤ 4
  bw4 : dim b (vT a i) ≤ 4
  mb : isMat a.p (b.m.getD i default) = true
  ma : isMat a.p (a.m.getD i default) = true
  lb : (b.m.getD i default).m.length = dim b (vT a i) * dim b (vF a i)
  la : (a.m.getD i default).m.length = dim a (vT a i) * dim a (vF a i)
  br : (b.m.getD i default).r = (dim b (vT a i) : Int)
  bc : (b.m.getD i default).c = (dim b (vF a i) : Int)
  ar : (a.m.getD i default).r = (dim a (vT a i) : Int)
  ac : (a.m.getD i default).c = (dim a (vF a i) : Int)
theorem EqF.of {a b : Rep} (h : fitR a b = true) {i : Nat} (hi : i < a.q.fr.length) : EqF a b i := by
  have hh := Fits.of h
  obtain ⟨h1, h2, h3, h4⟩ := fitR_spec h
  obtain ⟨_, _, m1, a4⟩ := isRep_spec h1
  obtain ⟨_, _, m2, b4⟩ := isRep_spec h2
  have f : 0 ≤ a.q.fr.getD i default ∧ a.q.fr.getD i default < a.q.n := okQ_fr hh.ok hi
  have t : 0 ≤ a.q.to.getD i default ∧ a.q.to.getD i default < a.q.n := okQ_to hh.ok hi
  have hda := hh.da
  have hdb := hh.db
  have hma := hh.ma
  have hmb := hh.mb
  have va : vF a i < a.d.length := by show (a.q.fr.getD i default).toNat < _; omega
  have ta : vT a i < a.d.length := by show (a.q.to.getD i default).toNat < _; omega
  have vb : vF a i < b.d.length := by omega
  have tb : vT a i < b.d.length := by omega
  have x1 := hh.ba _ va
  have x2 := hh.ba _ ta
  have x3 := hh.bb _ vb
  have x4 := hh.bb _ tb
  have y1 := a4 i (by omega)
  have y2 := b4 i (by omega)
  simp only [fitM, Bool.and_eq_true, decide_eq_true_eq] at y1 y2
  rw [← h3, ← h4] at y2
  obtain ⟨⟨p1, p2⟩, p3⟩ := y1
  obtain ⟨⟨q1, q2⟩, q3⟩ := y2
  obtain ⟨_, _, _, l1, _⟩ := isMat_spec p1
  obtain ⟨_, _, _, l2, _⟩ := isMat_spec q1
  have e1 : a.d.getD (vF a i) default = (dim a (vF a i) : Int) := (Int.toNat_of_nonneg x1.1).symm
  have e2 : a.d.getD (vT a i) default = (dim a (vT a i) : Int) := (Int.toNat_of_nonneg x2.1).symm
  have e3 : b.d.getD (vF a i) default = (dim b (vF a i) : Int) := (Int.toNat_of_nonneg x3.1).symm
  have e4 : b.d.getD (vT a i) default = (dim b (vT a i) : Int) := (Int.toNat_of_nonneg x4.1).symm
  have g1 := p2.trans e1
  have g2 := p3.trans e2
  have g3 := q2.trans e3
  have g4 := q3.trans e4
  rw [g1, g2] at l1
  rw [g3, g4] at l2
  exact ⟨(Int.toNat_of_nonneg f.1).symm, (Int.toNat_of_nonneg t.1).symm, va, ta, e1, e2, e3, e4, by show (_ : Int).toNat ≤ 4; omega, by show (_ : Int).toNat ≤ 4; omega, by show (_ : Int).toNat ≤ 4; omega, by show (_ : Int).toNat ≤ 4; omega,
    q1, p1, by exact_mod_cast l2, by exact_mod_cast l1, g4, g3, g2, g1⟩
theorem in_grid {i j r c : Nat} (hi : i < r) (hj : j < c) : i * c + j < r * c := by
  have := Nat.mul_le_mul_right c (show i + 1 ≤ r from hi)
  rw [Nat.add_mul, Nat.one_mul] at this
  omega
theorem EqF.atX {a b : Rep} {i j k : Nat} (h : EqF a b i) (hj : j < dim b (vF a i)) (hk : k < dim a (vF a i)) : szT a b (vF a i) + j * dim a (vF a i) + k < szT a b a.d.length := by
  have h1 := szT_mono a b (show vF a i + 1 ≤ a.d.length from h.v)
  have h2 : szT a b (vF a i + 1) = szT a b (vF a i) + dim a (vF a i) * dim b (vF a i) := rfl
  have h3 := in_grid hj hk
  rw [Nat.mul_comm (dim a (vF a i))] at h2
  omega
theorem EqF.atY {a b : Rep} {i j r : Nat} (h : EqF a b i) (hr : r < dim b (vT a i)) (hj : j < dim a (vT a i)) : szT a b (vT a i) + r * dim a (vT a i) + j < szT a b a.d.length := by
  have h1 := szT_mono a b (show vT a i + 1 ≤ a.d.length from h.w)
  have h2 : szT a b (vT a i + 1) = szT a b (vT a i) + dim a (vT a i) * dim b (vT a i) := rfl
  have h3 := in_grid hr hj
  rw [Nat.mul_comm (dim a (vT a i))] at h2
  omega
end Go.Proofs.Ytlmenmacepeeaaa.V
