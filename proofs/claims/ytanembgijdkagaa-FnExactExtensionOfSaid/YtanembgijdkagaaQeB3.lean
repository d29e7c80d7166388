/- Joined: Contracts: the places of the cells of matrices in one list, lists of all cells, cut into matrices again. The matrix of the equations of morphisms: what it is, and that the reference's code makes it. Contract: the matrix of the equations of morphisms. The law behind the coboundary: the equations' matrix times the cells of a morphism, cut by the arrows, is the coboundary. No program is walked. Contracts: the coboundary of a family of matrices. Lists of cells cut into matrices, and put together again. No program is walked.. -/
import Derived.Test.YtanembgijdkagaaQeA13
import Derived.Test.YtanembgijdkagaaQeUd
import Derived.Test.YtanembgijdkagaaQeA17
import Derived.Test.YtanembgijdkagaaQeB2
import Derived.Test.YtanembgijdkagaaQeA25
import Derived.Test.YtanembgijdkagaaQeUm
namespace Go.Proofs.Ytanembgijdkagaa.V
open Go.RowKit G D
set_option linter.unusedVariables false
set_option linter.unusedSimpArgs false
set_option maxHeartbeats 400000
set_option maxRecDepth 4000
attribute [local irreducible] AW ARg ARA ARet MRet ASil AC AM
/-- cells of the first n vertices -/
def szT (a b : Rep) : Nat → Nat
  | 0 => 0
  | n + 1 => szT a b n + (a.d.getD n default).toNat * (b.d.getD n default).toNat
/-- cells of the first n arrows -/
def szA (a b : Rep) : Nat → Nat
  | 0 => 0
  | n + 1 => szA a b n + (b.d.getD (a.q.to.getD n default).toNat default).toNat * (a.d.getD (a.q.fr.getD n default).toNat default).toNat
end Go.Proofs.Ytanembgijdkagaa.V
namespace Go.Proofs.Ytanembgijdkagaa.V
open Go.RowKit G D
set_option linter.unusedVariables false
set_option linter.unusedSimpArgs false
set_option maxHeartbeats 400000
set_option maxRecDepth 4000
attribute [local irreducible] AW ARg ARA ARet MRet ASil AC AM
abbrev vF (a : Rep) (i : Nat) : Nat := (a.q.fr.getD i default).toNat
abbrev vT (a : Rep) (i : Nat) : Nat := (a.q.to.getD i default).toNat
abbrev dim (a : Rep) (v : Nat) : Nat := (a.d.getD v default).toNat
def updAt (p : Int) (L : List Int) (t : Nat) (y : Int) : List Int := L.set t ((L.getD t default + y) % p)
def rX (a b : Rep) (i r k : Nat) : Nat → List Int
  | 0 => List.replicate (szT a b a.d.length) 0
  | j + 1 => updAt a.p (rX a b i r k j) (szT a b (vF a i) + j * dim a (vF a i) + k) ((b.m.getD i default).m.getD (r * dim b (vF a i) + j) default)
def rY (a b : Rep) (i r k : Nat) : Nat → List Int
  | 0 => rX a b i r k (dim b (vF a i))
  | j + 1 => updAt a.p (rY a b i r k j) (szT a b (vT a i) + r * dim a (vT a i) + j) (-((a.m.getD i default).m.getD (j * dim a (vF a i) + k) default))
def eqRow (a b : Rep) (i r k : Nat) : List Int := rY a b i r k (dim a (vT a i))
def eqK (a b : Rep) (i r k : Nat) : List Int := (List.range k).flatMap (eqRow a b i r)
def eqR (a b : Rep) (i r : Nat) : List Int := (List.range r).flatMap fun r => eqK a b i r (dim a (vF a i))
def eqA (a b : Rep) (i : Nat) : List Int := (List.range i).flatMap fun i => eqR a b i (dim b (vT a i))
/-- a row of n numbers below p -/
def RowOk (p : Int) (n : Nat) (L : List Int) : Prop := L.length = n ∧ ∀ t, t < n → 0 ≤ L.getD t default ∧ L.getD t default ≤ p - 1
theorem RowOk.zero {p : Int} (hp : 0 < p) (n : Nat) : RowOk p n (List.replicate n 0) := by
  refine ⟨List.length_replicate, fun t ht => ?_⟩
  have : (List.replicate n (0 : Int)).getD t default = 0 := by simp [ht]
  omega
theorem RowOk.upd {p : Int} {n : Nat} {L : List Int} (hp : 0 < p) (h : RowOk p n L) (t : Nat) (y : Int) : RowOk p n (updAt p L t y) := by
  refine ⟨by rw [updAt, List.length_set, h.1], fun u hu => ?_⟩
  by_cases e : u = t
  · subst e
    have : (updAt p L u y).getD u default = (L.getD u default + y) % p := by simp [updAt, h.1, hu]
    rw [this]; exact mod_bd hp
  · have : (updAt p L t y).getD u default = L.getD u default := by
      simp only [updAt, List.getD_eq_getElem?_getD]
      rw [List.getElem?_set_ne (Ne.symm e)]
    rw [this]; exact h.2 u hu
/-- what is known of an arrow of a pair that fits -/
structure EqF (a b : Rep) (i : Nat) : Prop where
  fr : a.q.fr.getD i default = (vF a i : Int)
  to : a.q.to.getD i default = (vT a i : Int)
  v : vF a i < a.d.length
  w : vT a i < a.d.length
  av : a.d.getD (vF a i) default = (dim a (vF a i) : Int)
  aw : a.d.getD (vT a i) default = (dim a (vT a i) : Int)
  bv : b.d.getD (vF a i) default = (dim b (vF a i) : Int)
  bw : b.d.getD (vT a i) default = (dim b (vT a i) : Int)
  av4 : dim a (vF a i) ≤ 4
  aw4 : dim a (vT a i) ≤ 4
  bv4 : dim b (vF a i) ≤ 4
  bw4 : dim b (vT a i) ≤ 4
  mb : isMat a.p (b.m.getD i default) = true
  ma : isMat a.p (a.m.getD i default) = true
  lb : (b.m.getD i default).m.length = dim b (vT a i) * dim b (vF a i)
  la : (a.m.getD i default).m.length = dim a (vT a i) * dim a (vF a i)
  br : (b.m.getD i default).r = (dim b (vT a i) : Int)
  bc : (b.m.getD i default).c = (dim b (vF a i) : Int)
  ar : (a.m.getD i default).r = (dim a (vT a i) : Int)
  ac : (a.m.getD i default).c = (dim a (vF a i) : Int)
theorem EqF.of {a b : Rep} (h : fitR a b = true) {i : Nat} (hi : i < a.q.fr.length) : EqF a b i := by
  have hh := Fits.of h
  obtain ⟨h1, h2, h3, h4⟩ := fitR_spec h
  obtain ⟨_, _, m1, a4⟩ := isRep_spec h1
  obtain ⟨_, _, m2, b4⟩ := isRep_spec h2
  have f : 0 ≤ a.q.fr.getD i default ∧ a.q.fr.getD i default < a.q.n := okQ_fr hh.ok hi
  have t : 0 ≤ a.q.to.getD i default ∧ a.q.to.getD i default < a.q.n := okQ_to hh.ok hi
  have hda := hh.da
  have hdb := hh.db
  have hma := hh.ma
  have hmb := hh.mb
  have va : vF a i < a.d.length := by show (a.q.fr.getD i default).toNat < _; omega
  have ta : vT a i < a.d.length := by show (a.q.to.getD i default).toNat < _; omega
  have vb : vF a i < b.d.length := by omega
  have tb : vT a i < b.d.length := by omega
  have x1 := hh.ba _ va
  have x2 := hh.ba _ ta
  have x3 := hh.bb _ vb
  have x4 := hh.bb _ tb
  have y1 := a4 i (by omega)
  have y2 := b4 i (by omega)
  simp only [fitM, Bool.and_eq_true, decide_eq_true_eq] at y1 y2
  rw [← h3, ← h4] at y2
  obtain ⟨⟨p1, p2⟩, p3⟩ := y1
  obtain ⟨⟨q1, q2⟩, q3⟩ := y2
  obtain ⟨_, _, _, l1, _⟩ := isMat_spec p1
  obtain ⟨_, _, _, l2, _⟩ := isMat_spec q1
  have e1 : a.d.getD (vF a i) default = (dim a (vF a i) : Int) := (Int.toNat_of_nonneg x1.1).symm
  have e2 : a.d.getD (vT a i) default = (dim a (vT a i) : Int) := (Int.toNat_of_nonneg x2.1).symm
  have e3 : b.d.getD (vF a i) default = (dim b (vF a i) : Int) := (Int.toNat_of_nonneg x3.1).symm
  have e4 : b.d.getD (vT a i) default = (dim b (vT a i) : Int) := (Int.toNat_of_nonneg x4.1).symm
  have g1 := p2.trans e1
  have g2 := p3.trans e2
  have g3 := q2.trans e3
  have g4 := q3.trans e4
  rw [g1, g2] at l1
  rw [g3, g4] at l2
  exact ⟨(Int.toNat_of_nonneg f.1).symm, (Int.toNat_of_nonneg t.1).symm, va, ta, e1, e2, e3, e4, by show (_ : Int).toNat ≤ 4; omega, by show (_ : Int).toNat ≤ 4; omega, by show (_ : Int).toNat ≤ 4; omega, by show (_ : Int).toNat ≤ 4; omega,
    q1, p1, by exact_mod_cast l2, by exact_mod_cast l1, g4, g3, g2, g1⟩
end Go.Proofs.Ytanembgijdkagaa.V
namespace Go.Proofs.Ytanembgijdkagaa.V
open Go.RowKit G D
set_option linter.unusedVariables false
set_option linter.unusedSimpArgs false
set_option maxHeartbeats 4000000
set_option maxRecDepth 4000
attribute [local irreducible] AW ARg ARA ARet MRet ASil AC AM
end Go.Proofs.Ytanembgijdkagaa.V
namespace Go.Proofs.Ytanembgijdkagaa.V
open Go.RowKit G D
set_option linter.unusedVariables false
set_option linter.unusedSimpArgs false
set_option maxHeartbeats 400000
set_option maxRecDepth 4000
def eqM (a b : Rep) : Mat := ⟨szA a b a.q.fr.length, szT a b a.d.length, eqA a b a.q.fr.length⟩
end Go.Proofs.Ytanembgijdkagaa.V
namespace Go.Proofs.Ytanembgijdkagaa.V
open Go.RowKit G D
set_option linter.unusedVariables false
set_option linter.unusedSimpArgs false
set_option maxHeartbeats 4000000
set_option maxRecDepth 4000
attribute [local irreducible] AW ARg ARA ARet MRet ASil AC AM
end Go.Proofs.Ytanembgijdkagaa.V
namespace Go.Proofs.Ytanembgijdkagaa.V
open Go.RowKit G D
set_option linter.unusedVariables false
set_option linter.unusedSimpArgs false
set_option maxHeartbeats 400000
set_option maxRecDepth 4000
def unitL (n k : Nat) : List Int := (List.replicate n 0).set k 1
end Go.Proofs.Ytanembgijdkagaa.V
