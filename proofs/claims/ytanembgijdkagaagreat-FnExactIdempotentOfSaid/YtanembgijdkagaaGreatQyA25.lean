/- Contracts: products of valid matrices, coboundaries, morphisms. -/
import Derived.Test.YtanembgijdkagaaGreatQyA24
namespace Go.Proofs.YtanembgijdkagaaGreat.V
open V.Enc (enc)
open Go.RowKit G D
set_option linter.unusedVariables false
set_option linter.unusedSimpArgs false
set_option maxHeartbeats 4000000
set_option maxRecDepth 4000
attribute [local irreducible] AW ARg ARA ARet MRet ASil AC AM
theorem tab_bd0 {p : Int} {r c : Nat} {f : Nat → Nat → Int} (h : BdF p r c f) : ∀ t, t < (tab r c f).length → 0 ≤ (tab r c f).getD t default ∧ (tab r c f).getD t default ≤ p - 1 := fun t ht => by
  rw [tab_len] at ht
  have hc := pos_of_mul ht
  have e : t / c * c + t % c = t := Nat.div_add_mod' t c
  have hm : t % c < c := Nat.mod_lt _ hc
  have hd : t / c < r := Nat.div_lt_of_lt_mul (by rw [Nat.mul_comm]; exact ht)
  have := tab_get f hd hm
  rw [e] at this
  rw [this]
  exact h _ hd _ hm
theorem isMat_tab {p : Int} {r c : Nat} {f : Nat → Nat → Int} (hp : isF p = true) (hr : r ≤ 8) (hc : c ≤ 8) (h : BdF p r c f) : isMat p (tm r c f) = true := by
  have h5 := isF_pos hp
  have hl : r * c ≤ 8 * 8 := Nat.mul_le_mul hr hc
  simp only [isMat, isVec, Bool.and_eq_true, decide_eq_true_eq]
  refine ⟨⟨⟨by omega, by omega⟩, by rw [tab_len]; push_cast; rfl⟩, ⟨hp, by rw [tab_len]; omega⟩, allIn_all fun j hj => tab_bd0 h j hj⟩
theorem isMat_mul {p : Int} {x y : Mat} (hx : isMat p x = true) (hy : isMat p y = true) : isMat p (mulM p x y) = true := by
  obtain ⟨h0, h1, h2, _, _⟩ := isMat_spec hx
  obtain ⟨_, g1, g2, _, _⟩ := isMat_spec hy
  have h5 := isF_pos h0
  exact isMat_tab h0 (by omega) (by omega) (mulF_bd (by omega) (ent x) (ent y) x.c.toNat x.r.toNat y.c.toNat)
theorem timesM_a {p : Int} {x y : Mat} (hx : isMat p x = true) (hy : isMat p y = true) (h : x.c = y.r) : AC Tryz.prog 97 [.i p, .agg (enc false x), .agg (enc false y)] [.agg (enc true (mulM p x y))] := by
  obtain ⟨h0, h1, h2, _, _⟩ := isMat_spec hx
  obtain ⟨_, g1, g2, _, _⟩ := isMat_spec hy
  have hb := ent_bd hy
  rw [← h] at hb
  have := times_a p x.r.toNat x.c.toNat y.c.toNat (ent x) (ent y) h0 (by omega) (by omega) (by omega) (ent_bd hx) hb
  have e : tm x.c.toNat y.c.toNat (ent y) = y := by rw [h]; exact isMat_tm hy
  rw [isMat_tm hx, e] at this
  exact this
theorem l3MulM_a {p : Int} {x y : Mat} (hx : isMat p x = true) (hy : isMat p y = true) (h : x.c = y.r) : AC Tryz.prog 91 [.i p, .agg (enc false x), .agg (enc false y)] [.agg (enc true (mulM p x y))] := by
  obtain ⟨h0, h1, h2, _, _⟩ := isMat_spec hx
  obtain ⟨_, g1, g2, _, _⟩ := isMat_spec hy
  have hb := ent_bd hy
  rw [← h] at hb
  have := l3Multiply_a p x.r.toNat x.c.toNat y.c.toNat (ent x) (ent y) h0 (by omega) (by omega) (by omega) (ent_bd hx) hb
  have e : tm x.c.toNat y.c.toNat (ent y) = y := by rw [h]; exact isMat_tm hy
  rw [isMat_tm hx, e] at this
  exact this
/-- what is known of an arrow -/
structure ArF (a b : Rep) (f : List Mat) (i : Nat) : Prop where
  fr : 0 ≤ a.q.fr.getD i default ∧ (a.q.fr.getD i default).toNat < f.length
  to : 0 ≤ a.q.to.getD i default ∧ (a.q.to.getD i default).toNat < f.length
  mb : isMat a.p (b.m.getD i default) = true
  ma : isMat a.p (a.m.getD i default) = true
  ff : isMat a.p (f.getD (a.q.fr.getD i default).toNat default) = true
  ft : isMat a.p (f.getD (a.q.to.getD i default).toNat default) = true
  cx : (b.m.getD i default).c = (f.getD (a.q.fr.getD i default).toNat default).r
  cy : (f.getD (a.q.to.getD i default).toNat default).c = (a.m.getD i default).r
  rr : (b.m.getD i default).r = (f.getD (a.q.to.getD i default).toNat default).r
  cc : (f.getD (a.q.fr.getD i default).toNat default).c = (a.m.getD i default).c
theorem ArF.of {a b : Rep} {f : List Mat} (h : areM a b f = true) {i : Nat} (hi : i < a.q.fr.length) : ArF a b f i := by
  obtain ⟨h1, h2, h3⟩ := areM_spec h
  have hh := Fits.of h1
  obtain ⟨i1, i2, _, _⟩ := fitR_spec h1
  obtain ⟨_, _, a3, a4⟩ := isRep_spec i1
  obtain ⟨_, _, b3, b4⟩ := isRep_spec i2
  have h5 := okQ_spec hh.ok
  have hda := hh.da
  have hq := hh.q
  have hp := hh.p
  have fr := okQ_fr hh.ok hi
  have to := okQ_to hh.ok hi
  have fr' : 0 ≤ a.q.fr.getD i default ∧ a.q.fr.getD i default < a.q.n := fr
  have to' : 0 ≤ a.q.to.getD i default ∧ a.q.to.getD i default < a.q.n := to
  have f1 := h3 (a.q.fr.getD i default).toNat (by omega)
  have f2 := h3 (a.q.to.getD i default).toNat (by omega)
  have m1 := a4 i (by omega)
  have m2 := b4 i (by rw [b3, ← hq]; exact hi)
  simp only [fitV, fitM, Bool.and_eq_true, decide_eq_true_eq] at f1 f2 m1 m2
  rw [← hp, ← hq] at m2
  exact ⟨⟨fr'.1, by omega⟩, ⟨to'.1, by omega⟩, m2.1.1, m1.1.1, f1.1.1, f2.1.1, by rw [m2.1.2, f1.2], by rw [f2.1.2, m1.2], by rw [m2.2, f2.2], by rw [f1.1.2, m1.1.2]⟩
end Go.Proofs.YtanembgijdkagaaGreat.V
