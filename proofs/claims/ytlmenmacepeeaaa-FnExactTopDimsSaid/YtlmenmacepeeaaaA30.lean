/- The law behind the coboundary: the equations' matrix times the cells of a morphism, cut by the arrows, is the coboundary. No program is walked. -/
import Derived.Test.YtlmenmacepeeaaaA28
import Derived.Test.YtlmenmacepeeaaaA25
namespace Go.Proofs.Ytlmenmacepeeaaa.V
open Go.RowKit G D
set_option linter.unusedVariables false
set_option linter.unusedSimpArgs false
set_option maxHeartbeats 400000
set_option maxRecDepth 4000

def dot1 (L : List Int) (g : Nat → Int) : Nat → Int
  | 0 => 0
  | n + 1 => dot1 L g n + L.getD n default * g n
theorem dot1_zero (m : Nat) (g : Nat → Int) : ∀ n, n ≤ m → dot1 (List.replicate m 0) g n = 0
  | 0, _ => rfl
  | n + 1, h => by
    have : (List.replicate m (0 : Int)).getD n default = 0 := by simp [show n < m from h]
    rw [dot1, dot1_zero m g n (by omega), this]; simp
theorem updAt_ne {p : Int} {L : List Int} {t u : Nat} {y : Int} (e : u ≠ t) : (updAt p L t y).getD u default = L.getD u default := by
  simp only [updAt, List.getD_eq_getElem?_getD]
  rw [List.getElem?_set_ne (Ne.symm e)]
theorem updAt_eq {p : Int} {L : List Int} {t : Nat} {y : Int} (h : t < L.length) : (updAt p L t y).getD t default = (L.getD t default + y) % p := by simp [updAt, h]
theorem dot1_lo {p : Int} {L : List Int} {t : Nat} {y : Int} (g : Nat → Int) : ∀ n, n ≤ t → dot1 (updAt p L t y) g n = dot1 L g n
  | 0, _ => rfl
  | n + 1, h => by rw [dot1, dot1, dot1_lo g n (by omega), updAt_ne (by omega)]
theorem dot1_upd {p : Int} {L : List Int} {t : Nat} {y : Int} (g : Nat → Int) (h : t < L.length) : ∀ n, t < n → ∃ q, dot1 (updAt p L t y) g n = dot1 L g n + y * g t + p * q
  | 0, h0 => absurd h0 (Nat.not_lt_zero _)
  | n + 1, h0 => by
    by_cases e : n = t
    · subst e
      rw [dot1, dot1, dot1_lo g n (Nat.le_refl _), updAt_eq h]
      refine ⟨-((L.getD n default + y) / p) * g n, ?_⟩
      have hd := Int.emod_add_mul_ediv (L.getD n default + y) p
      have hd' : (L.getD n default + y) % p = (L.getD n default + y) - p * ((L.getD n default + y) / p) := by omega
      rw [hd']
      grind
    · obtain ⟨q, hq⟩ := dot1_upd (p := p) (y := y) g h n (by omega)
      refine ⟨q, ?_⟩
      rw [dot1, dot1, hq, updAt_ne e]
      omega
theorem getD_mid {xs ys zs : List Int} {t : Nat} (h : t < ys.length) : (xs ++ ys ++ zs).getD (xs.length + t) default = ys.getD t default := by
  rw [List.append_assoc]
  simp only [List.getD_eq_getElem?_getD]
  rw [List.getElem?_append_right (by omega), List.getElem?_append_left (by omega)]
  congr 2; omega
theorem fm_split (f : Nat → List Int) {j n : Nat} (h : j < n) : ∃ zs, (List.range n).flatMap f = (List.range j).flatMap f ++ f j ++ zs := by
  induction n with
  | zero => omega
  | succ n ih =>
    rw [fm_succ]
    by_cases e : j = n
    · subst e; exact ⟨[], by simp⟩
    · obtain ⟨zs, hz⟩ := ih (by omega)
      exact ⟨zs ++ f n, by rw [hz, List.append_assoc]⟩
theorem eq_row {a b : Rep} (hp : 0 < a.p) {i r k x N : Nat} (hi : i < N) (hr : r < dim b (vT a i)) (hk : k < dim a (vF a i)) (hx : x < szT a b a.d.length) :
    (eqA a b N).getD ((szA a b i + r * dim a (vF a i) + k) * szT a b a.d.length + x) default = (eqRow a b i r k).getD x default := by
  obtain ⟨z1, h1⟩ := fm_split (fun i => eqR a b i (dim b (vT a i))) hi
  obtain ⟨z2, h2⟩ := fm_split (fun r => eqK a b i r (dim a (vF a i))) hr
  obtain ⟨z3, h3⟩ := fm_split (eqRow a b i r) hk
  have e1 : eqA a b N = eqA a b i ++ eqR a b i (dim b (vT a i)) ++ z1 := h1
  have e2 : eqR a b i (dim b (vT a i)) = eqR a b i r ++ eqK a b i r (dim a (vF a i)) ++ z2 := h2
  have e3 : eqK a b i r (dim a (vF a i)) = eqK a b i r k ++ eqRow a b i r k ++ z3 := h3
  have l1 := eqA_len (a := a) (b := b) hp i
  have l2 := eqR_len (a := a) (b := b) hp i r
  have l3 := eqK_len (a := a) (b := b) hp i r k
  have l4 := (eqRow_ok (a := a) (b := b) hp i r k).1
  have e : eqA a b N = (eqA a b i ++ eqR a b i r ++ eqK a b i r k) ++ eqRow a b i r k ++ (z3 ++ z2 ++ z1) := by
    rw [e1, e2, e3]; simp only [List.append_assoc]
  have hl : (eqA a b i ++ eqR a b i r ++ eqK a b i r k).length = (szA a b i + r * dim a (vF a i) + k) * szT a b a.d.length := by
    rw [List.length_append, List.length_append, l1, l2, l3, ← Nat.add_mul, ← Nat.add_mul]
  rw [e, ← hl, getD_mid (by omega)]
theorem eqA_mem {a b : Rep} (hp : 0 < a.p) {N : Nat} {y : Int} (h : y ∈ eqA a b N) : 0 ≤ y ∧ y ≤ a.p - 1 := by
  simp only [eqA, eqR, eqK, List.mem_flatMap] at h
  obtain ⟨i, _, r, _, k, _, hm⟩ := h
  obtain ⟨h1, h2⟩ := eqRow_ok (a := a) (b := b) hp i r k
  obtain ⟨t, ht, rfl⟩ := List.getElem_of_mem hm
  have := h2 t (by omega)
  simpa [ht] using this
/-- what is known of the matrices of a pair, vertex by vertex -/
theorem fitV_spec {a b : Rep} {f : List Mat} (h : areM a b f = true) {v : Nat} (hv : v < f.length) :
    isMat a.p (f.getD v default) = true ∧ (f.getD v default).c = (dim a v : Int) ∧ (f.getD v default).r = (dim b v : Int) ∧ (f.getD v default).m.length = dim b v * dim a v := by
  have h1 := (areM_spec h).2.2 v hv
  simp only [fitV, Bool.and_eq_true, decide_eq_true_eq] at h1
  obtain ⟨⟨m, c⟩, r⟩ := h1
  obtain ⟨_, r1, c1, l, _⟩ := isMat_spec m
  have e1 : (f.getD v default).c = (dim a v : Int) := by
    have : 0 ≤ a.d.getD v default := by omega
    exact c.trans (Int.toNat_of_nonneg this).symm
  have e2 : (f.getD v default).r = (dim b v : Int) := by
    have : 0 ≤ b.d.getD v default := by omega
    exact r.trans (Int.toNat_of_nonneg this).symm
  rw [e1, e2] at l
  exact ⟨m, e1, e2, by exact_mod_cast l⟩
theorem catM_len {a b : Rep} {f : List Mat} (h : areM a b f = true) : ∀ v, v ≤ f.length → (catM (f.take v)).length = szT a b v
  | 0, _ => by simp [catM, szT]
  | v + 1, hv => by
    rw [catM_take (by omega), List.length_append, catM_len h v (by omega), (fitV_spec h (by omega)).2.2.2, Nat.mul_comm]; rfl
theorem cat_get {a b : Rep} {f : List Mat} (h : areM a b f = true) {v t : Nat} (hv : v < f.length) (ht : t < dim b v * dim a v) : (catM f).getD (szT a b v + t) default = (f.getD v default).m.getD t default := by
  have e : catM f = catM (f.take v) ++ (f.getD v default).m ++ catM (f.drop (v + 1)) := by
    rw [← catM_take hv]
    conv => lhs; rw [← List.take_append_drop (v + 1) f, catM, List.flatMap_append]
    rfl
  rw [e, ← catM_len h v (by omega), getD_mid (by rw [(fitV_spec h hv).2.2.2]; exact ht)]
theorem dot_rX {a b : Rep} {f : List Mat} (h : areM a b f = true) {i r k : Nat} (hi : i < a.q.fr.length) (hk : k < dim a (vF a i)) :
    ∀ j, j ≤ dim b (vF a i) → ∃ q, dot1 (rX a b i r k j) (fun x => (catM f).getD x default) (szT a b a.d.length) = dotK (ent (b.m.getD i default)) (ent (f.getD (vF a i) default)) r k j + a.p * q
  | 0, _ => ⟨0, by rw [rX, dot1_zero _ _ _ (Nat.le_refl _)]; simp [dotK]⟩
  | j + 1, hj => by
    have hf := (areM_spec h).1
    have hQ := EqF.of hf hi
    have hp := isF_pos (Fits.of hf).f
    have hlen := (areM_spec h).2.1
    obtain ⟨q, hq⟩ := dot_rX h hi hk j (by omega)
    have hat := hQ.atX (j := j) (by omega) hk
    obtain ⟨q2, hq2⟩ := dot1_upd (p := a.p) (y := (b.m.getD i default).m.getD (r * dim b (vF a i) + j) default) (fun x => (catM f).getD x default) (L := rX a b i r k j) (t := szT a b (vF a i) + j * dim a (vF a i) + k) (by rw [(rX_ok (by omega) i r k j).1]; exact hat) (szT a b a.d.length) hat
    have hv : vF a i < f.length := by rw [hlen]; exact hQ.v
    have hg : (catM f).getD (szT a b (vF a i) + j * dim a (vF a i) + k) default = ent (f.getD (vF a i) default) j k := by
      rw [Nat.add_assoc, cat_get h hv (in_grid (by omega) hk), ent, (fitV_spec h hv).2.1]; rfl
    have hb : (b.m.getD i default).m.getD (r * dim b (vF a i) + j) default = ent (b.m.getD i default) r j := by
      rw [ent, hQ.bc]; rfl
    refine ⟨q + q2, ?_⟩
    rw [rX, hq2, hq, hg, hb, dotK, Int.mul_add]
    omega
theorem dot_rY {a b : Rep} {f : List Mat} (h : areM a b f = true) {i r k : Nat} (hi : i < a.q.fr.length) (hk : k < dim a (vF a i)) (hr : r < dim b (vT a i)) :
    ∀ j, j ≤ dim a (vT a i) → ∃ q, dot1 (rY a b i r k j) (fun x => (catM f).getD x default) (szT a b a.d.length) = dotK (ent (b.m.getD i default)) (ent (f.getD (vF a i) default)) r k (dim b (vF a i)) - dotK (ent (f.getD (vT a i) default)) (ent (a.m.getD i default)) r k j + a.p * q
  | 0, _ => by
    obtain ⟨q, hq⟩ := dot_rX (r := r) h hi hk _ (Nat.le_refl _)
    exact ⟨q, by rw [rY, hq, dotK]; omega⟩
  | j + 1, hj => by
    have hf := (areM_spec h).1
    have hQ := EqF.of hf hi
    have hp := isF_pos (Fits.of hf).f
    have hlen := (areM_spec h).2.1
    obtain ⟨q, hq⟩ := dot_rY h hi hk hr j (by omega)
    have hat := hQ.atY (j := j) hr (by omega)
    obtain ⟨q2, hq2⟩ := dot1_upd (p := a.p) (y := -((a.m.getD i default).m.getD (j * dim a (vF a i) + k) default)) (fun x => (catM f).getD x default) (L := rY a b i r k j) (t := szT a b (vT a i) + r * dim a (vT a i) + j) (by rw [(rY_ok (by omega) i r k j).1]; exact hat) (szT a b a.d.length) hat
    have hv : vT a i < f.length := by rw [hlen]; exact hQ.w
    have hg : (catM f).getD (szT a b (vT a i) + r * dim a (vT a i) + j) default = ent (f.getD (vT a i) default) r j := by
      rw [Nat.add_assoc, cat_get h hv (in_grid hr (by omega)), ent, (fitV_spec h hv).2.1]; rfl
    have hb : (a.m.getD i default).m.getD (j * dim a (vF a i) + k) default = ent (a.m.getD i default) j k := by
      rw [ent, hQ.ac]; rfl
    refine ⟨q + q2, ?_⟩
    rw [rY, hq2, hq, hg, hb, dotK, Int.mul_add]
    grind
theorem dotK_dot1 {F G : Nat → Nat → Int} {L : List Int} {g : Nat → Int} {T c : Nat} : ∀ n, (∀ x, x < n → F T x = L.getD x default ∧ G x c = g x) → dotK F G T c n = dot1 L g n
  | 0, _ => rfl
  | n + 1, h => by rw [dotK, dot1, dotK_dot1 n fun x hx => h x (by omega), (h n (by omega)).1, (h n (by omega)).2]
theorem cob_mod (p s t q : Int) : (s - t + p * q) % p = (s % p + (p - 1) * (t % p)) % p := by
  have h1 : s % p = s - p * (s / p) := by have := Int.emod_add_mul_ediv s p; omega
  have h2 : t % p = t - p * (t / p) := by have := Int.emod_add_mul_ediv t p; omega
  have e : s - t + p * q = (s % p + (p - 1) * (t % p)) + p * (q + s / p - t % p - t / p) := by
    generalize hu : t % p = u at h2 ⊢
    rw [h1]
    have : t = u + p * (t / p) := by omega
    grind
  rw [e, Int.add_mul_emod_self_left]
def eqM (a b : Rep) : Mat := ⟨szA a b a.q.fr.length, szT a b a.d.length, eqA a b a.q.fr.length⟩
def colM (a b : Rep) (f : List Mat) : Mat := ⟨szT a b a.d.length, 1, catM f⟩
theorem eqM_bd {a b : Rep} (hp : 0 < a.p) : BdF a.p (szA a b a.q.fr.length) (szT a b a.d.length) (ent (eqM a b)) := fun i hi j hj => by
  have h := in_grid hi hj
  rw [← eqA_len (a := a) (b := b) hp] at h
  exact eqA_mem hp (gm h)
theorem eqM_tm {a b : Rep} (hp : 0 < a.p) : tm (szA a b a.q.fr.length) (szT a b a.d.length) (ent (eqM a b)) = eqM a b := by
  have := tm_of (m := eqM a b) (Int.natCast_nonneg _) (Int.natCast_nonneg _) (by show ((eqA a b a.q.fr.length).length : Int) = _; rw [eqA_len hp]; exact Int.natCast_mul ..)
  exact this
theorem colM_bd {a b : Rep} {f : List Mat} (h : areM a b f = true) : BdF a.p (szT a b a.d.length) 1 (ent (colM a b f)) := fun i hi j hj => by
  have hp := isF_pos (Fits.of (areM_spec h).1).f
  have hl := catM_len h f.length (Nat.le_refl _)
  rw [List.take_length, (areM_spec h).2.1] at hl
  have e : ent (colM a b f) i j = (catM f).getD i default := by
    obtain rfl : j = 0 := by omega
    show (catM f).getD (i * 1 + 0) default = _
    rw [Nat.mul_one]; rfl
  rw [e]
  have hm : (catM f).getD i default ∈ catM f := gm (by omega)
  simp only [catM, List.mem_flatMap] at hm
  obtain ⟨m, hm1, hm2⟩ := hm
  obtain ⟨v, hv, rfl⟩ := List.getElem_of_mem hm1
  have hM := (isMat_spec (fitV_spec h hv).1).2.2.2.2
  obtain ⟨t, ht, e2⟩ := List.getElem_of_mem hm2
  have g1 : f.getD v default = f[v] := by simp [hv]
  rw [g1] at hM
  have := hM t ht
  have g2 : (f[v].m).getD t default = f[v].m[t] := by simp [ht]
  rw [g2, e2] at this
  exact this
theorem colM_tm {a b : Rep} {f : List Mat} (h : areM a b f = true) : tm (szT a b a.d.length) 1 (ent (colM a b f)) = colM a b f := by
  have hl := catM_len h f.length (Nat.le_refl _)
  rw [List.take_length, (areM_spec h).2.1] at hl
  exact tm_of (m := colM a b f) (Int.natCast_nonneg _) (show (0 : Int) ≤ 1 by decide) (by show ((catM f).length : Int) = _; rw [hl]; exact (Int.mul_one _).symm)
theorem mulM_tm {p : Int} {x y : Mat} {r n c : Nat} (h1 : x.r = (r : Int)) (h2 : x.c = (n : Int)) (h3 : y.c = (c : Int)) : mulM p x y = tm r c (mulF p (ent x) (ent y) n) := by
  rw [mulM, h1, h2, h3]; rfl
/-- the equations' matrix times the cells, cut by the arrows -/
theorem cob_cut {a b : Rep} {f : List Mat} (h : areM a b f = true) : cutL a b (tab (szA a b a.q.fr.length) 1 (mulF a.p (ent (eqM a b)) (ent (colM a b f)) (szT a b a.d.length))) = cobL a b f := by
  have hf := (areM_spec h).1
  have hp := isF_pos (Fits.of hf).f
  have hlen := (areM_spec h).2.1
  unfold cutL cobL
  apply List.map_congr_left
  intro i hi
  have hi : i < a.q.fr.length := by simpa using hi
  have hQ := EqF.of hf hi
  have hv : vF a i < f.length := by rw [hlen]; exact hQ.v
  have hw : vT a i < f.length := by rw [hlen]; exact hQ.w
  have hs := szA_mono a b (m := i + 1) (n := a.q.fr.length) (by omega)
  have hsi : szA a b (i + 1) = szA a b i + dim b (vT a i) * dim a (vF a i) := rfl
  have eX : arX a b f i = tm (dim b (vT a i)) (dim a (vF a i)) (mulF a.p (ent (b.m.getD i default)) (ent (f.getD (vF a i) default)) (dim b (vF a i))) := mulM_tm hQ.br hQ.bc (fitV_spec h hv).2.1
  have eY : arY a b f i = tm (dim b (vT a i)) (dim a (vF a i)) (mulF a.p (ent (f.getD (vT a i) default)) (ent (a.m.getD i default)) (dim a (vT a i))) := mulM_tm (fitV_spec h hw).2.2.1 (fitV_spec h hw).2.1 hQ.ac
  rw [eX, eY, plusM, cutM]
  show Mat.mk _ _ _ = Mat.mk _ _ (addK _ _ _ (tab _ _ _) (tab _ _ _) (tab _ _ _).length)
  rw [addK_full, show b.d.getD (a.q.to.getD i default).toNat default = _ from hQ.bw, show a.d.getD (a.q.fr.getD i default).toNat default = _ from hQ.av]
  congr 1
  generalize hX : tab (szA a b a.q.fr.length) 1 (mulF a.p (ent (eqM a b)) (ent (colM a b f)) (szT a b a.d.length)) = X
  have hXl : X.length = szA a b a.q.fr.length := by rw [← hX, tab_len, Nat.mul_one]
  rw [← tab_of (l := (X.take (szA a b (i + 1))).drop (szA a b i)) (r := dim b (vT a i)) (c := dim a (vF a i)) (by rw [List.length_drop, List.length_take]; omega)]
  apply tab_ext
  intro r hr k hk
  have hg := in_grid hr hk
  have g1 : ((X.take (szA a b (i + 1))).drop (szA a b i)).getD (r * dim a (vF a i) + k) default = X.getD ((szA a b i + r * dim a (vF a i) + k) * 1 + 0) default := by
    simp only [List.getD_eq_getElem?_getD, List.getElem?_drop]
    rw [List.getElem?_take_of_lt (by omega), Nat.mul_one, Nat.add_zero, Nat.add_assoc]
  rw [g1, ← hX, tab_get _ (by omega) (by omega)]
  obtain ⟨q, hq⟩ := dot_rY h hi hk hr _ (Nat.le_refl _)
  have hd : dotK (ent (eqM a b)) (ent (colM a b f)) (szA a b i + r * dim a (vF a i) + k) 0 (szT a b a.d.length) = dot1 (rY a b i r k (dim a (vT a i))) (fun x => (catM f).getD x default) (szT a b a.d.length) :=
    dotK_dot1 _ fun x hx => ⟨eq_row (by omega) hi hr hk hx, by show (catM f).getD (x * 1 + 0) default = _; rw [Nat.mul_one]; rfl⟩
  show dotK _ _ _ _ _ % a.p = (dotK _ _ _ _ _ % a.p + (a.p - 1) * (dotK _ _ _ _ _ % a.p)) % a.p
  rw [hd, hq, cob_mod]
end Go.Proofs.Ytlmenmacepeeaaa.V
