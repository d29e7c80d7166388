/- Quotients by a part, plain: the matrices onto the coordinates without a leading one. No program is walked. -/
import Derived.Test.YtjnhjfgcfclamaaGreatQaA80
namespace Go.Proofs.YtjnhjfgcfclamaaGreat.V
open Go.RowKit G D
set_option linter.unusedVariables false
set_option linter.unusedSimpArgs false
set_option maxHeartbeats 1000000
set_option maxRecDepth 4000
/-- what is left of a vector -/
theorem rst_val {p : Int} {n : Nat} {b : List (List Int)} {piv : List Nat} (hp : 2 ≤ p) (h : Ech b.length n (vecF b) piv) (hl : piv.length = b.length) (hv : VecB p n b) {v : List Int} (hn : v.length = n) (hb : ∀ j, j < n → 0 ≤ v.getD j default ∧ v.getD j default ≤ p - 1) {j : Nat} (hj : j < n) : (rstK p b v b.length).getD j default = (v.getD j default - sumN (fun i => v.getD (piv.getD i 0) default * vecF b i j) b.length) % p := by
  obtain ⟨r1, r2, r3⟩ := rstK_spec hp h hl hv hn hb b.length (Nat.le_refl _)
  have h1 := h.comb r3 j hj
  rw [hl] at h1
  try dsimp only at h1
  have h2 : sumN (fun i => (v.getD (piv.getD i 0) default + -1 * (rstK p b v b.length).getD (piv.getD i 0) default) * vecF b i j) b.length = sumN (fun i => v.getD (piv.getD i 0) default * vecF b i j) b.length := sumN_eq _ fun i hi => by rw [r2 i hi]; simp
  rw [h2] at h1
  generalize sumN (fun i => v.getD (piv.getD i 0) default * vecF b i j) b.length = S at h1 ⊢
  have h3 : Cg p ((rstK p b v b.length).getD j default) ((v.getD j default - S) % p) := by
    refine Cg.trans ?_ (Cg.mod ..).symm
    have := (Cg.refl (v.getD j default)).add (Cg.mul (Cg.refl (-1)) h1)
    refine Cg.trans ⟨0, ?_⟩ (this.trans ⟨0, ?_⟩)
    · omega
    · omega
  exact h3.eq (r1 j hj) (mod_bd (by omega))
/-- the pivots of a reduced basis, as told by its vectors -/
def leadN (s : Spc) : List Nat := s.b.map fun x => (leadV x).toNat
theorem leadN_len (s : Spc) : (leadN s).length = s.b.length := by simp [leadN]
theorem leadN_ech {p : Int} {s : Spc} (h : isSpc p s = true) : Ech s.b.length s.n.toNat (vecF s.b) (leadN s) ∧ (∀ i, i < s.b.length → leadV (s.b.getD i default) = ((leadN s).getD i 0 : Nat)) := by
  obtain ⟨h1, h2, h3, h4⟩ := isSpc_spec h
  obtain ⟨piv, he, hl⟩ := isSpc_ech h
  have e : leadN s = piv := by
    apply List.ext_getElem (by rw [leadN_len, hl])
    intro i g1 g2
    have hi : i < s.b.length := by rw [leadN_len] at g1; exact g1
    have := he.lead_at hl h4 hi
    have e1 : s.b.getD i default = s.b[i] := by simp [hi]
    have e2 : piv.getD i 0 = piv[i] := by simp [g2]
    rw [e1, e2] at this
    simp only [leadN, List.getElem_map]
    omega
  rw [e]
  exact ⟨he, fun i hi => he.lead_at hl h4 hi⟩
/-- the matrix onto the coordinates without a leading one -/
def prjF (p : Int) (s : Spc) : Nat → Nat → Int := fun a k => (rstK p s.b (unitL s.n.toNat k) s.b.length).getD ((freeL s.n.toNat (leadN s)).getD a default) default
def prjM (p : Int) (s : Spc) : Mat := tm (freeL s.n.toNat (leadN s)).length s.n.toNat (prjF p s)
theorem free_mem {c : Nat} {piv : List Nat} {a : Nat} (h : a < (freeL c piv).length) : (freeL c piv).getD a default < c ∧ (freeL c piv).getD a default ∉ piv := freeL_lt _ (gm h)
theorem free_len {p : Int} {s : Spc} (h : isSpc p s = true) : (freeL s.n.toNat (leadN s)).length + s.b.length = s.n.toNat := by
  obtain ⟨he, _⟩ := leadN_ech h
  have := freeL_len (c := s.n.toNat) (piv := leadN s) he.pw fun x hx => by
    obtain ⟨i, hi, e⟩ := List.getElem_of_mem hx
    have := he.lt i hi
    simp [hi] at this; omega
  rw [leadN_len] at this
  exact this
theorem unit_bd {p : Int} (hp : 2 ≤ p) (n k : Nat) : ∀ j, j < n → 0 ≤ (unitL n k).getD j default ∧ (unitL n k).getD j default ≤ p - 1 := fun j hj => by
  rw [unitL_get hj]; split <;> omega
/-- its numbers at columns without a leading one -/
theorem prj_free {p : Int} {s : Spc} (h : isSpc p s = true) {a k : Nat} (ha : a < (freeL s.n.toNat (leadN s)).length) (hk : k < s.n.toNat) (hf : k ∉ leadN s) : prjF p s a k = if k = (freeL s.n.toNat (leadN s)).getD a default then 1 else 0 := by
  obtain ⟨h1, h2, h3, h4⟩ := isSpc_spec h
  have hp := isF_pos h1
  obtain ⟨he, hl⟩ := leadN_ech h
  obtain ⟨f1, f2⟩ := free_mem ha
  unfold prjF
  rw [rst_val (by omega) he (leadN_len s) h4 (unitL_len _ _) (unit_bd (by omega) _ _) f1, unitL_get f1]
  have h0 : sumN (fun i => (unitL s.n.toNat k).getD ((leadN s).getD i 0) default * vecF s.b i ((freeL s.n.toNat (leadN s)).getD a default)) s.b.length = 0 := sumN_zero _ fun i hi => by
    have hi' : i < (leadN s).length := by rw [leadN_len]; exact hi
    have hne : (leadN s).getD i 0 ≠ k := fun e => hf (by rw [← e]; simp [hi'])
    rw [unitL_get (he.lt i hi'), if_neg hne, Int.zero_mul]
  rw [h0, Int.sub_zero]
  by_cases e : (freeL s.n.toNat (leadN s)).getD a default = k
  · rw [if_pos e, if_pos e.symm]; exact Int.emod_eq_of_lt (by omega) (by omega)
  · rw [if_neg e, if_neg (fun h => e h.symm)]; rfl
/-- and at those with one -/
theorem prj_lead {p : Int} {s : Spc} (h : isSpc p s = true) {a t : Nat} (ha : a < (freeL s.n.toNat (leadN s)).length) (ht : t < s.b.length) : prjF p s a ((leadN s).getD t 0) = -(vecF s.b t ((freeL s.n.toNat (leadN s)).getD a default)) % p := by
  obtain ⟨h1, h2, h3, h4⟩ := isSpc_spec h
  have hp := isF_pos h1
  obtain ⟨he, hl⟩ := leadN_ech h
  obtain ⟨f1, f2⟩ := free_mem ha
  have ht' : t < (leadN s).length := by rw [leadN_len]; exact ht
  have hne : (freeL s.n.toNat (leadN s)).getD a default ≠ (leadN s).getD t 0 := fun e => f2 (by rw [e]; simp [ht'])
  unfold prjF
  rw [rst_val (by omega) he (leadN_len s) h4 (unitL_len _ _) (unit_bd (by omega) _ _) f1, unitL_get f1, if_neg hne]
  have h0 : sumN (fun i => (unitL s.n.toNat ((leadN s).getD t 0)).getD ((leadN s).getD i 0) default * vecF s.b i ((freeL s.n.toNat (leadN s)).getD a default)) s.b.length = vecF s.b t ((freeL s.n.toNat (leadN s)).getD a default) := by
    have h5 := sumN_one (fun i => vecF s.b i ((freeL s.n.toNat (leadN s)).getD a default)) t s.b.length
    rw [if_pos ht] at h5
    rw [← h5]
    refine sumN_eq _ fun i hi => ?_
    have hi' : i < (leadN s).length := by rw [leadN_len]; exact hi
    rw [unitL_get (he.lt i hi')]
    by_cases e : i = t
    · subst e; rw [if_pos rfl, if_pos rfl]
    · have hn : (leadN s).getD i 0 ≠ (leadN s).getD t 0 := fun e2 => by
        rcases Nat.lt_or_gt_of_ne e with hlt | hlt
        · have := he.inc i t hlt ht'; omega
        · have := he.inc t i hlt hi'; omega
      rw [if_neg e, if_neg hn]
  rw [h0, Int.zero_sub]
theorem prj_bd {p : Int} {s : Spc} (h : isSpc p s = true) : BdF p (freeL s.n.toNat (leadN s)).length s.n.toNat (prjF p s) := fun a ha k hk => by
  obtain ⟨h1, h2, h3, h4⟩ := isSpc_spec h
  have hp := isF_pos h1
  obtain ⟨he, hl⟩ := leadN_ech h
  exact (rstK_spec (by omega) he (leadN_len s) h4 (unitL_len _ k) (unit_bd (by omega) _ _) s.b.length (Nat.le_refl _)).1 _ (free_mem ha).1
theorem isMat_prj {p : Int} {s : Spc} (h : isSpc p s = true) : isMat p (prjM p s) = true := by
  obtain ⟨h1, h2, h3, h4⟩ := isSpc_spec h
  have := free_len h
  exact isMat_tab h1 (by omega) (by omega) (prj_bd h)
/-- a product's columns without a leading one -/
def quoF (p : Int) (m : Mat) (a b : Spc) : Nat → Nat → Int := fun i j => mulF p (ent (prjM p b)) (ent m) m.r.toNat i ((freeL a.n.toNat (leadN a)).getD j default)
def quoM (p : Int) (m : Mat) (a b : Spc) : Mat := tm (freeL b.n.toNat (leadN b)).length (freeL a.n.toNat (leadN a)).length (quoF p m a b)
def quoA (r : Rep) (s : List Spc) (i : Nat) : Mat := quoM r.p (r.m.getD i default) (s.getD (r.q.fr.getD i default).toNat default) (s.getD (r.q.to.getD i default).toNat default)
def quoMs (r : Rep) (s : List Spc) : List Mat := (List.range r.m.length).map (quoA r s)
def quoD (s : List Spc) : List Int := s.map fun x => ((freeL x.n.toNat (leadN x)).length : Int)
def quoR (r : Rep) (s : List Spc) : Rep := ⟨r.p, r.q, quoD s, quoMs r s⟩
def prjL (p : Int) (s : List Spc) : List Mat := s.map (prjM p)
theorem ent_tm {r c i j : Nat} (f : Nat → Nat → Int) (hi : i < r) (hj : j < c) : ent (tm r c f) i j = f i j := by
  unfold ent tm
  dsimp only
  rw [Int.toNat_natCast, tab_get f hi hj]
theorem mod_mod (x p : Int) : x % p % p = x % p := Int.emod_emod_of_dvd _ (Int.dvd_refl p)
/-- the matrix that puts coordinates back -/
def bakF (l : List Nat) : Nat → Nat → Int := fun k a => if k = l.getD a default then 1 else 0
def bakM (s : Spc) : Mat := tm s.n.toNat (freeL s.n.toNat (leadN s)).length (bakF (freeL s.n.toNat (leadN s)))
theorem prj_mul (p : Int) (m : Mat) (b : Spc) (nb : b.n = m.r) : mulM p (prjM p b) m = tm (freeL b.n.toNat (leadN b)).length m.c.toNat (mulF p (ent (prjM p b)) (ent m) m.r.toNat) := by
  show tm (Int.toNat ((freeL b.n.toNat (leadN b)).length : Int)) m.c.toNat (mulF p (ent (prjM p b)) (ent m) (Int.toNat (b.n.toNat : Int))) = _
  rw [Int.toNat_natCast, Int.toNat_natCast, nb]
theorem quo_eq {p : Int} {m : Mat} {a b : Spc} (na : a.n = m.c) (nb : b.n = m.r) : mulM p (mulM p (prjM p b) m) (bakM a) = quoM p m a b := by
  rw [prj_mul p m b nb]
  generalize hG : mulF p (ent (prjM p b)) (ent m) m.r.toNat = G
  show tm (Int.toNat ((freeL b.n.toNat (leadN b)).length : Int)) (Int.toNat ((freeL a.n.toNat (leadN a)).length : Int)) (mulF p (ent (tm (freeL b.n.toNat (leadN b)).length m.c.toNat G)) (ent (bakM a)) (Int.toNat (m.c.toNat : Int))) = _
  rw [Int.toNat_natCast, Int.toNat_natCast, Int.toNat_natCast]
  unfold quoM tm
  congr 1
  refine tab_ext fun i hi j hj => ?_
  obtain ⟨f1, f2⟩ := free_mem hj
  have e : quoF p m a b i j = G i ((freeL a.n.toNat (leadN a)).getD j default) := by rw [← hG]; rfl
  rw [e]
  unfold mulF
  rw [dotK_sum]
  rw [sumN_eq (g := fun k => (if k = (freeL a.n.toNat (leadN a)).getD j default then 1 else 0) * G i k) _ fun k hk => by
    have e1 : ent (bakM a) k j = bakF (freeL a.n.toNat (leadN a)) k j := ent_tm _ (by rw [na]; exact hk) hj
    have e2 := ent_tm (r := (freeL b.n.toNat (leadN b)).length) (c := m.c.toNat) G hi hk
    rw [e1, Int.mul_comm]
    unfold bakF
    rw [← e2], sumN_one, if_pos (by rw [← na]; exact f1), ← hG]
  exact mod_mod _ _
theorem quo_cols (p : Int) (m : Mat) (a b : Spc) : tm (freeL b.n.toNat (leadN b)).length (pivC (freeL b.n.toNat (leadN b)).length (mulF p (ent (prjM p b)) (ent m) m.r.toNat) (freeL a.n.toNat (leadN a))).length (fcF (pivC (freeL b.n.toNat (leadN b)).length (mulF p (ent (prjM p b)) (ent m) m.r.toNat) (freeL a.n.toNat (leadN a)))) = quoM p m a b := by
  unfold quoM tm
  rw [show (pivC (freeL b.n.toNat (leadN b)).length (mulF p (ent (prjM p b)) (ent m) m.r.toNat) (freeL a.n.toNat (leadN a))).length = (freeL a.n.toNat (leadN a)).length by simp [pivC]]
  congr 1
  refine tab_ext fun i hi j hj => ?_
  unfold fcF pivC
  have e : ((freeL a.n.toNat (leadN a)).map fun k => rowL (freeL b.n.toNat (leadN b)).length fun t => mulF p (ent (prjM p b)) (ent m) m.r.toNat t k).getD j default = rowL (freeL b.n.toNat (leadN b)).length fun t => mulF p (ent (prjM p b)) (ent m) m.r.toNat t ((freeL a.n.toNat (leadN a)).getD j default) := by simp [hj]
  rw [e, rowL_get _ hi]
  rfl
def pbK (p : Int) (s : Spc) (a : Nat) : Nat → Nat → Int := fun a' c => if a' < a then prjF p s a' c else 0
def prK (p : Int) (s : Spc) (a : Nat) : Nat → Nat → Nat → Int
  | 0 => updF (pbK p s a) a ((freeL s.n.toNat (leadN s)).getD a default) 1
  | k + 1 => updF (prK p s a k) a ((leadN s).getD k default) (-(vecF s.b k ((freeL s.n.toNat (leadN s)).getD a default)) % p)
theorem prK_out (p : Int) (s : Spc) (a : Nat) {a' : Nat} (h : a' ≠ a) (c : Nat) : ∀ k, prK p s a k a' c = pbK p s a a' c
  | 0 => by rw [prK, updF, if_neg fun x => h x.1]
  | k + 1 => by rw [prK, updF, if_neg fun x => h x.1, prK_out p s a h c k]
theorem prK_free (p : Int) (s : Spc) (a : Nat) {c : Nat} : ∀ k, (∀ t, t < k → (leadN s).getD t default ≠ c) → prK p s a k a c = if c = (freeL s.n.toNat (leadN s)).getD a default then 1 else 0
  | 0, _ => by
    rw [prK, updF]
    by_cases e : c = (freeL s.n.toNat (leadN s)).getD a default
    · rw [if_pos ⟨rfl, e⟩, if_pos e]
    · rw [if_neg fun x => e x.2, if_neg e, pbK, if_neg (by omega)]
  | k + 1, h => by
    rw [prK, updF, if_neg fun x => h k (by omega) x.2.symm]
    exact prK_free p s a k fun t ht => h t (by omega)
theorem prK_lead (p : Int) (s : Spc) (a : Nat) {t : Nat} : ∀ k, t < k → (∀ u, t < u → u < k → (leadN s).getD u default ≠ (leadN s).getD t default) → prK p s a k a ((leadN s).getD t default) = -(vecF s.b t ((freeL s.n.toNat (leadN s)).getD a default)) % p
  | 0, h, _ => by omega
  | k + 1, h, hu => by
    rw [prK, updF]
    by_cases e : t = k
    · subst e; rw [if_pos ⟨rfl, rfl⟩]
    · rw [if_neg fun x => hu k (by omega) (by omega) x.2.symm]
      exact prK_lead p s a k (by omega) fun u h1 h2 => hu u h1 (by omega)
theorem prK_next {p : Int} {s : Spc} (h : isSpc p s = true) {a : Nat} (ha : a < (freeL s.n.toNat (leadN s)).length) : tab (freeL s.n.toNat (leadN s)).length s.n.toNat (prK p s a s.b.length) = tab (freeL s.n.toNat (leadN s)).length s.n.toNat (pbK p s (a + 1)) := by
  obtain ⟨he, hl⟩ := leadN_ech h
  have hln := leadN_len s
  refine tab_ext fun a' ha' c hc => ?_
  by_cases e : a' = a
  · subst e
    rw [pbK, if_pos (by omega)]
    by_cases hm : c ∈ leadN s
    · obtain ⟨t, ht, rfl⟩ := List.getElem_of_mem hm
      have e0 : (leadN s)[t] = (leadN s).getD t default := by simp [ht]
      have e1 : (leadN s)[t] = (leadN s).getD t 0 := by simp [ht]
      have h1 := prj_lead h ha' (t := t) (by omega)
      rw [← e1] at h1
      rw [h1, e0]
      refine prK_lead p s a' s.b.length (by omega) fun u h1 h2 => ?_
      have := he.inc t u h1 (by omega)
      have e2 : (leadN s).getD u default = (leadN s).getD u 0 := rfl
      have e3 : (leadN s).getD t default = (leadN s).getD t 0 := rfl
      omega
    · rw [prj_free h ha' hc hm]
      refine prK_free p s a' s.b.length fun t ht hx => hm ?_
      rw [← hx]
      have : t < (leadN s).length := by omega
      simp [this]
  · rw [prK_out p s a e]
    unfold pbK
    have : a' < a + 1 ↔ a' < a := by omega
    simp only [this]
theorem pbK_zero (p : Int) (s : Spc) : pbK p s 0 = fun _ _ => 0 := by funext a c; simp [pbK]
theorem pbK_all (p : Int) (s : Spc) : tab (freeL s.n.toNat (leadN s)).length s.n.toNat (pbK p s (freeL s.n.toNat (leadN s)).length) = tab (freeL s.n.toNat (leadN s)).length s.n.toNat (prjF p s) := tab_ext fun a ha c hc => by rw [pbK, if_pos ha]
def bkK (l : List Nat) (n : Nat) : Nat → Nat → Int := fun k a => if a < n ∧ k = l.getD a default then 1 else 0
theorem bkK_zero (l : List Nat) : bkK l 0 = fun _ _ => 0 := by funext a c; simp [bkK]
theorem bkK_set (l : List Nat) (n : Nat) : updF (bkK l n) (l.getD n default) n 1 = bkK l (n + 1) := by
  funext k a
  simp only [updF, bkK]
  by_cases e : a = n
  · subst e
    by_cases e2 : k = l.getD a default
    · rw [if_pos ⟨e2, rfl⟩, if_pos ⟨by omega, e2⟩]
    · rw [if_neg fun x => e2 x.1, if_neg fun x => e2 x.2, if_neg fun x => e2 x.2]
  · have : a < n + 1 ↔ a < n := by omega
    rw [if_neg fun x => e x.2]
    simp only [this]
theorem bkK_all (l : List Nat) (n : Nat) : tab n l.length (bkK l l.length) = tab n l.length (bakF l) := tab_ext fun k hk a ha => by simp [bkK, bakF, ha]
theorem quoD_len (s : List Spc) : (quoD s).length = s.length := by simp [quoD]
theorem quoD_get {s : List Spc} {v : Nat} (h : v < s.length) : (quoD s).getD v default = ((freeL (s.getD v default).n.toNat (leadN (s.getD v default))).length : Int) := by simp [quoD, h]
theorem quoD_take {s : List Spc} {k : Nat} (h : k < s.length) : (quoD s).take (k + 1) = (quoD s).take k ++ [((freeL (s.getD k default).n.toNat (leadN (s.getD k default))).length : Int)] := map_take (fun (x : Spc) => ((freeL x.n.toNat (leadN x)).length : Int)) h
theorem prjL_len (p : Int) (s : List Spc) : (prjL p s).length = s.length := by simp [prjL]
theorem prjL_get {p : Int} {s : List Spc} {v : Nat} (h : v < s.length) : (prjL p s).getD v default = prjM p (s.getD v default) := by simp [prjL, h]
theorem prjL_take {p : Int} {s : List Spc} {k : Nat} (h : k < s.length) : (prjL p s).take (k + 1) = (prjL p s).take k ++ [prjM p (s.getD k default)] := map_take (prjM p) h
def bakL (s : List Spc) : List Mat := s.map bakM
theorem bakL_len (s : List Spc) : (bakL s).length = s.length := by simp [bakL]
theorem bakL_get {s : List Spc} {v : Nat} (h : v < s.length) : (bakL s).getD v default = bakM (s.getD v default) := by simp [bakL, h]
theorem bakL_take {s : List Spc} {k : Nat} (h : k < s.length) : (bakL s).take (k + 1) = (bakL s).take k ++ [bakM (s.getD k default)] := map_take bakM h
theorem quoMs_len (r : Rep) (s : List Spc) : (quoMs r s).length = r.m.length := by simp [quoMs]
theorem quoMs_get (r : Rep) (s : List Spc) {i : Nat} (hi : i < r.m.length) : (quoMs r s).getD i default = quoA r s i := by simp [quoMs, hi]
def quoP (r : Rep) (s : List Spc) : Rep × List Mat × Bool := if isSub r s = true then (quoR r s, prjL r.p s, true) else (⟨0, ⟨0, [], []⟩, [], []⟩, [], false)
theorem quoD_bd {r : Rep} {s : List Spc} (h : isSub r s = true) : ∀ v, v < s.length → (freeL (s.getD v default).n.toNat (leadN (s.getD v default))).length ≤ 4 ∧ (s.getD v default).n.toNat ≤ 4 := fun v hv => by
  obtain ⟨h1, h2, h3, h4⟩ := isSub_spec h
  obtain ⟨r1, r2, r3, r4⟩ := isRep_spec h1
  obtain ⟨c1, c2, c3, _⟩ := areDims_spec r2
  obtain ⟨a1, a2⟩ := h3 v hv
  have hd : 0 ≤ r.d.getD v default ∧ r.d.getD v default ≤ 4 := allIn_spec c3 (by omega)
  have := freeL_le (s.getD v default).n.toNat (leadN (s.getD v default))
  omega
theorem quoP_ct (r : Rep) (s : List Spc) : ctR (quoP r s).1 + cnt ctM (quoP r s).2.1 ≤ 1000 := by
  unfold quoP
  by_cases h : isSub r s = true
  · rw [if_pos h]
    obtain ⟨h1, h2, h3, h4⟩ := isSub_spec h
    obtain ⟨r1, r2, r3, r4⟩ := isRep_spec h1
    obtain ⟨c1, c2, c3, _⟩ := areDims_spec r2
    have h5 := okQ_spec c1
    have hb := quoD_bd h
    have hA : cnt ctM (quoMs r s) ≤ (quoMs r s).length * 18 := cnt_bd fun x hx => by
      simp only [quoMs, List.mem_map] at hx
      obtain ⟨i, hi, rfl⟩ := hx
      have hi : i < r.m.length := by rw [List.mem_range] at hi; exact hi
      obtain ⟨m1, m2, m3, m4, m5⟩ := arrow_ok h1 hi
      have b1 := (hb (r.q.fr.getD i default).toNat (by omega)).1
      have b2 := (hb (r.q.to.getD i default).toNat (by omega)).1
      have := Nat.mul_le_mul b2 b1
      simp only [ctM, quoA, quoM, tm, tab_len]
      omega
    have hI : cnt ctM (prjL r.p s) ≤ (prjL r.p s).length * 18 := cnt_bd fun x hx => by
      simp only [prjL, List.mem_map] at hx
      obtain ⟨y, hy, rfl⟩ := hx
      obtain ⟨i, hi, rfl⟩ := List.getElem_of_mem hy
      have e : s.getD i default = s[i] := by simp [hi]
      have b := hb i hi
      rw [e] at b
      have := Nat.mul_le_mul b.1 b.2
      simp only [ctM, prjM, tm, tab_len]
      omega
    have e1 := quoMs_len r s
    have e2 := prjL_len r.p s
    have e3 := quoD_len s
    show totQ r.q + (quoD s).length + cnt ctM (quoMs r s) + cnt ctM (prjL r.p s) ≤ 1000
    unfold totQ
    omega
  · rw [if_neg h]; simp [cnt, ctR, totQ]
end Go.Proofs.YtjnhjfgcfclamaaGreat.V
