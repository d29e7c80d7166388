/- Texts that the proof needs: A130, A131, A186. -/
import Derived.Test.YtoilkinagffhiaaGreatQfeA45
import Derived.Test.YtoilkinagffhiaaGreatQfeA106
namespace Go.Proofs.YtoilkinagffhiaaGreat.V
open Go.RowKit G D
set_option linter.unusedVariables false
set_option linter.unusedSimpArgs false
set_option maxHeartbeats 1000000
set_option maxRecDepth 4000
theorem augF_bd2 {p : Int} {r c : Nat} {f : Nat → Nat → Int} {v : List Int} (hb : BdF p r c f) (hv : ∀ i, i < r → 0 ≤ v.getD i default ∧ v.getD i default ≤ p - 1) : BdF p r (c + 1) (augF c f v) := fun i hi j hj => by
 unfold augF
 split
 ·exact hb i hi j (by assumption)
 ·exact hv i hi
theorem sumN_last (h : Nat → Int) (n : Nat) : sumN h (n + 1) = sumN h n + h n := rfl
theorem sol_yes {p : Int} {r c : Nat} {f : Nat → Nat → Int} {v x : List Int} (hF : isF p = true) (hb : BdF p r c f) (hv : ∀ i, i < r → 0 ≤ v.getD i default ∧ v.getD i default ≤ p - 1) (hs : ∀ i, i < r → Cg p (dotV (f i) x c) (v.getD i default)) : (solL p r c f v).2 = true := by
 have hp := isF_pos hF
 have ha : BdF p r (c + 1) (augF c f v) := augF_bd2 hb hv
 obtain ⟨h1, h2⟩ := redK_ech hF ha (c + 1) (Nat.le_refl _)
 unfold solL
 by_cases hc : c ∈ (redK p r (augF c f v) (c + 1)).2
 ·exfalso
  obtain ⟨w, hw, hz, hn⟩ := (h1.mem hp.1 (Nat.lt_succ_self c)).1 hc
  apply hn
  obtain ⟨co, e⟩ := (h2.iff w).2 hw
  have e1 := e c (Nat.lt_succ_self c)
  have e2 : sumN (fun i => co i * augF c f v i c) r = sumN (fun i => co i * v.getD i default) r := sumN_eq _ fun i _ => by unfold augF; rw [if_neg (Nat.lt_irrefl c)]
  rw [e2] at e1
  have e3 : Cg p (sumN (fun i => co i * v.getD i default) r) (sumN (fun i => co i * dotV (f i) x c) r) := sumN_cg _ fun i hi => (Cg.refl _).mul (hs i hi).symm
  refine e1.trans (e3.trans ?_)
  rw [← dotV_comb]
  unfold dotV
  have e4 : Cg p (sumN (fun j => sumN (fun i => co i * f i j) r * x.getD j default) c) (sumN (fun j => 0) c) := sumN_cg _ fun j hj => by
   have e5 := (e j (by omega)).symm.trans (hz j hj)
   have e6 : sumN (fun i => co i * augF c f v i j) r = sumN (fun i => co i * f i j) r := sumN_eq _ fun i _ => by unfold augF; rw [if_pos hj]
   rw [e6] at e5
   have := e5.mul (Cg.refl (x.getD j default))
   rwa [Int.zero_mul] at this
  rwa [sumN_zero c fun _ _ => rfl] at e4
 ·rw [if_neg hc]
theorem solV_gt {c : Nat} {g : Nat → Nat → Int} {piv : List Nat} (hl : ∀ i, i < piv.length → piv.getD i 0 < c) (hi : ∀ i j, i < j → j < piv.length → piv.getD i 0 < piv.getD j 0) : ∀ n, n ≤ piv.length → ∀ j, j < c → (solV c g piv n).getD j default = sumN (fun i => (if piv.getD i 0 = j then 1 else 0) * g i c) n
 | 0, _, j, hj => by simp [solV, sumN, hj]
 | n + 1, hn, j, hj => by
  have ih := solV_gt (g := g) hl hi n (by omega)
  rw [solV, sumN_last]
  by_cases e : piv.getD n 0 = j
  ·rw [if_pos e, Int.one_mul, ← e, set_get (by rw [solV_len]; exact hl n (by omega))]
   have : sumN (fun i => (if piv.getD i 0 = piv.getD n 0 then 1 else 0) * g i c) n = 0 := sumN_zero _ fun i hin => by
    rw [if_neg (by have := hi i n hin (by omega); omega), Int.zero_mul]
   rw [this, Int.zero_add]
  ·rw [if_neg e, Int.zero_mul, Int.add_zero, set_ne e]
   exact ih j hj
theorem sol_ok {p : Int} {r c : Nat} {f : Nat → Nat → Int} {v : List Int} (hF : isF p = true) (hb : BdF p r c f) (hv : ∀ i, i < r → 0 ≤ v.getD i default ∧ v.getD i default ≤ p - 1) (h : (solL p r c f v).2 = true) : ∀ i, i < r → Cg p (dotV (f i) (solL p r c f v).1 c) (v.getD i default) := by
 have ha : BdF p r (c + 1) (augF c f v) := augF_bd2 hb hv
 obtain ⟨h1, h2⟩ := redK_ech hF ha (c + 1) (Nat.le_refl _)
 unfold solL at h ⊢
 by_cases hc : c ∈ (redK p r (augF c f v) (c + 1)).2
 ·rw [if_pos hc] at h; cases h
 ·rw [if_neg hc]
  generalize hg : (redK p r (augF c f v) (c + 1)).1 = g at h1 h2
  generalize hpv : (redK p r (augF c f v) (c + 1)).2 = piv at h1 hc
  have hl : ∀ i, i < piv.length → piv.getD i 0 < c := fun i hi => by
   have := h1.lt i hi
   have hne : piv.getD i 0 ≠ c := fun e => hc (by rw [← e]; simp [hi])
   omega
  intro i hi
  show Cg p (dotV (f i) (solV c g piv piv.length) c) _
  have hx := fun j hj => solV_gt (g := g) hl h1.inc piv.length (Nat.le_refl _) j hj
  have hrow : ∀ k, k < r → Cg p (sumN (fun j => g k j * (solV c g piv piv.length).getD j default) c) (g k c) := fun k hk => by
   rw [sumN_eq (g := fun j => sumN (fun t => g k j * ((if piv.getD t 0 = j then 1 else 0) * g t c)) piv.length) _ fun j hj => by rw [hx j hj, sumN_mul], sumN_swap]
   have e1 : ∀ t, t < piv.length → sumN (fun j => g k j * ((if piv.getD t 0 = j then 1 else 0) * g t c)) c = (if t = k then 1 else 0) * g t c := fun t ht => by
    rw [sumN_eq (g := fun j => (if j = piv.getD t 0 then 1 else 0) * (g k j * g t c)) _ fun j _ => by
     by_cases e : piv.getD t 0 = j
     ·rw [if_pos e, if_pos e.symm]; rw [Int.one_mul, Int.one_mul]
     ·rw [if_neg e, if_neg (fun x => e x.symm), Int.zero_mul, Int.zero_mul, Int.mul_zero], sumN_one, if_pos (hl t ht)]
    by_cases hk2 : k < piv.length
    ·rw [h1.one k hk2 t ht]
     by_cases e : k = t
     ·rw [if_pos e, if_pos e.symm]
     ·rw [if_neg e, if_neg (fun x => e x.symm)]
    ·rw [h1.low k (by omega) hk _ (by have := hl t ht; omega), if_neg (by omega), Int.zero_mul]
   rw [sumN_eq _ e1, sumN_one]
   by_cases hk2 : k < piv.length
   ·rw [if_pos hk2]; exact .refl _
   ·rw [if_neg hk2, h1.low k (by omega) hk c (Nat.lt_succ_self c)]; exact .refl _
  obtain ⟨co, e⟩ := h2.1 i hi
  have e1 := e c (Nat.lt_succ_self c)
  have e2 : augF c f v i c = v.getD i default := by unfold augF; rw [if_neg (Nat.lt_irrefl c)]
  rw [e2] at e1
  refine Cg.trans ?_ e1.symm
  have e3 : Cg p (dotV (f i) (solV c g piv piv.length) c) (dotV (fun j => sumN (fun k => co k * g k j) r) (solV c g piv piv.length) c) := dotV_cg fun j hj => by
   have := e j (by omega)
   have e4 : augF c f v i j = f i j := by unfold augF; rw [if_pos hj]
   rwa [e4] at this
  refine e3.trans ?_
  rw [dotV_comb]
  exact sumN_cg _ fun k hk => (Cg.refl _).mul (hrow k hk)
theorem rank_le {p : Int} {r c : Nat} {f : Nat → Nat → Int} (hF : isF p = true) (hb : BdF p r c f) : (redK p c (fun j i => f i j) r).2.length ≤ (redK p r f c).2.length := by
 have hp := isF_pos hF
 have h1 := span_cols hF hb
 have h2 : BdF p (pivC r f (redK p r f c).2).length r (vecF (pivC r f (redK p r f c).2)) := fun i hi j hj => by
  rw [pivC_len] at hi
  have hlt := (redK_ech hF hb c (Nat.le_refl _)).1.lt i hi
  unfold vecF
  rw [pivC_get r f hi, rowL_get _ hj]
  exact hb j hj _ hlt
 have h3 := (spanB_le (p := p) (by omega) h2).1
 have h4 : (spanL p r (pivC r f (redK p r f c).2)).length = (spanB p (pivC r f (redK p r f c).2).length r (vecF (pivC r f (redK p r f c).2))).length := rfl
 rw [← h4, h1, pivC_len] at h3
 have h5 : (spanL p r (rowsL c r fun k i => f i k)).length = (redK p (rowsL c r fun k i => f i k).length (vecF (rowsL c r fun k i => f i k)) r).2.length := spanB_len ..
 rw [h5, rowsL_len] at h3
 have h6 : BdF p c r (vecF (rowsL c r fun k i => f i k)) := fun i hi j hj => by
  unfold vecF
  rw [rowsL_get _ _ hi, rowL_get _ hj]
  exact hb j hj i hi
 have h7 : BdF p c r (fun j i => f i j) := fun i hi j hj => hb j hj i hi
 have h8 : SS p c c r (vecF (rowsL c r fun k i => f i k)) (fun j i => f i j) := by
  have e : ∀ i, i < c → ∀ j, j < r → vecF (rowsL c r fun k i => f i k) i j = f j i := fun i hi j hj => by
   unfold vecF
   rw [rowsL_get _ _ hi, rowL_get _ hj]
  refine ⟨fun i hi => (Sp.row (f := fun j i => f i j) hi).cg fun j hj => by rw [e i hi j hj]; exact .refl _, fun i hi => (Sp.row (f := vecF (rowsL c r fun k i => f i k)) hi).cg fun j hj => by rw [e i hi j hj]; exact .refl _⟩
 have h9 := (redK_uniq hF h6 h7 h8).1
 rw [h9] at h3
 exact h3
theorem rank_tr {p : Int} {r c : Nat} {f : Nat → Nat → Int} (hF : isF p = true) (hb : BdF p r c f) : (redK p c (fun j i => f i j) r).2.length = (redK p r f c).2.length := by
 have h1 := rank_le hF hb
 have h2 := rank_le hF (r := c) (c := r) (f := fun j i => f i j) (fun i hi j hj => hb j hj i hi)
 exact Nat.le_antisymm h1 h2
theorem pivT_len {a b : Rep} (h : fitR a b = true) : (pivT a b).length = rkE a b := by
 have hp := isF_pos (Fits.of h).f
 exact rank_tr (Fits.of h).f (eqM_bd (a := a) (b := b) (by omega))
theorem ext_len {a b : Rep} (h : fitR a b = true) : (((extP a b).1.length : Nat) : Int) = extD a b := by
 have hf := (Fits.of h).f
 have hp := isF_pos hf
 have h1 := redK_ech hf (eqT_bd (a := a) (b := b) (by omega)) (szA a b a.q.fr.length) (Nat.le_refl _)
 have h2 := freeL_len (c := szA a b a.q.fr.length) (piv := pivT a b) h1.1.pw fun x hx => by
  obtain ⟨i, hi, e⟩ := List.getElem_of_mem hx
  have := h1.1.lt i hi
  have e2 : (pivT a b).getD i 0 = x := by simp [hi, e]
  rw [← e2]; exact this
 have h3 := pivT_len h
 unfold extP extD
 rw [if_pos h, if_pos h]
 show (((extK a b (szA a b a.q.fr.length)).length : Nat) : Int) = _
 rw [extK_len]
 omega
theorem cutM_ok {a b : Rep} (h : fitR a b = true) {x : List Int} (hl : x.length = szA a b a.q.fr.length) (hb : ∀ y ∈ x, 0 ≤ y ∧ y ≤ a.p - 1) {i : Nat} (hi : i < a.q.fr.length) : isMat a.p (cutM a b x i) = true := by
 have hh := Fits.of h
 have h5 := okQ_spec hh.ok
 have hda := hh.da
 have hdb := hh.db
 have hp := isF_pos hh.f
 have f : 0 ≤ a.q.fr.getD i default ∧ a.q.fr.getD i default < a.q.n := okQ_fr hh.ok (by omega)
 have t : 0 ≤ a.q.to.getD i default ∧ a.q.to.getD i default < a.q.n := okQ_to hh.ok (by omega)
 have df := hh.ba (a.q.fr.getD i default).toNat (by omega)
 have dt := hh.bb (a.q.to.getD i default).toNat (by omega)
 obtain ⟨e1, e2⟩ := mul44 dt df
 have hm := szA_mono a b (show i + 1 ≤ a.q.fr.length by omega)
 have hs : szA a b (i + 1) = szA a b i + (b.d.getD (a.q.to.getD i default).toNat default).toNat * (a.d.getD (a.q.fr.getD i default).toNat default).toNat := rfl
 have hlen : (cutM a b x i).m.length = (b.d.getD (a.q.to.getD i default).toNat default).toNat * (a.d.getD (a.q.fr.getD i default).toNat default).toNat := by
  show ((x.take (szA a b (i + 1))).drop (szA a b i)).length = _
  rw [List.length_drop, List.length_take]
  omega
 have hn := Nat.mul_le_mul (show (b.d.getD (a.q.to.getD i default).toNat default).toNat ≤ 4 by omega) (show (a.d.getD (a.q.fr.getD i default).toNat default).toNat ≤ 4 by omega)
 simp only [isMat, isVec, Bool.and_eq_true, decide_eq_true_eq]
 refine ⟨⟨⟨?_, ?_⟩, ?_⟩, ⟨hh.f, by rw [hlen]; omega⟩, allIn_all fun j hj => ?_⟩
 ·show 0 ≤ b.d.getD (a.q.to.getD i default).toNat default ∧ b.d.getD (a.q.to.getD i default).toNat default ≤ 8
  omega
 ·show 0 ≤ a.d.getD (a.q.fr.getD i default).toNat default ∧ a.d.getD (a.q.fr.getD i default).toNat default ≤ 8
  omega
 ·rw [hlen]
  show _ = b.d.getD (a.q.to.getD i default).toNat default * a.d.getD (a.q.fr.getD i default).toNat default
  omega
 ·have hm2 : (cutM a b x i).m.getD j default ∈ (cutM a b x i).m := gm hj
  exact hb _ (List.mem_of_mem_take (List.mem_of_mem_drop hm2))
theorem cutL_coc {a b : Rep} (h : fitR a b = true) {x : List Int} (hl : x.length = szA a b a.q.fr.length) (hb : ∀ y ∈ x, 0 ≤ y ∧ y ≤ a.p - 1) : isCoc a b (cutL a b x) = true := by
 have hma := (Fits.of h).ma
 simp only [isCoc, fitC, Bool.and_eq_true, decide_eq_true_eq, List.all_eq_true]
 have hlen : (cutL a b x).length = a.q.fr.length := by simp [cutL]
 refine ⟨⟨h, by omega⟩, fun i hi => ?_⟩
 rw [List.mem_range, hlen] at hi
 have e : (cutL a b x).getD i default = cutM a b x i := by simp [cutL, hi]
 rw [e]
 exact ⟨⟨cutM_ok h hl hb hi, rfl⟩, rfl⟩
theorem ext_get {a b : Rep} (h : fitR a b = true) {k : Nat} (hk : k < (extP a b).1.length) : ∃ j, j < szA a b a.q.fr.length ∧ j ∉ pivT a b ∧ (extP a b).1.getD k default = cutL a b (unitL (szA a b a.q.fr.length) j) := by
 have e : (extP a b).1 = (freeL (szA a b a.q.fr.length) (pivT a b)).map fun j => cutL a b (unitL (szA a b a.q.fr.length) j) := by unfold extP; rw [if_pos h]; rfl
 rw [e] at hk ⊢
 rw [List.length_map] at hk
 have hm := freeL_lt (c := szA a b a.q.fr.length) (piv := pivT a b) _ (List.getElem_mem hk)
 exact ⟨_, hm.1, hm.2, by simp [hk]⟩
theorem ext_coc {a b : Rep} (h : fitR a b = true) {k : Nat} (hk : k < (extP a b).1.length) : isCoc a b ((extP a b).1.getD k default) = true := by
 obtain ⟨j, h1, h2, e⟩ := ext_get h hk
 have hp := isF_pos (Fits.of h).f
 rw [e]
 exact cutL_coc h (unitL_len _ _) fun y hy => unitL_mem hp.1 y hy
theorem ext_ncob {a b : Rep} (h : fitR a b = true) {k : Nat} (hk : k < (extP a b).1.length) : isCob a b ((extP a b).1.getD k default) = false := by
 obtain ⟨j, h1, h2, e⟩ := ext_get h hk
 have hf := (Fits.of h).f
 have hp := isF_pos hf
 have hc := ext_coc h hk
 rw [e] at hc ⊢
 have hcl := unitL_len (szA a b a.q.fr.length) j
 have hcat := catM_cutL (a := a) (b := b) hcl
 unfold isCob
 rw [hc, Bool.true_and, hcat]
 cases hs : (solL a.p (szA a b a.q.fr.length) (szT a b a.d.length) (ent (eqM a b)) (unitL (szA a b a.q.fr.length) j)).2 with
 | false => rfl
 | true =>
  exfalso
  have hv : ∀ i, i < szA a b a.q.fr.length → 0 ≤ (unitL (szA a b a.q.fr.length) j).getD i default ∧ (unitL (szA a b a.q.fr.length) j).getD i default ≤ a.p - 1 := fun i hi => by
   rw [unitL_get hi]; split <;> omega
  have hsol := sol_ok hf (eqM_bd (a := a) (b := b) (by omega)) hv hs
  generalize (solL a.p (szA a b a.q.fr.length) (szT a b a.d.length) (ent (eqM a b)) (unitL (szA a b a.q.fr.length) j)).1 = x at hsol
  have hsp : Sp a.p (szT a b a.d.length) (szA a b a.q.fr.length) (eqT a b) (fun i => (unitL (szA a b a.q.fr.length) j).getD i default) := ⟨fun t => x.getD t default, fun i hi => by
   refine (hsol i hi).symm.trans ?_
   unfold dotV
   rw [sumN_eq (g := fun t => x.getD t default * eqT a b t i) _ fun t _ => by rw [Int.mul_comm]; rfl]
   exact .refl _⟩
  obtain ⟨g1, g2⟩ := redK_ech hf (eqT_bd (a := a) (b := b) (by omega)) (szA a b a.q.fr.length) (Nat.le_refl _)
  have hz := g1.zero ((g2.iff _).1 hsp) (fun i hi => by
   have hlt := g1.lt i hi
   show Cg a.p ((unitL (szA a b a.q.fr.length) j).getD ((redK a.p (szT a b a.d.length) (eqT a b) (szA a b a.q.fr.length)).2.getD i 0) default) 0
   rw [unitL_get hlt, if_neg (fun e => h2 (by
    rw [← e]
    show (redK a.p (szT a b a.d.length) (eqT a b) (szA a b a.q.fr.length)).2.getD i 0 ∈ pivT a b
    unfold pivT
    simp [hi]))]
   exact .refl _) j h1
  rw [unitL_get h1, if_pos rfl] at hz
  have := hz.eq ⟨by omega, by omega⟩ ⟨by omega, by omega⟩
  omega
theorem cob_at {a b : Rep} {f : List Mat} (h : areM a b f = true) {i : Nat} (hi : i < a.q.fr.length) : (cobL a b f).getD i default = plusM a.p (arX a b f i) (a.p - 1) (arY a b f i) := by simp [cobL, hi]
theorem cob_cob {a b : Rep} {f : List Mat} (h : areM a b f = true) : isCob a b (cobL a b f) = true := by
 have hfit := (areM_spec h).1
 have hf := (Fits.of hfit).f
 have hp := isF_pos hf
 have hcut := cob_cut h
 generalize hx : tab (szA a b a.q.fr.length) 1 (mulF a.p (ent (eqM a b)) (ent (colM a b f)) (szT a b a.d.length)) = x at hcut
 have hxl : x.length = szA a b a.q.fr.length := by rw [← hx, tab_len, Nat.mul_one]
 have hxg : ∀ i, i < szA a b a.q.fr.length → x.getD i default = dotK (ent (eqM a b)) (ent (colM a b f)) i 0 (szT a b a.d.length) % a.p := fun i hi => by
  have := tab_get (mulF a.p (ent (eqM a b)) (ent (colM a b f)) (szT a b a.d.length)) hi (show 0 < 1 by omega)
  rw [Nat.mul_one, Nat.add_zero] at this
  rw [← hx, this]
  rfl
 have hxb : ∀ i, i < szA a b a.q.fr.length → 0 ≤ x.getD i default ∧ x.getD i default ≤ a.p - 1 := fun i hi => by
  rw [hxg i hi]
  have h1 := Int.emod_nonneg (dotK (ent (eqM a b)) (ent (colM a b f)) i 0 (szT a b a.d.length)) (show a.p ≠ 0 by omega)
  have h2 := Int.emod_lt_of_pos (dotK (ent (eqM a b)) (ent (colM a b f)) i 0 (szT a b a.d.length)) (show 0 < a.p by omega)
  omega
 have hxm : ∀ y ∈ x, 0 ≤ y ∧ y ≤ a.p - 1 := fun y hy => by
  obtain ⟨i, hi, e⟩ := List.getElem_of_mem hy
  have := hxb i (by omega)
  have e2 : x.getD i default = y := by simp [hi, e]
  rwa [e2] at this
 rw [← hcut]
 have hcoc := cutL_coc hfit hxl hxm
 have hcat := catM_cutL (a := a) (b := b) hxl
 unfold isCob
 rw [hcoc, Bool.true_and, hcat]
 refine sol_yes (x := catM f) hf (eqM_bd (a := a) (b := b) (by omega)) hxb fun i hi => ?_
 rw [hxg i hi, dotK_sum]
 refine Cg.trans ?_ (Cg.mod ..).symm
 unfold dotV
 rw [sumN_eq (g := fun k => ent (eqM a b) i k * ent (colM a b f) k 0) _ fun k hk => by
  have : ent (colM a b f) k 0 = (catM f).getD k default := by
   show (catM f).getD (k * (1 : Int).toNat + 0) default = _
   simp
  rw [this]]
 exact .refl _
theorem cob_mor {a b : Rep} {f : List Mat} (h : isMor a b f = true) {i : Nat} (hi : i < a.q.fr.length) : ∀ j, j < ((cobL a b f).getD i default).m.length → ((cobL a b f).getD i default).m.getD j default = 0 := by
 have hA := ArF.of (isMor_are h) hi
 have hsm : sameM (arX a b f i) (arY a b f i) = true := by
  simp only [isMor, Bool.and_eq_true, List.all_eq_true] at h
  exact h.2 i (by simpa using hi)
 have hX : isMat a.p (arX a b f i) = true := isMat_mul hA.mb hA.ff
 have hY : isMat a.p (arY a b f i) = true := isMat_mul hA.ft hA.ma
 obtain ⟨x1, x2⟩ := mulM_rc hA.mb hA.ff
 obtain ⟨y1, y2⟩ := mulM_rc hA.ft hA.ma
 have hz := cob_zero hX hY (by rw [show (arX a b f i).r = _ from x1, show (arY a b f i).r = _ from y1]; exact hA.rr) (by rw [show (arX a b f i).c = _ from x2, show (arY a b f i).c = _ from y2]; exact hA.cc)
 rw [hsm] at hz
 intro j hj
 rw [cob_at (isMor_are h) hi] at hj ⊢
 simp only [isZ, List.all_eq_true, decide_eq_true_eq] at hz
 exact hz _ (gm hj)
theorem extP_fit {a b : Rep} (h : (extP a b).2 = true) : fitR a b = true := by
 unfold extP at h
 split at h
 ·assumption
 ·cases h
theorem extP_pos {a b : Rep} {k : Nat} (h : k < (extP a b).1.length) : fitR a b = true := by
 unfold extP at h
 split at h
 ·assumption
 ·simp at h
theorem ext_num {a b : Rep} (h : (extP a b).2 = true) : ((extP a b).1.length : Int) = extD a b := ext_len (extP_fit h)
theorem ext_each {a b : Rep} {k : Nat} (h : k < (extP a b).1.length) : isCoc a b ((extP a b).1.getD k default) = true ∧ isCob a b ((extP a b).1.getD k default) = false := ⟨ext_coc (extP_pos h) h, ext_ncob (extP_pos h) h⟩
theorem extP_le (a b : Rep) : (extP a b).1.length ≤ 96 := by
 by_cases h : fitR a b = true
 ·have h1 := ext_len h
  have h2 := rkE_le a b h
  unfold extD at h1
  rw [if_pos h] at h1
  omega
 ·unfold extP
  rw [if_neg h]
  simp
theorem cobP_are {a b : Rep} {f : List Mat} (h : (cobP a b f).2 = true) : areM a b f = true := by
 unfold cobP at h
 split at h
 ·assumption
 ·cases h
theorem cobP_cob {a b : Rep} {f : List Mat} (h : (cobP a b f).2 = true) : isCob a b (cobP a b f).1 = true := by
 have h2 := cobP_are h
 unfold cobP
 rw [if_pos h2]
 exact cob_cob h2
theorem cobP_le (a b : Rep) (f : List Mat) : (cobP a b f).1.length ≤ 6 := by
 unfold cobP
 split
 ·rename_i h
  have h3 := cob_cob h
  have h4 : isCoc a b (cobL a b f) = true := by
   unfold isCob at h3
   rw [Bool.and_eq_true] at h3
   exact h3.1
  have h5 := okQ_spec (Fits.of (isCoc_spec h4).1).ok
  rw [cobL_len]
  omega
 ·simp
theorem sum_zero : ∀ {l : List Int}, (∀ j, j < l.length → l.getD j default = 0) → l.sum = 0
 | [], _ => rfl
 | x :: l, h => by
  have h0 := h 0 (by simp)
  have h1 := sum_zero (l := l) fun j hj => by have := h (j + 1) (by simp; omega); simpa using this
  rw [List.sum_cons, h1]
  simpa using h0
theorem cobP_zero {a b : Rep} {f : List Mat} (h : (cobP a b f).2 = true) (hm : isMor a b f = true) {i : Nat} (hi : i < (cobP a b f).1.length) : ((cobP a b f).1.getD i default).m.length ≤ 64 ∧ (∀ j, j < ((cobP a b f).1.getD i default).m.length → ((cobP a b f).1.getD i default).m.getD j default = 0) ∧ ((cobP a b f).1.getD i default).m.sum = 0 := by
 have h2 := cobP_are h
 have h3 := cobP_cob h
 have h4 : isCoc a b (cobP a b f).1 = true := by
  unfold isCob at h3
  rw [Bool.and_eq_true] at h3
  exact h3.1
 obtain ⟨_, g2, g3⟩ := isCoc_spec h4
 obtain ⟨_, m1, m2, m3, _⟩ := isMat_spec (g3 i hi).1
 have hz : ∀ j, j < ((cobP a b f).1.getD i default).m.length → ((cobP a b f).1.getD i default).m.getD j default = 0 := by
  unfold cobP at hi ⊢
  rw [if_pos h2] at hi ⊢
  dsimp only at hi ⊢
  rw [cobL_len] at hi
  exact cob_mor hm hi
 refine ⟨?_, hz, sum_zero hz⟩
 have : ((cobP a b f).1.getD i default).r * ((cobP a b f).1.getD i default).c ≤ 8 * 8 := Int.mul_le_mul m1.2 m2.2 m2.1 (by omega)
 omega
end Go.Proofs.YtoilkinagffhiaaGreat.V
