/- Texts that the proof needs: A70, A78. -/
import Derived.Test.YtbcfbcfiahmncaaGreatQduA51
namespace Go.Proofs.YtbcfbcfiahmncaaGreat.V
open Go.RowKit G D
set_option linter.unusedVariables false
set_option linter.unusedSimpArgs false
set_option maxHeartbeats 1000000
set_option maxRecDepth 4000
theorem map_take {α β : Type} [Inhabited α] (f : α → β) {l : List α} {k : Nat} (h : k < l.length) : (l.map f).take (k + 1) = (l.map f).take k ++ [f (l.getD k default)] := by
 have e : l.getD k default = l[k] := by simp [h]
 rw [List.take_succ_eq_append_getElem (by simpa using h), e]
 simp
theorem idx_skip {α : Type} [Inhabited α] (q : α → Bool) (l : List α) : ∀ k, k ≤ l.length → (∀ j, j < k → q (l.getD j default) = false) → idxFrom q l 0 = idxFrom q (l.drop k) k
 | 0, _, _ => rfl
 | k + 1, hk, h => by
  rw [idx_skip q l k (by omega) fun j hj => h j (by omega), idxFrom_drop q l (by omega), h k (by omega)]
  rfl
def leadV (v : List Int) : Int := idxFrom (fun x => decide (x ≠ 0)) v 0
theorem leadV_at {v : List Int} {k : Nat} (hk : k < v.length) (h0 : ∀ j, j < k → v.getD j default = 0) (h1 : v.getD k default ≠ 0) : leadV v = k := by
 unfold leadV
 rw [idx_skip _ v k (by omega) fun j hj => (by show decide (v.getD j default ≠ 0) = false; rw [h0 j hj]; rfl), idxFrom_drop _ v hk, decide_eq_true h1]
 rfl
theorem leadV_none {v : List Int} (h0 : ∀ j, j < v.length → v.getD j default = 0) : leadV v = -1 := by
 unfold leadV
 rw [idx_skip _ v v.length (Nat.le_refl _) fun j hj => (by show decide (v.getD j default ≠ 0) = false; rw [h0 j hj]; rfl), List.drop_length]
 rfl
theorem leadV_neg {v : List Int} (h : leadV v < 0) : ∀ j, j < v.length → v.getD j default = 0 := by
 unfold leadV at h
 have h2 := idxFrom_any (fun x => decide (x ≠ 0)) v 0
 rw [decide_eq_false (by omega)] at h2
 intro j hj
 have h3 := (List.any_eq_false.1 h2.symm) _ (gm (d := default) hj)
 simpa using h3
def rstK (p : Int) (b : List (List Int)) (v : List Int) : Nat → List Int
 | 0 => v
 | n + 1 => addK p (p - (rstK p b v n).getD (leadV (b.getD n default)).toNat default) 0 (b.getD n default) (rstK p b v n) (b.getD n default).length
theorem rstK_len (p : Int) (b : List (List Int)) (v : List Int) : ∀ n, (rstK p b v n).length = v.length
 | 0 => rfl
 | n + 1 => by rw [rstK, addK_len, rstK_len p b v n]
theorem addK_get0 (p k : Int) (b xs : List Int) {t n : Nat} (ht : t < xs.length) (hn : t < n) : (addK p k 0 b xs n).getD t default = (xs.getD t default + k * b.getD t default) % p := by
 simp only [addK, List.getD_eq_getElem?_getD, List.getElem?_map, List.getElem?_range ht, Option.map_some, Option.getD_some]
 rw [if_pos (by omega)]
 rfl
def hasV (p : Int) (s : Spc) (v : List Int) : Bool := decide (leadV (rstK p s.b v s.b.length) < 0)
theorem Ech.tr {r n : Nat} {g f : Nat → Nat → Int} {piv : List Nat} {m : Nat} (h : Ech m n g piv) (hl : piv.length = r) (e : ∀ i, i < r → ∀ j, j < n → f i j = g i j) : Ech r n f piv := by
 refine ⟨by omega, h.lt, h.inc, fun i hi j hj => ?_, fun i h1 h2 => by omega, fun i hi j hj => ?_⟩
 ·rw [e i (by omega) _ (h.lt j hj)]; exact h.one i hi j hj
 ·have := h.lt i hi
  rw [e i (by omega) j (by omega)]; exact h.lead i hi j hj
theorem isSpc_ech {p : Int} {s : Spc} (h : isSpc p s = true) : ∃ piv, Ech s.b.length s.n.toNat (vecF s.b) piv ∧ piv.length = s.b.length := by
 obtain ⟨h1, h2, h3, h4⟩ := isSpc_spec h
 have hp := isF_pos h1
 simp only [isSpc, Bool.and_eq_true, decide_eq_true_eq] at h
 have h5 := h.2
 obtain ⟨e1, e2⟩ := redK_ech h1 h4.bd s.n.toNat (Nat.le_refl _)
 have hl := spanB_len p s.b.length s.n.toNat (vecF s.b)
 rw [show spanB p s.b.length s.n.toNat (vecF s.b) = s.b from h5] at hl
 refine ⟨_, e1.tr hl.symm fun i hi j hj => ?_, hl.symm⟩
 have : vecF (spanB p s.b.length s.n.toNat (vecF s.b)) i j = (redK p s.b.length (vecF s.b) s.n.toNat).1 i j := vecF_rows (by omega) hj
 rwa [show spanB p s.b.length s.n.toNat (vecF s.b) = s.b from h5] at this
theorem span_ss {p : Int} {r n : Nat} {f : Nat → Nat → Int} (hF : isF p = true) (hb : BdF p r n f) : SS p (spanB p r n f).length r n (vecF (spanB p r n f)) f := by
 obtain ⟨h1, h2⟩ := redK_ech hF hb n (Nat.le_refl _)
 have hle := h1.le
 refine SS.trans (s := r) (g := (redK p r f n).1) ?_ h2.symm
 have hl := spanB_len p r n f
 constructor
 ·intro i hi
  rw [hl] at hi
  refine (Sp.row (show i < r by omega)).cg fun j hj => ?_
  rw [spanB, vecF_rows hi hj]; exact .refl _
 ·intro i hi
  by_cases e : i < (redK p r f n).2.length
  ·refine (Sp.row (show i < (spanB p r n f).length by omega)).cg fun j hj => ?_
   rw [spanB, vecF_rows e hj]; exact .refl _
  ·refine Sp.zero.cg fun j hj => ?_
   rw [h1.low i (by omega) hi j hj]; exact .refl _
theorem Ech.lead_at {p : Int} {n : Nat} {b : List (List Int)} {piv : List Nat} (h : Ech b.length n (vecF b) piv) (hl : piv.length = b.length) (hv : VecB p n b) {i : Nat} (hi : i < b.length) : leadV (b.getD i default) = (piv.getD i 0 : Nat) := by
 have h1 := (hv _ (gm (d := default) hi)).1
 have h2 := h.lt i (by omega)
 refine leadV_at (by omega) (fun j hj => h.lead i (by omega) j hj) ?_
 have := h.one i (by omega) i (by omega)
 rw [if_pos rfl] at this
 show vecF b i (piv.getD i 0) ≠ 0
 omega
theorem rstK_spec {p : Int} {n : Nat} {b : List (List Int)} {piv : List Nat} (hp : 2 ≤ p) (h : Ech b.length n (vecF b) piv) (hl : piv.length = b.length) (hv : VecB p n b) {v : List Int} (hn : v.length = n) (hb : ∀ j, j < n → 0 ≤ v.getD j default ∧ v.getD j default ≤ p - 1) :
  ∀ m, m ≤ b.length → (∀ j, j < n → 0 ≤ (rstK p b v m).getD j default ∧ (rstK p b v m).getD j default ≤ p - 1) ∧ (∀ i, i < m → (rstK p b v m).getD (piv.getD i 0) default = 0) ∧ Sp p b.length n (vecF b) (fun j => v.getD j default + (-1) * (rstK p b v m).getD j default)
 | 0, _ => ⟨hb, fun i hi => absurd hi (by omega), Sp.zero.cg fun j _ => by show Cg p (v.getD j default + -1 * v.getD j default) 0; exact ⟨0, by omega⟩⟩
 | m + 1, hm => by
  obtain ⟨h1, h2, h3⟩ := rstK_spec hp h hl hv hn hb m (by omega)
  have hln := rstK_len p b v m
  have hbl := (hv _ (gm (d := default) (show m < b.length by omega))).1
  have hlead := h.lead_at hl hv (i := m) (by omega)
  have hpm := h.lt m (by omega)
  have e : ∀ j, j < n → (rstK p b v (m + 1)).getD j default = ((rstK p b v m).getD j default + (p - (rstK p b v m).getD (piv.getD m 0) default) * vecF b m j) % p := fun j hj => by
   rw [rstK, hlead, Int.toNat_natCast, addK_get0 _ _ _ _ (by omega) (by omega)]
   rfl
  refine ⟨fun j hj => by rw [e j hj]; exact mod_bd (by omega), fun i hi => ?_, ?_⟩
  ·have hi2 := h.lt i (by omega)
   rw [e _ hi2, h.one m (by omega) i (by omega)]
   by_cases em : i = m
   ·subst em
    rw [if_pos rfl, Int.mul_one, show (rstK p b v i).getD (piv.getD i 0) default + (p - (rstK p b v i).getD (piv.getD i 0) default) = p by omega, Int.emod_self]
   ·rw [if_neg (by omega), Int.mul_zero, Int.add_zero, h2 i (by omega)]; rfl
  ·refine (h3.add ((Sp.row (show m < b.length by omega)).smul (-(p - (rstK p b v m).getD (piv.getD m 0) default)))).cg fun j hj => ?_
   try dsimp only
   rw [e j hj]
   generalize (rstK p b v m).getD j default = x
   generalize p - (rstK p b v m).getD (piv.getD m 0) default = k
   generalize vecF b m j = y
   have := Cg.mod p (x + k * y)
   refine ((Cg.refl (v.getD j default)).add ((Cg.refl (-1)).mul this)).trans ⟨0, ?_⟩
   grind
theorem hasV_iff {p : Int} {s : Spc} (h : isSpc p s = true) {v : List Int} (hn : v.length = s.n.toNat) (hb : ∀ j, j < s.n.toNat → 0 ≤ v.getD j default ∧ v.getD j default ≤ p - 1) : hasV p s v = true ↔ Sp p s.b.length s.n.toNat (vecF s.b) (fun j => v.getD j default) := by
 obtain ⟨h1, h2, h3, h4⟩ := isSpc_spec h
 have hp := isF_pos h1
 obtain ⟨piv, he, hl⟩ := isSpc_ech h
 obtain ⟨r1, r2, r3⟩ := rstK_spec (by omega) he hl h4 hn hb s.b.length (Nat.le_refl _)
 have hln := rstK_len p s.b v s.b.length
 unfold hasV
 rw [decide_eq_true_eq]
 constructor
 ·intro hneg
  have hz := leadV_neg hneg
  refine r3.cg fun j hj => ?_
  try dsimp only
  rw [hz j (by omega)]
  exact ⟨0, by omega⟩
 ·intro hs
  have hd : Sp p s.b.length s.n.toNat (vecF s.b) (fun j => (rstK p s.b v s.b.length).getD j default) := (hs.add (r3.smul (-1))).cg fun j _ => ⟨0, by omega⟩
  have hz := he.zero hd fun i hi => by
   try dsimp only
   rw [r2 i (by omega)]; exact .refl _
  have := leadV_none (v := rstK p s.b v s.b.length) fun j hj => (hz j (by omega)).eq (r1 j (by omega)) ⟨by omega, by omega⟩
  omega
theorem inc_sub {a b : List Nat} (ha : a.Pairwise (· < ·)) (hb : b.Pairwise (· < ·)) (h : ∀ x ∈ a, x ∈ b) (hl : b.length ≤ a.length) : a = b := by
 have e : a = b.filter (fun x => decide (x ∈ a)) := inc_ext ha (hb.filter _) fun x => by
  simp only [List.mem_filter, decide_eq_true_eq]
  exact ⟨fun hx => ⟨h x hx, hx⟩, fun hx => hx.2⟩
 have s : a.Sublist b := by
  have := List.filter_sublist (l := b) (p := fun x => decide (x ∈ a))
  rwa [← e] at this
 exact s.eq_of_length_le hl
theorem Ech.full {p : Int} {r s c : Nat} {g g' : Nat → Nat → Int} {piv piv' : List Nat} (hp : 2 ≤ p) (h : Ech r c g piv) (h' : Ech s c g' piv') (hs : ∀ i, i < r → Sp p s c g' (g i)) (hl : piv.length = piv'.length) : ∀ i, i < s → Sp p r c g (g' i) := by
 have e : piv = piv' := inc_sub h.pw h'.pw (fun k hk => by
  have hkc : k < c := by
   obtain ⟨i, hi, e⟩ := List.getElem_of_mem hk
   have := h.lt i hi; simp [hi] at this; omega
  obtain ⟨v, h1, h2⟩ := (h.mem hp hkc).mp hk
  exact (h'.mem hp hkc).mpr ⟨v, h1.sub hs, h2⟩) (by omega)
 subst e
 intro i hi
 by_cases e : i < piv.length
 ·have hr := h.le
  have h1 : Sp p s c g' fun j => g i j + (-1) * g' i j := (hs i (by omega)).add ((Sp.row hi).smul (-1))
  have h2 := h'.zero h1 fun t ht => by
   show Cg p (g i _ + (-1) * g' i _) 0
   rw [h.one i e t ht, h'.one i e t ht]
   split <;> exact ⟨0, by omega⟩
  refine (Sp.row (show i < r by omega)).cg fun j hj => ?_
  have := (h2 j hj).add (Cg.refl (g' i j))
  rw [Int.zero_add, show g i j + -1 * g' i j + g' i j = g i j by omega] at this
  exact this.symm
 ·exact Sp.zero.cg fun j hj => by rw [h'.low i (by omega) hi j hj]; exact .refl _
theorem vecF_app_l {x y : List (List Int)} {i : Nat} (h : i < x.length) (j : Nat) : vecF (x ++ y) i j = vecF x i j := by
 unfold vecF; simp [List.getElem?_append_left h]
theorem vecF_app_r (x y : List (List Int)) (i j : Nat) : vecF (x ++ y) (x.length + i) j = vecF y i j := by
 unfold vecF; simp [List.getElem?_append_right]
def inS (p : Int) (a b : Spc) : Bool := a.b.all (hasV p b)
theorem inS_iff {p : Int} {a b : Spc} (ha : isSpc p a = true) (hb : isSpc p b = true) (hn : b.n = a.n) : inS p a b = true ↔ ∀ i, i < a.b.length → Sp p b.b.length b.n.toNat (vecF b.b) (vecF a.b i) := by
 obtain ⟨h1, h2, h3, h4⟩ := isSpc_spec ha
 unfold inS
 rw [List.all_eq_true]
 constructor
 ·intro h i hi
  have hv := h4 _ (gm (d := default) hi)
  exact (hasV_iff hb (by rw [hn]; exact hv.1) (by rw [hn]; exact hv.2)).mp (h _ (gm (d := default) hi))
 ·intro h x hx
  obtain ⟨i, hi, rfl⟩ := List.getElem_of_mem hx
  have hv := h4 _ hx
  refine (hasV_iff hb (by rw [hn]; exact hv.1) (by rw [hn]; exact hv.2)).mpr ((h i hi).cg fun j _ => ?_)
  have e : vecF a.b i j = (a.b[i]).getD j default := by unfold vecF; simp [hi]
  rw [e]; exact .refl _
theorem within_eq {p : Int} {a b : Spc} (ha : isSpc p a = true) (hb : isSpc p b = true) (hn : b.n = a.n) : decide ((addS p a b).b.length = b.b.length) = inS p a b := by
 obtain ⟨h1, h2, h3, h4⟩ := isSpc_spec ha
 obtain ⟨_, _, g3, g4⟩ := isSpc_spec hb
 have hp := isF_pos h1
 rw [hn] at g4
 have hv := h4.app g4
 have hss := span_ss h1 hv.bd
 rw [Bool.eq_iff_iff, decide_eq_true_eq, inS_iff ha hb hn, hn]
 constructor
 ·intro hl i hi
  obtain ⟨pa, ea, la⟩ := isSpc_ech (addS_ok ha hb hn)
  obtain ⟨pb, eb, lb⟩ := isSpc_ech hb
  rw [hn] at eb
  have hsub : ∀ i, i < b.b.length → Sp p (addS p a b).b.length a.n.toNat (vecF (addS p a b).b) (vecF b.b i) := fun i hi =>
   ((hss.2 (a.b.length + i) (by rw [List.length_append]; omega)).cg fun j _ => by rw [vecF_app_r]; exact .refl _)
  have hfull := eb.full (by omega) ea hsub (by omega)
  have hA : Sp p (addS p a b).b.length a.n.toNat (vecF (addS p a b).b) (vecF a.b i) :=
   ((hss.2 i (by rw [List.length_append]; omega)).cg fun j _ => by rw [vecF_app_l hi]; exact .refl _)
  exact hA.sub hfull
 ·intro h
  have hS : SS p (a.b ++ b.b).length b.b.length a.n.toNat (vecF (a.b ++ b.b)) (vecF b.b) := by
   constructor
   ·intro i hi
    by_cases e : i < a.b.length
    ·exact (h i e).cg fun j _ => by rw [vecF_app_l e]; exact .refl _
    ·rw [List.length_append] at hi
     refine (Sp.row (show i - a.b.length < b.b.length by omega)).cg fun j _ => ?_
     have := vecF_app_r a.b b.b (i - a.b.length) j
     rw [show a.b.length + (i - a.b.length) = i by omega] at this
     rw [this]; exact .refl _
   ·intro i hi
    refine (Sp.row (show a.b.length + i < (a.b ++ b.b).length by rw [List.length_append]; omega)).cg fun j _ => ?_
    rw [vecF_app_r]; exact .refl _
  have e := spanB_uniq h1 hv.bd g4.bd hS
  have e2 : spanL p b.n.toNat b.b = b.b := by
   simp only [isSpc, Bool.and_eq_true, decide_eq_true_eq] at hb
   exact hb.2
  rw [hn] at e2
  show (spanL p a.n.toNat (a.b ++ b.b)).length = _
  rw [show spanL p a.n.toNat (a.b ++ b.b) = spanL p a.n.toNat b.b from e, e2]
def appV (p : Int) (m : Mat) (v : List Int) : List Int := rowL m.r.toNat fun i => sumN (fun k => ent m i k * v.getD k default) m.c.toNat % p
theorem appV_len (p : Int) (m : Mat) (v : List Int) : (appV p m v).length = m.r.toNat := rowL_len ..
theorem appV_bd {p : Int} (hp : 0 < p) (m : Mat) (v : List Int) {j : Nat} (hj : j < m.r.toNat) : 0 ≤ (appV p m v).getD j default ∧ (appV p m v).getD j default ≤ p - 1 := by
 unfold appV; rw [rowL_get _ hj]; exact mod_bd hp
theorem dotK_sum (f g : Nat → Nat → Int) (i c : Nat) : ∀ n, dotK f g i c n = sumN (fun k => f i k * g k c) n
 | 0 => rfl
 | n + 1 => by rw [dotK, sumN, dotK_sum f g i c n]
theorem tab_one (r : Nat) (f : Nat → Nat → Int) : tab r 1 f = rowL r fun i => f i 0 := by
 simp [tab, rowL, Nat.mod_one]
def imgL (p : Int) (m : Mat) (s : Spc) : List (List Int) := s.b.map (appV p m)
theorem imgL_len (p : Int) (m : Mat) (s : Spc) : (imgL p m s).length = s.b.length := by simp [imgL]
theorem imgL_vec {p : Int} (hp : 0 < p) (m : Mat) (s : Spc) : VecB p m.r.toNat (imgL p m s) := fun x hx => by
 simp only [imgL, List.mem_map] at hx
 obtain ⟨v, _, rfl⟩ := hx
 exact ⟨appV_len .., fun j hj => appV_bd hp m v hj⟩
theorem imgL_take (p : Int) (m : Mat) (s : Spc) {i : Nat} (hi : i < s.b.length) : (imgL p m s).take (i + 1) = (imgL p m s).take i ++ [appV p m (s.b.getD i default)] := by
 have e : s.b.getD i default = s.b[i] := by simp [hi]
 rw [imgL, List.take_succ_eq_append_getElem (by simpa using hi), e]
 simp
def imgSp (p : Int) (m : Mat) (s : Spc) : Spc := ⟨m.r, spanL p m.r.toNat (imgL p m s)⟩
theorem imgSp_ok {p : Int} {m : Mat} (h : isMat p m = true) (s : Spc) : isSpc p (imgSp p m s) = true := by
 obtain ⟨h0, h1, h2, h3, h4⟩ := isMat_spec h
 have hp := isF_pos h0
 have := isSpc_span h0 (show m.r.toNat ≤ 8 by omega) (imgL_vec (show 0 < p by omega) m s).bd
 rw [Int.toNat_of_nonneg h1.1] at this
 exact this
def spcAt (r : Rep) (s : List Spc) (v : Nat) : Bool := isSpc r.p (s.getD v default) && decide ((s.getD v default).n = r.d.getD v default)
def subAt (r : Rep) (s : List Spc) (i : Nat) : Bool := inS r.p (imgSp r.p (r.m.getD i default) (s.getD (r.q.fr.getD i default).toNat default)) (s.getD (r.q.to.getD i default).toNat default)
def isSub (r : Rep) (s : List Spc) : Bool := isRep r && (decide (s.length = r.d.length) && ((List.range s.length).all (spcAt r s) && (List.range r.m.length).all (subAt r s)))
theorem isSub_spec {r : Rep} {s : List Spc} (h : isSub r s = true) : isRep r = true ∧ s.length = r.d.length ∧ (∀ v, v < s.length → isSpc r.p (s.getD v default) = true ∧ (s.getD v default).n = r.d.getD v default) ∧ ∀ i, i < r.m.length → subAt r s i = true := by
 simp only [isSub, Bool.and_eq_true, decide_eq_true_eq, List.all_eq_true] at h
 obtain ⟨h1, h2, h3, h4⟩ := h
 refine ⟨h1, h2, fun v hv => ?_, fun i hi => h4 i (by simpa using hi)⟩
 have := h3 v (by simpa using hv)
 simpa [spcAt] using this
theorem sumN_swap (h : Nat → Nat → Int) (n : Nat) : ∀ m, sumN (fun i => sumN (fun j => h i j) n) m = sumN (fun j => sumN (fun i => h i j) m) n
 | 0 => by
  rw [sumN_zero (h := fun j => sumN (fun i => h i j) 0) n fun j _ => rfl]; rfl
 | m + 1 => by
  rw [sumN, sumN_swap h n m]
  exact (sumN_add (fun j => sumN (fun i => h i j) m) (fun j => h m j) n).symm
theorem appV_get (p : Int) (m : Mat) (v : List Int) {j : Nat} (hj : j < m.r.toNat) : (appV p m v).getD j default = sumN (fun k => ent m j k * v.getD k default) m.c.toNat % p := by
 unfold appV; rw [rowL_get _ hj]
theorem vecF_map {p : Int} {m : Mat} {b : List (List Int)} {i : Nat} (hi : i < b.length) (j : Nat) : vecF (b.map (appV p m)) i j = (appV p m (b.getD i default)).getD j default := by
 unfold vecF; simp [hi]
theorem appV_sp {p : Int} {m : Mat} {b : List (List Int)} {v : List Int} (h : Sp p b.length m.c.toNat (vecF b) (fun j => v.getD j default)) : Sp p b.length m.r.toNat (vecF (b.map (appV p m))) (fun j => (appV p m v).getD j default) := by
 obtain ⟨co, e⟩ := h
 refine ⟨co, fun j hj => ?_⟩
 dsimp only
 rw [appV_get p m v hj]
 refine (Cg.mod _ _).trans ((sumN_cg (g := fun k => ent m j k * sumN (fun i => co i * vecF b i k) b.length) _ fun k hk => (Cg.refl _).mul (e k hk)).trans ?_)
 rw [sumN_eq (g := fun k => sumN (fun i => ent m j k * (co i * vecF b i k)) b.length) _ fun k _ => (sumN_mul _ _ _).symm, sumN_swap]
 refine sumN_cg _ fun i hi => ?_
 rw [vecF_map hi, appV_get p m _ hj, sumN_eq (g := fun k => co i * (ent m j k * vecF b i k)) _ fun k _ => by rw [← Int.mul_assoc, ← Int.mul_assoc, Int.mul_comm (ent m j k)], sumN_mul]
 exact (Cg.refl _).mul (Cg.mod _ _).symm
theorem appV_cols {p : Int} {m : Mat} (v : List Int) : Sp p m.c.toNat m.r.toNat (vecF (rowsL m.c.toNat m.r.toNat fun k i => ent m i k)) (fun j => (appV p m v).getD j default) := by
 refine ⟨fun k => v.getD k default, fun j hj => ?_⟩
 dsimp only
 rw [appV_get p m v hj]
 refine (Cg.mod _ _).trans ?_
 rw [sumN_eq (g := fun k => v.getD k default * vecF (rowsL m.c.toNat m.r.toNat fun k i => ent m i k) k j) _ fun k hk => by rw [vecF_rows hk hj, Int.mul_comm]]
 exact .refl _
theorem imgW_iff {p : Int} {m : Mat} {s T : Spc} (hm : isMat p m = true) (hT : isSpc p T = true) (hn : T.n = m.r) : inS p (imgSp p m s) T = true ↔ ∀ i, i < s.b.length → Sp p T.b.length T.n.toNat (vecF T.b) (fun j => (appV p m (s.b.getD i default)).getD j default) := by
 obtain ⟨h0, h1, h2, h3, h4⟩ := isMat_spec hm
 have hp := isF_pos h0
 have hv := imgL_vec (show 0 < p by omega) m s
 have hss : SS p (imgSp p m s).b.length s.b.length m.r.toNat (vecF (imgSp p m s).b) (vecF (imgL p m s)) := by
  have := span_ss h0 hv.bd
  rw [imgL_len] at this
  show SS p (spanL p m.r.toNat (imgL p m s)).length _ _ (vecF (spanL p m.r.toNat (imgL p m s))) _
  unfold spanL
  rw [imgL_len]
  exact this
 rw [inS_iff (imgSp_ok hm s) hT hn, hn]
 constructor
 ·intro h i hi
  refine ((hss.2 i hi).sub h).cg fun j _ => ?_
  unfold imgL
  rw [vecF_map hi]; exact .refl _
 ·intro h i hi
  refine (hss.1 i hi).sub fun t ht => (h t ht).cg fun j _ => ?_
  unfold imgL
  rw [vecF_map ht]; exact .refl _
theorem arrow_ok {r : Rep} (h : isRep r = true) {i : Nat} (hi : i < r.m.length) : isMat r.p (r.m.getD i default) = true ∧ (0 ≤ r.q.fr.getD i default ∧ (r.q.fr.getD i default).toNat < r.d.length) ∧ (0 ≤ r.q.to.getD i default ∧ (r.q.to.getD i default).toNat < r.d.length) ∧ (r.m.getD i default).c = r.d.getD (r.q.fr.getD i default).toNat default ∧ (r.m.getD i default).r = r.d.getD (r.q.to.getD i default).toNat default := by
 obtain ⟨h1, h2, h3, h4⟩ := isRep_spec h
 obtain ⟨c1, c2, c3, _⟩ := areDims_spec h2
 have f : 0 ≤ r.q.fr.getD i default ∧ r.q.fr.getD i default < r.q.n := okQ_fr c1 (by omega)
 have t : 0 ≤ r.q.to.getD i default ∧ r.q.to.getD i default < r.q.n := okQ_to c1 (by omega)
 have hm := h4 i hi
 simp only [fitM, Bool.and_eq_true, decide_eq_true_eq] at hm
 exact ⟨hm.1.1, ⟨f.1, by omega⟩, ⟨t.1, by omega⟩, hm.1.2, hm.2⟩
theorem isSub_mk {r : Rep} {s : List Spc} (h1 : isRep r = true) (h2 : s.length = r.d.length) (h3 : ∀ v, v < s.length → isSpc r.p (s.getD v default) = true ∧ (s.getD v default).n = r.d.getD v default) (h4 : ∀ i, i < r.m.length → subAt r s i = true) : isSub r s = true := by
 simp only [isSub, Bool.and_eq_true, decide_eq_true_eq, List.all_eq_true]
 refine ⟨h1, h2, fun v hv => ?_, fun i hi => h4 i (by simpa using hi)⟩
 have := h3 v (by simpa using hv)
 simpa [spcAt] using this
theorem isSub_img {r : Rep} {s : List Spc} (h : isSub r s = true) {i : Nat} (hi : i < r.m.length) {j : Nat} (hj : j < (s.getD (r.q.fr.getD i default).toNat default).b.length) : Sp r.p (s.getD (r.q.to.getD i default).toNat default).b.length (r.m.getD i default).r.toNat (vecF (s.getD (r.q.to.getD i default).toNat default).b) (fun t => (appV r.p (r.m.getD i default) ((s.getD (r.q.fr.getD i default).toNat default).b.getD j default)).getD t default) := by
 obtain ⟨h1, h2, h3, h4⟩ := isSub_spec h
 obtain ⟨m1, m2, m3, m4, m5⟩ := arrow_ok h1 hi
 have hT := h3 (r.q.to.getD i default).toNat (by omega)
 have hn : (s.getD (r.q.to.getD i default).toNat default).n = (r.m.getD i default).r := by rw [hT.2, m5]
 have := (imgW_iff m1 hT.1 hn).mp (h4 i hi) j hj
 rwa [hn] at this
end Go.Proofs.YtbcfbcfiahmncaaGreat.V
