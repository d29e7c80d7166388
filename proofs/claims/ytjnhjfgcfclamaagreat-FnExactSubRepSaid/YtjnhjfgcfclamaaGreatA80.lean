/- The representation of a part, plain. No program is walked. -/
import Derived.Test.YtjnhjfgcfclamaaGreatA78
import Derived.Test.YtjnhjfgcfclamaaGreatC1
import Derived.Test.YtjnhjfgcfclamaaGreatA64
namespace Go.Proofs.YtjnhjfgcfclamaaGreat.V
open Go.RowKit G D
set_option linter.unusedVariables false
set_option linter.unusedSimpArgs false
set_option maxHeartbeats 1000000
set_option maxRecDepth 4000

def subF (p : Int) (m : Mat) (a b : Spc) : Nat → Nat → Int := fun i j => (appV p m (a.b.getD j default)).getD (leadV (b.b.getD i default)).toNat default
def subM (p : Int) (m : Mat) (a b : Spc) : Mat := tm b.b.length a.b.length (subF p m a b)
def subA (r : Rep) (s : List Spc) (i : Nat) : Mat := subM r.p (r.m.getD i default) (s.getD (r.q.fr.getD i default).toNat default) (s.getD (r.q.to.getD i default).toNat default)
def subMs (r : Rep) (s : List Spc) : List Mat := (List.range r.m.length).map (subA r s)
theorem subMs_len (r : Rep) (s : List Spc) : (subMs r s).length = r.m.length := by simp [subMs]
theorem subMs_get (r : Rep) (s : List Spc) {i : Nat} (hi : i < r.m.length) : (subMs r s).getD i default = subA r s i := by simp [subMs, hi]
def subR (r : Rep) (s : List Spc) : Rep := ⟨r.p, r.q, dimS s, subMs r s⟩
/-- the matrix that carries a part into all -/
def incM (s : Spc) : Mat := tm s.n.toNat s.b.length (fcF s.b)
def incL (s : List Spc) : List Mat := s.map incM
theorem incL_len (s : List Spc) : (incL s).length = s.length := by simp [incL]
theorem incL_take {s : List Spc} {k : Nat} (h : k < s.length) : (incL s).take (k + 1) = (incL s).take k ++ [incM (s.getD k default)] := by
  have e : s.getD k default = s[k] := by simp [h]
  rw [incL, List.take_succ_eq_append_getElem (by simpa using h), e]
  simp
theorem dimS_get {s : List Spc} {v : Nat} (h : v < s.length) : (dimS s).getD v default = ((s.getD v default).b.length : Int) := by simp [dimS, h]
theorem isSpc_le {p : Int} {s : Spc} (h : isSpc p s = true) : s.b.length ≤ s.n.toNat := by
  obtain ⟨h1, h2, h3, h4⟩ := isSpc_spec h
  have hp := isF_pos h1
  simp only [isSpc, Bool.and_eq_true, decide_eq_true_eq] at h
  have := (spanB_le (show 0 < p by omega) h4.bd).2
  rw [show spanB p s.b.length s.n.toNat (vecF s.b) = s.b from h.2] at this
  exact this
/-- where the leading ones are -/
theorem lead_lt {p : Int} {s : Spc} (h : isSpc p s = true) {i : Nat} (hi : i < s.b.length) : 0 ≤ leadV (s.b.getD i default) ∧ (leadV (s.b.getD i default)).toNat < s.n.toNat := by
  obtain ⟨h1, h2, h3, h4⟩ := isSpc_spec h
  obtain ⟨piv, e, l⟩ := isSpc_ech h
  rw [e.lead_at l h4 hi]
  have := e.lt i (by omega)
  exact ⟨by omega, by rw [Int.toNat_natCast]; exact this⟩
theorem sum_le : ∀ {a b : List Int}, a.length = b.length → (∀ j, j < a.length → a.getD j default ≤ b.getD j default) → a.sum ≤ b.sum
  | [], [], _, _ => by simp
  | x :: a, y :: b, hl, h => by
    have h1 := h 0 (by simp)
    have h2 := sum_le (a := a) (b := b) (by simpa using hl) fun j hj => by simpa using h (j + 1) (by simpa using hj)
    simp only [List.getD_cons_zero] at h1
    simp only [List.sum_cons]
    omega
theorem sum_eq_of : ∀ {a b : List Int}, a.length = b.length → (∀ j, j < a.length → a.getD j default ≤ b.getD j default) → a.sum = b.sum → a = b
  | [], [], _, _, _ => rfl
  | x :: a, y :: b, hl, h, he => by
    have h1 := h 0 (by simp)
    have hh : ∀ j, j < a.length → a.getD j default ≤ b.getD j default := fun j hj => by simpa using h (j + 1) (by simpa using hj)
    have h2 := sum_le (a := a) (b := b) (by simpa using hl) hh
    simp only [List.getD_cons_zero] at h1
    simp only [List.sum_cons] at he
    have : x = y := by omega
    subst this
    rw [sum_eq_of (by simpa using hl) hh (by omega)]
theorem sub_dims {r : Rep} {s : List Spc} (h : isSub r s = true) : (dimS s).length = r.d.length ∧ (∀ v, v < r.d.length → 0 ≤ (dimS s).getD v default ∧ (dimS s).getD v default ≤ r.d.getD v default) ∧ (dimS s).sum ≤ r.d.sum ∧ ∀ v, v < r.d.length → (dimS s).getD v default ≤ 4 := by
  obtain ⟨h1, h2, h3, h4⟩ := isSub_spec h
  obtain ⟨r1, r2, r3, r4⟩ := isRep_spec h1
  obtain ⟨c1, c2, c3, _⟩ := areDims_spec r2
  have hl := dimS_len s
  have key : ∀ v, v < r.d.length → 0 ≤ (dimS s).getD v default ∧ (dimS s).getD v default ≤ r.d.getD v default := fun v hv => by
    obtain ⟨a1, a2⟩ := h3 v (by omega)
    have hd : 0 ≤ r.d.getD v default ∧ r.d.getD v default ≤ 4 := allIn_spec c3 hv
    have := isSpc_le a1
    rw [dimS_get (by omega)]
    omega
  refine ⟨by omega, key, sum_le (by omega) fun j hj => (key j (by omega)).2, fun v hv => ?_⟩
  have hd : 0 ≤ r.d.getD v default ∧ r.d.getD v default ≤ 4 := allIn_spec c3 hv
  have := key v hv
  omega
theorem subA_ok {r : Rep} {s : List Spc} (h : isSub r s = true) {i : Nat} (hi : i < r.m.length) : isMat r.p (subA r s i) = true := by
  obtain ⟨h1, h2, h3, h4⟩ := isSub_spec h
  obtain ⟨r1, r2, r3, r4⟩ := isRep_spec h1
  obtain ⟨m1, m2, m3, m4, m5⟩ := arrow_ok h1 hi
  have hp := isF_pos r1
  obtain ⟨f1, f2⟩ := h3 _ (show (r.q.fr.getD i default).toNat < s.length by omega)
  obtain ⟨t1, t2⟩ := h3 _ (show (r.q.to.getD i default).toNat < s.length by omega)
  have e1 := isSpc_le f1
  have e2 := isSpc_le t1
  have n1 := (isSpc_spec f1).2.1
  have n2 := (isSpc_spec t1).2.1
  refine isMat_tab r1 (by omega) (by omega) fun a ha b hb => ?_
  have := lead_lt t1 ha
  rw [t2, ← m5] at this
  exact appV_bd (by omega) _ _ this.2
theorem subR_ok {r : Rep} {s : List Spc} (h : isSub r s = true) : isRep (subR r s) = true := by
  obtain ⟨h1, h2, h3, h4⟩ := isSub_spec h
  obtain ⟨r1, r2, r3, r4⟩ := isRep_spec h1
  obtain ⟨c1, c2, c3, c4⟩ := areDims_spec r2
  obtain ⟨d1, d2, d3, d4⟩ := sub_dims h
  have hA : areDims (subR r s).q (subR r s).d = true := by
    simp only [areDims, Bool.and_eq_true, decide_eq_true_eq]
    refine ⟨⟨⟨c1, ?_⟩, allIn_all fun j hj => ?_⟩, ?_⟩
    · show ((dimS s).length : Int) = r.q.n
      omega
    · have hj : j < (dimS s).length := hj
      exact ⟨(d2 j (by omega)).1, d4 j (by omega)⟩
    · show (dimS s).sum ≤ 8
      omega
  have hml : (subR r s).m.length = r.m.length := subMs_len r s
  simp only [isRep, Bool.and_eq_true, decide_eq_true_eq, List.all_eq_true]
  refine ⟨⟨⟨r1, hA⟩, by show (subR r s).m.length = r.q.fr.length; omega⟩, fun i hi => ?_⟩
  have hi : i < r.m.length := by rw [List.mem_range] at hi; omega
  obtain ⟨m1, m2, m3, m4, m5⟩ := arrow_ok h1 hi
  simp only [fitM, Bool.and_eq_true, decide_eq_true_eq]
  have e : (subR r s).m.getD i default = subA r s i := subMs_get r s hi
  rw [e]
  refine ⟨⟨subA_ok h hi, ?_⟩, ?_⟩
  · show ((s.getD (r.q.fr.getD i default).toNat default).b.length : Int) = (dimS s).getD (r.q.fr.getD i default).toNat default
    rw [dimS_get (by omega)]
  · show ((s.getD (r.q.to.getD i default).toNat default).b.length : Int) = (dimS s).getD (r.q.to.getD i default).toNat default
    rw [dimS_get (by omega)]
/-! ### a part that is all -/
theorem full_b {p : Int} {s : Spc} (h : isSpc p s = true) (hl : s.b.length = s.n.toNat) : s.b = rowsL s.n.toNat s.n.toNat idF ∧ ∀ i, i < s.b.length → leadV (s.b.getD i default) = i := by
  obtain ⟨h1, h2, h3, h4⟩ := isSpc_spec h
  obtain ⟨piv, e, l⟩ := isSpc_ech h
  have hpv : piv = List.range s.n.toNat := inc_sub e.pw List.pairwise_lt_range (fun x hx => by
    obtain ⟨i, hi, ex⟩ := List.getElem_of_mem hx
    have := e.lt i hi
    simp [hi] at this
    simp; omega) (by simp; omega)
  have hg : ∀ i, i < s.b.length → piv.getD i 0 = i := fun i hi => by
    rw [hpv]; simp [show i < s.n.toNat by omega]
  constructor
  · apply List.ext_getElem (by rw [rowsL_len]; exact hl)
    intro i h1 h2
    have hi := (h4 _ (List.getElem_mem h1)).1
    have hrow := rowL_of hi
    rw [← hrow]
    simp only [rowsL, List.getElem_map, List.getElem_range]
    refine rowL_ext fun j hj => ?_
    have := e.one i (by omega) j (by omega)
    rw [hg j (by omega)] at this
    have e2 : vecF s.b i j = (s.b[i]).getD j default := by unfold vecF; simp [h1]
    rw [← e2, this]; rfl
  · intro i hi
    rw [e.lead_at l h4 hi, hg i hi]
theorem appV_unit {p : Int} {m : Mat} (h : isMat p m = true) {i j : Nat} (hi : i < m.r.toNat) (hj : j < m.c.toNat) : (appV p m (rowL m.c.toNat (idF j))).getD i default = ent m i j := by
  rw [appV_get p m _ hi]
  have e : sumN (fun k => ent m i k * (rowL m.c.toNat (idF j)).getD k default) m.c.toNat = ent m i j := by
    rw [sumN_eq (g := fun k => (if k = j then 1 else 0) * ent m i k) _ fun k hk => by
      rw [rowL_get _ hk, Int.mul_comm]
      unfold idF
      by_cases e : j = k
      · subst e; rfl
      · rw [if_neg e, if_neg (fun h => e h.symm)], sumN_one, if_pos hj]
  rw [e]
  have := ent_bd h i hi j hj
  exact Int.emod_eq_of_lt this.1 (by omega)
theorem subR_full {r : Rep} {s : List Spc} (h : isSub r s = true) (hd : dimS s = r.d) : subR r s = r := by
  obtain ⟨h1, h2, h3, h4⟩ := isSub_spec h
  have key : ∀ v, v < s.length → isSpc r.p (s.getD v default) = true ∧ (s.getD v default).n = r.d.getD v default ∧ (s.getD v default).b.length = (s.getD v default).n.toNat := fun v hv => by
    obtain ⟨a1, a2⟩ := h3 v hv
    have := dimS_get hv
    rw [hd] at this
    exact ⟨a1, a2, by omega⟩
  have hm : subMs r s = r.m := by
    apply List.ext_getElem (subMs_len r s)
    intro i g1 g2
    obtain ⟨m1, m2, m3, m4, m5⟩ := arrow_ok h1 g2
    obtain ⟨f1, f2, f3⟩ := key _ (show (r.q.fr.getD i default).toNat < s.length by omega)
    obtain ⟨t1, t2, t3⟩ := key _ (show (r.q.to.getD i default).toNat < s.length by omega)
    have e1 : (subMs r s)[i] = subA r s i := by simp [subMs]
    have e2 : r.m[i] = r.m.getD i default := by simp [g2]
    rw [e1, e2]
    unfold subA
    generalize s.getD (r.q.fr.getD i default).toNat default = A at *
    generalize s.getD (r.q.to.getD i default).toNat default = B at *
    generalize r.m.getD i default = M at *
    have hA : A.b.length = M.c.toNat := by rw [f3, f2, m4]
    have hB : B.b.length = M.r.toNat := by rw [t3, t2, m5]
    unfold subM
    rw [hA, hB]
    have hmt := isMat_tm m1
    conv => rhs; rw [← hmt]
    unfold tm
    congr 1
    refine tab_ext fun a ha b hb => ?_
    unfold subF
    obtain ⟨x1, x2⟩ := full_b f1 f3
    obtain ⟨y1, y2⟩ := full_b t1 t3
    rw [y2 a (by omega), Int.toNat_natCast]
    have : A.b.getD b default = rowL M.c.toNat (idF b) := by
      rw [x1, rowsL_get _ _ (by omega), ← f3, hA]
    rw [this]
    exact appV_unit m1 ha hb
  unfold subR
  rw [hm, hd]
end Go.Proofs.YtjnhjfgcfclamaaGreat.V
