/- Texts that the proof needs: C1, A64, A80, A87. -/
import Derived.Test.YtbcfbcfiahmncaaGreatQduB8
import Derived.Test.YtbcfbcfiahmncaaGreatQduA78
namespace Go.Proofs.YtbcfbcfiahmncaaGreat.V
open Go.RowKit G D
set_option linter.unusedVariables false
set_option linter.unusedSimpArgs false
set_option maxHeartbeats 4000000
set_option maxRecDepth 4000
attribute [local irreducible] AW ARg ARA ARet MRet ASil AC AM
theorem l12Zero_a (r : Rep) (h : r.d.length ≤ 1000) : AC Tryz.prog 150 [.agg (enc false r)] [.dt true 2 (E true (radK r 0))] := by
 refine AC.go Tryz.func150 Tryz.ntmps150 rfl rfl fun w0 hw => ?_; simp [WfL, WfA, E_length, Enc.enc, In64] at hw
 unfold radK
 repeat' first | refine s1 ?_ | fail
 refine AW.open 3 2 (.inr rfl) ?_
 refine F.loop (σ := Nat) [3, 4, 6, 7, 8, 9, 10, 11, 12, 13, 14, 15, 16, 17, 18, 19, 20, 21, 22] (fun k => [(3, .sl 1 k 0 k), (4, .i k)]) (fun k => [(1, .live false 2 (E true ((r.d.take k).map fun d => (⟨d, []⟩ : Spc))))]) (fun k => k ≤ r.d.length) (fun k => r.d.length - k) 0 ⟨rfl, rfl, trivial⟩ ⟨rfl, trivial⟩ (Nat.zero_le _) ?_
 rintro k k1
 have hp : ((r.d.take k).map fun d => (⟨d, []⟩ : Spc)).length = k := by simp; omega
 by_cases hk : k < r.d.length
 ·have hts := zeroS_take hk
  generalize (r.d.take k).map (fun d => (⟨d, []⟩ : Spc)) = X at hts hp ⊢
  repeat' first | refine s1 ?_ | (refine kR ?_; first | refine F.a1 Spc (a := ⟨r.d.getD k default, []⟩) ?_ (hmv := .at1 rfl (.em 1 .nil))) | fail
  exact ⟨k + 1, F.fit ⟨rfl, rfl, trivial⟩ ⟨obE (by rw [hts]), trivial⟩, by omega, by omega⟩
 ·obtain rfl : k = r.d.length := by omega
  rw [List.take_length]
  have hml : (r.d.map fun d => (⟨d, []⟩ : Spc)).length = r.d.length := by simp
  rw [← hml]
  repeat' first | refine s1 ?_ | fail
  (refine kZ ?_; exact F.ret rfl)
theorem matImg_a {p : Int} {m : Mat} (h : isMat p m = true) : AC Tryz.prog 185 [.i p, .agg (enc false m)] [.dt true 1 (E true (pivC m.r.toNat (ent m) (redK p m.r.toNat (ent m) m.c.toNat).2))] := by
 obtain ⟨h0, h1, h2, h3, h4⟩ := isMat_spec h
 have := l4Image_a p m.r.toNat m.c.toNat (ent m) h0 (by omega) (by omega) (ent_bd h)
 rw [isMat_tm h] at this
 exact this
theorem pivC_vec {p : Int} {m : Mat} (h : isMat p m = true) : VecB p m.r.toNat (pivC m.r.toNat (ent m) (redK p m.r.toNat (ent m) m.c.toNat).2) ∧ (pivC m.r.toNat (ent m) (redK p m.r.toNat (ent m) m.c.toNat).2).length ≤ 8 := by
 obtain ⟨h0, h1, h2, h3, h4⟩ := isMat_spec h
 have hp := isF_pos h0
 obtain ⟨b1, b2, b3, b4⟩ := redK_bd (show 0 < p by omega) (ent_bd h) m.c.toNat
 refine ⟨fun x hx => ?_, by rw [pivC_len]; omega⟩
 simp only [pivC, List.mem_map] at hx
 obtain ⟨k, hk, rfl⟩ := hx
 exact ⟨rowL_len .., fun j hj => by rw [rowL_get _ hj]; exact ent_bd h j hj k (b4 k hk)⟩
theorem imgL5_a {p : Int} {m : Mat} (h : isMat p m = true) : AC Tryz.prog 184 [.i p, .i m.r, ar false (pivC m.r.toNat (ent m) (redK p m.r.toNat (ent m) m.c.toNat).2)] [.agg (enc true (imgS p m))] := by
 obtain ⟨h0, h1, h2, h3, h4⟩ := isMat_spec h
 obtain ⟨v1, v2⟩ := pivC_vec h
 have := l5Span_a p m.r.toNat _ h0 (by omega) (by omega) v1
 rw [span_cols h0 (ent_bd h), Int.toNat_of_nonneg h1.1] at this
 exact this
def dimS (l : List Spc) : List Int := l.map fun s => (s.b.length : Int)
theorem dimS_take {l : List Spc} {k : Nat} (h : k < l.length) : dimS (l.take (k + 1)) = dimS (l.take k) ++ [((l.getD k default).b.length : Int)] := by
 have e : l.getD k default = l[k] := by simp [h]
 rw [dimS, List.take_succ_eq_append_getElem h, List.map_append, e]
 rfl
theorem dimS_len (l : List Spc) : (dimS l).length = l.length := by simp [dimS]
theorem subDims_a (l : List Spc) (hl : l.length ≤ 1000) (hb : ∀ i, i < l.length → (l.getD i default).b.length ≤ 1000) : AC Tryz.prog 133 [ar false l] [.dt true 1 (E true (dimS l))] := by
 refine AC.go Tryz.func133 Tryz.ntmps133 rfl rfl fun w0 hw => ?_; simp [WfL, WfA, E_length, Enc.enc, In64] at hw
 repeat' first | refine s1 ?_ | fail
 refine AW.open 3 1 (.inl rfl) ?_
 refine F.loop (σ := Nat) [3, 5, 8, 9, 10, 11, 12, 13, 14, 15, 16, 17, 18] (fun k => [(3, .sl 0 k 0 k), (8, .i k)]) (fun k => [(0, .live false 1 (E true (dimS (l.take k))))]) (fun k => k ≤ l.length) (fun k => l.length - k) 0 ⟨rfl, rfl, trivial⟩ ⟨rfl, trivial⟩ (Nat.zero_le _) ?_
 rintro k k1
 have hp : (dimS (l.take k)).length = k := by rw [dimS_len, List.length_take]; omega
 by_cases hk : k < l.length
 ·have hts := dimS_take hk
  have hbk := hb k hk
  generalize dimS (l.take k) = X at hts hp ⊢
  repeat' first | refine s1 ?_ | (refine kR ?_; first | refine F.a1 Int ?_) | fail
  exact ⟨k + 1, F.fit ⟨rfl, rfl, trivial⟩ ⟨obE (by rw [hts]), trivial⟩, by omega, by omega⟩
 ·obtain rfl : k = l.length := by omega
  rw [List.take_length]
  have hml := dimS_len l
  rw [← hml]
  repeat' first | refine s1 ?_ | fail
  (refine kZ ?_; exact F.ret rfl)
def topK (d : List Int) (l : List Int) (k : Nat) : List Int := rowL l.length fun v => if v < k then d.getD v default - l.getD v default else l.getD v default
def topD (r : Rep) : List Int := if isRep r = true then topK r.d (dimS (radL r)) r.d.length else []
theorem fcF_bd {p : Int} {n : Nat} {l : List (List Int)} (h : VecB p n l) : BdF p n l.length (fcF l) := fun i hi j hj => (h (l.getD j default) (gm hj)).2 i hi
theorem kerV_bd {p : Int} {c : Nat} {g : Nat → Nat → Int} {piv : List Nat} {k : Nat} (hp : 2 ≤ p) : ∀ n, ∀ j, j < c → 0 ≤ (kerV p c g piv k n).getD j default ∧ (kerV p c g piv k n).getD j default ≤ p - 1
 | 0, j, hj => by
  have := unitL_get (k := k) hj
  show 0 ≤ (unitL c k).getD j default ∧ _
  rw [kerV, this]
  split <;> omega
 | n + 1, j, hj => by
  rw [kerV]
  by_cases e : piv.getD n 0 = j
  ·subst e
   rw [set_get (by rw [kerV_len]; exact hj)]
   exact mod_bd (by omega)
  ·have e2 : ((kerV p c g piv k n).set (piv.getD n 0) (-(g n k) % p)).getD j default = (kerV p c g piv k n).getD j default := set_ne e _
   rw [e2]
   exact kerV_bd hp n j hj
theorem kerL_vec {p : Int} {r c : Nat} {f : Nat → Nat → Int} (hp : 2 ≤ p) : VecB p c (kerL p r c f) := fun x hx => by
 simp only [kerL, List.mem_map] at hx
 obtain ⟨k, _, rfl⟩ := hx
 exact ⟨kerV_len .., fun j hj => kerV_bd hp _ j hj⟩
theorem kerL_le (p : Int) (r c : Nat) (f : Nat → Nat → Int) : (kerL p r c f).length ≤ c := by
 rw [kerL, List.length_map]; exact freeL_le ..
def cmbV (p : Int) (n : Nat) (l : List (List Int)) (k : List Int) : Nat → List Int
 | 0 => List.replicate n 0
 | m + 1 => addK p (k.getD m default) 0 (l.getD m default) (cmbV p n l k m) n
theorem cmbV_len (p : Int) (n : Nat) (l : List (List Int)) (k : List Int) : ∀ m, (cmbV p n l k m).length = n
 | 0 => by simp [cmbV]
 | m + 1 => by rw [cmbV, addK_len, cmbV_len p n l k m]
theorem cmbV_bd {p : Int} {n : Nat} {l : List (List Int)} {k : List Int} (hp : 2 ≤ p) : ∀ m, ∀ j, j < n → 0 ≤ (cmbV p n l k m).getD j default ∧ (cmbV p n l k m).getD j default ≤ p - 1
 | 0, j, hj => by
  have : (cmbV p n l k 0).getD j default = 0 := by simp [cmbV, hj]
  rw [this]; omega
 | m + 1, j, hj => by
  have hl := cmbV_len p n l k m
  have e : (cmbV p n l k (m + 1)).getD j default = ((cmbV p n l k m).getD j default + k.getD m default * (l.getD m default).getD j default) % p := by
   rw [cmbV]
   simp only [addK, List.getD_eq_getElem?_getD, List.getElem?_map, List.getElem?_range (show j < (cmbV p n l k m).length by omega), Option.map_some, Option.getD_some]
   rw [if_pos (by omega)]
   rfl
  rw [e]
  exact mod_bd (by omega)
def kerS (p : Int) (m : Mat) : Spc := ⟨m.c, spanL p m.c.toNat (kerL p m.r.toNat m.c.toNat (ent m))⟩
theorem kerS_ok {p : Int} {m : Mat} (h : isMat p m = true) : isSpc p (kerS p m) = true := by
 obtain ⟨h0, h1, h2, h3, h4⟩ := isMat_spec h
 have hp := isF_pos h0
 have := isSpc_span h0 (show m.c.toNat ≤ 8 by omega) (kerL_vec (r := m.r.toNat) (c := m.c.toNat) (f := ent m) hp.1).bd
 rw [Int.toNat_of_nonneg h2.1] at this
 exact this
def idF : Nat → Nat → Int := fun i j => if i = j then 1 else 0
def subF (p : Int) (m : Mat) (a b : Spc) : Nat → Nat → Int := fun i j => (appV p m (a.b.getD j default)).getD (leadV (b.b.getD i default)).toNat default
def subM (p : Int) (m : Mat) (a b : Spc) : Mat := tm b.b.length a.b.length (subF p m a b)
def subA (r : Rep) (s : List Spc) (i : Nat) : Mat := subM r.p (r.m.getD i default) (s.getD (r.q.fr.getD i default).toNat default) (s.getD (r.q.to.getD i default).toNat default)
def subMs (r : Rep) (s : List Spc) : List Mat := (List.range r.m.length).map (subA r s)
theorem subMs_len (r : Rep) (s : List Spc) : (subMs r s).length = r.m.length := by simp [subMs]
theorem subMs_get (r : Rep) (s : List Spc) {i : Nat} (hi : i < r.m.length) : (subMs r s).getD i default = subA r s i := by simp [subMs, hi]
def subR (r : Rep) (s : List Spc) : Rep := ⟨r.p, r.q, dimS s, subMs r s⟩
def incM (s : Spc) : Mat := tm s.n.toNat s.b.length (fcF s.b)
def incL (s : List Spc) : List Mat := s.map incM
theorem incL_len (s : List Spc) : (incL s).length = s.length := by simp [incL]
theorem incL_take {s : List Spc} {k : Nat} (h : k < s.length) : (incL s).take (k + 1) = (incL s).take k ++ [incM (s.getD k default)] := by
 have e : s.getD k default = s[k] := by simp [h]
 rw [incL, List.take_succ_eq_append_getElem (by simpa using h), e]
 simp
theorem dimS_get {s : List Spc} {v : Nat} (h : v < s.length) : (dimS s).getD v default = ((s.getD v default).b.length : Int) := by simp [dimS, h]
theorem isSpc_le {p : Int} {s : Spc} (h : isSpc p s = true) : s.b.length ≤ s.n.toNat := by
 obtain ⟨h1, h2, h3, h4⟩ := isSpc_spec h
 have hp := isF_pos h1
 simp only [isSpc, Bool.and_eq_true, decide_eq_true_eq] at h
 have := (spanB_le (show 0 < p by omega) h4.bd).2
 rw [show spanB p s.b.length s.n.toNat (vecF s.b) = s.b from h.2] at this
 exact this
theorem lead_lt {p : Int} {s : Spc} (h : isSpc p s = true) {i : Nat} (hi : i < s.b.length) : 0 ≤ leadV (s.b.getD i default) ∧ (leadV (s.b.getD i default)).toNat < s.n.toNat := by
 obtain ⟨h1, h2, h3, h4⟩ := isSpc_spec h
 obtain ⟨piv, e, l⟩ := isSpc_ech h
 rw [e.lead_at l h4 hi]
 have := e.lt i (by omega)
 exact ⟨by omega, by rw [Int.toNat_natCast]; exact this⟩
theorem sum_le : ∀ {a b : List Int}, a.length = b.length → (∀ j, j < a.length → a.getD j default ≤ b.getD j default) → a.sum ≤ b.sum
 | [], [], _, _ => by simp
 | x :: a, y :: b, hl, h => by
  have h1 := h 0 (by simp)
  have h2 := sum_le (a := a) (b := b) (by simpa using hl) fun j hj => by simpa using h (j + 1) (by simpa using hj)
  simp only [List.getD_cons_zero] at h1
  simp only [List.sum_cons]
  omega
theorem sub_dims {r : Rep} {s : List Spc} (h : isSub r s = true) : (dimS s).length = r.d.length ∧ (∀ v, v < r.d.length → 0 ≤ (dimS s).getD v default ∧ (dimS s).getD v default ≤ r.d.getD v default) ∧ (dimS s).sum ≤ r.d.sum ∧ ∀ v, v < r.d.length → (dimS s).getD v default ≤ 4 := by
 obtain ⟨h1, h2, h3, h4⟩ := isSub_spec h
 obtain ⟨r1, r2, r3, r4⟩ := isRep_spec h1
 obtain ⟨c1, c2, c3, _⟩ := areDims_spec r2
 have hl := dimS_len s
 have key : ∀ v, v < r.d.length → 0 ≤ (dimS s).getD v default ∧ (dimS s).getD v default ≤ r.d.getD v default := fun v hv => by
  obtain ⟨a1, a2⟩ := h3 v (by omega)
  have hd : 0 ≤ r.d.getD v default ∧ r.d.getD v default ≤ 4 := allIn_spec c3 hv
  have := isSpc_le a1
  rw [dimS_get (by omega)]
  omega
 refine ⟨by omega, key, sum_le (by omega) fun j hj => (key j (by omega)).2, fun v hv => ?_⟩
 have hd : 0 ≤ r.d.getD v default ∧ r.d.getD v default ≤ 4 := allIn_spec c3 hv
 have := key v hv
 omega
theorem subA_ok {r : Rep} {s : List Spc} (h : isSub r s = true) {i : Nat} (hi : i < r.m.length) : isMat r.p (subA r s i) = true := by
 obtain ⟨h1, h2, h3, h4⟩ := isSub_spec h
 obtain ⟨r1, r2, r3, r4⟩ := isRep_spec h1
 obtain ⟨m1, m2, m3, m4, m5⟩ := arrow_ok h1 hi
 have hp := isF_pos r1
 obtain ⟨f1, f2⟩ := h3 _ (show (r.q.fr.getD i default).toNat < s.length by omega)
 obtain ⟨t1, t2⟩ := h3 _ (show (r.q.to.getD i default).toNat < s.length by omega)
 have e1 := isSpc_le f1
 have e2 := isSpc_le t1
 have n1 := (isSpc_spec f1).2.1
 have n2 := (isSpc_spec t1).2.1
 refine isMat_tab r1 (by omega) (by omega) fun a ha b hb => ?_
 have := lead_lt t1 ha
 rw [t2, ← m5] at this
 exact appV_bd (by omega) _ _ this.2
theorem subR_ok {r : Rep} {s : List Spc} (h : isSub r s = true) : isRep (subR r s) = true := by
 obtain ⟨h1, h2, h3, h4⟩ := isSub_spec h
 obtain ⟨r1, r2, r3, r4⟩ := isRep_spec h1
 obtain ⟨c1, c2, c3, c4⟩ := areDims_spec r2
 obtain ⟨d1, d2, d3, d4⟩ := sub_dims h
 have hA : areDims (subR r s).q (subR r s).d = true := by
  simp only [areDims, Bool.and_eq_true, decide_eq_true_eq]
  refine ⟨⟨⟨c1, ?_⟩, allIn_all fun j hj => ?_⟩, ?_⟩
  ·show ((dimS s).length : Int) = r.q.n
   omega
  ·have hj : j < (dimS s).length := hj
   exact ⟨(d2 j (by omega)).1, d4 j (by omega)⟩
  ·show (dimS s).sum ≤ 8
   omega
 have hml : (subR r s).m.length = r.m.length := subMs_len r s
 simp only [isRep, Bool.and_eq_true, decide_eq_true_eq, List.all_eq_true]
 refine ⟨⟨⟨r1, hA⟩, by show (subR r s).m.length = r.q.fr.length; omega⟩, fun i hi => ?_⟩
 have hi : i < r.m.length := by rw [List.mem_range] at hi; omega
 obtain ⟨m1, m2, m3, m4, m5⟩ := arrow_ok h1 hi
 simp only [fitM, Bool.and_eq_true, decide_eq_true_eq]
 have e : (subR r s).m.getD i default = subA r s i := subMs_get r s hi
 rw [e]
 refine ⟨⟨subA_ok h hi, ?_⟩, ?_⟩
 ·show ((s.getD (r.q.fr.getD i default).toNat default).b.length : Int) = (dimS s).getD (r.q.fr.getD i default).toNat default
  rw [dimS_get (by omega)]
 ·show ((s.getD (r.q.to.getD i default).toNat default).b.length : Int) = (dimS s).getD (r.q.to.getD i default).toNat default
  rw [dimS_get (by omega)]
def leadN (s : Spc) : List Nat := s.b.map fun x => (leadV x).toNat
theorem leadN_len (s : Spc) : (leadN s).length = s.b.length := by simp [leadN]
theorem leadN_ech {p : Int} {s : Spc} (h : isSpc p s = true) : Ech s.b.length s.n.toNat (vecF s.b) (leadN s) ∧ (∀ i, i < s.b.length → leadV (s.b.getD i default) = ((leadN s).getD i 0 : Nat)) := by
 obtain ⟨h1, h2, h3, h4⟩ := isSpc_spec h
 obtain ⟨piv, he, hl⟩ := isSpc_ech h
 have e : leadN s = piv := by
  apply List.ext_getElem (by rw [leadN_len, hl])
  intro i g1 g2
  have hi : i < s.b.length := by rw [leadN_len] at g1; exact g1
  have := he.lead_at hl h4 hi
  have e1 : s.b.getD i default = s.b[i] := by simp [hi]
  have e2 : piv.getD i 0 = piv[i] := by simp [g2]
  rw [e1, e2] at this
  simp only [leadN, List.getElem_map]
  omega
 rw [e]
 exact ⟨he, fun i hi => he.lead_at hl h4 hi⟩
theorem ent_tm {r c i j : Nat} (f : Nat → Nat → Int) (hi : i < r) (hj : j < c) : ent (tm r c f) i j = f i j := by
 unfold ent tm
 dsimp only
 rw [Int.toNat_natCast, tab_get f hi hj]
end Go.Proofs.YtbcfbcfiahmncaaGreat.V
