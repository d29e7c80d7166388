/- Texts that the proof needs: A117, A106, A109, A118, A123. -/
import Derived.Test.YtbcfbcfiahmncaaGreatQduA113
namespace Go.Proofs.YtbcfbcfiahmncaaGreat.V
open Go.RowKit G D
set_option linter.unusedVariables false
set_option linter.unusedSimpArgs false
set_option maxHeartbeats 1000000
set_option maxRecDepth 4000
abbrev Pts := List Rep × List (List Mat) × Bool
def joinP (r : Rep) (s : List Spc) (x : Pts) (t : List Spc) (y : Pts) : Pts :=
 (x.1 ++ y.1, x.2.1.map (fun g => compL r.p g (incL s)) ++ y.2.1.map (fun g => compL r.p g (incL t)), true)
def ptN : Nat → Rep → Pts
 | 0, _ => ([], [], false)
 | n + 1, r => if (fsP r).2.2 = true then (if (ptN n (subR r (fsP r).1)).2.2 = true then (if (ptN n (subR r (fsP r).2.1)).2.2 = true then joinP r (fsP r).1 (ptN n (subR r (fsP r).1)) (fsP r).2.1 (ptN n (subR r (fsP r).2.1)) else ([], [], false)) else ([], [], false))
  else ([r], [idL r.d], decide (cntH r.p (hkL r r).length ≤ 3000))
theorem ptN_leaf {n : Nat} {r : Rep} (h : (fsP r).2.2 = false) : ptN (n + 1) r = ([r], [idL r.d], decide (cntH r.p (hkL r r).length ≤ 3000)) := by
 show (if _ then _ else _) = _
 rw [if_neg (by rw [h]; simp)]
theorem ptN_no1 {n : Nat} {r : Rep} (h : (fsP r).2.2 = true) (h1 : (ptN n (subR r (fsP r).1)).2.2 = false) : ptN (n + 1) r = ([], [], false) := by
 show (if _ then _ else _) = _
 rw [if_pos h, if_neg (by rw [h1]; simp)]
theorem ptN_no2 {n : Nat} {r : Rep} (h : (fsP r).2.2 = true) (h2 : (ptN n (subR r (fsP r).2.1)).2.2 = false) : ptN (n + 1) r = ([], [], false) := by
 show (if _ then _ else _) = _
 rw [if_pos h]
 by_cases h1 : (ptN n (subR r (fsP r).1)).2.2 = true
 ·rw [if_pos h1, if_neg (by rw [h2]; simp)]
 ·rw [if_neg h1]
theorem ptN_join {n : Nat} {r : Rep} (h : (fsP r).2.2 = true) (h1 : (ptN n (subR r (fsP r).1)).2.2 = true) (h2 : (ptN n (subR r (fsP r).2.1)).2.2 = true) : ptN (n + 1) r = joinP r (fsP r).1 (ptN n (subR r (fsP r).1)) (fsP r).2.1 (ptN n (subR r (fsP r).2.1)) := by
 show (if _ then _ else _) = _
 rw [if_pos h, if_pos h1, if_pos h2]
structure PtOk (r : Rep) (x : Pts) : Prop where
 len : x.2.1.length = x.1.length
 le : (x.1.length : Int) ≤ r.d.sum
 pos : x.2.2 = true → 1 ≤ x.1.length
 mor : ∀ i, i < x.1.length → isMor (x.1.getD i default) r (x.2.1.getD i default) = true
theorem PtOk.no {r : Rep} (h : 0 ≤ r.d.sum) : PtOk r ([], [], false) := ⟨rfl, h, fun x => (by cases x), fun i hi => absurd hi (Nat.not_lt_zero _)⟩
theorem dims_sum {r : Rep} (s : List Spc) : (subR r s).d.sum = (dimS s).sum := rfl
theorem PtOk.lift {r : Rep} {s : List Spc} {x : Pts} (hs : isSub r s = true) (h : PtOk (subR r s) x) : ∀ i, i < x.1.length → isMor (x.1.getD i default) r ((x.2.1.map fun g => compL r.p g (incL s)).getD i default) = true := by
 intro i hi
 have h1 := h.mor i hi
 have h2 := comp_mor h1 (inc_mor hs)
 have e : (x.2.1.map fun g => compL r.p g (incL s)).getD i default = compL r.p (x.2.1.getD i default) (incL s) := by
  have := h.len
  simp [show i < x.2.1.length by omega]
 rw [e]
 have hp : (x.1.getD i default).p = r.p := (mor_ok h1).2.2.1
 rw [hp] at h2
 exact h2
theorem PtOk.join {r : Rep} {s t : List Spc} {x y : Pts} (hs : isSub r s = true) (ht : isSub r t = true) (hd : (dimS s).sum + (dimS t).sum ≤ r.d.sum) (hx : PtOk (subR r s) x) (hy : PtOk (subR r t) y) (hk : x.2.2 = true) : PtOk r (joinP r s x t y) := by
 have x1 := hx.le
 have y1 := hy.le
 have x2 := hx.len
 have y2 := hy.len
 rw [dims_sum] at x1 y1
 refine ⟨?_, ?_, fun _ => ?_, fun i hi => ?_⟩
 ·show (x.2.1.map (fun g => compL r.p g (incL s)) ++ y.2.1.map (fun g => compL r.p g (incL t))).length = (x.1 ++ y.1).length
  rw [List.length_append, List.length_append, List.length_map, List.length_map, x2, y2]
 ·show (((x.1 ++ y.1).length : Nat) : Int) ≤ _
  rw [List.length_append]
  omega
 ·show 1 ≤ (x.1 ++ y.1).length
  rw [List.length_append]
  have := hx.pos hk
  omega
 ·show isMor ((x.1 ++ y.1).getD i default) r ((x.2.1.map (fun g => compL r.p g (incL s)) ++ y.2.1.map (fun g => compL r.p g (incL t))).getD i default) = true
  have hi : i < (x.1 ++ y.1).length := hi
  rw [List.length_append] at hi
  rw [app_getD, app_getD, List.length_map, x2]
  by_cases h : i < x.1.length
  ·rw [if_pos h, if_pos h]
   exact hx.lift hs i h
  ·rw [if_neg h, if_neg h]
   exact hy.lift ht (i - x.1.length) (by omega)
theorem pt_ok : ∀ (n : Nat) (r : Rep), isRep r = true → 0 < r.d.sum → PtOk r (ptN n r)
 | 0, r, _, h => .no (by omega)
 | n + 1, r, hr, h => by
  cases hf : (fsP r).2.2 with
  | false =>
   rw [ptN_leaf hf]
   refine ⟨rfl, ?_, fun _ => Nat.le_refl 1, fun i hi => ?_⟩
   ·show ((1 : Nat) : Int) ≤ _
    omega
   ·have hi : i < 1 := hi
    obtain rfl : i = 0 := by omega
    exact id_mor hr
  | true =>
   obtain ⟨f1, f2, f3, f4, f5⟩ := fs_facts hr hf
   have p1 := pt_ok n _ (subR_ok f1) f3
   have p2 := pt_ok n _ (subR_ok f2) f4
   cases h1 : (ptN n (subR r (fsP r).1)).2.2 with
   | false => rw [ptN_no1 hf h1]; exact .no (by omega)
   | true =>
    cases h2 : (ptN n (subR r (fsP r).2.1)).2.2 with
    | false => rw [ptN_no2 hf h2]; exact .no (by omega)
    | true =>
     rw [ptN_join hf h1 h2]
     exact PtOk.join f1 f2 f5 p1 p2 h1
def ptP (r : Rep) : Pts := ptN r.d.sum.toNat r
def besC (L : List Mat) : Nat → Nat
 | 0 => 0
 | k + 1 => besC L k + (L.getD k default).c.toNat
def besG (L : List Mat) : Nat → Nat → Nat → Int
 | 0 => fun _ _ => 0
 | k + 1 => besF (besC L k) (besG L k) (ent (L.getD k default))
def besM (d : Nat) (L : List Mat) (k : Nat) : Mat := tm d (besC L k) (besG L k)
theorem besC_le {L : List Mat} {b : Nat} (h : ∀ i, i < L.length → (L.getD i default).c.toNat ≤ b) : ∀ k, k ≤ L.length → besC L k ≤ k * b
 | 0, _ => by simp [besC]
 | k + 1, hk => by
  have h1 := besC_le h k (by omega)
  have h2 := h k (by omega)
  rw [Nat.succ_mul]
  show besC L k + _ ≤ _
  omega
def wholeL (r : Rep) (g : List (List Mat)) : List Mat := (List.range r.d.length).map fun v => besM (r.d.getD v default).toNat (g.map fun f => f.getD v default) g.length
theorem wholeL_len (r : Rep) (g : List (List Mat)) : (wholeL r g).length = r.d.length := by simp [wholeL]
theorem wholeL_get {r : Rep} {g : List (List Mat)} {v : Nat} (h : v < r.d.length) : (wholeL r g).getD v default = besM (r.d.getD v default).toNat (g.map fun f => f.getD v default) g.length := by simp [wholeL, h]
def psP (r : Rep) : List Rep × List Mat × Bool := if isRep r = true ∧ r.d.sum ≠ 0 ∧ (ptP r).2.2 = true then ((ptP r).1, wholeL r (ptP r).2.1, true) else ([], [], false)
def belF (r : Nat) (f g : Nat → Nat → Int) : Nat → Nat → Int := fun i j => if i < r then f i j else g (i - r) j
end Go.Proofs.YtbcfbcfiahmncaaGreat.V
namespace Go.Proofs.YtbcfbcfiahmncaaGreat.V
open Go.RowKit G D
set_option linter.unusedVariables false
set_option linter.unusedSimpArgs false
set_option maxHeartbeats 4000000
set_option maxRecDepth 4000
attribute [local irreducible] AW ARg ARA ARet MRet ASil AC AM ARI
theorem copyMs_a (ms : List Mat) (hl : ms.length ≤ 1000) (hm : ∀ k, k < ms.length → (ms.getD k default).m.length ≤ 1000) : AC Tryz.prog 109 [ar false ms] [.dt true 3 (E true ms)] := by
 refine AC.go Tryz.func109 Tryz.ntmps109 rfl rfl fun w0 hw => ?_; simp [WfL, WfA, E_length, Enc.enc, In64] at hw
 repeat' first | refine s1 ?_ | fail
 refine AW.open 3 3 (.inl rfl) ?_
 refine F.loop (σ := Nat) [3, 5, 8, 9, 10, 11, 12, 13, 14, 15, 16, 17] (fun k => [(3, .sl 0 k 0 k), (8, .i k)]) (fun k => [(0, .live false 3 (E true (ms.take k)))]) (fun k => k ≤ ms.length) (fun k => ms.length - k) 0 ⟨rfl, rfl, trivial⟩ ⟨rfl, trivial⟩ (Nat.zero_le _) ?_
 rintro k k1
 have hp2 : (ms.take k).length = k := by rw [List.length_take]; omega
 by_cases hk : k < ms.length
 ·have hC := cloneM_a (ms.getD k default) (by have := hm k hk; omega)
  have ht : ms.take (k + 1) = ms.take k ++ [ms.getD k default] := by
   rw [List.take_succ_eq_append_getElem hk]
   have e : ms.getD k default = ms[k] := by simp [hk]
   rw [e]
  repeat' first | refine s1 ?_ | (refine kR ?_; first | refine F.c (hC) ?_ | refine F.a1 Mat (a := ms.getD k default) ?_) | fail
  exact ⟨k + 1, F.fit ⟨rfl, rfl, trivial⟩ ⟨obE (by rw [ht]), trivial⟩, by omega, by omega⟩
 ·obtain rfl : k = ms.length := by omega
  rw [List.take_length]
  repeat' first | refine s1 ?_ | fail
  (refine kZ ?_; exact F.ret rfl)
theorem repClone_a (r : Rep) (hr : isRep r = true) : AC Tryz.prog 67 [.agg (enc false r)] [.agg (enc true r)] := by
 refine AC.go Tryz.func67 Tryz.ntmps67 rfl rfl fun w0 hw => ?_; simp [WfL, WfA, E_length, Enc.enc, In64] at hw
 obtain ⟨r1, r2, r3, r4⟩ := isRep_spec hr
 obtain ⟨c1, c2, c3, c4⟩ := areDims_spec r2
 have h5 := okQ_spec c1
 have hQ := cloneQ_a r.q (by omega)
 have hD := clone_a r.d (by omega)
 have hM := copyMs_a r.m (by omega) (fun k hk => by
  have := (arrow_ok hr hk).1
  simp only [isMat, isVec, Bool.and_eq_true, decide_eq_true_eq] at this
  omega)
 repeat' first | refine s1 ?_ | fail
 refine AW.draw 12 G.mixed (by kernel_rfl) ?_
 refine dP 0 ?_
 refine dL 1 ?_
 refine dP 2 ?_
 refine dL 3 ?_
 refine dP 5 ?_
 refine dL 6 ?_
 refine dP 8 ?_
 refine dL 9 ?_
 refine dO 4 true ?_
 first | refine s1 ?_ | refine F.c (hQ) ?_ | refine F.c (hD) ?_ | refine F.c (hM) ?_
 refine tN ?_
 refine dO 7 true ?_
 first | refine s1 ?_ | refine F.c (hQ) ?_ | refine F.c (hD) ?_ | refine F.c (hM) ?_
 refine tN ?_
 refine dO 10 true ?_
 first | refine s1 ?_ | refine F.c (hQ) ?_ | refine F.c (hD) ?_ | refine F.c (hM) ?_
 refine tN ?_
 refine dP 11 ?_
 refine dO 12 false ?_
 refine s1 ?_
 refine tN ?_
 refine dN ?_
 rotate_left
 all_goals
  repeat' first | refine s1 ?_ | fail
  (refine kZ ?_; exact F.ret rfl)
def hS (r : Rep) (k : Nat) : List Spc := if k = 0 then (fsP r).1 else (fsP r).2.1
def hX (n : Nat) (r : Rep) (k : Nat) : Pts := ptN n (subR r (hS r k))
def hP (n : Nat) (r : Rep) (k : Nat) : List Rep := ((List.range k).map fun j => (hX n r j).1).flatten
def hM (n : Nat) (r : Rep) (j : Nat) : List (List Mat) := (hX n r j).2.1.map fun g => compL r.p g (incL (hS r j))
def hI (n : Nat) (r : Rep) (k : Nat) : List (List Mat) := ((List.range k).map (hM n r)).flatten
theorem hP_succ (n : Nat) (r : Rep) (k : Nat) : hP n r (k + 1) = hP n r k ++ (hX n r k).1 := by
 unfold hP
 rw [List.range_succ, List.map_append, List.flatten_append]
 simp
theorem hI_succ (n : Nat) (r : Rep) (k : Nat) : hI n r (k + 1) = hI n r k ++ hM n r k := by
 unfold hI
 rw [List.range_succ, List.map_append, List.flatten_append]
 simp
theorem hS_get (r : Rep) {k : Nat} (h : k < 2) : [(fsP r).1, (fsP r).2.1].getD (0 + k) default = hS r k := by
 have : k = 0 ∨ k = 1 := by omega
 rcases this with e | e <;> subst e <;> rfl
theorem pt_no {n : Nat} {r : Rep} (h : (fsP r).2.2 = true) {k : Nat} (hk : k < 2) (h1 : (hX n r k).2.2 = false) : ptN (n + 1) r = ([], [], false) := by
 have : k = 0 ∨ k = 1 := by omega
 rcases this with e | e <;> subst e
 ·exact ptN_no1 h h1
 ·exact ptN_no2 h h1
theorem pt_yes {n : Nat} {r : Rep} (h : (fsP r).2.2 = true) (h1 : ∀ k, k < 2 → (hX n r k).2.2 = true) : ptN (n + 1) r = (hP n r 2, hI n r 2, true) := by
 rw [ptN_join h (h1 0 (by omega)) (h1 1 (by omega))]
 rw [show (2 : Nat) = 1 + 1 from rfl, hP_succ, hI_succ, show (1 : Nat) = 0 + 1 from rfl, hP_succ, hI_succ]
 rfl
structure Half (n : Nat) (r : Rep) (k : Nat) : Prop where
 sub : isSub r (hS r k) = true
 pos : 0 < (dimS (hS r k)).sum
 ok : PtOk (subR r (hS r k)) (hX n r k)
 le : (hX n r k).1.length ≤ 20
theorem half {n : Nat} {r : Rep} (hr : isRep r = true) (h : (fsP r).2.2 = true) {k : Nat} (hk : k < 2) : Half n r k := by
 obtain ⟨f1, f2, f3, f4, f5⟩ := fs_facts hr h
 have hsm := rep_sum hr
 have : k = 0 ∨ k = 1 := by omega
 rcases this with e | e <;> subst e
 ·have h1 := pt_ok n _ (subR_ok f1) f3
  have h2 := h1.le
  rw [dims_sum] at h2
  exact ⟨f1, f3, h1, by show (ptN n (subR r (fsP r).1)).1.length ≤ 20; omega⟩
 ·have h1 := pt_ok n _ (subR_ok f2) f4
  have h2 := h1.le
  rw [dims_sum] at h2
  exact ⟨f2, f4, h1, by show (ptN n (subR r (fsP r).2.1)).1.length ≤ 20; omega⟩
theorem hP_le {n : Nat} {r : Rep} (h : ∀ k, k < 2 → (hX n r k).1.length ≤ 20) : ∀ k, k ≤ 2 → (hP n r k).length ≤ 20 * k
 | 0, _ => by simp [hP]
 | k + 1, hk => by
  have h1 := hP_le h k (by omega)
  have h2 := h k (by omega)
  rw [hP_succ, List.length_append]
  omega
theorem hM_len (n : Nat) (r : Rep) (j : Nat) : (hM n r j).length = (hX n r j).2.1.length := by simp [hM]
theorem hI_le {n : Nat} {r : Rep} (h : ∀ k, k < 2 → (hX n r k).2.1.length ≤ 20) : ∀ k, k ≤ 2 → (hI n r k).length ≤ 20 * k
 | 0, _ => by simp [hI]
 | k + 1, hk => by
  have h1 := hI_le h k (by omega)
  have h2 := h k (by omega)
  rw [hI_succ, List.length_append, hM_len]
  omega
theorem hM_take (n : Nat) (r : Rep) (k i : Nat) (hi : i < (hX n r k).2.1.length) : (hM n r k).take (i + 1) = (hM n r k).take i ++ [compL r.p ((hX n r k).2.1.getD i default) (incL (hS r k))] := by
 have h1 : i < (hM n r k).length := by rw [hM_len]; exact hi
 rw [List.take_succ_eq_append_getElem h1]
 simp [hM, hi]
theorem half_comp {n : Nat} {r : Rep} {k : Nat} (h : Half n r k) {i : Nat} (hi : i < (hX n r k).1.length) : isMor ((hX n r k).1.getD i default) (subR r (hS r k)) ((hX n r k).2.1.getD i default) = true ∧ isMor (subR r (hS r k)) r (incL (hS r k)) = true ∧ ((hX n r k).1.getD i default).p = r.p := by
 have h1 := h.ok.mor i hi
 exact ⟨h1, inc_mor h.sub, (mor_ok h1).2.2.1⟩
theorem comp_facts {a b c : Rep} {f g : List Mat} (h1 : isMor a b f = true) (h2 : isMor b c g = true) : f.length ≤ g.length ∧ f.length ≤ 1048576 ∧ ∀ v, v < f.length → isMat a.p (f.getD v default) = true ∧ isMat a.p (g.getD v default) = true ∧ (g.getD v default).c = (f.getD v default).r := by
 obtain ⟨a1, a2, a3, a4, a5⟩ := mor_ok h1
 obtain ⟨b1, b2, b3, b4, b5⟩ := mor_ok h2
 refine ⟨by omega, by omega, fun v hv => ?_⟩
 obtain ⟨c1, c2, c3⟩ := a5 v hv
 obtain ⟨d1, d2, d3⟩ := b5 v (by omega)
 rw [← a3] at d1
 exact ⟨c1, d1, by rw [d2, c3]⟩
theorem partsOf_leaf (n : Nat) (r : Rep) (hr : isRep r = true) (hfs : (fsP r).2.2 = false) : AC Tryz.prog 50 [.agg (enc false r)] [.dt true 6 (E true (ptN (n + 1) r).1), .dt true 1 (E true (ptN (n + 1) r).2.1), .b (ptN (n + 1) r).2.2] := by
 refine AC.go Tryz.func50 Tryz.ntmps50 rfl rfl fun w0 hw => ?_; simp [WfL, WfA, E_length, Enc.enc, In64] at hw
 have hf := fitR_refl hr
 have h := Fits.of hf
 have hp := isF_pos h.f
 have hle := rkE_le r r hf
 have hlen := hkL_len r r hf
 have hll := homL_len r r
 have hB := homBasis_a r r hf
 have hFS := findSplit_a r hr
 have hC := countHoms_a r.p (hkL r r).length hp (by omega)
 obtain ⟨r1, r2, r3, r4⟩ := isRep_spec hr
 obtain ⟨c1, c2, c3, c4⟩ := areDims_spec r2
 have h5 := okQ_spec c1
 have hCl := repClone_a r hr
 have hId := identities_a r.d (by omega) (fun v hv => allIn_spec c3 hv)
 rw [ptN_leaf hfs]
 rw [hfs] at hFS
 rw [← hll] at hC ⊢
 generalize fsP r = R at hFS
 obtain ⟨R1, R2, R3⟩ := R
 dsimp only at hFS
 generalize homL r r = HL at *
 generalize cntH r.p HL.length = X at *
 generalize idL r.d = IL at hId ⊢
 repeat' first | refine s1 ?_ | (refine kR ?_; first | refine F.c (hB) ?_ | refine F.c (hFS) ?_) | fail
 refine AW.draw 16 G.mixed (by kernel_rfl) ?_
 refine dL 0 ?_
 refine dP 3 ?_
 refine dL 4 ?_
 refine dP 7 ?_
 refine dL 8 ?_
 refine dP 9 ?_
 refine dP 10 ?_
 refine dO 1 true ?_
 first | refine s1 ?_ | refine F.c (hCl) ?_ | refine F.c (hId) ?_ | refine F.c (hC) ?_
 refine tN ?_
 refine ARA.any [2, 5] (by kernel_rfl) (by simp) ?_
 intro k hk
 simp only [List.mem_cons, List.not_mem_nil, or_false] at hk
 rcases hk with rfl | rfl
 refine ⟨_, true, rfl, rfl, ?_⟩
 refine s1 ?_
 refine tN ?_
 refine dO 5 true ?_
 first | refine s1 ?_ | refine F.c (hCl) ?_ | refine F.c (hId) ?_ | refine F.c (hC) ?_
 refine tN ?_
 refine ARA.any [6, 11] (by kernel_rfl) (by simp) ?_
 intro k hk
 simp only [List.mem_cons, List.not_mem_nil, or_false] at hk
 rcases hk with rfl | rfl
 refine ⟨_, true, rfl, rfl, ?_⟩
 refine s1 ?_
 refine tN ?_
 refine dO 11 true ?_
 first | refine s1 ?_ | refine F.c (hCl) ?_ | refine F.c (hId) ?_ | refine F.c (hC) ?_
 refine tN ?_
 refine dP 12 ?_
 refine dP 13 ?_
 refine dP 14 ?_
 refine dP 15 ?_
 refine dN ?_
 rotate_left
 refine ⟨_, true, rfl, rfl, ?_⟩
 first | refine s1 ?_ | refine F.c (hCl) ?_ | refine F.c (hId) ?_ | refine F.c (hC) ?_
 refine tN ?_
 refine dP 12 ?_
 refine dP 13 ?_
 refine dO 6 true ?_
 refine s1 ?_
 refine tN ?_
 refine dP 14 ?_
 refine dP 15 ?_
 refine dN ?_
 rotate_left
 refine ⟨_, true, rfl, rfl, ?_⟩
 first | refine s1 ?_ | refine F.c (hCl) ?_ | refine F.c (hId) ?_ | refine F.c (hC) ?_
 refine tN ?_
 refine ARA.any [2, 6, 11] (by kernel_rfl) (by simp) ?_
 intro k hk
 simp only [List.mem_cons, List.not_mem_nil, or_false] at hk
 rcases hk with rfl | rfl | rfl
 refine ⟨_, true, rfl, rfl, ?_⟩
 refine s1 ?_
 refine tN ?_
 refine ARA.any [6, 11] (by kernel_rfl) (by simp) ?_
 intro k hk
 simp only [List.mem_cons, List.not_mem_nil, or_false] at hk
 rcases hk with rfl | rfl
 refine ⟨_, true, rfl, rfl, ?_⟩
 refine s1 ?_
 refine tN ?_
 refine dO 11 true ?_
 first | refine s1 ?_ | refine F.c (hCl) ?_ | refine F.c (hId) ?_ | refine F.c (hC) ?_
 refine tN ?_
 refine dP 12 ?_
 refine dP 13 ?_
 refine dP 14 ?_
 refine dP 15 ?_
 refine dN ?_
 rotate_left
 refine ⟨_, true, rfl, rfl, ?_⟩
 first | refine s1 ?_ | refine F.c (hCl) ?_ | refine F.c (hId) ?_ | refine F.c (hC) ?_
 refine tN ?_
 refine dP 12 ?_
 refine dP 13 ?_
 refine dO 6 true ?_
 refine s1 ?_
 refine tN ?_
 refine dP 14 ?_
 refine dP 15 ?_
 refine dN ?_
 rotate_left
 refine ⟨_, true, rfl, rfl, ?_⟩
 refine s1 ?_
 refine tN ?_
 refine ARA.any [2, 11] (by kernel_rfl) (by simp) ?_
 intro k hk
 simp only [List.mem_cons, List.not_mem_nil, or_false] at hk
 rcases hk with rfl | rfl
 refine ⟨_, true, rfl, rfl, ?_⟩
 refine s1 ?_
 refine tN ?_
 refine dO 11 true ?_
 first | refine s1 ?_ | refine F.c (hCl) ?_ | refine F.c (hId) ?_ | refine F.c (hC) ?_
 refine tN ?_
 refine dP 12 ?_
 refine dP 13 ?_
 refine dP 14 ?_
 refine dP 15 ?_
 refine dN ?_
 rotate_left
 refine ⟨_, true, rfl, rfl, ?_⟩
 first | refine s1 ?_ | refine F.c (hCl) ?_ | refine F.c (hId) ?_ | refine F.c (hC) ?_
 refine tN ?_
 refine dP 12 ?_
 refine dO 2 true ?_
 refine s1 ?_
 refine tN ?_
 refine dP 13 ?_
 refine dP 14 ?_
 refine dP 15 ?_
 refine dN ?_
 rotate_left
 refine ⟨_, true, rfl, rfl, ?_⟩
 first | refine s1 ?_ | refine F.c (hCl) ?_ | refine F.c (hId) ?_ | refine F.c (hC) ?_
 refine tN ?_
 refine dP 12 ?_
 refine ARA.any [2, 6] (by kernel_rfl) (by simp) ?_
 intro k hk
 simp only [List.mem_cons, List.not_mem_nil, or_false] at hk
 rcases hk with rfl | rfl
 refine ⟨_, true, rfl, rfl, ?_⟩
 refine s1 ?_
 refine tN ?_
 refine dP 13 ?_
 refine dO 6 true ?_
 refine s1 ?_
 refine tN ?_
 refine dP 14 ?_
 refine dP 15 ?_
 refine dN ?_
 rotate_left
 refine ⟨_, true, rfl, rfl, ?_⟩
 refine s1 ?_
 refine tN ?_
 refine dO 2 true ?_
 refine s1 ?_
 refine tN ?_
 refine dP 13 ?_
 refine dP 14 ?_
 refine dP 15 ?_
 refine dN ?_
 rotate_left
 all_goals
  first
   | (refine AW.putC (o := 8) (k := 0) (j := 2) (o2 := 4) rfl rfl rfl rfl (E_length _ _) (E_pure _ _) rfl ?_; refine AW.putC (o := 8) (k := 0) (j := 3) (o2 := 5) rfl rfl rfl rfl (E_length _ _) (E_pure _ _) rfl ?_; refine AW.putC (o := 8) (k := 0) (j := 4) (o2 := 6) rfl rfl rfl rfl (E_length _ _) (E_pure _ _) rfl ?_; refine AW.putC (o := 8) (k := 0) (j := 5) (o2 := 7) rfl rfl rfl rfl (E_length _ _) (E_pure _ _) rfl ?_; refine AW.putC (o := 10) (k := 0) (j := 0) (o2 := 9) rfl rfl rfl rfl (E_length _ _) (E_pure _ _) rfl ?_)
   | (refine AW.putC (o := 9) (k := 0) (j := 2) (o2 := 4) rfl rfl rfl rfl (E_length _ _) (E_pure _ _) rfl ?_; refine AW.putC (o := 9) (k := 0) (j := 3) (o2 := 5) rfl rfl rfl rfl (E_length _ _) (E_pure _ _) rfl ?_; refine AW.putC (o := 9) (k := 0) (j := 4) (o2 := 6) rfl rfl rfl rfl (E_length _ _) (E_pure _ _) rfl ?_; refine AW.putC (o := 9) (k := 0) (j := 5) (o2 := 7) rfl rfl rfl rfl (E_length _ _) (E_pure _ _) rfl ?_; refine AW.putC (o := 10) (k := 0) (j := 0) (o2 := 8) rfl rfl rfl rfl (E_length _ _) (E_pure _ _) rfl ?_)
   | (refine AW.putC (o := 10) (k := 0) (j := 2) (o2 := 4) rfl rfl rfl rfl (E_length _ _) (E_pure _ _) rfl ?_; refine AW.putC (o := 10) (k := 0) (j := 3) (o2 := 5) rfl rfl rfl rfl (E_length _ _) (E_pure _ _) rfl ?_; refine AW.putC (o := 10) (k := 0) (j := 4) (o2 := 6) rfl rfl rfl rfl (E_length _ _) (E_pure _ _) rfl ?_; refine AW.putC (o := 10) (k := 0) (j := 5) (o2 := 7) rfl rfl rfl rfl (E_length _ _) (E_pure _ _) rfl ?_; refine AW.putC (o := 9) (k := 0) (j := 0) (o2 := 8) rfl rfl rfl rfl (E_length _ _) (E_pure _ _) rfl ?_)
  repeat' first | refine s1 ?_ | fail
  (refine kZ ?_; exact F.ret rfl)
end Go.Proofs.YtbcfbcfiahmncaaGreat.V
