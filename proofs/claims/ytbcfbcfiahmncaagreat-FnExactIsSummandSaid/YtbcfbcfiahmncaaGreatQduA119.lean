/- Texts that the proof needs: A124, A119. -/
import Derived.Test.YtbcfbcfiahmncaaGreatQduA123
namespace Go.Proofs.YtbcfbcfiahmncaaGreat.V
open Go.RowKit G D
set_option linter.unusedVariables false
set_option linter.unusedSimpArgs false
set_option maxHeartbeats 4000000
set_option maxRecDepth 4000
attribute [local irreducible] AW ARg ARA ARet MRet ASil AC AM ARI
theorem partsOf_step (n : Nat) (r : Rep) (hr : isRep r = true) (hfs : (fsP r).2.2 = true) (hS' : ∀ k, k < 2 → AC Tryz.prog 50 [.agg (enc false (subR r (hS r k)))] [.dt true 6 (E true (hX n r k).1), .dt true 1 (E true (hX n r k).2.1), .b (hX n r k).2.2]) : AC Tryz.prog 50 [.agg (enc false r)] [.dt true 6 (E true (ptN (n + 1) r).1), .dt true 1 (E true (ptN (n + 1) r).2.1), .b (ptN (n + 1) r).2.2] := by
 refine AC.go Tryz.func50 Tryz.ntmps50 rfl rfl fun w0 hw => ?_; simp [WfL, WfA, E_length, Enc.enc, In64] at hw
 have hf := fitR_refl hr
 have hB := homBasis_a r r hf
 have hFS := findSplit_a r hr
 have hH := fun k (hk : k < 2) => half (n := n) hr hfs hk
 have hno := fun k (hk : k < 2) (h1 : (hX n r k).2.2 = false) => pt_no hfs hk h1
 have hyes := fun h1 => pt_yes (n := n) hfs h1
 have hg := fun k (hk : k < 2) => hS_get r hk
 have hPs := hP_succ n r
 have hIs := hI_succ n r
 have hPl := hP_le (n := n) fun k hk => (hH k hk).le
 have hIl := hI_le (n := n) (r := r) fun k hk => by have := (hH k hk).le; have := (hH k hk).ok.len; omega
 have hP0 : hP n r 0 = [] := rfl
 have hI0 : hI n r 0 = [] := rfl
 rw [hfs] at hFS
 generalize fsP r = R at hFS hg
 obtain ⟨R1, R2, R3⟩ := R
 dsimp only at hFS hg
 generalize homL r r = HL at hB hFS
 repeat' first | refine AW.freezeA (α := Spc) 6 rfl rfl rfl ?_ | refine AW.freezeA (α := Spc) 7 rfl rfl rfl ?_ | refine s1 ?_ | (refine kR ?_; first | refine F.c (hB) ?_ | refine F.c (hFS) ?_) | fail
 refine AW.freezeP (α := Rep) (oo := false) r 1 rfl rfl ?_
 refine AW.open 9 6 (.inl rfl) ?_
 refine AW.open 10 1 (.inl rfl) ?_
 refine F.loop (σ := Nat) [2, 3, 4, 9, 10, 12, 13, 14, 15, 16, 17, 19, 49, 50, 51, 52, 53, 54, 55, 56, 57, 58, 59, 60, 61, 62, 63, 64, 65, 66, 67, 68, 69, 70, 71, 72, 73, 74, 75, 76, 77, 78, 79, 80, 81, 82, 83, 84, 85] (fun k => [(9, .sl 5 (hP n r k).length 0 (hP n r k).length), (10, .sl 6 (hI n r k).length 0 (hI n r k).length), (49, .i k)]) (fun k => [(4, .live false 1 (E false [R1, R2])), (5, .live false 6 (E true (hP n r k))), (6, .live false 1 (E true (hI n r k)))]) (fun k => k ≤ 2 ∧ ∀ j, j < k → (hX n r j).2.2 = true) (fun k => 2 - k) 0 ⟨rfl, rfl, rfl, trivial⟩ ⟨rfl, rfl, rfl, trivial⟩ ⟨Nat.zero_le _, fun j hj => absurd hj (Nat.not_lt_zero _)⟩ ?_
 rintro k ⟨k1, k2⟩
 by_cases hk : k < 2
 ·have hHk := hH k hk
  have hU := subRep_a r (hS r k) hHk.sub
  have hRk := hS' k hk
  have hnk := hno k hk
  have hgk := hg k hk
  have hPk := hPl k k1
  have hIk := hIl k k1
  have hPsk := hPs k
  have hIsk := hIs k
  have hxl := hHk.ok.len
  have hxn := hHk.le
  have hml := hM_len n r k
  have hcp : ∀ i, i < (hX n r k).1.length → AC Tryz.prog 88 [.i r.p, ar false ((hX n r k).2.1.getD i default), ar false (incL (hS r k))] [.dt true 3 (E true (compL r.p ((hX n r k).2.1.getD i default) (incL (hS r k))))] := fun i hi => by
   obtain ⟨a1, a2, a3⟩ := half_comp hHk hi
   obtain ⟨b1, b2, b3⟩ := comp_facts a1 a2
   rw [a3] at b3
   exact composed_a r.p _ _ b1 b2 b3
  have htk := hM_take n r k
  cases hok : (hX n r k).2.2 with
  | false =>
   rw [hok] at hRk
   rw [hnk hok]
   generalize hX n r k = X at hRk
   obtain ⟨X1, X2, X3⟩ := X
   dsimp only at hRk
   generalize subR r (hS r k) = A' at hU hRk
   generalize incL (hS r k) = IL at hU
   rw [← hgk] at hU
   repeat' first | refine s1 ?_ | (refine kR ?_; first | refine F.c (hU) ?_ | refine F.c (hRk) ?_) | fail
   (refine kZ ?_; exact F.ret rfl)
  | true =>
   rw [hok] at hRk
   generalize hP n r k = PK at hPk hPsk ⊢
   generalize hI n r k = IK at hIk hIsk ⊢
   generalize hM n r k = MK at hIsk hml htk
   generalize hXe : hX n r k = X at hRk hxl hxn hPsk hml htk hcp
   obtain ⟨X1, X2, X3⟩ := X
   dsimp only at hRk hxl hxn hPsk hml htk hcp
   generalize subR r (hS r k) = A' at hU hRk
   generalize incL (hS r k) = IL at hU htk hcp
   rw [← hgk] at hU
   repeat' first | refine s1 ?_ | (refine kR ?_; first | refine F.c (hU) ?_ | refine F.c (hRk) ?_ | refine F.aL Rep (oo := true) ?_ (hsrc := .own rfl rfl (E_length _ _))) | fail
   refine AW.freezeA (α := List Mat) 70 rfl rfl rfl ?_
   refine F.loop (σ := Nat) [10, 19, 72, 73, 74, 75, 76, 77, 78, 79, 80, 81, 82, 83, 84] (fun i => [(10, .sl 6 (IK ++ MK.take i).length 0 (IK ++ MK.take i).length), (72, .i i)]) (fun i => [(6, .live false 1 (E true (IK ++ MK.take i)))]) (fun i => i ≤ X2.length) (fun i => X2.length - i) 0 ⟨slE (by simp), rfl, trivial⟩ ⟨obE (by simp), trivial⟩ (Nat.zero_le _) ?_
   rintro i i1
   have htl : (MK.take i).length = i := by rw [List.length_take]; omega
   have hcl : (IK ++ MK.take i).length ≤ 1000 := by rw [List.length_append]; omega
   by_cases hi : i < X2.length
   ·have hc' := hcp i (by omega)
    have ht := htk i hi
    have ht' : IK ++ MK.take (i + 1) = (IK ++ MK.take i) ++ [compL r.p (X2.getD i default) IL] := by rw [ht, List.append_assoc]
    generalize IK ++ MK.take i = L at hcl ht' ⊢
    generalize compL r.p (X2.getD i default) IL = Y at hc' ht' ⊢
    repeat' first | refine s1 ?_ | (refine kR ?_; first | refine F.c (hc') ?_ | refine F.a1 (List Mat) (a := Y) ?_) | fail
    exact ⟨i + 1, F.fit ⟨slE (by rw [ht']; simp), rfl, trivial⟩ ⟨obE (by rw [ht']), trivial⟩, by omega, by omega⟩
   ·obtain rfl : i = X2.length := by omega
    have e : MK.take X2.length = MK := List.take_of_length_le (by omega)
    rw [e, ← hIsk]
    repeat' first | refine s1 ?_ | fail
    exact ⟨k + 1, F.fit ⟨slE (by rw [hPsk]; simp), rfl, rfl, trivial⟩ ⟨rfl, obE (by rw [hPsk]), rfl, trivial⟩, ⟨by omega, fun j hj => by rcases Nat.lt_succ_iff_lt_or_eq.1 hj with h | h; exact k2 j h; rw [h]; exact hok⟩, by omega⟩
 ·obtain rfl : k = 2 := by omega
  rw [hyes k2]
  repeat' first | refine s1 ?_ | fail
  (refine kZ ?_; exact F.ret rfl)
theorem partsOf_a : ∀ (n : Nat) (r : Rep), isRep r = true → 0 < r.d.sum → r.d.sum ≤ n → AC Tryz.prog 50 [.agg (enc false r)] [.dt true 6 (E true (ptN n r).1), .dt true 1 (E true (ptN n r).2.1), .b (ptN n r).2.2]
 | 0, r, _, h1, h2 => by omega
 | n + 1, r, hr, h1, h2 => by
  cases hfs : (fsP r).2.2 with
  | false => exact partsOf_leaf n r hr hfs
  | true =>
   refine partsOf_step n r hr hfs fun k hk => ?_
   have hh := half (n := n) hr hfs hk
   refine partsOf_a n _ (subR_ok hh.sub) hh.pos ?_
   obtain ⟨f1, f2, f3, f4, f5⟩ := fs_facts hr hfs
   rw [dims_sum]
   have : k = 0 ∨ k = 1 := by omega
   rcases this with e | e <;> subst e
   ·show (dimS (fsP r).1).sum ≤ _; omega
   ·show (dimS (fsP r).2.1).sum ≤ _; omega
def clmL (g : List (List Mat)) (v : Nat) : List Mat := g.map fun f => f.getD v default
theorem clmL_get {g : List (List Mat)} {v i : Nat} (hi : i < g.length) : (clmL g v).getD i default = (g.getD i default).getD v default := by
 simp [clmL, hi]
theorem clmL_len (g : List (List Mat)) (v : Nat) : (clmL g v).length = g.length := by simp [clmL]
structure ColF (r : Rep) (g : List (List Mat)) (v i : Nat) : Prop where
 len : v < (g.getD i default).length
 eq : tm (r.d.getD v default).toNat ((g.getD i default).getD v default).c.toNat (ent ((g.getD i default).getD v default)) = (g.getD i default).getD v default
 le : besC (clmL g v) i + ((g.getD i default).getD v default).c.toNat ≤ 1000
 nx : besM (r.d.getD v default).toNat (clmL g v) (i + 1) = tm (r.d.getD v default).toNat (besC (clmL g v) i + ((g.getD i default).getD v default).c.toNat) (besF (besC (clmL g v) i) (besG (clmL g v) i) (ent ((g.getD i default).getD v default)))
theorem colF {r : Rep} {x : Pts} (hr : isRep r = true) (h : PtOk r x) {v : Nat} (hv : v < r.d.length) {i : Nat} (hi : i < x.2.1.length) : ColF r x.2.1 v i := by
 have hl := h.len
 have hle := h.le
 have hsm := rep_sum hr
 have hmat : ∀ j, j < x.2.1.length → v < (x.2.1.getD j default).length ∧ isMat (x.1.getD j default).p ((x.2.1.getD j default).getD v default) = true ∧ ((x.2.1.getD j default).getD v default).r = r.d.getD v default := fun j hj => by
  obtain ⟨a1, a2, a3, a4, a5⟩ := mor_ok (h.mor j (by omega))
  obtain ⟨b1, b2, b3⟩ := a5 v (by omega)
  exact ⟨by omega, b1, b3⟩
 obtain ⟨g1, g2, g3⟩ := hmat i hi
 have hb := besC_le (L := clmL x.2.1 v) (b := 8) (fun j hj => by
  rw [clmL_len] at hj
  rw [clmL_get hj]
  have := (isMat_spec (hmat j hj).2.1).2.2.1
  omega) i (by rw [clmL_len]; omega)
 have hc := (isMat_spec g2).2.2.1
 refine ⟨g1, ?_, by omega, ?_⟩
 ·rw [← g3]; exact isMat_tm g2
 ·show tm _ (besC (clmL x.2.1 v) i + ((clmL x.2.1 v).getD i default).c.toNat) (besF _ _ (ent ((clmL x.2.1 v).getD i default))) = _
  rw [clmL_get hi]
theorem whole_take {r : Rep} {g : List (List Mat)} {v : Nat} (hv : v < r.d.length) : (wholeL r g).take (v + 1) = (wholeL r g).take v ++ [besM (r.d.getD v default).toNat (clmL g v) g.length] := by
 rw [List.take_succ_eq_append_getElem (by rw [wholeL_len]; exact hv)]
 simp [wholeL, clmL]
theorem psP_no1 {r : Rep} (h : ¬(isRep r = true ∧ r.d.sum ≠ 0)) : psP r = ([], [], false) := by
 unfold psP
 rw [if_neg fun x => h ⟨x.1, x.2.1⟩]
theorem psP_no2 {r : Rep} (h : (ptP r).2.2 = false) : psP r = ([], [], false) := by
 unfold psP
 rw [if_neg fun x => by rw [h] at x; exact absurd x.2.2 (by simp)]
theorem psP_yes {r : Rep} (h1 : isRep r = true) (h2 : r.d.sum ≠ 0) (h : (ptP r).2.2 = true) : psP r = ((ptP r).1, wholeL r (ptP r).2.1, true) := by
 unfold psP
 rw [if_pos ⟨h1, h2, h⟩]
theorem implPartsOf_a (r : Rep) : AC Tryz.prog 18 [.agg (enc false r)] [.dt true 6 (E true (psP r).1), .dt true 3 (E true (psP r).2.1), .b (psP r).2.2] := by
 refine AC.go Tryz.func18 Tryz.ntmps18 rfl rfl fun w0 hw => ?_; simp [WfL, WfA, E_length, Enc.enc, In64] at hw
 have hR := implIsRep_a r
 cases hr : isRep r with
 | false =>
  rw [hr] at hR
  rw [psP_no1 (by rw [hr]; simp)]
  repeat' first | refine s1 ?_ | (refine kR ?_; first | refine F.c (hR) ?_) | fail
  (refine kZ ?_; exact F.ret rfl)
 | true =>
  rw [hr] at hR
  obtain ⟨r1, r2, r3, r4⟩ := isRep_spec hr
  obtain ⟨c1, c2, c3, c4⟩ := areDims_spec r2
  have h5 := okQ_spec c1
  have hsm := rep_sum hr
  have hT := sumOf_a r.d (by omega) (fun j hj => by have : 0 ≤ r.d.getD j default ∧ r.d.getD j default ≤ 4 := allIn_spec c3 hj; omega)
  by_cases h0 : r.d.sum = 0
  ·rw [h0] at hT
   rw [psP_no1 (fun x => x.2 h0)]
   repeat' first | refine s1 ?_ | (refine kR ?_; first | refine F.c (hR) ?_ | refine F.c (hT) ?_) | fail
   (refine kZ ?_; exact F.ret rfl)
  ·have hQ := partsOf_a r.d.sum.toNat r hr (by omega) (by omega)
   have hok := pt_ok r.d.sum.toNat r hr (by omega)
   rw [show ptN r.d.sum.toNat r = ptP r from rfl] at hQ hok
   cases hk : (ptP r).2.2 with
   | false =>
    rw [hk] at hQ
    rw [psP_no2 hk]
    generalize ptP r = X at hQ
    obtain ⟨X1, X2, X3⟩ := X
    dsimp only at hQ
    repeat' first | refine s1 ?_ | (refine kR ?_; first | refine F.c (hR) ?_ | refine F.c (hT) ?_ | refine F.c (hQ) ?_) | fail
    (refine kZ ?_; exact F.ret rfl)
   | true =>
    rw [hk] at hQ
    rw [psP_yes hr h0 hk]
    have hcf := fun v (hv : v < r.d.length) i (hi : i < (ptP r).2.1.length) => colF hr hok (v := v) hv hi
    have hl := hok.len
    have hle := hok.le
    have hwl := wholeL_len r (ptP r).2.1
    have hwt := fun v (hv : v < r.d.length) => whole_take (g := (ptP r).2.1) hv
    generalize ptP r = X at hQ hcf hl hle hwl hwt ⊢
    obtain ⟨X1, X2, X3⟩ := X
    dsimp only at hQ hcf hl hle hwl hwt ⊢
    generalize wholeL r X2 = WL at hwl hwt ⊢
    repeat' first | refine s1 ?_ | (refine kR ?_; first | refine F.c (hR) ?_ | refine F.c (hT) ?_ | refine F.c (hQ) ?_) | fail
    refine AW.freezeP (α := Rep) (oo := false) r 1 rfl rfl ?_
    refine AW.freezeA (α := List Mat) 6 rfl rfl rfl ?_
    refine AW.open 8 3 (.inl rfl) ?_
    refine F.loop (σ := Nat) [8, 9, 10, 12, 33, 34, 35, 36, 37, 38, 39, 40, 41, 42, 43, 44, 45, 46, 47, 48, 49, 50, 51, 52, 53, 54, 55, 56, 57, 58, 59] (fun k => [(8, .sl 3 k 0 k), (33, .i k)]) (fun k => [(3, .live false 3 (E true (WL.take k)))]) (fun k => k ≤ r.d.length) (fun k => r.d.length - k) 0 ⟨rfl, rfl, trivial⟩ ⟨rfl, trivial⟩ (Nat.zero_le _) ?_
    rintro v v1
    have hp2 : (WL.take v).length = v := by rw [List.length_take]; omega
    by_cases hv : v < r.d.length
    ·have hd : 0 ≤ r.d.getD v default ∧ r.d.getD v default ≤ 4 := allIn_spec c3 hv
     have hcv := hcf v hv
     have hwv := hwt v hv
     have hZ : AC Tryz.prog 51 [.i (r.d.getD v default), .i 0] [.agg (enc true (besM (r.d.getD v default).toNat (clmL X2 v) 0))] := by
      have := zeroT_a (r.d.getD v default).toNat 0 (by omega) (by omega)
      rw [Int.toNat_of_nonneg hd.1] at this
      exact this
     have hBk : ∀ i, i < X2.length → v < (X2.getD i default).length ∧ AC Tryz.prog 52 [.agg (enc false (besM (r.d.getD v default).toNat (clmL X2 v) i)), .agg (enc false ((X2.getD i default).getD v default))] [.agg (enc true (besM (r.d.getD v default).toNat (clmL X2 v) (i + 1)))] := fun i hi => by
      obtain ⟨q1, q2, q3, q4⟩ := hcv i hi
      have := beside_a (r.d.getD v default).toNat (besC (clmL X2 v) i) ((X2.getD i default).getD v default).c.toNat (besG (clmL X2 v) i) (ent ((X2.getD i default).getD v default)) (by omega) (by omega)
      rw [q2, ← q4] at this
      exact ⟨q1, this⟩
     generalize besM (r.d.getD v default).toNat (clmL X2 v) = BM at hZ hBk hwv
     repeat' first | refine s1 ?_ | (refine kR ?_; first | refine F.c (hZ) ?_) | fail
     refine AW.putV 10 2 rfl rfl rfl rfl (E_length _ _) (E_pure _ _) rfl ?_
     refine F.loop (σ := Nat) [12, 44, 45, 46, 47, 48, 49, 50, 51, 52, 53, 54] (fun i => [(44, .i i)]) (fun i => [(5, .live false 3 (E true [BM i]))]) (fun i => i ≤ X2.length) (fun i => X2.length - i) 0 ⟨rfl, trivial⟩ ⟨rfl, trivial⟩ (Nat.zero_le _) ?_
     rintro i i1
     by_cases hi : i < X2.length
     ·obtain ⟨hlen, hB'⟩ := hBk i hi
      generalize hY : BM (i + 1) = Y at hB'
      refine AW.takeE (α := Mat) (o := 5) (k := 0) (j := 2) (ls := [BM i]) rfl (by simp) rfl (E_length _ _) ?_
      repeat' first | refine s1 ?_ | fail
      refine AW.draw 6 G.mixed (by kernel_rfl) ?_
      refine dL 0 ?_
      refine dP 1 ?_
      refine dP 2 ?_
      refine dP 3 ?_
      refine dL 4 ?_
      refine dO 5 true ?_
      first | refine s1 ?_ | refine F.c (hB') ?_
      refine tN ?_
      refine dO 6 false ?_
      refine s1 ?_
      refine tN ?_
      refine dN ?_
      rotate_left
      all_goals
       repeat' first | refine AW.putV (o2 := 7) 10 2 rfl rfl rfl rfl (E_length _ _) (E_pure _ _) rfl ?_ | refine s1 ?_ | fail
       exact ⟨i + 1, F.fit ⟨rfl, trivial⟩ ⟨obE (by rw [hY]; rfl), trivial⟩, by omega, by omega⟩
     ·obtain rfl : i = X2.length := by omega
      refine AW.takeE (α := Mat) (o := 5) (k := 0) (j := 2) (ls := [BM X2.length]) rfl (by simp) rfl (E_length _ _) ?_
      generalize BM X2.length = Y at hwv ⊢
      repeat' first | refine s1 ?_ | (refine kR ?_; first | refine F.a1 Mat (a := Y) ?_) | fail
      exact ⟨v + 1, F.fit ⟨rfl, rfl, trivial⟩ ⟨obE (by rw [hwv]), trivial⟩, by omega, by omega⟩
    ·obtain rfl : v = r.d.length := by omega
     have e : WL.take r.d.length = WL := List.take_of_length_le (by omega)
     rw [e]
     repeat' first | refine s1 ?_ | fail
     (refine kZ ?_; exact F.ret rfl)
end Go.Proofs.YtbcfbcfiahmncaaGreat.V
