/- Texts that the proof needs: A125, A126, A120, Down. -/
import Derived.Test.YtbcfbcfiahmncaaGreatQduA114
import Derived.Test.YtbcfbcfiahmncaaGreatQduA119
import Derived.JoinedOf
namespace Go.Proofs.YtbcfbcfiahmncaaGreat.V
open Go.RowKit G D
set_option linter.unusedVariables false
set_option linter.unusedSimpArgs false
set_option maxHeartbeats 4000000
set_option maxRecDepth 4000
attribute [local irreducible] AW ARg ARA ARet MRet ASil AC AM ARI
theorem tab_bel (c1 c r : Nat) (f g : Nat → Nat → Int) : tab c1 r f ++ tab c r g = tab (c1 + c) r (belF c1 f g) := by
 induction c with
 | zero =>
  rw [Nat.add_zero, show tab 0 r g = [] by simp [tab], List.append_nil]
  exact tab_ext fun i hi j hj => by unfold belF; rw [if_pos hi]
 | succ k ih =>
  rw [tab_succ, ← List.append_assoc, ih, ← Nat.add_assoc, tab_succ]
  congr 2
  funext j
  unfold belF
  rw [if_neg (by omega), Nat.add_sub_cancel_left]
theorem l16Beside_a (r c1 c2 : Nat) (f g : Nat → Nat → Int) (hr : r ≤ 1000) (hc : c1 + c2 ≤ 1000) : AC Tryz.prog 47 [.agg (enc false (tm r c1 f)), .agg (enc false (tm r c2 g))] [.agg (enc true (tm r (c1 + c2) (besF c1 f g)))] := by
 refine AC.go Tryz.func47 Tryz.ntmps47 rfl rfl fun w0 hw => ?_; simp [WfL, WfA, E_length, Enc.enc, In64] at hw
 have hA := l3Transpose_a r c1 f (by omega) (by omega)
 have hB := l3Transpose_a r c2 g (by omega) (by omega)
 have hC := l3Transpose_a (c1 + c2) r (belF c1 (fun i j => f j i) (fun i j => g j i)) (by omega) (by omega)
 rw [show (fun i j => belF c1 (fun i j => f j i) (fun i j => g j i) j i) = besF c1 f g from rfl] at hC
 have l1 := tab_len c1 r (fun i j => f j i)
 have l2 := tab_len c2 r (fun i j => g j i)
 have m1 : c1 * r ≤ 1000 * 1000 := Nat.mul_le_mul (by omega) hr
 have m2 : c2 * r ≤ 1000 * 1000 := Nat.mul_le_mul (by omega) hr
 have hC' : AC Tryz.prog 79 [.agg [.i ((c1 : Int) + c2), .i (r : Int), .dt false 1 (E false (tab c1 r (fun i j => f j i) ++ tab c2 r (fun i j => g j i)))]] [.agg (enc true (tm r (c1 + c2) (besF c1 f g)))] := by
  rw [tab_bel]
  exact hC
 clear hC
 rw [show tm c1 r (fun i j => f j i) = ⟨(c1 : Int), (r : Int), tab c1 r (fun i j => f j i)⟩ from rfl] at hA
 rw [show tm c2 r (fun i j => g j i) = ⟨(c2 : Int), (r : Int), tab c2 r (fun i j => g j i)⟩ from rfl] at hB
 generalize tab c1 r (fun i j => f j i) = X at hA hC' l1
 generalize tab c2 r (fun i j => g j i) = Y at hB hC' l2
 generalize tm r (c1 + c2) (besF c1 f g) = Z at hC' ⊢
 generalize hM1 : tm r c1 f = M1 at hA hw ⊢
 generalize hM2 : tm r c2 g = M2 at hB hw ⊢
 have e1 : M1.c = c1 := by rw [← hM1]
 have e2 : M1.r = r := by rw [← hM1]
 have e3 : M2.c = c2 := by rw [← hM2]
 rw [← e1, ← e2, ← e3] at hC'
 repeat' first | refine s1 ?_ | fail
 refine AW.freezeP (α := Mat) (oo := false) M1 2 rfl rfl ?_
 refine AW.freezeP (α := Mat) (oo := false) M2 3 rfl rfl ?_
 refine AW.drawI G.mixed (by kernel_rfl) (by rfl) ?_
 intro T w1 MP1 I0
 refine iP 0 ?_
 refine iL 1 ?_
 refine iP 2 ?_
 refine iL 3 ?_
 refine iP 4 ?_
 refine iP 5 ?_
 refine iL 6 ?_
 refine iL 8 ?_
 refine iL 12 ?_
 refine ARI.any [7, 9] (by kernel_rfl) (by simp) ?_
 intro k hk
 simp only [List.mem_cons, List.not_mem_nil, or_false] at hk
 rcases hk with rfl | rfl
 refine ⟨_, rfl, ?_⟩
 refine s1 ?_
 refine tN ?_
 refine iO 9 ?_
 first | refine s1 ?_ | refine F.c (hA) ?_
 refine tN ?_
 first | refine iP 10 ?_ (hs := by exact (A.fldG ⟨Tryz.underlying64⟩ rfl (inferInstance : One Tryz.prog 22) rfl rfl)) | refine iP 10 ?_
 refine iO 11 ?_
 first | refine s1 ?_ | refine F.aLN Int (oo := true) ?_ (hsrc := .own rfl rfl (E_length _ _))
 refine tN ?_
 refine iO 13 ?_
 first | refine s1 ?_ | refine F.c (hB) ?_
 refine tN ?_
 first | refine iP 14 ?_ (hs := by exact (A.fldG ⟨Tryz.underlying64⟩ rfl (inferInstance : One Tryz.prog 22) rfl rfl)) | refine iP 14 ?_
 refine iO 15 ?_
 first | refine s1 ?_ | refine F.aL Int (oo := true) ?_ (hsrc := .own rfl rfl (E_length _ _))
 refine tN ?_
 refine iP 16 ?_
 refine iO 17 ?_
 first | refine s1 ?_ | refine F.c (hC') ?_
 refine tN ?_
 refine iO 18 ?_
 refine s1 ?_
 refine tN ?_
 refine iN ?_
 rotate_left
 refine ⟨_, rfl, ?_⟩
 first | refine s1 ?_ | refine F.c (hA) ?_
 refine tN ?_
 first | refine iP 10 ?_ (hs := by exact (A.fldG ⟨Tryz.underlying64⟩ rfl (inferInstance : One Tryz.prog 22) rfl rfl)) | refine iP 10 ?_
 refine iO 7 ?_
 refine s1 ?_
 refine tN ?_
 refine iO 11 ?_
 first | refine s1 ?_ | refine F.aLN Int (oo := true) ?_ (hsrc := .own rfl rfl (E_length _ _))
 refine tN ?_
 refine iO 13 ?_
 first | refine s1 ?_ | refine F.c (hB) ?_
 refine tN ?_
 first | refine iP 14 ?_ (hs := by exact (A.fldG ⟨Tryz.underlying64⟩ rfl (inferInstance : One Tryz.prog 22) rfl rfl)) | refine iP 14 ?_
 refine iO 15 ?_
 first | refine s1 ?_ | refine F.aL Int (oo := true) ?_ (hsrc := .own rfl rfl (E_length _ _))
 refine tN ?_
 refine iP 16 ?_
 refine iO 17 ?_
 first | refine s1 ?_ | refine F.c (hC') ?_
 refine tN ?_
 refine iO 18 ?_
 refine s1 ?_
 refine tN ?_
 refine iN ?_
 rotate_left
 all_goals
  repeat' first | refine s1 ?_ | fail
  (refine kZ ?_; exact F.ret rfl)
theorem l16Parts_leaf (n : Nat) (r : Rep) (hr : isRep r = true) (h0 : 0 < r.d.sum) (hfs : (fsP r).2.2 = false) : AM Tryz.prog 45 [.agg (enc false r)] [] [.dt true 6 (E false (ptN (n + 1) r).1), .dt true 1 (E true (ptN (n + 1) r).2.1), .b (ptN (n + 1) r).2.2] [] := by
 refine AM.go Tryz.func45 Tryz.ntmps45 rfl rfl fun w0 mp hw => ?_; simp [WfL, WfA, E_length, Enc.enc, In64] at hw
 have hT := totalOf_a r hr
 have hF := l16Find_a r hr
 have hId := identityMor_a r hr
 have hCl := l8Copy_a r hr
 rw [ptN_leaf hfs]
 unfold allS at hF
 rw [hfs, Bool.false_or] at hF
 generalize fsP r = R at hF
 obtain ⟨R1, R2, R3⟩ := R
 dsimp only at hF
 generalize decide (cntH r.p (hkL r r).length ≤ 3000) = X at hF ⊢
 generalize idL r.d = IL at hId ⊢
 have hne : r.d.sum ≠ 0 := by omega
 repeat' first | refine AW.putC (o := 8) (k := 0) (j := 2) (o2 := 4) rfl rfl rfl rfl (E_length _ _) (E_pure _ _) rfl ?_ | refine AW.putC (o := 8) (k := 0) (j := 3) (o2 := 5) rfl rfl rfl rfl (E_length _ _) (E_pure _ _) rfl ?_ | refine AW.putC (o := 8) (k := 0) (j := 4) (o2 := 6) rfl rfl rfl rfl (E_length _ _) (E_pure _ _) rfl ?_ | refine AW.putC (o := 8) (k := 0) (j := 5) (o2 := 7) rfl rfl rfl rfl (E_length _ _) (E_pure _ _) rfl ?_ | refine AW.putC (o := 9) (k := 0) (j := 0) (o2 := 3) rfl rfl rfl rfl (E_length _ _) (E_pure _ _) rfl ?_ | refine AW.share (α := Rep) (ls := [r]) 8 rfl ?_ | refine s1 ?_ | (refine kR ?_; first | refine F.c (hT) ?_ | refine F.c (hF) ?_ | refine F.c (hId) ?_ | refine F.c (hCl) ?_) | fail
 refine kM ?_
 exact F.retM rfl trivial
theorem l16Parts_step (n : Nat) (r : Rep) (hr : isRep r = true) (h0 : 0 < r.d.sum) (hfs : (fsP r).2.2 = true) (hS' : ∀ k, k < 2 → AM Tryz.prog 45 [.agg (enc false (subR r (hS r k)))] [] [.dt true 6 (E false (hX n r k).1), .dt true 1 (E true (hX n r k).2.1), .b (hX n r k).2.2] []) : AM Tryz.prog 45 [.agg (enc false r)] [] [.dt true 6 (E false (ptN (n + 1) r).1), .dt true 1 (E true (ptN (n + 1) r).2.1), .b (ptN (n + 1) r).2.2] [] := by
 refine AM.go Tryz.func45 Tryz.ntmps45 rfl rfl fun w0 mp hw => ?_; simp [WfL, WfA, E_length, Enc.enc, In64] at hw
 have hT := totalOf_a r hr
 have hF := l16Find_a r hr
 have hH := fun k (hk : k < 2) => half (n := n) hr hfs hk
 have hno := fun k (hk : k < 2) (h1 : (hX n r k).2.2 = false) => pt_no hfs hk h1
 have hyes := fun h1 => pt_yes (n := n) hfs h1
 have hg0 : hS r 0 = (fsP r).1 := rfl
 have hg1 : hS r 1 = (fsP r).2.1 := rfl
 have hPs := hP_succ n r
 have hIs := hI_succ n r
 have hPl := hP_le (n := n) fun k hk => (hH k hk).le
 have hIl := hI_le (n := n) (r := r) fun k hk => by have := (hH k hk).le; have := (hH k hk).ok.len; omega
 have hP0 : hP n r 0 = [] := rfl
 have hI0 : hI n r 0 = [] := rfl
 rw [hfs] at hF
 generalize allS r = AS at hF
 generalize fsP r = R at hF hg0 hg1
 obtain ⟨R1, R2, R3⟩ := R
 dsimp only at hF hg0 hg1
 have hne : r.d.sum ≠ 0 := by omega
 rw [← hg0, ← hg1] at hF
 repeat' first | refine AW.freezeA (α := Spc) 5 rfl rfl rfl ?_ | refine AW.freezeA (α := Spc) 6 rfl rfl rfl ?_ | refine s1 ?_ | (refine kR ?_; first | refine F.c (hT) ?_ | refine F.c (hF) ?_) | fail
 refine AW.freezeP (α := Rep) (oo := false) r 1 rfl rfl ?_
 refine AW.open 11 6 (.inr rfl) ?_
 refine AW.open 12 1 (.inr rfl) ?_
 refine F.loop (σ := Nat) [2, 3, 4, 11, 12, 13, 14, 15, 16, 17, 18, 19, 20, 21, 22, 23, 51, 52, 53, 54, 55, 56, 57, 58, 59, 60, 61, 62, 63, 64, 65, 66, 67, 68, 69, 70, 71, 72, 73, 74, 75, 76, 77, 78, 79, 80, 81, 82, 83, 84, 85, 86, 87, 88, 89, 90, 91, 92, 93, 94, 95, 96, 97, 98, 99, 100, 101, 102, 103, 104, 105, 106, 107] (fun k => [(11, .sl 3 (hP n r k).length 0 (hP n r k).length), (12, .sl 4 (hI n r k).length 0 (hI n r k).length), (13, .i k)]) (fun k => [(3, .live false 6 (E false (hP n r k))), (4, .live false 1 (E true (hI n r k)))]) (fun k => k ≤ 2 ∧ ∀ j, j < k → (hX n r j).2.2 = true) (fun k => 2 - k) 0 ⟨rfl, rfl, rfl, trivial⟩ ⟨rfl, rfl, trivial⟩ ⟨Nat.zero_le _, fun j hj => absurd hj (Nat.not_lt_zero _)⟩ ?_
 rintro k ⟨k1, k2⟩
 by_cases hk : k < 2
 ·have hHk := hH k hk
  have hU := specSubRep_a r (hS r k)
  rw [show subP r (hS r k) = (subR r (hS r k), incL (hS r k), true) by unfold subP; rw [if_pos hHk.sub]] at hU
  dsimp only at hU
  have hRk := hS' k hk
  have hnk := hno k hk
  have hPk := hPl k k1
  have hIk := hIl k k1
  have hPsk := hPs k
  have hIsk := hIs k
  have hxl := hHk.ok.len
  have hxn := hHk.le
  have hml := hM_len n r k
  have hcp : ∀ i, i < (hX n r k).1.length → AC Tryz.prog 78 [.agg (enc false ((hX n r k).1.getD i default)), .agg (enc false (subR r (hS r k))), .agg (enc false r), ar false ((hX n r k).2.1.getD i default), ar false (incL (hS r k))] [.dt true 3 (E true (compL r.p ((hX n r k).2.1.getD i default) (incL (hS r k)))), .b true] := fun i hi => by
   obtain ⟨a1, a2, a3⟩ := half_comp hHk hi
   have := specComposeMorphisms_a ((hX n r k).1.getD i default) (subR r (hS r k)) r ((hX n r k).2.1.getD i default) (incL (hS r k))
   unfold compM at this
   rw [if_pos ⟨a1, a2⟩, a3] at this
   exact this
  have htk := hM_take n r k
  have hcase : (k = 0 ∧ ((k : Int) = 1) = False) ∨ (k = 1 ∧ ((k : Int) = 1) = True) := by
   have : k = 0 ∨ k = 1 := by omega
   rcases this with e | e
   ·exact .inl ⟨e, by rw [e]; simp⟩
   ·exact .inr ⟨e, by rw [e]; simp⟩
  refine (fun {G : Prop} (h : ∀ A' IL, subR r (hS r k) = A' → incL (hS r k) = IL → G) => h _ _ rfl rfl) fun A' IL hA' hIL => ?_
  cases hok : (hX n r k).2.2 with
  | false =>
   rw [hok] at hRk
   rw [hnk hok]
   generalize hX n r k = X at hRk
   obtain ⟨X1, X2, X3⟩ := X
   dsimp only at hRk
   rw [hA'] at hU hRk
   rw [hIL] at hU
   rcases hcase with ⟨e, _⟩ | ⟨e, _⟩ <;> subst e <;>
   ·repeat' first | refine AW.putV (o2 := 5) 15 2 rfl rfl rfl rfl (E_length _ _) (E_pure _ _) rfl ?_ | refine AW.putV (o2 := 6) 15 3 rfl rfl rfl rfl (E_length _ _) (E_pure _ _) rfl ?_ | refine AW.putV (o2 := 7) 15 4 rfl rfl rfl rfl (E_length _ _) (E_pure _ _) rfl ?_ | refine AW.putV (o2 := 8) 15 5 rfl rfl rfl rfl (E_length _ _) (E_pure _ _) rfl ?_ | refine AW.freezeP (α := Rep) (oo := true) A' 15 rfl rfl ?_ | refine s1 ?_ | (refine kR ?_; first | refine F.c (hU) ?_ | (refine jCf 45 ?_; refine F.w (hRk) ?_)) | fail
    refine kM ?_
    exact F.retM rfl trivial
  | true =>
   rw [hok] at hRk
   generalize hP n r k = PK at hPk hPsk ⊢
   generalize hI n r k = IK at hIk hIsk ⊢
   generalize hM n r k = MK at hIsk hml htk
   generalize hXe : hX n r k = X at hRk hxl hxn hPsk hml htk hcp
   obtain ⟨X1, X2, X3⟩ := X
   dsimp only at hRk hxl hxn hPsk hml htk hcp
   rw [hA'] at hU hRk hcp
   rw [hIL] at hU htk hcp
   rcases hcase with ⟨e, _⟩ | ⟨e, _⟩ <;> subst e <;>
   ·repeat' first | refine AW.putV (o2 := 5) 15 2 rfl rfl rfl rfl (E_length _ _) (E_pure _ _) rfl ?_ | refine AW.putV (o2 := 6) 15 3 rfl rfl rfl rfl (E_length _ _) (E_pure _ _) rfl ?_ | refine AW.putV (o2 := 7) 15 4 rfl rfl rfl rfl (E_length _ _) (E_pure _ _) rfl ?_ | refine AW.putV (o2 := 8) 15 5 rfl rfl rfl rfl (E_length _ _) (E_pure _ _) rfl ?_ | refine AW.freezeP (α := Rep) (oo := true) A' 15 rfl rfl ?_ | refine s1 ?_ | (refine kR ?_; first | refine F.c (hU) ?_ | (refine jCf 45 ?_; refine F.w (hRk) ?_)) | fail
    refine AW.freezeA (α := Mat) 16 rfl rfl rfl ?_
    refine AW.freezeA (α := Rep) 18 rfl rfl rfl ?_
    refine AW.freezeA (α := List Mat) 19 rfl rfl rfl ?_
    refine F.loop (σ := Nat) [11, 12, 21, 22, 23, 76, 77, 78, 79, 80, 81, 82, 83, 84, 85, 86, 87, 88, 89, 90, 91, 92, 93, 94, 95, 96, 97, 98, 99, 100, 101, 102, 103, 104, 105, 106, 107] (fun i => [(11, .sl 3 (PK ++ X1.take i).length 0 (PK ++ X1.take i).length), (12, .sl 4 (IK ++ MK.take i).length 0 (IK ++ MK.take i).length), (21, .i i)]) (fun i => [(3, .live false 6 (E false (PK ++ X1.take i))), (4, .live false 1 (E true (IK ++ MK.take i)))]) (fun i => i ≤ X1.length) (fun i => X1.length - i) 0 ⟨slE (by simp), slE (by simp), rfl, trivial⟩ ⟨obE (by simp), obE (by simp), trivial⟩ (Nat.zero_le _) ?_
    rintro i i1
    have htl : (MK.take i).length = i := by rw [List.length_take]; omega
    have hxt : (X1.take i).length = i := by rw [List.length_take]; omega
    have hcl : (IK ++ MK.take i).length ≤ 1000 := by rw [List.length_append]; omega
    have hcl2 : (PK ++ X1.take i).length ≤ 1000 := by rw [List.length_append]; omega
    by_cases hi : i < X1.length
    ·have hc' := hcp i hi
     have ht := htk i (by omega)
     have ht2 := take_at (l := X1) hi
     have ht' : IK ++ MK.take (i + 1) = (IK ++ MK.take i) ++ [compL r.p (X2.getD i default) IL] := by rw [ht, List.append_assoc]
     have ht3 : PK ++ X1.take (i + 1) = (PK ++ X1.take i) ++ [X1.getD i default] := by rw [ht2, List.append_assoc]
     generalize IK ++ MK.take i = L at hcl ht' ⊢
     generalize PK ++ X1.take i = L2 at hcl2 ht3 ⊢
     generalize compL r.p (X2.getD i default) IL = Y at hc' ht' ⊢
     repeat' first | refine s1 ?_ | fail
     refine AW.draw 17 G.mixed (by kernel_rfl) ?_
     refine dP 0 ?_
     refine dP 1 ?_
     refine dP 2 ?_
     refine dL 3 ?_
     refine dL 4 ?_
     refine dL 5 ?_
     refine dP 6 ?_
     refine dP 7 ?_
     refine dP 8 ?_
     refine dL 9 ?_
     refine dP 10 ?_
     refine dO 11 true ?_
     first | refine s1 ?_ | refine F.c (hc') ?_
     refine tN ?_
     refine dP 12 ?_
     refine dP 13 ?_
     refine dP 14 ?_
     refine dP 15 ?_
     refine dP 16 ?_
     refine dN ?_
     rotate_left
     all_goals
      repeat' first | refine s1 ?_ | (refine kR ?_; first | refine F.a1 Rep (oo := false) (a := X1.getD i default) ?_ | refine F.a1 (List Mat) (a := Y) ?_) | fail
      exact ⟨i + 1, F.fit ⟨slE (by rw [ht3]; simp), slE (by rw [ht']; simp), rfl, trivial⟩ ⟨obE (by rw [ht3]), obE (by rw [ht']), trivial⟩, by omega, by omega⟩
    ·obtain rfl : i = X1.length := by omega
     have e : MK.take X1.length = MK := List.take_of_length_le (by omega)
     rw [e, List.take_length, ← hIsk, ← hPsk]
     repeat' first | refine s1 ?_ | fail
     exact ⟨_, F.fit ⟨rfl, rfl, rfl, trivial⟩ ⟨rfl, rfl, trivial⟩, ⟨by omega, fun j hj => by rcases Nat.lt_succ_iff_lt_or_eq.1 hj with h | h; exact k2 j h; rw [h]; exact hok⟩, by omega⟩
 ·obtain rfl : k = 2 := by omega
  rw [hyes k2]
  repeat' first | refine s1 ?_ | fail
  refine kM ?_
  exact F.retM rfl trivial
theorem l16Parts_m : ∀ (n : Nat) (r : Rep), isRep r = true → 0 < r.d.sum → r.d.sum ≤ n → AM Tryz.prog 45 [.agg (enc false r)] [] [.dt true 6 (E false (ptN n r).1), .dt true 1 (E true (ptN n r).2.1), .b (ptN n r).2.2] []
 | 0, r, _, h1, h2 => by omega
 | n + 1, r, hr, h1, h2 => by
  cases hfs : (fsP r).2.2 with
  | false => exact l16Parts_leaf n r hr h1 hfs
  | true =>
   refine l16Parts_step n r hr h1 hfs fun k hk => ?_
   have hh := half (n := n) hr hfs hk
   refine l16Parts_m n _ (subR_ok hh.sub) hh.pos ?_
   obtain ⟨f1, f2, f3, f4, f5⟩ := fs_facts hr hfs
   rw [dims_sum]
   have : k = 0 ∨ k = 1 := by omega
   rcases this with e | e <;> subst e
   ·show (dimS (fsP r).1).sum ≤ _; omega
   ·show (dimS (fsP r).2.1).sum ≤ _; omega
theorem specPartsOf_m (r : Rep) : AM Tryz.prog 17 [.agg (enc false r)] [] [.dt true 6 (E false (psP r).1), .dt true 3 (E true (psP r).2.1), .b (psP r).2.2] [] := by
 refine AM.go Tryz.func17 Tryz.ntmps17 rfl rfl fun w0 mp hw => ?_; simp [WfL, WfA, E_length, Enc.enc, In64] at hw
 have hR := specIsRep_a r
 cases hr : isRep r with
 | false =>
  rw [hr] at hR
  rw [psP_no1 (by rw [hr]; simp)]
  repeat' first | refine s1 ?_ | (refine kR ?_; first | refine F.c (hR) ?_) | fail
  refine kM ?_
  exact F.retM rfl trivial
 | true =>
  rw [hr] at hR
  obtain ⟨r1, r2, r3, r4⟩ := isRep_spec hr
  obtain ⟨c1, c2, c3, c4⟩ := areDims_spec r2
  have h5 := okQ_spec c1
  have hsm := rep_sum hr
  have hT := totalOf_a r hr
  by_cases h0 : r.d.sum = 0
  ·rw [h0] at hT
   rw [psP_no1 (fun x => x.2 h0)]
   repeat' first | refine s1 ?_ | (refine kR ?_; first | refine F.c (hR) ?_ | refine F.c (hT) ?_) | fail
   refine kM ?_
   exact F.retM rfl trivial
  ·have hQ := l16Parts_m r.d.sum.toNat r hr (by omega) (by omega)
   have hok := pt_ok r.d.sum.toNat r hr (by omega)
   rw [show ptN r.d.sum.toNat r = ptP r from rfl] at hQ hok
   cases hk : (ptP r).2.2 with
   | false =>
    rw [hk] at hQ
    rw [psP_no2 hk]
    generalize ptP r = X at hQ
    obtain ⟨X1, X2, X3⟩ := X
    dsimp only at hQ
    generalize r.d.sum = S at hT h0
    repeat' first | refine AW.freezeP (α := Rep) (oo := false) r 1 rfl rfl ?_ | refine s1 ?_ | (refine kR ?_; first | refine F.c (hR) ?_ | refine F.c (hT) ?_ | (refine jCf 45 ?_; refine F.w (hQ) ?_)) | fail
    refine kM ?_
    exact F.retM rfl trivial
   | true =>
    rw [hk] at hQ
    rw [psP_yes hr h0 hk]
    have hcf := fun v (hv : v < r.d.length) i (hi : i < (ptP r).2.1.length) => colF hr hok (v := v) hv hi
    have hl := hok.len
    have hle := hok.le
    have hwl := wholeL_len r (ptP r).2.1
    have hwt := fun v (hv : v < r.d.length) => whole_take (g := (ptP r).2.1) hv
    generalize ptP r = X at hQ hcf hl hle hwl hwt ⊢
    obtain ⟨X1, X2, X3⟩ := X
    dsimp only at hQ hcf hl hle hwl hwt ⊢
    generalize wholeL r X2 = WL at hwl hwt ⊢
    generalize r.d.sum = S at hT h0 hle hsm
    repeat' first | refine AW.freezeP (α := Rep) (oo := false) r 1 rfl rfl ?_ | refine s1 ?_ | (refine kR ?_; first | refine F.c (hR) ?_ | refine F.c (hT) ?_ | (refine jCf 45 ?_; refine F.w (hQ) ?_)) | fail
    refine AW.freezeA (α := List Mat) 6 rfl rfl rfl ?_
    refine AW.open 8 3 (.inr rfl) ?_
    refine F.loop (σ := Nat) [8, 9, 10, 11, 33, 34, 35, 36, 37, 38, 39, 40, 41, 42, 43, 44, 45, 46, 47, 48, 49, 50, 51, 52, 53, 54, 55, 56, 57, 58, 59, 60, 61, 62, 63, 64] (fun k => [(8, .sl 3 k 0 k), (9, .i k)]) (fun k => [(3, .live false 3 (E true (WL.take k)))]) (fun k => k ≤ r.d.length) (fun k => r.d.length - k) 0 ⟨rfl, rfl, trivial⟩ ⟨rfl, trivial⟩ (Nat.zero_le _) ?_
    rintro v v1
    have hp2 : (WL.take v).length = v := by rw [List.length_take]; omega
    by_cases hv : v < r.d.length
    ·have hd : 0 ≤ r.d.getD v default ∧ r.d.getD v default ≤ 4 := allIn_spec c3 hv
     have hcv := hcf v hv
     have hwv := hwt v hv
     have hZ : AC Tryz.prog 46 [.i (r.d.getD v default), .i 0] [.agg (enc true (besM (r.d.getD v default).toNat (clmL X2 v) 0))] := by
      have := l3ZeroT_a (r.d.getD v default).toNat 0 (by omega) (by omega)
      rw [Int.toNat_of_nonneg hd.1] at this
      exact this
     have hBk : ∀ i, i < X2.length → v < (X2.getD i default).length ∧ AC Tryz.prog 47 [.agg (enc false (besM (r.d.getD v default).toNat (clmL X2 v) i)), .agg (enc false ((X2.getD i default).getD v default))] [.agg (enc true (besM (r.d.getD v default).toNat (clmL X2 v) (i + 1)))] := fun i hi => by
      obtain ⟨q1, q2, q3, q4⟩ := hcv i hi
      have := l16Beside_a (r.d.getD v default).toNat (besC (clmL X2 v) i) ((X2.getD i default).getD v default).c.toNat (besG (clmL X2 v) i) (ent ((X2.getD i default).getD v default)) (by omega) (by omega)
      rw [q2, ← q4] at this
      exact ⟨q1, this⟩
     generalize besM (r.d.getD v default).toNat (clmL X2 v) = BM at hZ hBk hwv
     repeat' first | refine s1 ?_ | (refine kR ?_; first | refine F.c (hZ) ?_) | fail
     refine AW.putV 10 2 rfl rfl rfl rfl (E_length _ _) (E_pure _ _) rfl ?_
     refine F.loop (σ := Nat) [11, 46, 47, 48, 49, 50, 51, 52, 53, 54, 55, 56, 57, 58, 59, 60] (fun i => [(11, .i i)]) (fun i => [(5, .live false 3 (E true [BM i]))]) (fun i => i ≤ X2.length) (fun i => X2.length - i) 0 ⟨rfl, trivial⟩ ⟨rfl, trivial⟩ (Nat.zero_le _) ?_
     rintro i i1
     by_cases hi : i < X2.length
     ·obtain ⟨hlen, hB'⟩ := hBk i hi
      generalize hY : BM (i + 1) = Y at hB'
      refine AW.takeE (α := Mat) (o := 5) (k := 0) (j := 2) (ls := [BM i]) rfl (by simp) rfl (E_length _ _) ?_
      repeat' first | refine s1 ?_ | fail
      refine AW.draw 9 G.mixed (by kernel_rfl) ?_
      refine dL 0 ?_
      refine dP 1 ?_
      refine dP 2 ?_
      refine dP 3 ?_
      refine dL 4 ?_
      refine dP 5 ?_
      refine dP 6 ?_
      refine dL 7 ?_
      refine dO 8 true ?_
      first | refine s1 ?_ | refine F.c (hB') ?_
      refine tN ?_
      refine dO 9 false ?_
      refine s1 ?_
      refine tN ?_
      refine dN ?_
      rotate_left
      all_goals
       repeat' first | refine AW.putV (o2 := 7) 10 2 rfl rfl rfl rfl (E_length _ _) (E_pure _ _) rfl ?_ | refine s1 ?_ | fail
       exact ⟨i + 1, F.fit ⟨rfl, trivial⟩ ⟨obE (by rw [hY]; rfl), trivial⟩, by omega, by omega⟩
     ·obtain rfl : i = X2.length := by omega
      refine AW.takeE (α := Mat) (o := 5) (k := 0) (j := 2) (ls := [BM X2.length]) rfl (by simp) rfl (E_length _ _) ?_
      generalize BM X2.length = Y at hwv ⊢
      repeat' first | refine s1 ?_ | (refine kR ?_; first | refine F.a1 Mat (a := Y) ?_) | fail
      exact ⟨v + 1, F.fit ⟨rfl, rfl, trivial⟩ ⟨obE (by rw [hwv]), trivial⟩, by omega, by omega⟩
    ·obtain rfl : v = r.d.length := by omega
     have e : WL.take r.d.length = WL := List.take_of_length_le (by omega)
     rw [e]
     repeat' first | refine s1 ?_ | fail
     refine kM ?_
     exact F.retM rfl trivial
end Go.Proofs.YtbcfbcfiahmncaaGreat.V
namespace Go.Proofs.YtbcfbcfiahmncaaGreat.V
open Go
set_option linter.unusedVariables false
def leads (P : Program) (g : FuncId) : List FuncId := (P.funcs[g]?).elim [] P.leadsTo
def Closed (P : Program) (T : List FuncId) : Prop := ∀ g ∈ T, ∀ h ∈ leads P g, h ∈ T
theorem recurses_at {P : Program} {f : FuncId} (g h : FuncId) (hg : (P.closure f).contains g = true) (hh : (leads P g).contains h = true) (hc : (P.closure h).contains g = true) : P.recurses f = true := by
 unfold Program.recurses
 rw [Bool.or_eq_true]
 refine .inr (List.any_eq_true.2 ⟨g, List.contains_iff_mem.1 hg, List.any_eq_true.2 ⟨h, ?_, hc⟩⟩)
 exact List.contains_iff_mem.1 hh
end Go.Proofs.YtbcfbcfiahmncaaGreat.V
