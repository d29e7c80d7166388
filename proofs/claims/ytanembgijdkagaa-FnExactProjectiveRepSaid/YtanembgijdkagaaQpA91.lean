/- Contracts: projective representations. -/
import Derived.Test.YtanembgijdkagaaQpUi
import Derived.Test.YtanembgijdkagaaQpA83
import Derived.Test.YtanembgijdkagaaQpA85
import Derived.Test.YtanembgijdkagaaQpA89
import Derived.Test.YtanembgijdkagaaQpA22
import Derived.Test.YtanembgijdkagaaQpA21
import Derived.Test.YtanembgijdkagaaQpA20
namespace Go.Proofs.Ytanembgijdkagaa.V
open V.Enc (enc)
open Go.RowKit G D
set_option linter.unusedVariables false
set_option linter.unusedSimpArgs false
set_option maxHeartbeats 4000000
set_option maxRecDepth 4000
attribute [local irreducible] AW ARg ARA ARet MRet ASil AC AM ARI
theorem implEqualPaths_a (x y : Pth) : AC Try.prog 50 [.agg (enc false x), .agg (enc false y)] [.b (sameP x y)] := by
  refine AC.go Try.func50 Try.ntmps50 rfl rfl fun w0 hw => ?_; simp [WfL, WfA, E_length, Enc.enc, In64] at hw
  have hE := equal_a x.a y.a
  unfold sameP
  by_cases h : x.s = y.s
  · rw [decide_eq_true h]
    generalize decide (x.a = y.a) = z at hE ⊢
    repeat' first | refine s1 ?_ | refine q1 ?_ | (refine kR ?_; first | refine F.c (hE) ?_) | fail
    refine F.ret ?_
    simp
  · rw [decide_eq_false h]
    repeat' first | refine s1 ?_ | refine q1 ?_ | (refine kR ?_; first | refine F.c (hE) ?_) | fail
    refine F.ret ?_
    simp
theorem specEqualPaths_a (x y : Pth) : AC Try.prog 102 [.agg (enc false x), .agg (enc false y)] [.b (sameP x y)] := by
  refine AC.go Try.func102 Try.ntmps102 rfl rfl fun w0 hw => ?_; simp [WfL, WfA, E_length, Enc.enc, In64] at hw
  have hE := l6Same_a x.a y.a
  unfold sameP
  by_cases h : x.s = y.s
  · rw [decide_eq_true h]
    generalize decide (x.a = y.a) = z at hE ⊢
    repeat' first | refine s1 ?_ | refine q1 ?_ | (refine kR ?_; first | refine F.c (hE) ?_) | fail
    refine F.ret ?_
    simp
  · rw [decide_eq_false h]
    repeat' first | refine s1 ?_ | refine q1 ?_ | (refine kR ?_; first | refine F.c (hE) ?_) | fail
    refine F.ret ?_
    simp
theorem projRep1_a (x y : Pth) : AC Try.prog 49 [.agg (enc false y), .ip (enc false x)] [.b (sameP y x)] := by
  refine AC.go Try.func49 Try.ntmps49 rfl rfl fun w0 hw => ?_; simp [WfL, WfA, E_length, Enc.enc, In64] at hw
  have hE := implEqualPaths_a y x
  generalize sameP y x = z at hE ⊢
  repeat' first | refine s1 ?_ | refine q1 ?_ | (refine kR ?_; first | refine F.c (hE) ?_) | fail
  (refine kZ ?_; exact F.ret rfl)
theorem l14Place_a (l : List Pth) (x : Pth) : AC Try.prog 41 [ar false l, .agg (enc false x)] [.i (idxFrom (fun y => sameP y x) l 0)] := by
  refine AC.go Try.func41 Try.ntmps41 rfl rfl fun w0 hw => ?_; simp [WfL, WfA, E_length, Enc.enc, In64] at hw
  repeat' first | refine s1 ?_ | refine q1 ?_ | fail
  refine F.loop (σ := Nat) [4, 5, 6, 7, 8, 9, 10, 11, 12, 13, 14, 15, 16, 17, 18] (fun k => [(5, .i k)]) (fun _ => []) (fun k => k ≤ l.length ∧ idxFrom (fun y => sameP y x) l 0 = idxFrom (fun y => sameP y x) (l.drop k) k) (fun k => l.length - k) 0 ⟨rfl, trivial⟩ trivial ⟨Nat.zero_le _, rfl⟩ ?_
  rintro k ⟨hk, hi⟩
  by_cases hlt : k < l.length
  · rw [idxFrom_drop _ l hlt] at hi
    have h1 := specEqualPaths_a (l.getD k default) x
    cases hpx : sameP (l.getD k default) x with
    | true =>
      rw [hpx] at hi h1
      repeat' first | refine s1 ?_ | refine q1 ?_ | fail
      refine AW.draw 6 G.mixed (by kernel_rfl) ?_
      refine dP 0 ?_
      refine dP 1 ?_
      first | refine dP 2 ?_ | refine dQ 2 ?_
      first | refine dL 3 ?_ | refine dLQ 3 ?_
      first | refine dL 4 ?_ | refine dLQ 4 ?_
      refine dO 5 true ?_
      first | refine s1 ?_ | refine F.c (h1) ?_
      refine ARg.nil (ATh.normal ?_)
      refine dN ?_
      rotate_left
      all_goals
        repeat' first | refine s1 ?_ | refine q1 ?_ | fail
        refine F.ret ?_
        rw [hi]; rfl
    | false =>
      rw [hpx] at hi h1
      repeat' first | refine s1 ?_ | refine q1 ?_ | fail
      refine AW.draw 6 G.mixed (by kernel_rfl) ?_
      refine dP 0 ?_
      refine dP 1 ?_
      first | refine dP 2 ?_ | refine dQ 2 ?_
      first | refine dL 3 ?_ | refine dLQ 3 ?_
      first | refine dL 4 ?_ | refine dLQ 4 ?_
      refine dO 5 true ?_
      first | refine s1 ?_ | refine F.c (h1) ?_
      refine ARg.nil (ATh.normal ?_)
      refine dN ?_
      rotate_left
      all_goals
        repeat' first | refine s1 ?_ | refine q1 ?_ | fail
        exact ⟨k + 1, F.fit ⟨rfl, trivial⟩ trivial, ⟨by omega, hi⟩, by omega⟩
  · obtain rfl : k = l.length := by omega
    rw [List.drop_length] at hi
    repeat' first | refine s1 ?_ | refine q1 ?_ | fail
    refine F.ret ?_
    rw [hi]; rfl
/-- what is known of an arrow of an acyclic quiver, and of its dimensions -/
theorem prj_arrow {q : Quiv} {v : Int} (h : areDims q (projD q v) = true) {i : Nat} (hi : i < q.fr.length) : betwB q v (q.fr.getD i default) = true ∧ betwB q v (q.to.getD i default) = true ∧ (betw q v (q.fr.getD i default)).length ≤ 4 ∧ (betw q v (q.to.getD i default)).length ≤ 4 ∧ (zeroMs q (projD q v)).getD i default = tm (betw q v (q.to.getD i default)).length (betw q v (q.fr.getD i default)).length (fun _ _ => 0) := by
  obtain ⟨c1, c2, c3, c4⟩ := areDims_spec h
  have h5 := okQ_spec c1
  obtain ⟨p1, p2, p3, p4⟩ := projD_yes h
  have f : 0 ≤ q.fr.getD i default ∧ q.fr.getD i default < q.n := okQ_fr c1 hi
  have t : 0 ≤ q.to.getD i default ∧ q.to.getD i default < q.n := okQ_to c1 hi
  have ef := p4 (q.fr.getD i default).toNat (by omega)
  have et := p4 (q.to.getD i default).toNat (by omega)
  rw [Int.toNat_of_nonneg f.1] at ef
  rw [Int.toNat_of_nonneg t.1] at et
  have bf : 0 ≤ (projD q v).getD (q.fr.getD i default).toNat default ∧ (projD q v).getD (q.fr.getD i default).toNat default ≤ 4 := allIn_spec c3 (by omega)
  have bt : 0 ≤ (projD q v).getD (q.to.getD i default).toNat default ∧ (projD q v).getD (q.to.getD i default).toNat default ≤ 4 := allIn_spec c3 (by omega)
  refine ⟨?_, ?_, by omega, by omega, ?_⟩
  · simp only [betwB, Bool.and_eq_true, decide_eq_true_eq]
    exact ⟨⟨p1, p2, p3⟩, by omega, by omega⟩
  · simp only [betwB, Bool.and_eq_true, decide_eq_true_eq]
    exact ⟨⟨p1, p2, p3⟩, by omega, by omega⟩
  · rw [zeroMs_get _ _ hi, ← zeroM_tab]
    unfold gI
    rw [ef, et]
theorem pjF_all (q : Quiv) (v : Int) (i : Nat) : pjM q v i = tm (betw q v (q.to.getD i default)).length (betw q v (q.fr.getD i default)).length (pjF q v i (betw q v (q.fr.getD i default)).length) := rfl
theorem implProjectiveRep_a (p : Int) (q : Quiv) (v : Int) : AC Try.prog 11 [.i p, .agg (enc false q), .i v] [.agg (enc true (projP p q v).1), .b (projP p q v).2] := by
  refine AC.go Try.func11 Try.ntmps11 rfl rfl fun w0 hw => ?_; simp [WfL, WfA, E_length, Enc.enc, In64] at hw
  have hD := implProjectiveDims_a q v
  have hF := implIsField_a p
  have hA := implAreDims_a q (projD q v)
  unfold projP
  cases hf : isF p with
  | false =>
    rw [hf] at hF
    rw [if_neg (by simp)]
    generalize projD q v = DS at hD hA
    repeat' first | refine s1 ?_ | refine q1 ?_ | (refine kR ?_; first | refine F.c (hD) ?_ | refine F.c (hF) ?_) | fail
    (refine kZ ?_; exact F.ret rfl)
  | true =>
    rw [hf] at hF
    cases ha : areDims q (projD q v) with
    | false =>
      rw [ha] at hA
      rw [if_neg (by simp)]
      generalize projD q v = DS at hD hA
      repeat' first | refine s1 ?_ | refine q1 ?_ | (refine kR ?_; first | refine F.c (hD) ?_ | refine F.c (hF) ?_ | refine F.c (hA) ?_) | fail
      (refine kZ ?_; exact F.ret rfl)
    | true =>
      rw [ha] at hA
      rw [if_pos ⟨rfl, rfl⟩]
      obtain ⟨c1, c2, c3, c4⟩ := areDims_spec ha
      have h5 := okQ_spec c1
      obtain ⟨p1, p2, p3, p4⟩ := projD_yes ha
      obtain ⟨rk, hk⟩ := acy_of p1
      have hpa := fun i (hi : i < q.fr.length) => prj_arrow ha hi
      have hpl := fun i k (hi : i < q.fr.length) hk => plc_spec (v := v) p1 hi (k := k) hk
      have hZ := zeroRep_a p q (projD q v) c1 c2 (fun j hj => by
        have : 0 ≤ (projD q v).getD j default ∧ (projD q v).getD j default ≤ 4 := allIn_spec c3 hj
        omega)
      have hzl := zeroMs_len q (projD q v)
      have hml := pjMs_len q v
      have hxy : (pjMs q v).length = (zeroMs q (projD q v)).length := by omega
      have hmx := mixL_len hxy
      have hms := fun k hk => mixL_set hxy (k := k) hk
      have hmg := fun k hk => mixL_get hxy (k := k) hk
      have hm0 := mixL_zero (pjMs q v) (zeroMs q (projD q v))
      have hma := mixL_all hxy
      have hsg := fun i (hi : i < q.fr.length) => pjMs_get q v hi
      unfold projR
      generalize pjMs q v = SM at hml hxy hmx hms hmg hm0 hma hsg ⊢
      generalize hZM : zeroMs q (projD q v) = ZM at hzl hxy hmx hms hmg hm0 hma hpa
      generalize projD q v = DS at hD hA hZ hZM c2 c3 ⊢
      have hzm : (zeroR p q DS).m.length = ZM.length := by rw [← hZM]
      have hzm2 : (zeroMs q DS).length = ZM.length := by rw [← hZM]
      repeat' first | refine s1 ?_ | refine q1 ?_ | (refine kR ?_; first | refine F.c (hD) ?_ | refine F.c (hF) ?_ | refine F.c (hA) ?_ | refine F.c (hZ) ?_) | fail
      refine F.loop (σ := Nat) [10, 11, 12, 13, 14, 15, 16, 37, 38, 39, 40, 41, 42, 43, 44, 45, 46, 47, 48, 49, 50, 51, 52, 53, 54, 55, 56, 57, 58, 59, 60, 61, 62, 63, 64, 65, 66, 67, 68, 69, 70, 71, 72, 73, 74, 75, 76, 77, 78, 79, 80, 81] (fun i => [(37, .i i)]) (fun i => [(6, .live false 3 (E true (mixL SM ZM i)))]) (fun i => i ≤ q.fr.length) (fun i => q.fr.length - i) 0 ⟨rfl, trivial⟩ ⟨obE (by rw [hm0, ← hZM]), trivial⟩ (Nat.zero_le _) ?_
      rintro i i1
      have hlk := hmx i
      by_cases hi : i < q.fr.length
      · have hit : i < q.to.length := by omega
        obtain ⟨b1, b2, b3, b4, b5⟩ := hpa i hi
        have hBT := pathsBetween_m q rk hk v (q.to.getD i default)
        have hBF := pathsBetween_m q rk hk v (q.fr.getD i default)
        have hpli := fun k hk => hpl i k hi hk
        have hsk := hms i (by omega)
        have hgk := hmg i (by omega)
        rw [b5] at hgk
        rw [hsg i hi, pjF_all] at hsk
        have hp0 := pjF_zero q v i
        have hpS := pjF_set q v i
        have hlg : ∀ k, k < (betw q v (q.fr.getD i default)).length → longP q v i k = ⟨v, ((betw q v (q.fr.getD i default)).getD k default).a ++ [(i : Int)]⟩ := fun k _ => rfl
        have hsh : ∀ k, k < (betw q v (q.fr.getD i default)).length → ((betw q v (q.fr.getD i default)).getD k default).a.length ≤ 100 := fun k hk2 => by
          have hm := gm (d := default) hk2
          unfold betw at hm
          have := lfQ_chain q 5 v _ (List.mem_filter.1 hm).1
          have h2 := this.2
          exact Nat.le_trans h2 (by omega)
        generalize pjF q v i = PF at hsk hp0 hpS
        generalize plcN q v i = PN at hpli hpS
        generalize longP q v i = LP at hpli hlg
        generalize betw q v (q.to.getD i default) = BT at *
        generalize betw q v (q.fr.getD i default) = BF at *
        generalize mixL SM ZM i = X at hlk hsk hgk ⊢
        have hbX : (E true X).length = (zeroR p q DS).m.length := by rw [E_length, hlk, hzm]
        repeat' first | refine s1 ?_ | refine q1 ?_ | fail
        refine AW.draw 9 G.mixed (by kernel_rfl) ?_
        first | refine dL 0 ?_ | refine dLQ 0 ?_
        refine dP 1 ?_
        refine dP 2 ?_
        first | refine dL 3 ?_ | refine dLQ 3 ?_
        refine dP 4 ?_
        first | refine dP 5 ?_ | refine dQ 5 ?_
        first | refine dL 6 ?_ | refine dLQ 6 ?_
        refine dO 7 true ?_
        first | refine s1 ?_ | refine F.w (hBT) ?_
        refine ARg.nil (ATh.normal ?_)
        refine dP 8 ?_
        refine dN ?_
        rotate_left
        all_goals
          repeat' first | refine s1 ?_ | refine q1 ?_ | (refine kR ?_; first | refine F.w (hBF) ?_) | fail
          refine AW.takeE (α := Mat) (o := 6) (k := i) (j := 2) (ls := X) rfl (by omega) rfl (E_length _ _) ?_
          rw [hgk]
          refine F.loop (σ := Nat) [13, 14, 15, 16, 55, 56, 57, 58, 59, 60, 61, 62, 63, 64, 65, 66, 67, 68, 69, 70, 71, 72, 73, 74, 75, 76, 77, 78, 79, 80] (fun k => [(55, .i k)]) (fun k => [(8, .live false 1 (E true (tab BT.length BF.length (PF k))))]) (fun k => k ≤ BF.length) (fun k => BF.length - k) 0 ⟨rfl, trivial⟩ ⟨obE (by rw [hp0]), trivial⟩ (Nat.zero_le _) ?_
          rintro k k1
          by_cases hkk : k < BF.length
          · have hC := clone_a (BF.getD k default).a (by have := hsh k hkk; omega)
            obtain ⟨q1', q2'⟩ := hpli k hkk
            rw [hlg k hkk] at q1'
            have hI := IndexFuncP_a BT 49 [.ip (enc false (⟨v, (BF.getD k default).a ++ [(i : Int)]⟩ : Pth))] (fun y => sameP y ⟨v, (BF.getD k default).a ++ [(i : Int)]⟩) (fun _ => .ip .nil) (fun y _ => projRep1_a ⟨v, (BF.getD k default).a ++ [(i : Int)]⟩ y)
            rw [q1'] at hI
            have hN := tab_len BT.length BF.length (fun _ _ => 0)
            have hRow := row_m BT.length BF.length (PN k) (PF k) _ hN q2' (by omega) (by omega)
            have hsl := hsh k hkk
            repeat' first | refine AW.putC (o := 11) (k := 0) (j := 1) (o2 := 10) rfl rfl rfl rfl (by first | exact E_length _ _ | simp [E_length]) (E_pure _ _) rfl ?_ | refine AW.freezeP (α := Pth) (oo := true) ⟨v, (BF.getD k default).a ++ [(i : Int)]⟩ 15 rfl rfl ?_ | refine s1 ?_ | refine q1 ?_ | (refine kR ?_; first | refine F.c (hC) ?_ | refine F.c (hI) ?_ | refine F.m [8] (hRow) ?_ | refine F.a1 Int ?_ | refine F.sil (A.idxT (k := i) rfl rfl rfl hbX rfl (by omega)) rfl rfl ?_ | refine F.sil (A.ldSG (k := i) rfl rfl hbX (by omega) (by omega) rfl rfl) rfl rfl ?_) | fail
            exact ⟨k + 1, F.fit ⟨rfl, trivial⟩ ⟨obE (by rw [hpS]), trivial⟩, by omega, by omega⟩
          · obtain rfl : k = BF.length := by omega
            refine AW.put (α := Mat) (o := 6) (o2 := 8) (k := i) (j := 2) (v := tm BT.length BF.length (PF BF.length)) (x := tm BT.length BF.length (fun _ _ => 0)) (m := (tab BT.length BF.length fun _ _ => (0 : Int)).length) (ls := X) rfl rfl (by rw [E_length, tab_len, tab_len]) (E_pure _ _) rfl (by omega) rfl rfl ?_
            rw [hsk]
            repeat' first | refine s1 ?_ | refine q1 ?_ | fail
            exact ⟨i + 1, F.fit ⟨rfl, trivial⟩ ⟨rfl, trivial⟩, by omega, by omega⟩
      · obtain rfl : i = q.fr.length := by omega
        have hma' : mixL SM ZM q.fr.length = SM := by rw [← hml]; exact hma
        rw [hma'] at hlk ⊢
        have hSl : SM.length = q.fr.length := by omega
        repeat' first | refine s1 ?_ | refine q1 ?_ | fail
        (refine kZ ?_; exact F.ret rfl)
theorem specProjectiveRep_a (p : Int) (q : Quiv) (v : Int) : AC Try.prog 9 [.i p, .agg (enc false q), .i v] [.agg (enc true (projP p q v).1), .b (projP p q v).2] := by
  refine AC.go Try.func9 Try.ntmps9 rfl rfl fun w0 hw => ?_; simp [WfL, WfA, E_length, Enc.enc, In64] at hw
  have hD := specProjectiveDims_a q v
  have hF := specIsField_a p
  have hA := specAreDims_a q (projD q v)
  unfold projP
  cases hf : isF p with
  | false =>
    rw [hf] at hF
    rw [if_neg (by simp)]
    generalize projD q v = DS at hD hA
    repeat' first | refine s1 ?_ | refine q1 ?_ | (refine kR ?_; first | refine F.c (hD) ?_ | refine F.c (hF) ?_) | fail
    (refine kZ ?_; exact F.ret rfl)
  | true =>
    rw [hf] at hF
    cases ha : areDims q (projD q v) with
    | false =>
      rw [ha] at hA
      rw [if_neg (by simp)]
      generalize projD q v = DS at hD hA
      repeat' first | refine s1 ?_ | refine q1 ?_ | (refine kR ?_; first | refine F.c (hD) ?_ | refine F.c (hF) ?_ | refine F.c (hA) ?_) | fail
      (refine kZ ?_; exact F.ret rfl)
    | true =>
      rw [ha] at hA
      rw [if_pos ⟨rfl, rfl⟩]
      obtain ⟨c1, c2, c3, c4⟩ := areDims_spec ha
      have h5 := okQ_spec c1
      obtain ⟨p1, p2, p3, p4⟩ := projD_yes ha
      obtain ⟨rk, hk⟩ := acy_of p1
      have hpa := fun i (hi : i < q.fr.length) => prj_arrow ha hi
      have hpl := fun i k (hi : i < q.fr.length) hk => plc_spec (v := v) p1 hi (k := k) hk
      have hZ := l8Zero_a p q (projD q v) c1 c2 (fun j hj => by
        have : 0 ≤ (projD q v).getD j default ∧ (projD q v).getD j default ≤ 4 := allIn_spec c3 hj
        omega)
      have hzl := zeroMs_len q (projD q v)
      have hml := pjMs_len q v
      have hxy : (pjMs q v).length = (zeroMs q (projD q v)).length := by omega
      have hmx := mixL_len hxy
      have hms := fun k hk => mixL_set hxy (k := k) hk
      have hmg := fun k hk => mixL_get hxy (k := k) hk
      have hm0 := mixL_zero (pjMs q v) (zeroMs q (projD q v))
      have hma := mixL_all hxy
      have hsg := fun i (hi : i < q.fr.length) => pjMs_get q v hi
      unfold projR
      generalize pjMs q v = SM at hml hxy hmx hms hmg hm0 hma hsg ⊢
      generalize hZM : zeroMs q (projD q v) = ZM at hzl hxy hmx hms hmg hm0 hma hpa
      generalize projD q v = DS at hD hA hZ hZM c2 c3 ⊢
      have hzm : (zeroR p q DS).m.length = ZM.length := by rw [← hZM]
      have hzm2 : (zeroMs q DS).length = ZM.length := by rw [← hZM]
      repeat' first | refine s1 ?_ | refine q1 ?_ | (refine kR ?_; first | refine F.c (hD) ?_ | refine F.c (hF) ?_ | refine F.c (hA) ?_ | refine F.c (hZ) ?_) | fail
      refine F.loop (σ := Nat) [10, 11, 12, 13, 14, 15, 16, 34, 35, 36, 37, 38, 39, 40, 41, 42, 43, 44, 45, 46, 47, 48, 49, 50, 51, 52, 53, 54, 55, 56, 57, 58, 59, 60, 61, 62, 63, 64, 65, 66, 67, 68, 69, 70, 71, 72, 73, 74, 75, 76, 77, 78, 79, 80, 81, 82, 83, 84, 85, 86, 87, 88, 89, 90, 91, 92, 93, 94, 95] (fun i => [(10, .i i)]) (fun i => [(6, .live false 3 (E true (mixL SM ZM i)))]) (fun i => i ≤ q.fr.length) (fun i => q.fr.length - i) 0 ⟨rfl, trivial⟩ ⟨obE (by rw [hm0, ← hZM]), trivial⟩ (Nat.zero_le _) ?_
      rintro i i1
      have hlk := hmx i
      by_cases hi : i < q.fr.length
      · have hit : i < q.to.length := by omega
        obtain ⟨b1, b2, b3, b4, b5⟩ := hpa i hi
        have hBT := specPathsBetween_m q v (q.to.getD i default) b2
        have hBF := specPathsBetween_m q v (q.fr.getD i default) b1
        have hpli := fun k hk => hpl i k hi hk
        have hsk := hms i (by omega)
        have hgk := hmg i (by omega)
        rw [b5] at hgk
        rw [hsg i hi, pjF_all] at hsk
        have hp0 := pjF_zero q v i
        have hpS := pjF_set q v i
        have hlg : ∀ k, k < (betw q v (q.fr.getD i default)).length → longP q v i k = ⟨v, ((betw q v (q.fr.getD i default)).getD k default).a ++ [(i : Int)]⟩ := fun k _ => rfl
        have hsh : ∀ k, k < (betw q v (q.fr.getD i default)).length → ((betw q v (q.fr.getD i default)).getD k default).a.length ≤ 100 := fun k hk2 => by
          have hm := gm (d := default) hk2
          unfold betw at hm
          have := lfQ_chain q 5 v _ (List.mem_filter.1 hm).1
          have h2 := this.2
          exact Nat.le_trans h2 (by omega)
        generalize pjF q v i = PF at hsk hp0 hpS
        generalize plcN q v i = PN at hpli hpS
        generalize longP q v i = LP at hpli hlg
        generalize betw q v (q.to.getD i default) = BT at *
        generalize betw q v (q.fr.getD i default) = BF at *
        generalize mixL SM ZM i = X at hlk hsk hgk ⊢
        have hbX : (E true X).length = (zeroR p q DS).m.length := by rw [E_length, hlk, hzm]
        repeat' first | refine s1 ?_ | refine q1 ?_ | fail
        refine AW.draw 13 G.mixed (by kernel_rfl) ?_
        first | refine dL 0 ?_ | refine dLQ 0 ?_
        refine dP 1 ?_
        refine dP 2 ?_
        first | refine dL 3 ?_ | refine dLQ 3 ?_
        refine dP 4 ?_
        first | refine dP 5 ?_ | refine dQ 5 ?_
        first | refine dL 6 ?_ | refine dLQ 6 ?_
        refine dO 7 true ?_
        first | refine s1 ?_ | refine F.w (hBF) ?_
        refine ARg.nil (ATh.normal ?_)
        refine dP 8 ?_
        refine dP 9 ?_
        refine dP 10 ?_
        refine dP 11 ?_
        refine dP 12 ?_
        refine dN ?_
        rotate_left
        all_goals
          repeat' first | refine s1 ?_ | refine q1 ?_ | fail
        all_goals
          refine AW.draw 13 G.mixed (by kernel_rfl) ?_
          first | refine dL 0 ?_ | refine dLQ 0 ?_
          refine dP 1 ?_
          refine dP 2 ?_
          first | refine dL 3 ?_ | refine dLQ 3 ?_
          refine dP 4 ?_
          first | refine dP 5 ?_ | refine dQ 5 ?_
          first | refine dL 6 ?_ | refine dLQ 6 ?_
          refine dO 7 true ?_
          first | refine s1 ?_ | refine F.w (hBT) ?_
          refine ARg.nil (ATh.normal ?_)
          refine dP 8 ?_
          refine dP 9 ?_
          refine dP 10 ?_
          refine dP 11 ?_
          refine dP 12 ?_
          refine dN ?_
          rotate_left
        all_goals
          repeat' first | refine s1 ?_ | refine q1 ?_ | fail
          refine AW.takeE (α := Mat) (o := 6) (k := i) (j := 2) (ls := X) rfl (by omega) rfl (E_length _ _) ?_
          rw [hgk]
          refine F.loop (σ := Nat) [15, 16, 63, 64, 65, 66, 67, 68, 69, 70, 71, 72, 73, 74, 75, 76, 77, 78, 79, 80, 81, 82, 83, 84, 85, 86, 87, 88, 89, 90, 91, 92, 93, 94, 95] (fun k => [(15, .i k)]) (fun k => [(8, .live false 1 (E true (tab BT.length BF.length (PF k))))]) (fun k => k ≤ BF.length) (fun k => BF.length - k) 0 ⟨rfl, trivial⟩ ⟨obE (by rw [hp0]), trivial⟩ (Nat.zero_le _) ?_
          rintro k k1
          by_cases hkk : k < BF.length
          · obtain ⟨q1', q2'⟩ := hpli k hkk
            rw [hlg k hkk] at q1'
            have hI := l14Place_a BT ⟨v, (BF.getD k default).a ++ [(i : Int)]⟩
            rw [q1'] at hI
            have hN := tab_len BT.length BF.length (fun _ _ => 0)
            have hsl := hsh k hkk
            obtain ⟨t1, t2⟩ := tab_in (i := PN k) (j := k) (r := BT.length) (c := BF.length) q2' hkk (by omega) (by omega)
            repeat' first | refine s1 ?_ | refine q1 ?_ | (refine kR ?_; first | refine F.aLN (α := Int) ?_ | refine F.a1 Int ?_) | fail
            refine AW.draw 15 G.mixed (by kernel_rfl) ?_
            refine dP 0 ?_
            first | refine dL 1 ?_ | refine dL 1 ?_ (hs := by exact (A.ldS rfl rfl hbX (Nat.zero_add _) (by omega) rfl rfl)) | refine dLQ 1 ?_
            refine dP 2 ?_
            first | refine dP 3 ?_ | refine dP 3 ?_ (hs := by exact (A.idxT (k := i) rfl rfl rfl hbX rfl (by omega))) | refine dQ 3 ?_
            refine dP 4 ?_
            first | refine dL 5 ?_ | refine dL 5 ?_ (hs := by exact (A.ldS rfl rfl hbX (Nat.zero_add _) (by omega) rfl rfl)) | refine dLQ 5 ?_
            refine dP 6 ?_
            first | refine dL 7 ?_ | refine dL 7 ?_ (hs := by exact (A.ldS rfl rfl hbX (Nat.zero_add _) (by omega) rfl rfl)) | refine dLQ 7 ?_
            refine dP 9 ?_
            refine dP 10 ?_
            refine dP 12 ?_
            refine dO 8 true ?_
            first | refine s1 ?_ | refine F.c (hI) ?_
            refine ARg.nil (ATh.normal ?_)
            refine dP 11 ?_
            refine dP 13 ?_
            first | refine dP 14 ?_ | refine dP 14 ?_ (hs := by exact (A.idxT (k := i) rfl rfl rfl hbX rfl (by omega))) | refine dQ 14 ?_
            refine dO 15 false ?_
            first | refine s1 ?_ | refine q1 ?_
            refine ARg.nil (ATh.normal ?_)
            refine dN ?_
            rotate_left
            all_goals
              repeat' first | refine s1 ?_ | refine q1 ?_ | fail
              exact ⟨k + 1, F.fit ⟨rfl, trivial⟩ ⟨obE (by rw [hpS]), trivial⟩, by omega, by omega⟩
          · obtain rfl : k = BF.length := by omega
            refine AW.put (α := Mat) (o := 6) (o2 := 8) (k := i) (j := 2) (v := tm BT.length BF.length (PF BF.length)) (x := tm BT.length BF.length (fun _ _ => 0)) (m := (tab BT.length BF.length fun _ _ => (0 : Int)).length) (ls := X) rfl rfl (by rw [E_length, tab_len, tab_len]) (E_pure _ _) rfl (by omega) rfl rfl ?_
            rw [hsk]
            repeat' first | refine s1 ?_ | refine q1 ?_ | fail
            exact ⟨i + 1, F.fit ⟨rfl, trivial⟩ ⟨rfl, trivial⟩, by omega, by omega⟩
      · obtain rfl : i = q.fr.length := by omega
        have hma' : mixL SM ZM q.fr.length = SM := by rw [← hml]; exact hma
        rw [hma'] at hlk ⊢
        have hSl : SM.length = q.fr.length := by omega
        repeat' first | refine s1 ?_ | refine q1 ?_ | fail
        (refine kZ ?_; exact F.ret rfl)
end Go.Proofs.Ytanembgijdkagaa.V
