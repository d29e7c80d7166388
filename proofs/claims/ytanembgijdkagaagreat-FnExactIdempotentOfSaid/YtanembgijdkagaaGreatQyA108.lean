/- Contracts: idempotents of complements (the reference's). -/
import Derived.Test.YtanembgijdkagaaGreatQyA107
import Derived.Test.YtanembgijdkagaaGreatQyUq
import Derived.Test.YtanembgijdkagaaGreatQyUk
namespace Go.Proofs.YtanembgijdkagaaGreat.V
open V.Enc (enc)
open Go.RowKit G D
set_option linter.unusedVariables false
set_option linter.unusedSimpArgs false
set_option maxHeartbeats 4000000
set_option maxRecDepth 4000
attribute [local irreducible] AW ARg ARA ARet MRet ASil AC AM ARI
theorem idmP_ct (r : Rep) (s t : List Spc) : cnt ctM (idmP r s t).1 ≤ 1000 := by
  unfold idmP
  by_cases h : cmpB r s t = true
  · rw [if_pos h]
    obtain ⟨h1, h2, h3⟩ := cmpB_spec h
    obtain ⟨r1, r2, r3, r4⟩ := isRep_spec (isSub_spec h1).1
    obtain ⟨c1, c2, c3, c4⟩ := areDims_spec r2
    have h5 := okQ_spec c1
    have hl := idpL_len r s t
    have := cnt_bd (c := ctM) (B := 66) (xs := idpL r s t) fun x hx => by
      simp only [idpL, List.mem_map] at hx
      obtain ⟨v, hv, rfl⟩ := hx
      have hv : v < r.d.length := by simpa using hv
      obtain ⟨q1, q2, q3, q4, q5, q6, q7, q8, q9⟩ := cmp_at h hv
      have hp := isF_pos r1
      have hbk : BdF r.p (r.d.getD v default).toNat (r.d.getD v default).toNat (kepF (s.getD v default) (t.getD v default)) := fun i hi j hj => by
        unfold kepF
        by_cases h : j < (s.getD v default).b.length
        · rw [if_pos h]; omega
        · rw [if_neg h]; exact q8 i hi j hj
      have e := isMat_mul (isMat_tab r1 (by omega) (by omega) hbk) (isMat_tab r1 (by omega) (by omega) (invF_bd r1 q8))
      rw [show mulM r.p (tm (r.d.getD v default).toNat (r.d.getD v default).toNat (kepF (s.getD v default) (t.getD v default))) (tm (r.d.getD v default).toNat (r.d.getD v default).toNat (invF r.p (r.d.getD v default).toNat (fcF ((s.getD v default).b ++ (t.getD v default).b)))) = idpM r.p (r.d.getD v default).toNat (s.getD v default) (t.getD v default) from rfl] at e
      simp only [isMat, isVec, Bool.and_eq_true, decide_eq_true_eq] at e
      simp only [ctM]
      omega
    dsimp only
    omega
  · rw [if_neg h]; simp [cnt]
theorem specIdempotentOf_a (r : Rep) (s t : List Spc) : AC Tryz.prog 30 [.agg (enc false r), ar false s, ar false t] [.dt true 3 (E true (idmP r s t).1), .b (idmP r s t).2] := by
  refine AC.go Tryz.func30 Tryz.ntmps30 rfl rfl fun w0 hw => ?_; simp [WfL, WfA, E_length, Enc.enc, In64] at hw
  have hJ := specIsComplementPair_a r s t
  unfold idmP
  cases hc' : cmpB r s t with
  | false =>
    rw [hc'] at hJ
    rw [if_neg (by simp)]
    repeat' first | refine s1 ?_ | refine q1 ?_ | (refine kR ?_; first | refine F.c (hJ) ?_) | fail
    (refine kZ ?_; exact F.ret rfl)
  | true =>
    rw [hc'] at hJ
    rw [if_pos rfl]
    obtain ⟨h1, h2, h3⟩ := cmpB_spec hc'
    obtain ⟨g1, g2, g3, g4⟩ := isSub_spec h1
    obtain ⟨t1, t2, t3, t4⟩ := isSub_spec h2
    obtain ⟨r1, r2, r3, r4⟩ := isRep_spec g1
    obtain ⟨c1, c2, c3, c4⟩ := areDims_spec r2
    have h5 := okQ_spec c1
    have hp := isF_pos r1
    have hat := fun v hv => cmp_at hc' (v := v) hv
    have hll := idpL_len r s t
    have hts := fun k hk => idpL_take r s t (k := k) hk
    generalize idpL r s t = L at hll hts ⊢
    repeat' first | refine s1 ?_ | refine q1 ?_ | (refine kR ?_; first | refine F.c (hJ) ?_) | fail
    refine AW.freezeP (α := Rep) (oo := false) r 3 rfl rfl ?_
    refine AW.open 8 3 (.inr rfl) ?_
    refine AW.only [(1, ar false s), (2, ar false t), (3, .ip (enc false r)), (8, .sl 1 0 0 0), (9, .i 0)] [(1, .live false 3 [])] 2 ⟨rfl, rfl, rfl, rfl, rfl, trivial⟩ ⟨rfl, trivial⟩ rfl ?_
    refine F.loop (σ := Nat) [8, 9, 10, 11, 12, 13, 14, 22, 23, 24, 25, 26, 27, 28, 29, 30, 31, 32, 33, 34, 35, 36, 37, 38, 39, 40, 41, 42, 43, 44, 45, 46, 47, 48, 49, 50, 51, 52, 53, 54, 55, 56, 57, 58, 59, 60, 61, 62, 63, 64, 65, 66, 67, 68, 69, 70, 71, 72, 73, 74, 75, 76, 77, 78, 79, 80, 81, 82, 83, 84, 85, 86, 87, 88, 89, 90, 91, 92, 93, 94, 95, 96, 97, 98, 99, 100, 101, 102, 103, 104] (fun k => [(8, .sl 1 k 0 k), (9, .i k)]) (fun k => [(1, .live false 3 (E true (L.take k)))]) (fun k => k ≤ r.d.length) (fun k => r.d.length - k) 0 ⟨rfl, rfl, trivial⟩ ⟨rfl, trivial⟩ (Nat.zero_le _) ?_
    rintro k k1
    have hp2 : (L.take k).length = k := by rw [List.length_take]; omega
    by_cases hk : k < r.d.length
    · obtain ⟨z1, z2, z3, z4, z5, z6, z7, z8, z9⟩ := hat k hk
      have ht := hts k hk
      generalize hS' : s.getD k default = S at *
      generalize hT' : t.getD k default = T at *
      generalize (r.d.getD k default).toNat = n at z3 z4 z5 z6 z7 z8 z9 ht
      have hlen : (S.b ++ T.b).length = n := by rw [List.length_append]; exact z3
      have hR := l5Rows_a n (S.b ++ T.b) (by omega) (by omega) (z6.app z7).len
      have hTr := l3Transpose_a (S.b ++ T.b).length n (vecF (S.b ++ T.b)) (by omega) (by omega)
      rw [hlen, show tm n n (fun i j => vecF (S.b ++ T.b) j i) = botM n S T from rfl] at hTr
      rw [hlen, ← z4] at hR
      have hI := l4Inverse_a r.p n (fcF (S.b ++ T.b)) r1 (by omega) z8 z9
      rw [show tm n n (fcF (S.b ++ T.b)) = botM n S T from rfl] at hI
      have hbk : BdF r.p n n (kepF S T) := fun i hi j hj => by
        unfold kepF
        by_cases h : j < S.b.length
        · rw [if_pos h]; omega
        · rw [if_neg h]; exact z8 i hi j hj
      have hZ := l3ZeroT_a n n (by omega) (by omega)
      rw [← z4, ← onesK_start S.b.length] at hZ
      have hM1 := l3MulM_a (isMat_tab r1 (by omega) (by omega) z8) (isMat_tab r1 (by omega) (by omega) (ones_bd hp.1 S.b.length n)) rfl
      rw [show tm n n (fcF (S.b ++ T.b)) = botM n S T from rfl, kep_mul hp.1 z8] at hM1
      have hM2 := l3MulM_a (isMat_tab r1 (by omega) (by omega) hbk) (isMat_tab r1 (by omega) (by omega) (invF_bd r1 z8)) rfl
      rw [show tm n n (kepF S T) = kepM n S T from rfl, show mulM r.p (kepM n S T) (tm n n (invF r.p n (fcF (S.b ++ T.b)))) = idpM r.p n S T from rfl] at hM2
      have hos := fun i (h : S.b.length ≤ i) => onesK_set h
      have hoa := onesK_all S.b.length n
      generalize idpM r.p n S T = Y at hM2 ht
      generalize hIV : tm n n (invF r.p n (fcF (S.b ++ T.b))) = IV at hI hM2
      generalize kepM n S T = KM at hM1 hM2
      generalize botM n S T = BM at hTr hI hM1
      generalize hRM : tm n n (vecF (S.b ++ T.b)) = RM at hR hTr
      subst hS' hT'
      have hsl : (s.getD k default).b.length ≤ n := by omega
      generalize hOK : onesK (s.getD k default).b.length = OK at hZ hos hoa
      repeat' first | refine s1 ?_ | refine q1 ?_ | fail
      apply V.tailedT
      · intro tail
        refine AW.drawI G.mixed (by kernel_rfl) (by rfl) ?_
        intro T w1 MP1 I0
        refine iP 0 ?_
        refine iL 1 ?_
        refine iP 2 ?_
        first | refine iP 3 ?_ | refine iQ 3 ?_
        refine iL 4 ?_
        refine iP 6 ?_
        refine iP 7 ?_
        first | refine iP 8 ?_ | refine iQ 8 ?_
        refine iP 9 ?_
        refine iL 10 ?_
        refine iP 12 ?_
        refine iP 13 ?_
        first | refine iP 14 ?_ | refine iQ 14 ?_
        refine iP 15 ?_
        refine iL 16 ?_
        refine ARI.any [5, 20] (by kernel_rfl) (by simp) ?_
        intro k hk
        simp only [List.mem_cons, List.not_mem_nil, or_false] at hk
        rcases hk with rfl | rfl
        refine ⟨_, rfl, ?_⟩
        refine s1 ?_
        refine ARg.nil (ATh.normal ?_)
        refine ARI.any [11, 20] (by kernel_rfl) (by simp) ?_
        intro k hk
        simp only [List.mem_cons, List.not_mem_nil, or_false] at hk
        rcases hk with rfl | rfl
        refine ⟨_, rfl, ?_⟩
        first | refine s1 ?_ | refine F.aLN (List Int) (oo := false) ?_
        refine ARg.nil (ATh.normal ?_)
        refine ARI.any [17, 20] (by kernel_rfl) (by simp) ?_
        intro k hk
        simp only [List.mem_cons, List.not_mem_nil, or_false] at hk
        rcases hk with rfl | rfl
        refine ⟨_, rfl, ?_⟩
        first | refine s1 ?_ | refine F.aL (List Int) (oo := false) ?_
        refine ARg.nil (ATh.normal ?_)
        refine ARI.any [18, 20] (by kernel_rfl) (by simp) ?_
        intro k hk
        simp only [List.mem_cons, List.not_mem_nil, or_false] at hk
        rcases hk with rfl | rfl
        refine ⟨_, rfl, ?_⟩
        first | refine s1 ?_ | refine F.c (hR) ?_ | refine F.c (hTr) ?_
        refine ARg.nil (ATh.normal ?_)
        refine ARI.any [19, 20] (by kernel_rfl) (by simp) ?_
        intro k hk
        simp only [List.mem_cons, List.not_mem_nil, or_false] at hk
        rcases hk with rfl | rfl
        refine ⟨_, rfl, ?_⟩
        first | refine s1 ?_ | refine F.c (hR) ?_ | refine F.c (hTr) ?_
        refine ARg.nil (ATh.normal ?_)
        refine iO 20 ?_
        refine s1 ?_
        refine ARg.nil (ATh.normal ?_)
        refine iO 21 ?_
        first | refine s1 ?_ | refine q1 ?_
        refine ARg.nil (ATh.normal ?_)
        refine iN ?_
        rotate_left
        refine ⟨_, rfl, ?_⟩
        refine s1 ?_
        refine ARg.nil (ATh.normal ?_)
        refine iO 19 ?_
        first | refine s1 ?_ | refine F.c (hR) ?_ | refine F.c (hTr) ?_
        refine ARg.nil (ATh.normal ?_)
        refine iO 21 ?_
        first | refine s1 ?_ | refine q1 ?_
        refine ARg.nil (ATh.normal ?_)
        refine iN ?_
        rotate_left
        refine ⟨_, rfl, ?_⟩
        refine s1 ?_
        refine ARg.nil (ATh.normal ?_)
        refine iO 18 ?_
        first | refine s1 ?_ | refine F.c (hR) ?_ | refine F.c (hTr) ?_
        refine ARg.nil (ATh.normal ?_)
        refine iO 19 ?_
        first | refine s1 ?_ | refine F.c (hR) ?_ | refine F.c (hTr) ?_
        refine ARg.nil (ATh.normal ?_)
        refine iO 21 ?_
        first | refine s1 ?_ | refine q1 ?_
        refine ARg.nil (ATh.normal ?_)
        refine iN ?_
        rotate_left
        refine ⟨_, rfl, ?_⟩
        refine s1 ?_
        refine ARg.nil (ATh.normal ?_)
        refine iO 17 ?_
        first | refine s1 ?_ | refine F.aL (List Int) (oo := false) ?_
        refine ARg.nil (ATh.normal ?_)
        refine iO 18 ?_
        first | refine s1 ?_ | refine F.c (hR) ?_ | refine F.c (hTr) ?_
        refine ARg.nil (ATh.normal ?_)
        refine iO 19 ?_
        first | refine s1 ?_ | refine F.c (hR) ?_ | refine F.c (hTr) ?_
        refine ARg.nil (ATh.normal ?_)
        refine iO 21 ?_
        first | refine s1 ?_ | refine q1 ?_
        refine ARg.nil (ATh.normal ?_)
        refine iN ?_
        rotate_left
        refine ⟨_, rfl, ?_⟩
        refine s1 ?_
        refine ARg.nil (ATh.normal ?_)
        refine iO 11 ?_
        first | refine s1 ?_ | refine F.aLN (List Int) (oo := false) ?_
        refine ARg.nil (ATh.normal ?_)
        refine iO 17 ?_
        first | refine s1 ?_ | refine F.aL (List Int) (oo := false) ?_
        refine ARg.nil (ATh.normal ?_)
        refine iO 18 ?_
        first | refine s1 ?_ | refine F.c (hR) ?_ | refine F.c (hTr) ?_
        refine ARg.nil (ATh.normal ?_)
        refine iO 19 ?_
        first | refine s1 ?_ | refine F.c (hR) ?_ | refine F.c (hTr) ?_
        refine ARg.nil (ATh.normal ?_)
        refine iO 21 ?_
        first | refine s1 ?_ | refine q1 ?_
        refine ARg.nil (ATh.normal ?_)
        refine iN ?_
        rotate_left
        refine ⟨_, rfl, ?_⟩
        refine s1 ?_
        refine ARg.nil (ATh.normal ?_)
        refine iO 5 ?_
        refine s1 ?_
        refine ARg.nil (ATh.normal ?_)
        refine iO 11 ?_
        first | refine s1 ?_ | refine F.aLN (List Int) (oo := false) ?_
        refine ARg.nil (ATh.normal ?_)
        refine iO 17 ?_
        first | refine s1 ?_ | refine F.aL (List Int) (oo := false) ?_
        refine ARg.nil (ATh.normal ?_)
        refine iO 18 ?_
        first | refine s1 ?_ | refine F.c (hR) ?_ | refine F.c (hTr) ?_
        refine ARg.nil (ATh.normal ?_)
        refine iO 19 ?_
        first | refine s1 ?_ | refine F.c (hR) ?_ | refine F.c (hTr) ?_
        refine ARg.nil (ATh.normal ?_)
        refine iO 21 ?_
        first | refine s1 ?_ | refine q1 ?_
        refine ARg.nil (ATh.normal ?_)
        refine iN ?_
        rotate_left
        all_goals
          refine AW.putV 10 2 rfl rfl rfl rfl (E_length _ _) (E_pure _ _) rfl ?_
          refine AW.freezeP (α := Mat) (oo := true) BM 10 rfl rfl ?_
          refine AW.only [(1, ar false s), (2, ar false t), (3, .ip (enc false r)), (8, .sl 1 k 0 k), (9, .i k), (10, .ip (enc false BM))] [(1, .live false 3 (E true (L.take k)))] 6 ⟨rfl, rfl, rfl, rfl, rfl, rfl, trivial⟩ ⟨rfl, trivial⟩ rfl ?_
          exact tail.t
      · repeat' first | refine s1 ?_ | refine q1 ?_ | (refine kR ?_; first | refine F.c (hI) ?_) | fail
        refine AW.putV 11 2 rfl rfl rfl rfl (E_length _ _) (E_pure _ _) rfl ?_
        refine AW.freezeP (α := Mat) (oo := true) IV 11 rfl rfl ?_
        refine AW.drawI G.mixed (by kernel_rfl) (by rfl) ?_
        intro T w1 MP1 I0
        refine iP 0 ?_
        refine iL 1 ?_
        refine iP 2 ?_
        first | refine iP 3 ?_ | refine iQ 3 ?_
        refine iL 4 ?_
        refine iP 5 ?_
        refine iL 6 ?_
        refine iP 7 ?_
        first | refine iP 8 ?_ | refine iQ 8 ?_
        refine iL 9 ?_
        refine ARI.any [10, 11] (by kernel_rfl) (by simp) ?_
        intro k hk
        simp only [List.mem_cons, List.not_mem_nil, or_false] at hk
        rcases hk with rfl | rfl
        refine ⟨_, rfl, ?_⟩
        first | refine s1 ?_ | refine F.c (hZ) ?_
        refine ARg.nil (ATh.normal ?_)
        refine iO 11 ?_
        refine s1 ?_
        refine ARg.nil (ATh.normal ?_)
        refine iO 12 ?_
        first | refine s1 ?_ | refine q1 ?_
        refine ARg.nil (ATh.normal ?_)
        refine iN ?_
        rotate_left
        refine ⟨_, rfl, ?_⟩
        refine s1 ?_
        refine ARg.nil (ATh.normal ?_)
        refine iO 10 ?_
        first | refine s1 ?_ | refine F.c (hZ) ?_
        refine ARg.nil (ATh.normal ?_)
        refine iO 12 ?_
        first | refine s1 ?_ | refine q1 ?_
        refine ARg.nil (ATh.normal ?_)
        refine iN ?_
        rotate_left
        all_goals
          repeat' first | refine s1 ?_ | refine q1 ?_ | fail
          first | refine F.loop (σ := Nat) [14, 72, 73, 74, 75, 76, 77, 78, 79, 80, 81, 82, 83, 84, 85, 86, 87, 88, 89, 90, 91, 92] (fun i => [(14, .i i)]) (fun i => [(8, .live false 1 (E true (tab n n (OK i))))]) (fun i => (s.getD k default).b.length ≤ i ∧ i ≤ n) (fun i => n - i) (s.getD k default).b.length ⟨rfl, trivial⟩ ⟨rfl, trivial⟩ ⟨Nat.le_refl _, hsl⟩ ?_ | refine F.loop (σ := Nat) [14, 72, 73, 74, 75, 76, 77, 78, 79, 80, 81, 82, 83, 84, 85, 86, 87, 88, 89, 90, 91, 92] (fun i => [(14, .i i)]) (fun i => [(9, .live false 1 (E true (tab n n (OK i))))]) (fun i => (s.getD k default).b.length ≤ i ∧ i ≤ n) (fun i => n - i) (s.getD k default).b.length ⟨rfl, trivial⟩ ⟨rfl, trivial⟩ ⟨Nat.le_refl _, hsl⟩ ?_
          rintro i ⟨i0, i1⟩
          by_cases hi : i < n
          · have hsi := hos i i0
            have hix : (i : Int) * r.d.getD k default + (i : Int) = (i : Int) * (n : Int) + (i : Int) := by rw [z4]
            obtain ⟨u1, u2⟩ := tab_in (i := i) (j := i) (r := n) (c := n) hi hi (by omega) (by omega)
            rw [← z4] at u1 u2
            generalize OK i = G0 at hsi ⊢
            repeat' first | refine s1 ?_ | refine q1 ?_ | fail
            refine AW.draw 12 G.mixed (by kernel_rfl) ?_
            refine dP 0 ?_
            first | refine dL 1 ?_ | refine dLQ 1 ?_
            refine dP 2 ?_
            refine dP 3 ?_
            first | refine dL 4 ?_ | refine dLQ 4 ?_
            refine dP 5 ?_
            first | refine dP 6 ?_ | refine dQ 6 ?_
            first | refine dL 7 ?_ | refine dLQ 7 ?_
            refine dP 8 ?_
            refine dP 9 ?_
            refine dP 10 ?_
            first | refine dP 11 ?_ (hs := by exact (A.idxQ (r := n) (c := n) (i := i) (j := i) rfl (congrArg AV.i hix) rfl (by omega) (by omega) (by first | rfl | (simp [tab_len]; done)) (by first | rfl | (simp [tab_len]; done)))) | refine dP 11 ?_ | refine dQ 11 ?_
            refine dO 12 false ?_
            first | refine s1 ?_ | refine q1 ?_
            refine ARg.nil (ATh.normal ?_)
            refine dN ?_
            rotate_left
            all_goals
              repeat' first | refine s1 ?_ | refine q1 ?_ | fail
              exact ⟨i + 1, F.fit ⟨rfl, trivial⟩ ⟨obE (by rw [← hsi]), trivial⟩, ⟨by omega, by omega⟩, by omega⟩
          · obtain rfl : i = n := by omega
            rw [hoa]
            repeat' first | refine s1 ?_ | refine q1 ?_ | fail
            refine AW.putV 13 2 rfl rfl rfl rfl (by rw [E_length, tab_len]; exact (tab_len _ _ _).symm) (E_pure _ _) rfl ?_
            refine AW.freezeP (α := Mat) (oo := true) (tm i i (onesF (s.getD k default).b.length)) 13 rfl rfl ?_
            refine AW.drawI G.mixed (by kernel_rfl) (by rfl) ?_
            intro T w1 MP1 I0
            refine iP 0 ?_
            refine iP 1 ?_
            refine iL 2 ?_
            refine iP 3 ?_
            refine iL 4 ?_
            refine iL 5 ?_
            refine iL 6 ?_
            refine iL 8 ?_
            refine iO 7 ?_
            first | refine s1 ?_ | refine F.c (hM1) ?_
            refine ARg.nil (ATh.normal ?_)
            refine iO 9 ?_
            first | refine s1 ?_ | refine F.c (hM2) ?_
            refine ARg.nil (ATh.normal ?_)
            refine iO 10 ?_
            refine s1 ?_
            refine ARg.nil (ATh.normal ?_)
            refine iO 11 ?_
            first | refine s1 ?_ | refine F.a1 Mat (a := Y) ?_
            refine ARg.nil (ATh.normal ?_)
            refine iP 12 ?_
            refine iN ?_
            rotate_left
            all_goals
              repeat' first | refine s1 ?_ | refine q1 ?_ | fail
              exact ⟨k + 1, F.fit ⟨rfl, rfl, trivial⟩ ⟨obE (by rw [ht]), trivial⟩ (ha := by repeat first | exact AgrA.refl | exact AgrA.lit rfl | refine AgrA.put rfl ?_ | refine AgrA.upd rfl ?_ | refine AgrA.head rfl rfl ?_) (hh := by repeat first | exact AgrH.refl | exact AgrH.lit rfl | refine AgrH.upd rfl ?_ | refine AgrH.head rfl ?_ | refine AgrH.addO (by simp <;> omega) ?_), by omega, by omega⟩
    · obtain rfl : k = r.d.length := by omega
      have e : L.take r.d.length = L := List.take_of_length_le (by omega)
      rw [e]
      clear hp2 e
      have hsn : s.length = r.d.length := g2
      rw [← hll]
      repeat' first | refine s1 ?_ | refine q1 ?_ | fail
      (refine kZ ?_; exact F.ret rfl)
end Go.Proofs.YtanembgijdkagaaGreat.V
