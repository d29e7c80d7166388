/- Contracts: powers of endomorphisms, parts that split. -/
import Derived.Test.YtanembgijdkagaaGreatQzA93
import Derived.Test.YtanembgijdkagaaGreatQzA86
import Derived.Test.YtanembgijdkagaaGreatQzA74
import Derived.Test.YtanembgijdkagaaGreatQzC2
import Derived.Test.YtanembgijdkagaaGreatQzB7
import Derived.Test.YtanembgijdkagaaGreatQzUg
namespace Go.Proofs.YtanembgijdkagaaGreat.V
open V.Enc (enc)
open Go.RowKit G D
set_option linter.unusedVariables false
set_option linter.unusedSimpArgs false
set_option maxHeartbeats 4000000
set_option maxRecDepth 4000
attribute [local irreducible] AW ARg ARA ARet MRet ASil AC AM ARI
theorem powerOf_a {p : Int} {m : Mat} (h : isMat p m = true) (hs : m.r = m.c) (n : Nat) (hn : n ≤ 100) : AC Tryz.prog 185 [.i p, .agg (enc false m), .i (n : Int)] [.agg (enc true (powM p m n))] := by
  refine AC.go Tryz.func185 Tryz.ntmps185 rfl rfl fun w0 hw => ?_; simp [WfL, WfA, E_length, Enc.enc, In64] at hw
  obtain ⟨h0, h1, h2, _, _⟩ := isMat_spec h
  have hI := identity_a m.r.toNat (by omega)
  rw [Int.toNat_of_nonneg h1.1, show tm m.r.toNat m.r.toNat idF = powM p m 0 from rfl] at hI
  have hT : ∀ k, AC Tryz.prog 97 [.i p, .agg (enc false (powM p m k)), .agg (enc false m)] [.agg (enc true (powM p m (k + 1)))] := fun k => by
    obtain ⟨a, b, c⟩ := pow_ok h hs k
    exact timesM_a a h c
  generalize powM p m = PM at hI hT ⊢
  repeat' first | refine s1 ?_ | (refine kR ?_; first | refine F.c (hI) ?_) | fail
  refine AW.putV 7 2 rfl rfl rfl rfl (E_length _ _) (E_pure _ _) rfl ?_
  refine F.loop (σ := Nat) [12, 13, 14, 15, 16, 17, 18] (fun k => [(12, .i k)]) (fun k => [(3, .live false 3 (E true [PM k]))]) (fun k => k ≤ n) (fun k => n - k) 0 ⟨rfl, trivial⟩ ⟨rfl, trivial⟩ (Nat.zero_le _) ?_
  rintro k k1
  by_cases hk : k < n
  · have hTk := hT k
    generalize hY : PM (k + 1) = Y at hTk
    refine AW.takeE (α := Mat) (o := 3) (k := 0) (j := 2) (ls := [PM k]) rfl (by simp) rfl (E_length _ _) ?_
    repeat' first | refine AW.putV (o2 := 5) 7 2 rfl rfl rfl rfl (E_length _ _) (E_pure _ _) rfl ?_ | refine s1 ?_ | (refine kR ?_; first | refine F.c (hTk) ?_) | fail
    exact ⟨k + 1, F.fit ⟨rfl, trivial⟩ ⟨obE (by rw [hY]; rfl), trivial⟩, by omega, by omega⟩
  · obtain rfl : k = n := by omega
    refine AW.takeE (α := Mat) (o := 3) (k := 0) (j := 2) (ls := [PM k]) rfl (by simp) rfl (E_length _ _) ?_
    repeat' first | refine s1 ?_ | fail
    (refine kZ ?_; exact F.ret rfl)
theorem l4Power_a {p : Int} {m : Mat} (h : isMat p m = true) (hs : m.r = m.c) (n : Nat) (hn : n ≤ 100) : AC Tryz.prog 196 [.i p, .agg (enc false m), .i (n : Int)] [.agg (enc true (powM p m n))] := by
  refine AC.go Tryz.func196 Tryz.ntmps196 rfl rfl fun w0 hw => ?_; simp [WfL, WfA, E_length, Enc.enc, In64] at hw
  obtain ⟨h0, h1, h2, _, _⟩ := isMat_spec h
  have hI := l3Identity_a m.r.toNat (by omega)
  rw [Int.toNat_of_nonneg h1.1, show tm m.r.toNat m.r.toNat idF = powM p m 0 from rfl] at hI
  have hT : ∀ k, AC Tryz.prog 91 [.i p, .agg (enc false (powM p m k)), .agg (enc false m)] [.agg (enc true (powM p m (k + 1)))] := fun k => by
    obtain ⟨a, b, c⟩ := pow_ok h hs k
    exact l3MulM_a a h c
  generalize powM p m = PM at hI hT ⊢
  repeat' first | refine s1 ?_ | (refine kR ?_; first | refine F.c (hI) ?_) | fail
  refine AW.putV 7 2 rfl rfl rfl rfl (E_length _ _) (E_pure _ _) rfl ?_
  refine F.loop (σ := Nat) [8, 12, 13, 14, 15, 16, 17, 18, 19, 20] (fun k => [(8, .i k)]) (fun k => [(3, .live false 3 (E true [PM k]))]) (fun k => k ≤ n) (fun k => n - k) 0 ⟨rfl, trivial⟩ ⟨rfl, trivial⟩ (Nat.zero_le _) ?_
  rintro k k1
  by_cases hk : k < n
  · have hTk := hT k
    generalize hY : PM (k + 1) = Y at hTk
    refine AW.takeE (α := Mat) (o := 3) (k := 0) (j := 2) (ls := [PM k]) rfl (by simp) rfl (E_length _ _) ?_
    repeat' first | refine AW.putV (o2 := 5) 7 2 rfl rfl rfl rfl (E_length _ _) (E_pure _ _) rfl ?_ | refine s1 ?_ | (refine kR ?_; first | refine F.c (hTk) ?_) | fail
    exact ⟨k + 1, F.fit ⟨rfl, trivial⟩ ⟨obE (by rw [hY]; rfl), trivial⟩, by omega, by omega⟩
  · obtain rfl : k = n := by omega
    refine AW.takeE (α := Mat) (o := 3) (k := 0) (j := 2) (ls := [PM k]) rfl (by simp) rfl (E_length _ _) ?_
    repeat' first | refine s1 ?_ | fail
    (refine kZ ?_; exact F.ret rfl)
theorem powL_take {p : Int} {f : List Mat} {n k : Nat} (h : k < f.length) : (powL p f n).take (k + 1) = (powL p f n).take k ++ [powM p (f.getD k default) n] := map_take (fun m => powM p m n) h
theorem l16Power_a (r : Rep) (f : List Mat) (hf : ∀ v, v < f.length → isMat r.p (f.getD v default) = true ∧ (f.getD v default).r = (f.getD v default).c) (hl : f.length ≤ 1000) : AC Tryz.prog 170 [.agg (enc false r), ar false f] [.dt true 3 (E true (powL r.p f 8))] := by
  refine AC.go Tryz.func170 Tryz.ntmps170 rfl rfl fun w0 hw => ?_; simp [WfL, WfA, E_length, Enc.enc, In64] at hw
  have hll := powL_len r.p f 8
  have hP := fun v hv => l4Power_a (hf v hv).1 (hf v hv).2 8 (by omega)
  have hts := fun k hk => powL_take (p := r.p) (f := f) (n := 8) (k := k) hk
  generalize powL r.p f 8 = L at hll hts ⊢
  repeat' first | refine s1 ?_ | fail
  refine AW.open 5 3 (.inr rfl) ?_
  refine F.loop (σ := Nat) [5, 6, 8, 9, 10, 11, 12, 13, 14, 15, 16, 17, 18, 19, 20, 21, 22, 23] (fun k => [(5, .sl 1 k 0 k), (6, .i k)]) (fun k => [(1, .live false 3 (E true (L.take k)))]) (fun k => k ≤ f.length) (fun k => f.length - k) 0 ⟨rfl, rfl, trivial⟩ ⟨rfl, trivial⟩ (Nat.zero_le _) ?_
  rintro k k1
  have hp2 : (L.take k).length = k := by rw [List.length_take]; omega
  by_cases hk : k < f.length
  · have hPk : AC Tryz.prog 196 [.i r.p, .agg (enc false (f.getD k default)), .i 8] [.agg (enc true (powM r.p (f.getD k default) 8))] := hP k hk
    have ht := hts k hk
    generalize powM r.p (f.getD k default) 8 = Y at hPk ht
    repeat' first | refine s1 ?_ | fail
    refine AW.draw 9 G.mixed (by kernel_rfl) ?_
    refine dP 0 ?_
    refine dP 1 ?_
    refine dL 2 ?_
    refine dP 3 ?_
    refine dP 4 ?_
    refine dP 5 ?_
    refine dL 6 ?_
    refine dO 7 true ?_
    first | refine s1 ?_ | refine F.c (hPk) ?_
    refine ARg.nil (ATh.normal ?_)
    refine dO 8 true ?_
    refine s1 ?_
    refine ARg.nil (ATh.normal ?_)
    refine dO 9 false ?_
    first | refine s1 ?_ | refine F.a1 Mat (a := Y) ?_
    refine ARg.nil (ATh.normal ?_)
    refine dP 10 ?_
    refine dN ?_
    rotate_left
    all_goals
      repeat' first | refine s1 ?_ | fail
      exact ⟨k + 1, F.fit ⟨rfl, rfl, trivial⟩ ⟨obE (by rw [ht]), trivial⟩, by omega, by omega⟩
  · obtain rfl : k = f.length := by omega
    have e : L.take f.length = L := List.take_of_length_le (by omega)
    rw [e]
    clear hp2 e
    rw [← hll]
    repeat' first | refine s1 ?_ | fail
    (refine kZ ?_; exact F.ret rfl)
/-- what is known of the powers of an endomorphism -/
theorem pow_facts {r : Rep} {f : List Mat} (h : isMor r r f = true) : (powL r.p f 8).length ≤ 5 ∧ r.d.length ≤ 5 ∧ (∀ v, v < f.length → isMat r.p (f.getD v default) = true ∧ (f.getD v default).r = (f.getD v default).c) ∧ (∀ v, v < (powL r.p f 8).length → isMat r.p ((powL r.p f 8).getD v default) = true) ∧ sameSL (kerLs r.p (powL r.p f 8)) (radK r 0) = decide ((dimS (kerLs r.p (powL r.p f 8))).sum = 0) ∧ sameSL (imgLs r.p (powL r.p f 8)) (radK r 0) = decide ((dimS (imgLs r.p (powL r.p f 8))).sum = 0) ∧ (∀ v, v < (powL r.p f 8).length → isSpc r.p ((kerLs r.p (powL r.p f 8)).getD v default) = true ∧ isSpc r.p ((imgLs r.p (powL r.p f 8)).getD v default) = true) := by
  have h2 := mor_pow h 8
  obtain ⟨m1, m2, m3, m4, m5⟩ := mor_ok h2
  obtain ⟨n1, n2, n3, n4, n5⟩ := mor_ok h
  have hk := fun v (hv : v < (powL r.p f 8).length) => kerLs_ok h2 hv
  have hi := fun v (hv : v < (powL r.p f 8).length) => imgLs_ok h2 hv
  have e1 : (kerLs r.p (powL r.p f 8)).length = (powL r.p f 8).length := by simp [kerLs]
  have e2 : (imgLs r.p (powL r.p f 8)).length = (powL r.p f 8).length := by simp [imgLs]
  refine ⟨m2, by omega, fun v hv => ?_, fun v hv => (m5 v hv).1, same_zero (by omega) fun v hv => ?_, same_zero (by omega) fun v hv => ?_, fun v hv => ?_⟩
  · obtain ⟨a, b, c⟩ := n5 v hv
    exact ⟨a, by rw [b, c]⟩
  · have hv : v < (powL r.p f 8).length := by omega
    rw [(hk v hv).1]
    exact (m5 v hv).2.1
  · have hv : v < (powL r.p f 8).length := by omega
    rw [(hi v hv).1]
    exact (m5 v hv).2.2
  · rw [(hk v hv).1, (hi v hv).1]
    exact ⟨(hk v hv).2, (hi v hv).2⟩
theorem implsplitBy_a (r : Rep) (f : List Mat) (h : isMor r r f = true) : AC Tryz.prog 150 [.agg (enc false r), ar false f] [.dt true 2 (E true (spP r f).1), .dt true 2 (E true (spP r f).2.1), .b (spP r f).2.2] := by
  refine AC.go Tryz.func150 Tryz.ntmps150 rfl rfl fun w0 hw => ?_; simp [WfL, WfA, E_length, Enc.enc, In64] at hw
  obtain ⟨q1, q2, q3, q4, q5, q6, q7⟩ := pow_facts h
  obtain ⟨n1, n2, n3, n4, n5⟩ := mor_ok h
  have hll := powL_len r.p f 8
  have hP := fun v hv => powerOf_a (q3 v hv).1 (q3 v hv).2 8 (by omega)
  have hts := fun k hk => powL_take (p := r.p) (f := f) (n := 8) (k := k) hk
  have hK := kernelSub_a r.p (powL r.p f 8) q4 (by omega)
  have hI := imageSub_a r.p (powL r.p f 8) q4 (by omega)
  have e1 : (kerLs r.p (powL r.p f 8)).length = (powL r.p f 8).length := by simp [kerLs]
  have e2 : (imgLs r.p (powL r.p f 8)).length = (powL r.p f 8).length := by simp [imgLs]
  have b1 : ∀ i, i < (kerLs r.p (powL r.p f 8)).length → ((kerLs r.p (powL r.p f 8)).getD i default).b.length ≤ 8 := fun i hi => by
    have := (q7 i (by omega)).1
    have a := isSpc_le this
    have b := (isSpc_spec this).2.1
    omega
  have b2 : ∀ i, i < (imgLs r.p (powL r.p f 8)).length → ((imgLs r.p (powL r.p f 8)).getD i default).b.length ≤ 8 := fun i hi => by
    have := (q7 i (by omega)).2
    have a := isSpc_le this
    have b := (isSpc_spec this).2.1
    omega
  have hDK := subDims_a (kerLs r.p (powL r.p f 8)) (by omega) (fun i hi => by have := b1 i hi; omega)
  have hDI := subDims_a (imgLs r.p (powL r.p f 8)) (by omega) (fun i hi => by have := b2 i hi; omega)
  have l1 := dimS_len (kerLs r.p (powL r.p f 8))
  have l2 := dimS_len (imgLs r.p (powL r.p f 8))
  have hSK := sumOf_a (dimS (kerLs r.p (powL r.p f 8))) (by omega) (fun j hj => by rw [dimS_get (by omega)]; have := b1 j (by omega); omega)
  have hSI := sumOf_a (dimS (imgLs r.p (powL r.p f 8))) (by omega) (fun j hj => by rw [dimS_get (by omega)]; have := b2 j (by omega); omega)
  unfold spP
  generalize kerLs r.p (powL r.p f 8) = K at hK hDK hSK ⊢
  generalize imgLs r.p (powL r.p f 8) = I at hI hDI hSI ⊢
  clear q4 q5 q6 q7 e1 e2 b1 b2 l1 l2
  generalize powL r.p f 8 = L at hll hts hK hI q1
  generalize dimS K = DK at hDK hSK ⊢
  generalize dimS I = DI at hDI hSI ⊢
  repeat' first | refine s1 ?_ | fail
  refine AW.open 7 3 (.inl rfl) ?_
  refine F.loop (σ := Nat) [7, 9, 14, 15, 16, 17, 18, 19, 20, 21, 22, 23, 24, 25] (fun k => [(7, .sl 1 k 0 k), (14, .i k)]) (fun k => [(1, .live false 3 (E true (L.take k)))]) (fun k => k ≤ f.length) (fun k => f.length - k) 0 ⟨rfl, rfl, trivial⟩ ⟨rfl, trivial⟩ (Nat.zero_le _) ?_
  rintro k k1
  have hp2 : (L.take k).length = k := by rw [List.length_take]; omega
  by_cases hk : k < f.length
  · have hPk : AC Tryz.prog 185 [.i r.p, .agg (enc false (f.getD k default)), .i 8] [.agg (enc true (powM r.p (f.getD k default) 8))] := hP k hk
    have ht := hts k hk
    generalize powM r.p (f.getD k default) 8 = Y at hPk ht
    repeat' first | refine s1 ?_ | (refine kR ?_; first | refine F.c (hPk) ?_ | refine F.a1 Mat (a := Y) ?_) | fail
    exact ⟨k + 1, F.fit ⟨rfl, rfl, trivial⟩ ⟨obE (by rw [ht]), trivial⟩, by omega, by omega⟩
  · obtain rfl : k = f.length := by omega
    have e : L.take f.length = L := List.take_of_length_le (by omega)
    rw [e]
    clear hp2 e
    rw [← hll]
    repeat' first | refine s1 ?_ | fail
    refine AW.draw 10 G.mixed (by kernel_rfl) ?_
    refine dP 0 ?_
    refine dL 1 ?_
    refine dP 2 ?_
    refine dP 4 ?_
    refine dL 5 ?_
    refine dP 6 ?_
    refine dO 3 true ?_
    first | refine s1 ?_ | refine F.c (hK) ?_ | refine F.c (hI) ?_
    refine ARg.nil (ATh.normal ?_)
    refine dO 7 true ?_
    first | refine s1 ?_ | refine F.c (hK) ?_ | refine F.c (hI) ?_
    refine ARg.nil (ATh.normal ?_)
    refine dP 8 ?_
    refine dP 9 ?_
    refine dN ?_
    rotate_left
    all_goals
      by_cases z1 : DK.sum = 0
      · rw [if_neg fun x => x.2.1 z1]
        rw [z1] at hSK
        repeat' first | refine s1 ?_ | (refine kR ?_; first | refine F.c (hDK) ?_ | refine F.c (hSK) ?_) | fail
        (refine kZ ?_; exact F.ret rfl)
      · by_cases z2 : DI.sum = 0
        · rw [if_neg fun x => x.2.2 z2]
          rw [z2] at hSI
          repeat' first | refine s1 ?_ | (refine kR ?_; first | refine F.c (hDK) ?_ | refine F.c (hSK) ?_ | refine F.c (hDI) ?_ | refine F.c (hSI) ?_) | fail
          (refine kZ ?_; exact F.ret rfl)
        · rw [if_pos ⟨h, z1, z2⟩]
          repeat' first | refine s1 ?_ | (refine kR ?_; first | refine F.c (hDK) ?_ | refine F.c (hSK) ?_ | refine F.c (hDI) ?_ | refine F.c (hSI) ?_) | fail
          (refine kZ ?_; exact F.ret rfl)
theorem specSplitBy_a (r : Rep) (f : List Mat) : AC Tryz.prog 131 [.agg (enc false r), ar false f] [.dt true 2 (E true (spP r f).1), .dt true 2 (E true (spP r f).2.1), .b (spP r f).2.2] := by
  refine AC.go Tryz.func131 Tryz.ntmps131 rfl rfl fun w0 hw => ?_; simp [WfL, WfA, E_length, Enc.enc, In64] at hw
  have hM := specIsMorphism_a r r f
  cases h : isMor r r f with
  | false =>
    rw [h] at hM
    unfold spP
    rw [if_neg (by simp [h])]
    repeat' first | refine s1 ?_ | (refine kR ?_; first | refine F.c (hM) ?_) | fail
    (refine kZ ?_; exact F.ret rfl)
  | true =>
    rw [h] at hM
    obtain ⟨q1, q2, q3, q4, q5, q6, q7⟩ := pow_facts h
    obtain ⟨n1, n2, n3, n4, n5⟩ := mor_ok h
    have hm := mor_pow h 8
    have hPw := l16Power_a r f q3 (by omega)
    have hK := specKernelSub_a r r (powL r.p f 8)
    rw [show kerP r r (powL r.p f 8) = (kerLs r.p (powL r.p f 8), true) by unfold kerP; rw [if_pos hm]] at hK
    have hI := specImageSub_a r r (powL r.p f 8)
    rw [show imgP r r (powL r.p f 8) = (imgLs r.p (powL r.p f 8), true) by unfold imgP; rw [if_pos hm]] at hI
    dsimp only at hK hI
    have hZ := l12Zero_a r (by omega)
    have e1 : (kerLs r.p (powL r.p f 8)).length = (powL r.p f 8).length := by simp [kerLs]
    have e2 : (imgLs r.p (powL r.p f 8)).length = (powL r.p f 8).length := by simp [imgLs]
    have hQ1 := specEqualSubs_a (kerLs r.p (powL r.p f 8)) (radK r 0) (fun v hv => spc_short (q7 v (by omega)).1)
    have hQ2 := specEqualSubs_a (imgLs r.p (powL r.p f 8)) (radK r 0) (fun v hv => spc_short (q7 v (by omega)).2)
    rw [q5] at hQ1
    rw [q6] at hQ2
    unfold spP
    generalize kerLs r.p (powL r.p f 8) = K at hK hQ1 ⊢
    generalize imgLs r.p (powL r.p f 8) = I at hI hQ2 ⊢
    clear q4 q5 q6 q7 e1 e2 hm
    generalize powL r.p f 8 = L at hPw hK hI q1
    generalize radK r 0 = Z at hZ hQ1 hQ2
    by_cases z1 : (dimS K).sum = 0
    · rw [if_neg fun x => x.2.1 z1]
      rw [decide_eq_true z1] at hQ1
      repeat' first | refine s1 ?_ | (refine kR ?_; first | refine F.c (hM) ?_ | refine F.c (hPw) ?_ | refine F.c (hK) ?_ | refine F.c (hI) ?_ | refine F.c (hZ) ?_ | refine F.c (hQ1) ?_) | fail
      (refine kZ ?_; exact F.ret rfl)
    · rw [decide_eq_false z1] at hQ1
      by_cases z2 : (dimS I).sum = 0
      · rw [if_neg fun x => x.2.2 z2]
        rw [decide_eq_true z2] at hQ2
        by_cases hKI : K = I
        · subst hKI; exact absurd z2 z1
        · repeat' first | refine s1 ?_ | (refine kR ?_; first | refine F.c (hM) ?_ | refine F.c (hPw) ?_ | refine F.c (hK) ?_ | refine F.c (hI) ?_ | refine F.c (hZ) ?_ | refine F.c (hQ1) ?_ | refine F.c (hQ2) ?_) | fail
          (refine kZ ?_; exact F.ret rfl)
      · rw [if_pos ⟨h, z1, z2⟩]
        rw [decide_eq_false z2] at hQ2
        repeat' first | refine s1 ?_ | (refine kR ?_; first | refine F.c (hM) ?_ | refine F.c (hPw) ?_ | refine F.c (hK) ?_ | refine F.c (hI) ?_ | refine F.c (hZ) ?_ | refine F.c (hQ1) ?_ | refine F.c (hQ2) ?_) | fail
        (refine kZ ?_; exact F.ret rfl)
theorem spP_ct (r : Rep) (f : List Mat) : cnt ctS (spP r f).1 + cnt lnS (spP r f).1 + (cnt ctS (spP r f).2.1 + cnt lnS (spP r f).2.1) ≤ 2000 := by
  unfold spP
  by_cases h : isMor r r f = true ∧ (dimS (kerLs r.p (powL r.p f 8))).sum ≠ 0 ∧ (dimS (imgLs r.p (powL r.p f 8))).sum ≠ 0
  · rw [if_pos h]
    have hm := mor_pow h.1 8
    have h1 := kerP_ct r r (powL r.p f 8)
    have h2 := imgP_ct r r (powL r.p f 8)
    rw [show kerP r r (powL r.p f 8) = (kerLs r.p (powL r.p f 8), true) by unfold kerP; rw [if_pos hm]] at h1
    rw [show imgP r r (powL r.p f 8) = (imgLs r.p (powL r.p f 8), true) by unfold imgP; rw [if_pos hm]] at h2
    dsimp only at h1 h2 ⊢
    omega
  · rw [if_neg h]; simp [cnt]
end Go.Proofs.YtanembgijdkagaaGreat.V
