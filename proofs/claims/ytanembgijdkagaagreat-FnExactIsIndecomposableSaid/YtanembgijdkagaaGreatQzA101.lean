/- Contracts: combinations of morphisms by numbers. -/
import Derived.Test.YtanembgijdkagaaGreatQzA100
namespace Go.Proofs.YtanembgijdkagaaGreat.V
open V.Enc (enc)
open Go.RowKit G D
set_option linter.unusedVariables false
set_option linter.unusedSimpArgs false
set_option maxHeartbeats 4000000
set_option maxRecDepth 4000
attribute [local irreducible] AW ARg ARA ARet MRet ASil AC AM ARI
theorem combined_a (a b : Rep) (ks : List Int) (hf : fitR a b = true) (hks : ks.length = (hkL a b).length) (hkb : ∀ j, j < ks.length → 0 ≤ ks.getD j default ∧ ks.getD j default ≤ a.p - 1) : AC Tryz.prog 114 [.agg (enc false a), .agg (enc false b), ar false (homL a b), ar false ks] [.dt true 3 (E true (cutV a b (cmbH a b ks)))] := by
  refine AC.go Tryz.func114 Tryz.ntmps114 rfl rfl fun w0 hw => ?_; simp [WfL, WfA, E_length, Enc.enc, In64] at hw
  have h := Fits.of hf
  have h5 := okQ_spec h.ok
  have hda := h.da
  have hdb := h.db
  have hp := isF_pos h.f
  have hn := szT_le h a.d.length (Nat.le_refl _)
  have hZ := zeros_a a b h
  rw [cut_zero h] at hZ
  have hle := rkE_le a b hf
  have hlen := hkL_len a b hf
  have hll := homL_len a b
  have hvb := hkL_vec hf
  have hH : ∀ k, k < (hkL a b).length → (homL a b).getD k default = cutV a b ((hkL a b).getD k default) := fun k hk => by simp [homL, hk]
  have hcs : ∀ k, cmbV a.p (szT a b a.d.length) (hkL a b) ks (k + 1) = addK a.p (ks.getD k default) 0 ((hkL a b).getD k default) (cmbV a.p (szT a b a.d.length) (hkL a b) ks k) (szT a b a.d.length) := fun _ => rfl
  have hcb := fun k j hj => cmbV_bd (p := a.p) (n := szT a b a.d.length) (l := hkL a b) (k := ks) hp.1 k j hj
  have hcl := fun k => cmbV_len a.p (szT a b a.d.length) (hkL a b) ks k
  unfold cmbH
  rw [show List.replicate (szT a b a.d.length) (0 : Int) = cmbV a.p (szT a b a.d.length) (hkL a b) ks 0 from rfl] at hZ
  generalize homL a b = HL at hll hH ⊢
  have hca := fun (x y : List Int) hx hy v hv k => cut_add (a := a) (b := b) (p := a.p) (k := k) (x := x) (y := y) hx hy (v := v) hv
  have hAM := fun (x : List Int) (hx : x.length = szT a b a.d.length) (hxb : ∀ y ∈ x, 0 ≤ y ∧ y ≤ a.p - 1) => areM_cutV hf hx hxb
  have hcg := fun k (hk : k < (hkL a b).length) => hvb _ (gm (d := default) hk)
  have hcv := cutV_len a b
  generalize hkL a b = KL at *
  generalize szT a b a.d.length = N at *
  generalize cmbV a.p N KL ks = CB at *
  have hvn := hcv (CB 0)
  repeat' first | refine s1 ?_ | (refine kR ?_; first | refine F.c (hZ) ?_) | fail
  refine F.loop (σ := Nat) [10, 11, 12, 13, 19, 20, 21, 22, 23, 24, 25, 26, 27, 28, 29, 30, 31, 32, 33, 34, 35, 36, 37, 38, 39, 40, 41, 42, 43, 44, 45, 46] (fun k => [(19, .i k)]) (fun k => [(2, .live false 3 (E true (cutV a b (CB k))))]) (fun k => k ≤ KL.length) (fun k => KL.length - k) 0 ⟨rfl, trivial⟩ ⟨rfl, trivial⟩ (Nat.zero_le _) ?_
  rintro k k1
  by_cases hk : k < KL.length
  · obtain ⟨v1, v2⟩ := hcg k hk
    have hHk := hH k hk
    have hkk := hkb k (by omega)
    have hc1 := fun v hv => hca (CB k) (KL.getD k default) (hcl k) v1 v hv (ks.getD k default)
    simp only [← hcs k] at hc1
    have ha1 := hAM (CB k) (hcl k) (vec_mem (hcl k) fun j hj => hcb k j hj)
    have ha2 := hAM (KL.getD k default) v1 (vec_mem v1 v2)
    have hf1 := fun v hv => fitV_spec ha1 (v := v) hv
    have hf2 := fun v hv => fitV_spec ha2 (v := v) hv
    have l1 := hcv (CB k)
    have l2 := hcv (KL.getD k default)
    have l3 := hcv (CB (k + 1))
    have hmx := mixL_len (x := cutV a b (CB (k + 1))) (y := cutV a b (CB k)) (by omega)
    have hms := fun v hv => mixL_set (x := cutV a b (CB (k + 1))) (y := cutV a b (CB k)) (by omega) (k := v) hv
    have hmg := fun v hv => mixL_get (x := cutV a b (CB (k + 1))) (y := cutV a b (CB k)) (by omega) (k := v) hv
    have hm0 := mixL_zero (cutV a b (CB (k + 1))) (cutV a b (CB k))
    have hma := mixL_all (x := cutV a b (CB (k + 1))) (y := cutV a b (CB k)) (by omega)
    have hrc : ∀ v, v < a.d.length → (cutV a b (CB k)).getD v default = ⟨b.d.getD v default, a.d.getD v default, ((cutV a b (CB k)).getD v default).m⟩ := fun v hv => by simp [cutV, hv]
    generalize hY : cutV a b (CB (k + 1)) = Y at hc1 l3 hmx hms hmg hm0 hma ⊢
    generalize cutV a b (CB k) = X at hc1 hf1 l1 hmx hms hmg hm0 hma hrc ⊢
    rw [← hHk] at hc1 hf2 l2
    repeat' first | refine s1 ?_ | fail
    generalize HL.getD k default = M at hc1 hf2 l2
    refine F.loop (σ := Nat) [12, 13, 26, 27, 28, 29, 30, 31, 32, 33, 34, 35, 36, 37, 38, 39, 40, 41, 42, 43, 44, 45] (fun v => [(26, .i v)]) (fun v => [(2, .live false 3 (E true (mixL Y X v)))]) (fun v => v ≤ a.d.length) (fun v => a.d.length - v) 0 ⟨rfl, trivial⟩ ⟨obE (by rw [hm0]), trivial⟩ (Nat.zero_le _) ?_
    rintro v v0
    have hlv := hmx v
    by_cases hv : v < a.d.length
    · have hg := hmg v (by omega)
      have hs := hms v (by omega)
      rw [hc1 v hv] at hs
      obtain ⟨a1, a2, a3, a4⟩ := hf1 v (by omega)
      obtain ⟨b1, b2, b3, b4⟩ := hf2 v (by omega)
      have m1 := isMat_spec a1
      have m2 := isMat_spec b1
      have hrv := hrc v hv
      have hll' : (M.getD v default).m.length = (X.getD v default).m.length := by omega
      have hA := addMul_m a.p (ks.getD k default) (X.getD v default).m (M.getD v default).m 0 (X.getD v default).m.length (by omega) (by omega) (fun t ht => by have := m1.2.2.2.2 t ht; omega) (fun t ht => by have := m2.2.2.2.2 t ht; omega) (by omega) (by omega)
      rw [← hg] at hA hs hrv hll'
      generalize mixL Y X v = Z at hlv hg hs hA hrv hll' ⊢
      have hbX : (E true Z).length = (cutV a b (CB 0)).length := by rw [E_length, hlv]; omega
      refine AW.takeE (α := Mat) (o := 2) (k := v) (j := 2) (ls := Z) rfl (by omega) rfl (E_length _ _) ?_
      repeat' first | refine s1 ?_ | fail
      refine AW.draw 13 G.mixed (by kernel_rfl) ?_
      refine dP 0 ?_
      refine dL 1 ?_
      refine dP 2 ?_
      refine dP 3 ?_
      first | refine dP 4 ?_ (hs := by exact (A.idxT (k := v) rfl rfl rfl hbX rfl (by omega))) | refine dP 4 ?_
      refine dP 5 ?_
      first | refine dL 6 ?_ (hs := by exact (A.ldS rfl rfl hbX (Nat.zero_add _) (by omega) rfl rfl)) | refine dL 6 ?_
      refine dP 7 ?_
      refine dP 8 ?_
      refine dP 9 ?_
      refine dL 10 ?_
      refine dP 11 ?_
      refine dL 12 ?_
      refine dO 13 false ?_
      first | refine s1 ?_ | refine F.m [3] (hA) ?_
      refine ARg.nil (ATh.normal ?_)
      refine dN ?_
      refine s1 ?_
      first | refine AW.put (α := Mat) (o := 2) (o2 := 3) (k := v) (j := 2) (v := ⟨b.d.getD v default, a.d.getD v default, addK a.p (ks.getD k default) 0 (M.getD v default).m (Z.getD v default).m (M.getD v default).m.length⟩) (x := Z.getD v default) (m := (Z.getD v default).m.length) (ls := Z) (sz2 := 1) (ys := E true (addK a.p (ks.getD k default) 0 (M.getD v default).m (Z.getD v default).m (M.getD v default).m.length)) rfl rfl (by rw [E_length, addK_len]) (E_pure _ _) rfl (by omega) rfl (by rw [hrv]; rfl) ?_ | (refine s1 ?_; refine AW.put (α := Mat) (o := 2) (o2 := 3) (k := v) (j := 2) (v := ⟨b.d.getD v default, a.d.getD v default, addK a.p (ks.getD k default) 0 (M.getD v default).m (Z.getD v default).m (M.getD v default).m.length⟩) (x := Z.getD v default) (m := (Z.getD v default).m.length) (ls := Z) (sz2 := 1) (ys := E true (addK a.p (ks.getD k default) 0 (M.getD v default).m (Z.getD v default).m (M.getD v default).m.length)) rfl rfl (by rw [E_length, addK_len]) (E_pure _ _) rfl (by omega) rfl (by rw [hrv]; rfl) ?_) | refine F.put (α := Mat) (o := 2) (o2 := 3) (k := v) (j := 2) (v := ⟨b.d.getD v default, a.d.getD v default, addK a.p (ks.getD k default) 0 (M.getD v default).m (Z.getD v default).m (M.getD v default).m.length⟩) (x := Z.getD v default) (m := (Z.getD v default).m.length) (ls := Z) (sz2 := 1) (ys := E true (addK a.p (ks.getD k default) 0 (M.getD v default).m (Z.getD v default).m (M.getD v default).m.length)) rfl rfl (by rw [E_length, addK_len]) (E_pure _ _) rfl (by omega) rfl (by rw [hrv]; rfl) ?_ | (refine s1 ?_; refine F.put (α := Mat) (o := 2) (o2 := 3) (k := v) (j := 2) (v := ⟨b.d.getD v default, a.d.getD v default, addK a.p (ks.getD k default) 0 (M.getD v default).m (Z.getD v default).m (M.getD v default).m.length⟩) (x := Z.getD v default) (m := (Z.getD v default).m.length) (ls := Z) (sz2 := 1) (ys := E true (addK a.p (ks.getD k default) 0 (M.getD v default).m (Z.getD v default).m (M.getD v default).m.length)) rfl rfl (by rw [E_length, addK_len]) (E_pure _ _) rfl (by omega) rfl (by rw [hrv]; rfl) ?_)
      rw [hs]
      repeat' first | refine s1 ?_ | fail
      exact ⟨v + 1, F.fit ⟨rfl, trivial⟩ ⟨rfl, trivial⟩, by omega, by omega⟩
    · obtain rfl : v = a.d.length := by omega
      have e : mixL Y X a.d.length = Y := by rw [← l3]; exact hma
      rw [e]
      repeat' first | refine s1 ?_ | fail
      exact ⟨k + 1, F.fit ⟨rfl, trivial⟩ ⟨obE (by rw [hY]), trivial⟩, by omega, by omega⟩
  · obtain rfl : k = KL.length := by omega
    have e := hcv (CB KL.length)
    generalize cutV a b (CB KL.length) = Y at e ⊢
    repeat' first | refine s1 ?_ | fail
    (refine kZ ?_; exact F.ret rfl)
theorem numbered_a (a b : Rep) (c : Int) (hf : fitR a b = true) (h0 : 0 ≤ c ∧ c ≤ 1000000) : AC Tryz.prog 50 [.agg (enc false a), .agg (enc false b), ar false (homL a b), .i c] [.dt true 3 (E true (numL a b c))] := by
  refine AC.go Tryz.func50 Tryz.ntmps50 rfl rfl fun w0 hw => ?_; simp [WfL, WfA, E_length, Enc.enc, In64] at hw
  have h := Fits.of hf
  have hp := isF_pos h.f
  have hle := rkE_le a b hf
  have hlen := hkL_len a b hf
  have hll := homL_len a b
  have hV := vectorOf_a a.p c (hkL a b).length hp h0 (by omega)
  have hC := combined_a a b (digV a.p c (hkL a b).length) hf (digV_len ..) (fun j hj => by
    rw [digV_len] at hj
    rw [digV_get _ _ hj]
    exact digN_bd (by omega) _ _)
  unfold numL
  rw [← hll] at hV hC ⊢
  generalize cutV a b (cmbH a b (digV a.p c (homL a b).length)) = R at hC ⊢
  generalize digV a.p c (homL a b).length = K at hV hC
  generalize homL a b = HL at hV hC
  repeat' first | refine s1 ?_ | fail
  refine AW.draw 11 G.mixed (by kernel_rfl) ?_
  refine dL 0 ?_
  refine dL 1 ?_
  refine dP 2 ?_
  refine dP 3 ?_
  refine dL 4 ?_
  refine dP 5 ?_
  refine dP 6 ?_
  refine dP 7 ?_
  refine dO 8 true ?_
  first | refine s1 ?_ | refine F.c (hV) ?_ | refine F.c (hC) ?_
  refine ARg.nil (ATh.normal ?_)
  refine dO 9 true ?_
  first | refine s1 ?_ | refine F.c (hV) ?_ | refine F.c (hC) ?_
  refine ARg.nil (ATh.normal ?_)
  refine dP 10 ?_
  refine dN ?_
  repeat' first | refine s1 ?_ | fail
  (refine kZ ?_; exact F.ret rfl)
theorem l11Number_a (a b : Rep) (c : Int) (hf : fitR a b = true) (h0 : 0 ≤ c ∧ c ≤ 1000000) : AC Tryz.prog 43 [.agg (enc false a), .agg (enc false b), ar false (homL a b), .i c] [.dt true 3 (E true (numL a b c))] := by
  refine AC.go Tryz.func43 Tryz.ntmps43 rfl rfl fun w0 hw => ?_; simp [WfL, WfA, E_length, Enc.enc, In64] at hw
  have h := Fits.of hf
  have h5 := okQ_spec h.ok
  have hda := h.da
  have hp := isF_pos h.f
  have hn := szT_le h a.d.length (Nat.le_refl _)
  have hS := l11Size_a a b h
  have hle := rkE_le a b hf
  have hlen := hkL_len a b hf
  have hll := homL_len a b
  have hvb := hkL_vec hf
  have hC := fun (x : List Int) hx hb => l11Cells_a a b x h hx hb
  have hF : ∀ k, k < (hkL a b).length → AC Tryz.prog 64 [ar false ((homL a b).getD k default)] [.dt true 1 (E true ((hkL a b).getD k default))] := fun k hk => by
    have hl := (hvb _ (gm (d := default) hk)).1
    have e : (homL a b).getD k default = cutV a b ((hkL a b).getD k default) := by simp [homL, hk]
    have e2 := catM_cutV (a := a) (b := b) hl
    have := l11Flat_a (cutV a b ((hkL a b).getD k default)) (by rw [e2]; omega)
    rw [e2] at this
    rw [e]
    exact this
  have hcg := fun k (hk : k < (hkL a b).length) => hvb _ (gm (d := default) hk)
  have hra := revV_all (p := a.p) (n := szT a b a.d.length) (l := hkL a b) (k := digV a.p c (hkL a b).length) hp.1
  have hrl := fun m => revV_len a.p (szT a b a.d.length) (hkL a b) (digV a.p c (hkL a b).length) m
  have hrb := fun m j hj => revV_bd (p := a.p) (n := szT a b a.d.length) (l := hkL a b) (k := digV a.p c (hkL a b).length) hp.1 m j hj
  have hrs : ∀ i, i < (hkL a b).length → revV a.p (szT a b a.d.length) (hkL a b) (digV a.p c (hkL a b).length) ((hkL a b).length - i) = addK a.p (quoN a.p c ((hkL a b).length - (i + 1)) % a.p) 0 ((hkL a b).getD i default) (revV a.p (szT a b a.d.length) (hkL a b) (digV a.p c (hkL a b).length) ((hkL a b).length - (i + 1))) (szT a b a.d.length) := fun i hi => by
    rw [show (hkL a b).length - i = ((hkL a b).length - (i + 1)) + 1 by omega, revV, show (hkL a b).length - 1 - ((hkL a b).length - (i + 1)) = i by omega, digV_get _ _ hi]
    unfold digN
    rw [show (hkL a b).length - 1 - i = (hkL a b).length - (i + 1) by omega]
  have hr0 : List.replicate (szT a b a.d.length) (0 : Int) = revV a.p (szT a b a.d.length) (hkL a b) (digV a.p c (hkL a b).length) 0 := rfl
  unfold numL cmbH
  rw [← hra]
  generalize homL a b = HL at hll hF ⊢
  generalize digV a.p c (hkL a b).length = K at *
  generalize hKL : hkL a b = KL at *
  generalize szT a b a.d.length = N at *
  generalize revV a.p N KL K = RV at *
  repeat' first | refine s1 ?_ | (refine kR ?_; first | refine F.c (hS) ?_ | refine F.mk (m := N) Int rfl rfl rfl (mkB (by omega)) (by omega) rfl rfl ?_) | fail
  rw [hr0]
  refine F.loop (σ := Nat) [3, 10, 11, 12, 13, 21, 22, 23, 24, 25, 26, 27, 28, 29, 30, 31, 32, 33, 34, 35, 36, 37, 38, 39, 40, 41, 42, 43, 44, 45, 46, 47, 48, 49, 50, 51, 52, 53, 54, 55, 56, 57, 58, 59, 60] (fun u => [(3, .i (quoN a.p c (KL.length - u))), (10, .i ((u : Int) - 1))]) (fun u => [(2, .live false 1 (E true (RV (KL.length - u))))]) (fun u => u ≤ KL.length) (fun u => u) KL.length ⟨iE (by rw [Nat.sub_self]; rfl), iE (by rw [hll]), trivial⟩ ⟨obE (by rw [Nat.sub_self]), trivial⟩ (Nat.le_refl _) ?_
  rintro u u1
  by_cases hu : 0 < u
  · obtain ⟨i, rfl⟩ : ∃ i, u = i + 1 := ⟨u - 1, by omega⟩
    have hi : i < KL.length := by omega
    have hs := hrs i hi
    have hq := quoN_bd (p := a.p) (c := c) (by omega) h0.1 (KL.length - (i + 1))
    have hqs : quoN a.p c (KL.length - i) = quoN a.p c (KL.length - (i + 1)) / a.p := by rw [show KL.length - i = (KL.length - (i + 1)) + 1 by omega]; rfl
    have hFi := hF i hi
    obtain ⟨v1, v2⟩ := hcg i hi
    have hXl := hrl (KL.length - (i + 1))
    have hXb := hrb (KL.length - (i + 1))
    generalize quoN a.p c (KL.length - (i + 1)) = Q at hs hq hqs ⊢
    generalize RV (KL.length - (i + 1)) = X at hs hXl hXb ⊢
    generalize KL.getD i default = Y at hs hFi v1 v2
    rw [show (((i + 1 : Nat)) : Int) - 1 = (i : Int) by omega]
    have hd := mod_bd (x := Q) (show 0 < a.p by omega)
    repeat' first | refine s1 ?_ | (refine kR ?_; first | refine F.c (hFi) ?_) | fail
    refine AW.freezeA (α := Int) 12 rfl rfl rfl ?_
    generalize Q % a.p = dg at hs hd ⊢
    refine F.loop (σ := Nat) [13, 38, 39, 40, 41, 42, 43, 44, 45, 46, 47, 48, 49, 50, 51, 52, 53, 54, 55, 56, 57, 58, 59, 60] (fun j => [(13, .i j)]) (fun j => [(2, .live false 1 (E true (addK a.p dg 0 Y X j)))]) (fun j => j ≤ N) (fun j => N - j) 0 ⟨rfl, trivial⟩ ⟨obE (by rw [addK_zero]), trivial⟩ (Nat.zero_le _) ?_
    rintro j j1
    have hlj := addK_len a.p dg 0 Y X j
    by_cases hj : j < N
    · have e1 := addK_at a.p dg 0 Y X (j := j) (by omega)
      have e2 := addK_set a.p dg 0 Y X (j := j) (by omega)
      have b1 := hXb (0 + j) (by omega)
      have b2 := v2 j hj
      have b3 : 0 ≤ dg * Y.getD j default ∧ dg * Y.getD j default ≤ 4 * 4 := ⟨Int.mul_nonneg hd.1 b2.1, Int.mul_le_mul (by omega) (by omega) b2.1 (by omega)⟩
      rw [← e1] at b1 e2
      have hL := l2Mod_a a.p ((addK a.p dg 0 Y X j).getD (0 + j) default + dg * Y.getD j default) (by omega)
      generalize addK a.p dg 0 Y X j = Z at hlj e2 b1 hL ⊢
      have i1 : In64 (dg * Y.getD j default) := by unfold In64; omega
      have i2 : In64 (Z.getD (0 + j) default + dg * Y.getD j default) := by unfold In64; omega
      repeat' first | refine s1 ?_ | fail
      refine AW.draw 17 G.mixed (by kernel_rfl) ?_
      refine dP 0 ?_
      refine dP 1 ?_
      refine dP 2 ?_
      refine dL 3 ?_
      refine dP 4 ?_
      refine dP 5 ?_
      refine dP 6 ?_
      refine dL 7 ?_
      refine dP 8 ?_
      refine dP 9 ?_
      refine dP 10 ?_
      refine dP 11 ?_
      refine dL 12 ?_
      refine dP 13 ?_
      refine dP 14 ?_
      refine dO 15 true ?_
      first | refine s1 ?_ | refine F.c (hL) ?_
      refine ARg.nil (ATh.normal ?_)
      refine dP 16 ?_
      refine dO 17 false ?_
      refine s1 ?_
      refine ARg.nil (ATh.normal ?_)
      refine dN ?_
      rotate_left
      all_goals
        repeat' first | refine s1 ?_ | fail
        exact ⟨j + 1, F.fit ⟨rfl, trivial⟩ ⟨obE (by rw [e2]), trivial⟩, by omega, by omega⟩
    · obtain rfl : j = N := by omega
      rw [← hs]
      repeat' first | refine s1 ?_ | fail
      exact ⟨i, F.fit ⟨iE hqs.symm, rfl, trivial⟩ ⟨rfl, trivial⟩, by omega, by omega⟩
  · obtain rfl : u = 0 := by omega
    have hXl := hrl KL.length
    rw [Nat.sub_zero]
    have hCx := hC (RV KL.length) (by omega) (by omega)
    generalize RV KL.length = X at hXl hCx ⊢
    generalize cutV a b X = Y at hCx ⊢
    repeat' first | refine s1 ?_ | (refine kR ?_; first | refine F.c (hCx) ?_) | fail
    (refine kZ ?_; exact F.ret rfl)
end Go.Proofs.YtanembgijdkagaaGreat.V
