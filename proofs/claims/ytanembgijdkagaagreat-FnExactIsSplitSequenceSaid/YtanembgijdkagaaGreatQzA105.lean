/- Contracts: identities, sequences that split. -/
import Derived.Test.YtanembgijdkagaaGreatQzA100
import Derived.Test.YtanembgijdkagaaGreatQzA93
import Derived.Test.YtanembgijdkagaaGreatQzA49
namespace Go.Proofs.YtanembgijdkagaaGreat.V
open V.Enc (enc)
open Go.RowKit G D
set_option linter.unusedVariables false
set_option linter.unusedSimpArgs false
set_option maxHeartbeats 4000000
set_option maxRecDepth 4000
attribute [local irreducible] AW ARg ARA ARet MRet ASil AC AM ARI
def idL (d : List Int) : List Mat := d.map idM
theorem idL_len (d : List Int) : (idL d).length = d.length := by simp [idL]
theorem idL_take {d : List Int} {k : Nat} (h : k < d.length) : (idL d).take (k + 1) = (idL d).take k ++ [idM (d.getD k default)] := map_take idM h
theorem identities_a (d : List Int) (hl : d.length ≤ 1000) (hd : ∀ v, v < d.length → 0 ≤ d.getD v default ∧ d.getD v default ≤ 4) : AC Tryz.prog 73 [ar false d] [.dt true 3 (E true (idL d))] := by
  refine AC.go Tryz.func73 Tryz.ntmps73 rfl rfl fun w0 hw => ?_; simp [WfL, WfA, E_length, Enc.enc, In64] at hw
  have hll := idL_len d
  have hts := fun k hk => idL_take (d := d) (k := k) hk
  have hI : ∀ v, v < d.length → AC Tryz.prog 124 [.i (d.getD v default)] [.agg (enc true (idM (d.getD v default)))] := fun v hv => by
    have h1 := hd v hv
    have := identity_a (d.getD v default).toNat (by omega)
    rw [Int.toNat_of_nonneg h1.1] at this
    exact this
  generalize idL d = L at hll hts ⊢
  repeat' first | refine s1 ?_ | fail
  refine AW.open 3 3 (.inl rfl) ?_
  refine F.loop (σ := Nat) [3, 5, 8, 9, 10, 11, 12, 13, 14, 15, 16, 17] (fun k => [(3, .sl 0 k 0 k), (8, .i k)]) (fun k => [(0, .live false 3 (E true (L.take k)))]) (fun k => k ≤ d.length) (fun k => d.length - k) 0 ⟨rfl, rfl, trivial⟩ ⟨rfl, trivial⟩ (Nat.zero_le _) ?_
  rintro k k1
  have hp2 : (L.take k).length = k := by rw [List.length_take]; omega
  by_cases hk : k < d.length
  · have hIk := hI k hk
    have ht := hts k hk
    generalize idM (d.getD k default) = Y at hIk ht
    repeat' first | refine s1 ?_ | (refine kR ?_; first | refine F.c (hIk) ?_ | refine F.a1 Mat (a := Y) ?_) | fail
    exact ⟨k + 1, F.fit ⟨rfl, rfl, trivial⟩ ⟨obE (by rw [ht]), trivial⟩, by omega, by omega⟩
  · obtain rfl : k = d.length := by omega
    have e : L.take d.length = L := List.take_of_length_le (by omega)
    rw [e]
    clear hp2 e
    rw [← hll]
    repeat' first | refine s1 ?_ | fail
    (refine kZ ?_; exact F.ret rfl)
theorem identityMor_a (r : Rep) (hr : isRep r = true) : AC Tryz.prog 65 [.agg (enc false r)] [.dt true 3 (E true (idL r.d)), .b true] := by
  refine AC.go Tryz.func65 Tryz.ntmps65 rfl rfl fun w0 hw => ?_; simp [WfL, WfA, E_length, Enc.enc, In64] at hw
  obtain ⟨r1, r2, r3, r4⟩ := isRep_spec hr
  obtain ⟨c1, c2, c3, c4⟩ := areDims_spec r2
  have h5 := okQ_spec c1
  have hF := specIsRep_a r
  rw [hr] at hF
  have hll := idL_len r.d
  have hts := fun k hk => idL_take (d := r.d) (k := k) hk
  have hI : ∀ v, v < r.d.length → AC Tryz.prog 120 [.i (r.d.getD v default)] [.agg (enc true (idM (r.d.getD v default)))] := fun v hv => by
    have h1 : 0 ≤ r.d.getD v default ∧ r.d.getD v default ≤ 4 := allIn_spec c3 hv
    have := l3Identity_a (r.d.getD v default).toNat (by omega)
    rw [Int.toNat_of_nonneg h1.1] at this
    exact this
  generalize idL r.d = L at hll hts ⊢
  repeat' first | refine s1 ?_ | fail
  refine AW.open 4 3 (.inr rfl) ?_
  refine F.loop (σ := Nat) [4, 5, 7, 8, 9, 10, 11, 12, 13, 14, 15, 16, 17, 18, 19, 20, 21, 22, 23, 24, 25, 26] (fun k => [(4, .sl 1 k 0 k), (5, .i k)]) (fun k => [(1, .live false 3 (E true (L.take k)))]) (fun k => k ≤ r.d.length) (fun k => r.d.length - k) 0 ⟨rfl, rfl, trivial⟩ ⟨rfl, trivial⟩ (Nat.zero_le _) ?_
  rintro k k1
  have hp2 : (L.take k).length = k := by rw [List.length_take]; omega
  by_cases hk : k < r.d.length
  · have hIk := hI k hk
    have ht := hts k hk
    generalize idM (r.d.getD k default) = Y at hIk ht
    repeat' first | refine s1 ?_ | (refine kR ?_; first | refine F.c (hF) ?_ | refine F.c (hIk) ?_ | refine F.a1 Mat (a := Y) ?_) | fail
    exact ⟨k + 1, F.fit ⟨rfl, rfl, trivial⟩ ⟨obE (by rw [ht]), trivial⟩, by omega, by omega⟩
  · obtain rfl : k = r.d.length := by omega
    have e : L.take r.d.length = L := List.take_of_length_le (by omega)
    rw [e]
    clear hp2 e
    rw [← hll]
    repeat' first | refine s1 ?_ | (refine kR ?_; first | refine F.c (hF) ?_) | fail
    (refine kZ ?_; exact F.ret rfl)
theorem are_vec {a b : Rep} {f : List Mat} (h : areM a b f = true) : (catM f).length = szT a b a.d.length ∧ ∀ j, j < szT a b a.d.length → 0 ≤ (catM f).getD j default ∧ (catM f).getD j default ≤ a.p - 1 := by
  have hl := catM_len h f.length (Nat.le_refl _)
  rw [List.take_length, (areM_spec h).2.1] at hl
  refine ⟨hl, fun j hj => ?_⟩
  have := colM_bd h j hj 0 (by omega)
  have e : ent (colM a b f) j 0 = (catM f).getD j default := by
    show (catM f).getD (j * 1 + 0) default = _
    rw [Nat.mul_one]; rfl
  rw [e] at this
  exact this
theorem comp_are {a b c : Rep} {f g : List Mat} (h1 : isMor a b f = true) (h2 : isMor b c g = true) : areM a c (compL a.p f g) = true := by
  obtain ⟨f1, f2, f3, f4, f5⟩ := mor_ok h1
  obtain ⟨g1, g2, g3, g4, g5⟩ := mor_ok h2
  have hf1 := (areM_spec (isMor_are h1)).1
  have hf2 := (areM_spec (isMor_are h2)).1
  have hac : fitR a c = true := fitR_mk (fitR_reps hf1).1 (fitR_reps hf2).2 (f3.trans g3) ((Fits.of hf1).q.trans (Fits.of hf2).q)
  simp only [areM, Bool.and_eq_true, decide_eq_true_eq, List.all_eq_true]
  refine ⟨⟨hac, by rw [compL_len]; exact f1⟩, fun v hv => ?_⟩
  have hv : v < f.length := by rw [compL_len] at hv; simpa using hv
  obtain ⟨a1, a2, a3⟩ := f5 v hv
  obtain ⟨b1, b2, b3⟩ := g5 v (by omega)
  rw [← f3] at b1
  have e : (compL a.p f g).getD v default = mulM a.p (g.getD v default) (f.getD v default) := by simp [compL, hv]
  obtain ⟨m1, m2⟩ := mulM_rc b1 a1
  simp only [fitV, e, Bool.and_eq_true, decide_eq_true_eq]
  exact ⟨⟨isMat_mul b1 a1, by rw [m2, a2]⟩, by rw [m1, b3]⟩
theorem id_are {a : Rep} (h : isRep a = true) : areM a a (idL a.d) = true := by
  obtain ⟨r1, r2, r3, r4⟩ := isRep_spec h
  obtain ⟨c1, c2, c3, c4⟩ := areDims_spec r2
  simp only [areM, Bool.and_eq_true, decide_eq_true_eq, List.all_eq_true]
  refine ⟨⟨fitR_refl h, idL_len _⟩, fun v hv => ?_⟩
  have hv : v < a.d.length := by rw [idL_len] at hv; simpa using hv
  have hd : 0 ≤ a.d.getD v default ∧ a.d.getD v default ≤ 4 := allIn_spec c3 hv
  have e : (idL a.d).getD v default = idM (a.d.getD v default) := by simp [idL, hv]
  simp only [fitV, e, Bool.and_eq_true, decide_eq_true_eq]
  exact ⟨⟨isMat_id r1 (by omega), Int.toNat_of_nonneg hd.1⟩, Int.toNat_of_nonneg hd.1⟩
def splC (a b : Rep) (f : List Mat) : List (List Int) := (homL b a).map fun g => catM (compL a.p f g)
def splS (a b : Rep) (f : List Mat) : List Int × Bool := solL a.p (szT a a a.d.length) (splC a b f).length (fcF (splC a b f)) (catM (idL a.d))
def splB (a b : Rep) (f : List Mat) : Bool := injB a b f && (splS a b f).2
theorem splC_len (a b : Rep) (f : List Mat) : (splC a b f).length = (homL b a).length := by simp [splC]
theorem splC_take (a b : Rep) (f : List Mat) {k : Nat} (h : k < (homL b a).length) : (splC a b f).take (k + 1) = (splC a b f).take k ++ [catM (compL a.p f ((homL b a).getD k default))] := map_take _ h
theorem splC_vec {a b : Rep} {f : List Mat} (h : isMor a b f = true) : VecB a.p (szT a a a.d.length) (splC a b f) := fun x hx => by
  simp only [splC, List.mem_map] at hx
  obtain ⟨g, hg, rfl⟩ := hx
  obtain ⟨k, hk, rfl⟩ := List.getElem_of_mem hg
  have hf := fitR_symm (areM_spec (isMor_are h)).1
  have hm := hom_mor hf hk
  have e : (homL b a).getD k default = (homL b a)[k] := by simp [hk]
  rw [e] at hm
  exact are_vec (comp_are h hm)
theorem implIsSplitSequence_a (a b : Rep) (f : List Mat) : AC Tryz.prog 20 [.agg (enc false a), .agg (enc false b), ar false f] [.b (splB a b f)] := by
  refine AC.go Tryz.func20 Tryz.ntmps20 rfl rfl fun w0 hw => ?_; simp [WfL, WfA, E_length, Enc.enc, In64] at hw
  have hJ := implIsInjective_a a b f
  unfold splB
  cases hi : injB a b f with
  | false =>
    rw [hi] at hJ
    repeat' first | refine s1 ?_ | (refine kR ?_; first | refine F.c (hJ) ?_) | fail
    (refine kZ ?_; exact F.ret rfl)
  | true =>
    rw [hi] at hJ
    have hm : isMor a b f = true := by simp only [injB, Bool.and_eq_true] at hi; exact hi.1
    have hfab := (areM_spec (isMor_are hm)).1
    have hf := fitR_symm hfab
    have h := Fits.of hfab
    have h5 := okQ_spec h.ok
    have hda := h.da
    have hp := isF_pos h.f
    have hra := (fitR_reps hfab).1
    have hn := szT_le (Fits.of (fitR_refl hra)) a.d.length (Nat.le_refl _)
    have hle := rkE_le b a hf
    have hlen := hkL_len b a hf
    have hll := homL_len b a
    have hB := homBasis_a b a hf
    have hId := identities_a a.d (by omega) h.ba
    have hia := are_vec (id_are hra)
    have hFl := flat_a (idL a.d) (by omega)
    obtain ⟨m1, m2, m3, m4, m5⟩ := mor_ok hm
    have hC := fun k (hk : k < (homL b a).length) => composed_a a.p f ((homL b a).getD k default) (by have := (comp_ok hm (hom_mor hf hk)).1; omega) (by omega) (comp_ok hm (hom_mor hf hk)).2.2
    have hCv := fun k (hk : k < (homL b a).length) => (are_vec (comp_are hm (hom_mor hf hk))).1
    have hCf := fun k (hk : k < (homL b a).length) => flat_a (compL a.p f ((homL b a).getD k default)) (by rw [hCv k hk]; omega)
    have hvb := splC_vec hm
    have hcl := splC_len a b f
    have hct := fun k hk => splC_take a b f (k := k) hk
    have hFC := fromColumns_a (szT a a a.d.length) (splC a b f) (by omega) (by omega) (fun k hk => (hvb _ (gm hk)).1)
    have hS := solve_a a.p (szT a a a.d.length) (splC a b f).length (fcF (splC a b f)) (catM (idL a.d)) h.f (by omega) (by omega) (fcF_bd hvb) hia.1 hia.2
    rw [show solL a.p (szT a a a.d.length) (splC a b f).length (fcF (splC a b f)) (catM (idL a.d)) = splS a b f from rfl] at hS
    rw [← hia.1] at hFC hS
    generalize splS a b f = S at hS ⊢
    obtain ⟨S1, S2⟩ := S
    dsimp only at hS ⊢
    generalize tm (catM (idL a.d)).length (splC a b f).length (fcF (splC a b f)) = FM at hFC hS
    generalize splC a b f = SC at *
    clear hia hvb
    generalize catM (idL a.d) = T at *
    generalize idL a.d = IL at *
    generalize homL b a = HL at *
    rw [Bool.true_and]
    repeat' first | refine s1 ?_ | (refine kR ?_; first | refine F.c (hJ) ?_ | refine F.c (hId) ?_ | refine F.c (hFl) ?_ | refine F.c (hB) ?_) | fail
    refine AW.freezeA (α := List Mat) 24 rfl rfl rfl ?_
    refine AW.open 8 1 (.inl rfl) ?_
    refine F.loop (σ := Nat) [8, 10, 26, 27, 28, 29, 30, 31, 32, 33, 34, 35, 36, 37, 38, 39] (fun k => [(8, .sl 5 k 0 k), (26, .i k)]) (fun k => [(5, .live false 1 (E true (SC.take k)))]) (fun k => k ≤ HL.length) (fun k => HL.length - k) 0 ⟨rfl, rfl, trivial⟩ ⟨rfl, trivial⟩ (Nat.zero_le _) ?_
    rintro k k1
    have hp2 : (SC.take k).length = k := by rw [List.length_take]; omega
    by_cases hk : k < HL.length
    · have hCk := hC k hk
      have hCfk := hCf k hk
      have ht := hct k hk
      generalize catM (compL a.p f (HL.getD k default)) = Y at hCfk ht
      generalize compL a.p f (HL.getD k default) = Z at hCk hCfk
      repeat' first | refine s1 ?_ | (refine kR ?_; first | refine F.c (hCk) ?_ | refine F.c (hCfk) ?_ | refine F.a1 (List Int) (a := Y) ?_) | fail
      exact ⟨k + 1, F.fit ⟨rfl, rfl, trivial⟩ ⟨obE (by rw [ht]), trivial⟩, by omega, by omega⟩
    · obtain rfl : k = HL.length := by omega
      have e : SC.take HL.length = SC := List.take_of_length_le (by omega)
      rw [e]
      clear hp2 e
      rw [← hcl]
      repeat' first | refine s1 ?_ | fail
      refine AW.draw 13 G.mixed (by kernel_rfl) ?_
      refine dP 0 ?_
      refine dL 1 ?_
      refine dP 2 ?_
      refine dP 3 ?_
      refine dP 4 ?_
      refine dP 6 ?_
      refine dO 5 true ?_
      first | refine s1 ?_ | refine F.c (hFC) ?_ | refine F.c (hS) ?_
      refine ARg.nil (ATh.normal ?_)
      refine dO 7 true ?_
      first | refine s1 ?_ | refine F.c (hFC) ?_ | refine F.c (hS) ?_
      refine ARg.nil (ATh.normal ?_)
      refine dP 8 ?_
      refine dP 9 ?_
      refine dP 10 ?_
      refine dP 11 ?_
      refine dP 12 ?_
      refine dN ?_
      rotate_left
      all_goals
        repeat' first | refine s1 ?_ | fail
        (refine kZ ?_; exact F.ret rfl)
theorem specIsSplitSequence_a (a b : Rep) (f : List Mat) : AC Tryz.prog 18 [.agg (enc false a), .agg (enc false b), ar false f] [.b (splB a b f)] := by
  refine AC.go Tryz.func18 Tryz.ntmps18 rfl rfl fun w0 hw => ?_; simp [WfL, WfA, E_length, Enc.enc, In64] at hw
  have hJ := specIsInjective_a a b f
  unfold splB
  cases hi : injB a b f with
  | false =>
    rw [hi] at hJ
    repeat' first | refine s1 ?_ | (refine kR ?_; first | refine F.c (hJ) ?_) | fail
    (refine kZ ?_; exact F.ret rfl)
  | true =>
    rw [hi] at hJ
    have hm : isMor a b f = true := by simp only [injB, Bool.and_eq_true] at hi; exact hi.1
    have hfab := (areM_spec (isMor_are hm)).1
    have hf := fitR_symm hfab
    have h := Fits.of hfab
    have h5 := okQ_spec h.ok
    have hda := h.da
    have hp := isF_pos h.f
    have hra := (fitR_reps hfab).1
    have hn := szT_le (Fits.of (fitR_refl hra)) a.d.length (Nat.le_refl _)
    have hSz := l11Size_a a a (Fits.of (fitR_refl hra))
    have hle := rkE_le b a hf
    have hlen := hkL_len b a hf
    have hll := homL_len b a
    have hB := specHomBasis_a b a
    unfold homP at hB
    rw [if_pos hf] at hB
    dsimp only at hB
    have hId := identityMor_a a hra
    have hia := are_vec (id_are hra)
    have hFl := l11Flat_a (idL a.d) (by omega)
    have hC := fun k (hk : k < (homL b a).length) => specComposeMorphisms_a a b a f ((homL b a).getD k default)
    have hCv := fun k (hk : k < (homL b a).length) => (are_vec (comp_are hm (hom_mor hf hk))).1
    have hCm : ∀ k, k < (homL b a).length → compM a b a f ((homL b a).getD k default) = (compL a.p f ((homL b a).getD k default), true) := fun k hk => by unfold compM; rw [if_pos ⟨hm, hom_mor hf hk⟩]
    have hCf := fun k (hk : k < (homL b a).length) => l11Flat_a (compL a.p f ((homL b a).getD k default)) (by rw [hCv k hk]; omega)
    have hvb := splC_vec hm
    have hcl := splC_len a b f
    have hct := fun k hk => splC_take a b f (k := k) hk
    have hRw := l5Rows_a (szT a a a.d.length) (splC a b f) (by omega) (by omega) (fun k hk => (hvb _ (gm hk)).1)
    have hTr := l3Transpose_a (splC a b f).length (szT a a a.d.length) (vecF (splC a b f)) (by omega) (by omega)
    have hS := l4Solve_a a.p (szT a a a.d.length) (splC a b f).length (fcF (splC a b f)) (catM (idL a.d)) h.f (by omega) (by omega) (fcF_bd hvb) hia.1 hia.2
    rw [show solL a.p (szT a a a.d.length) (splC a b f).length (fcF (splC a b f)) (catM (idL a.d)) = splS a b f from rfl] at hS
    rw [show tm (szT a a a.d.length) (splC a b f).length (fun i j => vecF (splC a b f) j i) = tm (szT a a a.d.length) (splC a b f).length (fcF (splC a b f)) from rfl] at hTr
    generalize splS a b f = S at hS ⊢
    obtain ⟨S1, S2⟩ := S
    dsimp only at hS ⊢
    generalize tm (szT a a a.d.length) (splC a b f).length (fcF (splC a b f)) = FM at hTr hS
    generalize tm (splC a b f).length (szT a a a.d.length) (vecF (splC a b f)) = RM at hRw hTr
    generalize splC a b f = SC at *
    clear hia hvb
    generalize catM (idL a.d) = T at *
    generalize idL a.d = IL at *
    generalize homL b a = HL at *
    rw [Bool.true_and]
    repeat' first | refine s1 ?_ | (refine kR ?_; first | refine F.c (hJ) ?_ | refine F.c (hB) ?_) | fail
    refine AW.freezeA (α := List Mat) 7 rfl rfl rfl ?_
    refine AW.open 9 1 (.inr rfl) ?_
    refine F.loop (σ := Nat) [9, 10, 11, 12, 29, 30, 31, 32, 33, 34, 35, 36, 37, 38, 39, 40, 41, 42, 43, 44, 45, 46, 47, 48, 49, 50, 51] (fun k => [(9, .sl 3 k 0 k), (10, .i k)]) (fun k => [(3, .live false 1 (E true (SC.take k)))]) (fun k => k ≤ HL.length) (fun k => HL.length - k) 0 ⟨rfl, rfl, trivial⟩ ⟨rfl, trivial⟩ (Nat.zero_le _) ?_
    rintro k k1
    have hp2 : (SC.take k).length = k := by rw [List.length_take]; omega
    by_cases hk : k < HL.length
    · have hCk := hC k hk
      rw [hCm k hk] at hCk
      dsimp only at hCk
      have hCfk := hCf k hk
      have ht := hct k hk
      generalize catM (compL a.p f (HL.getD k default)) = Y at hCfk ht
      generalize compL a.p f (HL.getD k default) = Z at hCk hCfk
      repeat' first | refine s1 ?_ | fail
      refine AW.draw 14 G.mixed (by kernel_rfl) ?_
      refine dL 0 ?_
      refine dL 1 ?_
      refine dL 2 ?_
      refine dP 3 ?_
      refine dP 4 ?_
      refine dP 5 ?_
      refine dP 6 ?_
      refine dL 7 ?_
      refine dO 8 true ?_
      first | refine s1 ?_ | refine F.c (hCk) ?_
      refine ARg.nil (ATh.normal ?_)
      refine dP 9 ?_
      refine dP 10 ?_
      refine dP 11 ?_
      refine dP 12 ?_
      refine dP 13 ?_
      refine dN ?_
      rotate_left
      all_goals
        repeat' first | refine s1 ?_ | (refine kR ?_; first | refine F.c (hCfk) ?_ | refine F.a1 (List Int) (a := Y) ?_) | fail
        exact ⟨k + 1, F.fit ⟨rfl, rfl, trivial⟩ ⟨obE (by rw [ht]), trivial⟩, by omega, by omega⟩
    · obtain rfl : k = HL.length := by omega
      have e : SC.take HL.length = SC := List.take_of_length_le (by omega)
      rw [e]
      clear hp2 e
      rw [← hcl]
      repeat' first | refine s1 ?_ | (refine kR ?_; first | refine F.c (hId) ?_) | fail
      refine AW.draw 16 G.mixed (by kernel_rfl) ?_
      refine dP 0 ?_
      refine dL 1 ?_
      refine dL 2 ?_
      refine dL 3 ?_
      refine dP 5 ?_
      refine dP 8 ?_
      refine dO 4 true ?_
      first | refine s1 ?_ | refine F.c (hSz) ?_ | refine F.c (hRw) ?_ | refine F.c (hTr) ?_ | refine F.c (hFl) ?_ | refine F.c (hS) ?_
      refine ARg.nil (ATh.normal ?_)
      refine dO 6 true ?_
      first | refine s1 ?_ | refine F.c (hSz) ?_ | refine F.c (hRw) ?_ | refine F.c (hTr) ?_ | refine F.c (hFl) ?_ | refine F.c (hS) ?_
      refine ARg.nil (ATh.normal ?_)
      refine dO 7 true ?_
      first | refine s1 ?_ | refine F.c (hSz) ?_ | refine F.c (hRw) ?_ | refine F.c (hTr) ?_ | refine F.c (hFl) ?_ | refine F.c (hS) ?_
      refine ARg.nil (ATh.normal ?_)
      refine dO 9 true ?_
      first | refine s1 ?_ | refine F.c (hSz) ?_ | refine F.c (hRw) ?_ | refine F.c (hTr) ?_ | refine F.c (hFl) ?_ | refine F.c (hS) ?_
      refine ARg.nil (ATh.normal ?_)
      refine dO 10 true ?_
      first | refine s1 ?_ | refine F.c (hSz) ?_ | refine F.c (hRw) ?_ | refine F.c (hTr) ?_ | refine F.c (hFl) ?_ | refine F.c (hS) ?_
      refine ARg.nil (ATh.normal ?_)
      refine dP 11 ?_
      refine dP 12 ?_
      refine dP 13 ?_
      refine dP 14 ?_
      refine dP 15 ?_
      refine dN ?_
      rotate_left
      all_goals
        repeat' first | refine s1 ?_ | fail
        (refine kZ ?_; exact F.ret rfl)
end Go.Proofs.YtanembgijdkagaaGreat.V
