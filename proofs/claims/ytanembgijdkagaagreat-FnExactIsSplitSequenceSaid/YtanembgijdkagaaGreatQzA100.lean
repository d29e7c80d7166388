/- Contracts: digits, combinations of morphisms by numbers, how many there are, which are isomorphisms. -/
import Derived.Test.YtanembgijdkagaaGreatQzUi
import Derived.Test.YtanembgijdkagaaGreatQzUg
import Derived.Test.YtanembgijdkagaaGreatQzA97
import Derived.Test.YtanembgijdkagaaGreatQzA83
import Derived.Test.YtanembgijdkagaaGreatQzA75
import Derived.Test.YtanembgijdkagaaGreatQzB7
namespace Go.Proofs.YtanembgijdkagaaGreat.V
open V.Enc (enc)
open Go.RowKit G D
set_option linter.unusedVariables false
set_option linter.unusedSimpArgs false
set_option maxHeartbeats 4000000
set_option maxRecDepth 4000
attribute [local irreducible] AW ARg ARA ARet MRet ASil AC AM ARI
theorem vectorOf_a (p c : Int) (n : Nat) (hp : 2 ≤ p ∧ p ≤ 5) (h0 : 0 ≤ c ∧ c ≤ 1000000) (hn : n ≤ 1000) : AC Tryz.prog 115 [.i p, .i (n : Int), .i c] [.dt true 1 (E true (digV p c n))] := by
  refine AC.go Tryz.func115 Tryz.ntmps115 rfl rfl fun w0 hw => ?_; simp [WfL, WfA, E_length, Enc.enc, In64] at hw
  repeat' first | refine s1 ?_ | (refine kR ?_; first | refine F.mk (m := n) Int rfl rfl rfl (mkB (by omega)) (by omega) rfl rfl ?_) | fail
  rw [← digK_all p c n]
  refine F.loop (σ := Nat) [2, 8, 13, 14, 15, 16, 17, 18, 19, 20, 21, 22, 23, 24, 25] (fun m => [(2, .i (quoN p c (n - m))), (8, .i ((m : Int) - 1))]) (fun m => [(0, .live false 1 (E true (digK p c n m)))]) (fun m => m ≤ n) (fun m => m) n ⟨iE (by rw [Nat.sub_self]; rfl), rfl, trivial⟩ ⟨rfl, trivial⟩ (Nat.le_refl _) ?_
  rintro m m1
  have hlen := digK_len p c n m
  by_cases hm : 0 < m
  · obtain ⟨i, rfl⟩ : ∃ i, m = i + 1 := ⟨m - 1, by omega⟩
    have hs := digK_set p c (n := n) (m := i) (by omega)
    have hq := quoN_bd (p := p) (c := c) (by omega) h0.1 (n - (i + 1))
    have hqs : quoN p c (n - i) = quoN p c (n - (i + 1)) / p := by rw [show n - i = (n - (i + 1)) + 1 by omega]; rfl
    rw [show n - 1 - i = n - (i + 1) by omega] at hs
    generalize quoN p c (n - (i + 1)) = Q at hs hq hqs ⊢
    generalize digK p c n (i + 1) = X at hs hlen ⊢
    rw [show (((i + 1 : Nat)) : Int) - 1 = (i : Int) by omega]
    repeat' first | refine s1 ?_ | fail
    exact ⟨i, F.fit ⟨iE hqs.symm, rfl, trivial⟩ ⟨obE (by rw [Nat.zero_add, hs]), trivial⟩, by omega, by omega⟩
  · obtain rfl : m = 0 := by omega
    rw [digK_zero] at hlen ⊢
    generalize digV p c n = X at hlen ⊢
    repeat' first | refine s1 ?_ | fail
    (refine kZ ?_; exact F.ret rfl)
theorem countHoms_a (p : Int) (n : Nat) (hp : 2 ≤ p ∧ p ≤ 5) (hn : n ≤ 1000) : AC Tryz.prog 60 [.i p, .i (n : Int)] [.i (cntH p n)] := by
  refine AC.go Tryz.func60 Tryz.ntmps60 rfl rfl fun w0 hw => ?_; simp [WfL, WfA, E_length, Enc.enc, In64] at hw
  repeat' first | refine s1 ?_ | fail
  refine F.loop (σ := Nat) [5, 6, 7, 8, 9, 10, 11, 12, 13, 14, 15, 16, 17, 18] (fun k => [(5, .i (cntH p k)), (6, .i k)]) (fun _ => []) (fun k => k ≤ n) (fun k => n - k) 0 ⟨rfl, rfl, trivial⟩ trivial (Nat.zero_le _) ?_
  rintro k k1
  have hb := cntH_bd hp k
  by_cases hk : k < n
  · by_cases hq : cntH p k ≤ 100000
    · have hst := cntH_step hq
      generalize cntH p k = X at hb hq hst ⊢
      have m1 : 0 ≤ X * p := Int.mul_nonneg (by omega) (by omega)
      have m2 : X * p ≤ 100000 * 5 := Int.mul_le_mul hq hp.2 (by omega) (by omega)
      have hi : In64 (X * p) := by unfold In64; omega
      repeat' first | refine s1 ?_ | fail
      exact ⟨k + 1, F.fit ⟨iE hst.symm, rfl, trivial⟩ trivial, by omega, by omega⟩
    · have hst := cntH_stay (p := p) (n := k) (by omega) (n - k)
      rw [show k + (n - k) = n by omega] at hst
      rw [hst]
      generalize cntH p k = X at hb hq ⊢
      repeat' first | refine s1 ?_ | fail
      (refine kZ ?_; exact F.ret rfl)
  · obtain rfl : k = n := by omega
    generalize cntH p k = X at hb ⊢
    repeat' first | refine s1 ?_ | fail
    (refine kZ ?_; exact F.ret rfl)
theorem homBasis_a (a b : Rep) (hf : fitR a b = true) : AC Tryz.prog 48 [.agg (enc false a), .agg (enc false b)] [.dt true 1 (E true (homL a b))] := by
  refine AC.go Tryz.func48 Tryz.ntmps48 rfl rfl fun w0 hw => ?_; simp [WfL, WfA, E_length, Enc.enc, In64] at hw
  have h := Fits.of hf
  have h5 := okQ_spec h.ok
  have hda := h.da
  have hp := isF_pos h.f
  have hn := szT_le h a.d.length (Nat.le_refl _)
  have hN := szA_le h a.q.fr.length (Nat.le_refl _)
  have hB := boundaries_a a b hf
  have hK := kernel_a a.p (szA a b a.q.fr.length) (szT a b a.d.length) (ent (eqM a b)) h.f (by omega) (by omega) (eqM_bd (by omega))
  rw [eqM_tm (by omega), show kerL a.p (szA a b a.q.fr.length) (szT a b a.d.length) (ent (eqM a b)) = hkL a b from rfl] at hK
  have hZ := zeros_a a b h
  have hzl := zerL_len a b
  have hzc := zerL_cat h a.d.length (Nat.le_refl _)
  rw [← hzl, List.take_length, hzl] at hzc
  have hle := rkE_le a b hf
  have hlen := hkL_len a b hf
  have hll := homL_len a b
  have hsh := fun k (hk : k < (hkL a b).length) => shaped_a (zerL a b) ((hkL a b).getD k default) (by omega) (by rw [hkL_get a b hk]; omega) (by rw [hkL_get a b hk]; omega)
  simp only [zerL_shp h] at hsh
  have hts := fun k (hk : k < (hkL a b).length) => homL_take a b hk
  generalize homL a b = HL at hll hts ⊢
  generalize hkL a b = KL at hK hlen hll hsh hts ⊢
  generalize eqM a b = EM at hB hK
  generalize zerL a b = ZL at hZ hsh
  repeat' first | refine s1 ?_ | fail
  refine AW.draw 8 G.mixed (by kernel_rfl) ?_
  refine dP 0 ?_
  refine dL 1 ?_
  refine dL 2 ?_
  refine dL 3 ?_
  refine dP 7 ?_
  refine dO 4 true ?_
  first | refine s1 ?_ | refine F.c (hB) ?_ | refine F.c (hK) ?_
  refine ARg.nil (ATh.normal ?_)
  refine dO 5 true ?_
  first | refine s1 ?_ | refine F.c (hB) ?_ | refine F.c (hK) ?_
  refine ARg.nil (ATh.normal ?_)
  refine dP 6 ?_
  refine dN ?_
  rotate_left
  all_goals
    repeat' first | refine s1 ?_ | fail
    refine AW.freezeA (α := List Int) 13 rfl rfl rfl ?_
    refine AW.open 5 1 (.inl rfl) ?_
    refine F.loop (σ := Nat) [5, 7, 15, 16, 17, 18, 19, 20, 21, 22, 23, 24, 25, 26, 27] (fun k => [(5, .sl 4 k 0 k), (15, .i k)]) (fun k => [(4, .live false 1 (E true (HL.take k)))]) (fun k => k ≤ KL.length) (fun k => KL.length - k) 0 ⟨rfl, rfl, trivial⟩ ⟨rfl, trivial⟩ (Nat.zero_le _) ?_
    rintro k k1
    by_cases hk : k < KL.length
    · have hCk := hsh k hk
      have ht := hts k hk
      have hp2 : (HL.take k).length = k := by rw [List.length_take]; omega
      generalize cutV a b (KL.getD k default) = V' at hCk ht
      repeat' first | refine s1 ?_ | (refine kR ?_; first | refine F.c (hZ) ?_ | refine F.c (hCk) ?_ | refine F.a1 (List Mat) (a := V') ?_) | fail
      exact ⟨k + 1, F.fit ⟨rfl, rfl, trivial⟩ ⟨obE (by rw [ht]), trivial⟩, by omega, by omega⟩
    · obtain rfl : k = KL.length := by omega
      rw [← hll, List.take_length]
      repeat' first | refine s1 ?_ | fail
      (refine kZ ?_; exact F.ret rfl)
end Go.Proofs.YtanembgijdkagaaGreat.V
