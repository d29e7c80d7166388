/- Contracts: the part that a vector generates, simple representations. -/
import Derived.Test.YtanembgijdkagaaQsUi
import Derived.Test.YtanembgijdkagaaQsUg
import Derived.Test.YtanembgijdkagaaQsUk
import Derived.Test.YtanembgijdkagaaQsA99
import Derived.Test.YtanembgijdkagaaQsA100
import Derived.Test.YtanembgijdkagaaQsA84
import Derived.Test.YtanembgijdkagaaQsA86
namespace Go.Proofs.Ytanembgijdkagaa.V
open V.Enc (enc)
open Go.RowKit G D
set_option linter.unusedVariables false
set_option linter.unusedSimpArgs false
set_option maxHeartbeats 4000000
set_option maxRecDepth 4000
attribute [local irreducible] AW ARg ARA ARet MRet ASil AC AM ARI
theorem power_a (p : Int) (n : Nat) (hp : 2 ≤ p ∧ p ≤ 5) (hn : n ≤ 8) : AC Try.prog 81 [.i p, .i (n : Int)] [.i (powI p n)] := by
  refine AC.go Try.func81 Try.ntmps81 rfl rfl fun w0 hw => ?_; simp [WfL, WfA, E_length, Enc.enc, In64] at hw
  repeat' first | refine s1 ?_ | fail
  refine F.loop (σ := Nat) [5, 7, 8, 9, 10, 11, 12] (fun k => [(5, .i (powI p k)), (7, .i k)]) (fun _ => []) (fun k => k ≤ n) (fun k => n - k) 0 ⟨rfl, rfl, trivial⟩ trivial (Nat.zero_le _) ?_
  rintro k k1
  have hb := powI_bd hp k (by omega)
  by_cases hk : k < n
  · have hst : powI p (k + 1) = powI p k * p := rfl
    have h8 : (5 : Int) ^ k ≤ 390625 := by
      have : k ≤ 8 := by omega
      have h : ∀ k : Nat, k ≤ 8 → (5 : Int) ^ k ≤ 390625 := by decide
      exact h k this
    generalize powI p k = X at hb hst ⊢
    have m1 : 0 ≤ X * p := Int.mul_nonneg (by omega) (by omega)
    have m2 : X * p ≤ 390625 * 5 := Int.mul_le_mul (by omega) hp.2 (by omega) (by omega)
    have hi : In64 (X * p) := by unfold In64; omega
    repeat' first | refine s1 ?_ | fail
    exact ⟨k + 1, F.fit ⟨iE hst.symm, rfl, trivial⟩ trivial, by omega, by omega⟩
  · obtain rfl : k = n := by omega
    generalize powI p k = X at hb ⊢
    repeat' first | refine s1 ?_ | fail
    (refine kZ ?_; exact F.ret rfl)
theorem l5Power_a (p : Int) (n : Nat) (hp : 2 ≤ p ∧ p ≤ 5) (hn : n ≤ 8) : AC Try.prog 74 [.i p, .i (n : Int)] [.i (powI p n)] := by
  refine AC.go Try.func74 Try.ntmps74 rfl rfl fun w0 hw => ?_; simp [WfL, WfA, E_length, Enc.enc, In64] at hw
  repeat' first | refine s1 ?_ | fail
  refine F.loop (σ := Nat) [5, 6, 7, 8, 9, 10, 11, 12, 13, 14] (fun k => [(5, .i (powI p k)), (6, .i k)]) (fun _ => []) (fun k => k ≤ n) (fun k => n - k) 0 ⟨rfl, rfl, trivial⟩ trivial (Nat.zero_le _) ?_
  rintro k k1
  have hb := powI_bd hp k (by omega)
  by_cases hk : k < n
  · have hst : powI p (k + 1) = powI p k * p := rfl
    have h8 : (5 : Int) ^ k ≤ 390625 := by
      have : k ≤ 8 := by omega
      have h : ∀ k : Nat, k ≤ 8 → (5 : Int) ^ k ≤ 390625 := by decide
      exact h k this
    generalize powI p k = X at hb hst ⊢
    have m1 : 0 ≤ X * p := Int.mul_nonneg (by omega) (by omega)
    have m2 : X * p ≤ 390625 * 5 := Int.mul_le_mul (by omega) hp.2 (by omega) (by omega)
    have hi : In64 (X * p) := by unfold In64; omega
    repeat' first | refine s1 ?_ | fail
    exact ⟨k + 1, F.fit ⟨iE hst.symm, rfl, trivial⟩ trivial, by omega, by omega⟩
  · obtain rfl : k = n := by omega
    generalize powI p k = X at hb ⊢
    repeat' first | refine s1 ?_ | fail
    (refine kZ ?_; exact F.ret rfl)
theorem specVectorOf_a (p c : Int) (n : Nat) (hF : isF p = true) (h0 : 0 ≤ c) (h1 : c < powI p n) (hn : n ≤ 8) : AC Try.prog 75 [.i p, .i (n : Int), .i c] [.dt true 1 (E true (digV p c n)), .b true] := by
  refine AC.go Try.func75 Try.ntmps75 rfl rfl fun w0 hw => ?_; simp [WfL, WfA, E_length, Enc.enc, In64] at hw
  have hp := isF_pos hF
  have hb := powI_bd hp n hn
  have h8 : (5 : Int) ^ n ≤ 390625 := by
    have h : ∀ k : Nat, k ≤ 8 → (5 : Int) ^ k ≤ 390625 := by decide
    exact h n hn
  have hend := quoN_end (show 0 < p by omega) n c h0 h1
  have hFi := specIsField_a p
  rw [hF] at hFi
  have hI := l1In_a (n : Int) 0 8
  rw [decide_eq_true (by omega)] at hI
  repeat' first | refine s1 ?_ | (refine kR ?_; first | refine F.c (hFi) ?_ | refine F.c (hI) ?_ | refine F.mk (m := n) Int rfl rfl rfl (mkB (by omega)) (by omega) rfl rfl ?_) | fail
  rw [← digK_all p c n]
  refine F.loop (σ := Nat) [2, 9, 27, 28, 29, 30, 31, 32, 33, 34, 35, 36, 37, 38, 39] (fun m => [(2, .i (quoN p c (n - m))), (9, .i ((m : Int) - 1))]) (fun m => [(0, .live false 1 (E true (digK p c n m)))]) (fun m => m ≤ n) (fun m => m) n ⟨iE (by rw [Nat.sub_self]; rfl), rfl, trivial⟩ ⟨rfl, trivial⟩ (Nat.le_refl _) ?_
  rintro m m1
  have hlen := digK_len p c n m
  by_cases hm : 0 < m
  · obtain ⟨i, rfl⟩ : ∃ i, m = i + 1 := ⟨m - 1, by omega⟩
    have hs := digK_set p c (n := n) (m := i) (by omega)
    have hq := quoN_bd (p := p) (c := c) (by omega) h0 (n - (i + 1))
    have hqs : quoN p c (n - i) = quoN p c (n - (i + 1)) / p := by rw [show n - i = (n - (i + 1)) + 1 by omega]; rfl
    rw [show n - 1 - i = n - (i + 1) by omega] at hs
    generalize quoN p c (n - (i + 1)) = Q at hs hq hqs ⊢
    generalize digK p c n (i + 1) = X at hs hlen ⊢
    rw [show (((i + 1 : Nat)) : Int) - 1 = (i : Int) by omega]
    repeat' first | refine s1 ?_ | fail
    exact ⟨i, F.fit ⟨iE hqs.symm, rfl, trivial⟩ ⟨obE (by rw [Nat.zero_add, hs]), trivial⟩, by omega, by omega⟩
  · obtain rfl : m = 0 := by omega
    rw [digK_zero] at hlen ⊢
    rw [Nat.sub_zero, hend]
    generalize digV p c n = X at hlen ⊢
    repeat' first | refine s1 ?_ | fail
    (refine kZ ?_; exact F.ret rfl)
theorem dim_facts {r : Rep} {X : List Spc} (h : isRep r = true) (hX : SpOk r X) : X.length ≤ 5 ∧ (∀ i, i < X.length → (X.getD i default).b.length ≤ 8) ∧ (dimS X).length ≤ 5 ∧ ∀ j, j < (dimS X).length → -1048576 ≤ (dimS X).getD j default ∧ (dimS X).getD j default ≤ 1048576 := by
  obtain ⟨r1, r2, r3, r4⟩ := isRep_spec h
  obtain ⟨c1, c2, c3, c4⟩ := areDims_spec r2
  have h5 := okQ_spec c1
  have hl := hX.1
  have hd := dimS_len X
  have hb : ∀ i, i < X.length → (X.getD i default).b.length ≤ 8 := fun i hi => by
    have h1 := (hX.2 i (by omega)).2
    have h2 := isSpc_le h1
    have h3 := (isSpc_spec h1).2.1
    omega
  refine ⟨by omega, hb, by omega, fun j hj => ?_⟩
  rw [dimS_get (by omega)]
  have := hb j (by omega)
  omega
theorem generated_w (r : Rep) (v : Nat) (x : List Int) (hr : isRep r = true) (hv : v < r.d.length) (hx : x.length = (r.d.getD v default).toNat) (hb : ∀ j, j < (r.d.getD v default).toNat → 0 ≤ x.getD j default ∧ x.getD j default ≤ r.p - 1) : AM Try.prog 84 [.agg (enc false r), .i (v : Int), ar false x] [] [.dt true 2 (E false (genA r (begS r v x)))] [] := by
  refine AM.go Try.func84 Try.ntmps84 rfl rfl fun w0 mp hw => ?_; simp [WfL, WfA, E_length, Enc.enc, In64] at hw
  obtain ⟨r1, r2, r3, r4⟩ := isRep_spec hr
  obtain ⟨c1, c2, c3, c4⟩ := areDims_spec r2
  have h5 := okQ_spec c1
  have hd : 0 ≤ r.d.getD v default ∧ r.d.getD v default ≤ 4 := allIn_spec c3 hv
  have hZ := zeroSub_a r (by omega)
  have hl0 := radK_len r 0
  have hvb : VecB r.p (r.d.getD v default).toNat [x] := fun y hy => by
    simp only [List.mem_singleton] at hy
    subst hy; exact ⟨hx, hb⟩
  have hSp := span_a r.p (r.d.getD v default).toNat [x] r1 (by simp) (by omega) hvb
  rw [Int.toNat_of_nonneg hd.1] at hSp
  have hB0 : begS r v x = (radK r 0).set v ⟨r.d.getD v default, spanL r.p (r.d.getD v default).toNat [x]⟩ := rfl
  have hok := begS_ok hr hv hx hb
  have hN := genN_ok hr hok
  have hst := fun k hj he => gen_stop hr hok (k := k) hj he
  have hkk := fun k hj => gen_k hr hok (k := k) hj
  have hbl0 := hok.1
  generalize begS r v x = BG at *
  generalize spanL r.p (r.d.getD v default).toNat [x] = SL at hSp hB0
  generalize radK r 0 = R0 at hZ hl0 hB0
  have hg0 : genN r BG 0 = BG := rfl
  have hgs : ∀ k, genN r BG (k + 1) = genK r (genN r BG k) r.q.fr.length := fun _ => rfl
  generalize genA r BG = GA at hst ⊢
  generalize genN r BG = GN at *
  repeat' first | refine s1 ?_ | (refine kR ?_; first | refine F.c (hZ) ?_) | fail
  refine AW.share (o := 1) (ls := R0) rfl ?_
  refine AW.draw 13 G.mixed (by kernel_rfl) ?_
  refine dP 0 ?_
  refine dP 1 ?_
  refine dP 2 ?_
  refine dL 3 ?_
  refine dP 4 ?_
  refine dL 5 ?_
  refine dP 6 ?_
  refine dP 7 ?_
  refine dL 8 ?_
  refine dP 9 ?_
  refine dO 10 true ?_
  refine s1 ?_
  refine ARg.nil (ATh.normal ?_)
  refine dzA (α := List Int) (ls := [x]) 24 rfl rfl rfl ?_
  refine dO 11 true ?_
  first | refine s1 ?_ | refine F.c (hSp) ?_
  refine ARg.nil (ATh.normal ?_)
  refine dzG (α := List Int) (ls := SL) 25 1 rfl rfl rfl rfl ?_
  refine dP 12 ?_
  refine dO 13 false ?_
  first | refine s1 ?_ | (refine F.stGE (α := Spc) (oo := false) (v := ⟨r.d.getD v default, SL⟩) rfl rfl rfl rfl rfl (by omega) (by omega) (.at1 rfl (.at1 rfl .nil)) rfl rfl rfl rfl rfl ?_)
  refine ARg.nil (ATh.normal ?_)
  refine dN ?_
  rotate_left
  all_goals
    rw [Nat.zero_add v, ← hB0]
    repeat' first | refine s1 ?_ | fail
    refine F.loop (σ := Nat) [6, 8, 9, 10, 11, 27, 28, 29, 30, 31, 32, 33, 34, 35, 36, 37, 38, 39, 40, 41, 42, 43, 44, 45, 46, 47, 48, 49, 50, 51, 52, 53, 54, 55, 56, 57, 58, 59, 60, 61, 62, 63, 64, 65, 66, 67, 68, 69, 70, 71, 72, 73] (fun k => []) (fun k => [(1, .live false 2 (E false (GN k)))]) (fun k => k ≤ 8 ∧ ∀ j, j < k → (dimS (GN j)).sum ≠ (dimS (GN (j + 1))).sum) (fun k => 9 - k) 0 trivial ⟨obE (by rw [hg0]), trivial⟩ ⟨by omega, fun j hj => by omega⟩ ?_
    rintro k ⟨k1, k2⟩
    have hNk := hN k
    have hNs := hN (k + 1)
    obtain ⟨f1, f2, f3, f4⟩ := dim_facts hr hNk
    obtain ⟨z1, z2, z3, z4⟩ := dim_facts hr hNs
    have hD1 := subDims_a (GN k) (by omega) (fun i hi => by have := f2 i hi; omega)
    have hS1 := sumOf_a (dimS (GN k)) (by omega) f4
    have hD2 := subDims_a (GN (k + 1)) (by omega) (fun i hi => by have := z2 i hi; omega)
    have hS2 := sumOf_a (dimS (GN (k + 1))) (by omega) z4
    have hstk := hst k k2
    have hks := hkk (k + 1)
    have hgk := hgs k
    have hKo := fun i hi => genK_ok hr hNk i hi
    have hl1 := hNk.1
    have hl2 := hNs.1
    generalize hYe : GN (k + 1) = Y at *
    generalize hXe : GN k = X at *
    generalize hsx : (dimS X).sum = sx at *
    generalize hsy : (dimS Y).sum = sy at *
    repeat' first | refine s1 ?_ | (refine kR ?_; first | refine F.c (hD1) ?_ | refine F.c (hS1) ?_) | fail
    refine F.loop (σ := Nat) [9, 10, 11, 33, 34, 35, 36, 37, 38, 39, 40, 41, 42, 43, 44, 45, 46, 47, 48, 49, 50, 51, 52, 53, 54, 55, 56, 57, 58, 59, 60, 61, 62, 63, 64, 65, 66, 67] (fun i => [(33, .i i)]) (fun i => [(1, .live false 2 (E false (genK r X i)))]) (fun i => i ≤ r.q.fr.length) (fun i => r.q.fr.length - i) 0 ⟨rfl, trivial⟩ ⟨rfl, trivial⟩ (Nat.zero_le _) ?_
    rintro i i1
    by_cases hi : i < r.q.fr.length
    · have hKi := hKo i (by omega)
      obtain ⟨a1, a2, a3, a4, a5, a6, a7, a8⟩ := gen_arr hr hKi hi
      have hIm := imageOf_a a3 a5 a8
      have hAd := sumSpace_a r.p _ _ a4 a6 a7
      have hgi : genK r X (i + 1) = (genK r X i).set (r.q.to.getD i default).toNat (addS r.p ((genK r X i).getD (r.q.to.getD i default).toNat default) (imgSp r.p (r.m.getD i default) ((genK r X i).getD (r.q.fr.getD i default).toNat default))) := rfl
      have f : 0 ≤ r.q.fr.getD i default ∧ r.q.fr.getD i default < r.q.n := okQ_fr c1 hi
      have g : 0 ≤ r.q.to.getD i default ∧ r.q.to.getD i default < r.q.n := okQ_to c1 hi
      have hli := hKi.1
      clear hKi a3 a4 a5 a6 a7 a8
      generalize genK r X i = L at hIm hAd hgi hli ⊢
      generalize imgSp r.p (r.m.getD i default) (L.getD (r.q.fr.getD i default).toNat default) = IM at hIm hAd hgi
      generalize addS r.p (L.getD (r.q.to.getD i default).toNat default) IM = AS at hAd hgi
      rw [← Nat.zero_add (r.q.fr.getD i default).toNat] at hIm
      rw [← Nat.zero_add (r.q.to.getD i default).toNat] at hAd
      repeat' first | refine s1 ?_ | fail
      refine AW.draw 23 G.mixed (by kernel_rfl) ?_
      refine dP 0 ?_
      refine dP 1 ?_
      refine dP 2 ?_
      refine dL 3 ?_
      refine dP 4 ?_
      refine dP 5 ?_
      refine dP 6 ?_
      refine dL 7 ?_
      refine dP 8 ?_
      refine dL 9 ?_
      refine dL 10 ?_
      refine dP 11 ?_
      refine dP 12 ?_
      refine dP 13 ?_
      refine dL 14 ?_
      refine dP 15 ?_
      refine dP 16 ?_
      refine dL 17 ?_
      refine dP 18 ?_
      refine dL 19 ?_
      refine dO 20 true ?_
      first | refine s1 ?_ | refine F.c (hIm) ?_
      refine ARg.nil (ATh.normal ?_)
      refine dzG (α := List Int) (ls := IM.b) 64 1 rfl rfl rfl rfl ?_
      refine dO 21 true ?_
      first | refine s1 ?_ | refine F.c (hAd) ?_
      refine ARg.nil (ATh.normal ?_)
      refine dzG (α := List Int) (ls := AS.b) 65 1 rfl rfl rfl rfl ?_
      refine dP 22 ?_
      refine dO 23 false ?_
      first | refine s1 ?_ | (refine F.stGE (α := Spc) (oo := false) (v := AS) rfl rfl rfl rfl rfl (by omega) (by omega) (.at1 rfl (.at1 rfl .nil)) rfl rfl rfl rfl rfl ?_)
      refine ARg.nil (ATh.normal ?_)
      refine dN ?_
      rotate_left
      all_goals
        rw [Nat.zero_add (r.q.to.getD i default).toNat]
        repeat' first | refine s1 ?_ | fail
        exact ⟨i + 1, F.fit ⟨rfl, trivial⟩ ⟨obE (by rw [hgi]), trivial⟩, by omega, by omega⟩
    · obtain rfl : i = r.q.fr.length := by omega
      rw [← hgk]
      by_cases he : sx = sy
      · obtain ⟨e1, _⟩ := hstk he
        subst e1
        repeat' first | refine s1 ?_ | (refine kR ?_; first | refine F.c (hD2) ?_ | refine F.c (hS2) ?_) | fail
        refine kM ?_
        exact F.retM rfl trivial
      · have hne : (dimS (GN k)).sum ≠ (dimS (GN (k + 1))).sum := by rw [hXe, hYe, hsx, hsy]; exact he
        have hk2 := hks (snocP k2 hne)
        repeat' first | refine s1 ?_ | (refine kR ?_; first | refine F.c (hD2) ?_ | refine F.c (hS2) ?_) | fail
        exact ⟨k + 1, F.fit trivial ⟨obE (by rw [hYe]), trivial⟩, ⟨hk2, snocP k2 hne⟩, by omega⟩
theorem l12Close_w (r : Rep) (s : List Spc) (hr : isRep r = true) (hs : SpOk r s) : AM Try.prog 125 [.agg (enc false r), ar false s] [] [.dt true 2 (E false (genA r s))] [] := by
  refine AM.go Try.func125 Try.ntmps125 rfl rfl fun w0 mp hw => ?_; simp [WfL, WfA, E_length, Enc.enc, In64] at hw
  obtain ⟨r1, r2, r3, r4⟩ := isRep_spec hr
  obtain ⟨c1, c2, c3, c4⟩ := areDims_spec r2
  have h5 := okQ_spec c1
  have hN := genN_ok hr hs
  have hsl := hs.1
  have hg0 : genN r s 0 = s := rfl
  have hgs : ∀ k, genN r s (k + 1) = genK r (genN r s k) r.q.fr.length := fun _ => rfl
  unfold genA
  generalize genN r s = GN at *
  repeat' first | refine s1 ?_ | (refine kR ?_; first | refine F.aLN Spc (oo := false) ?_) | fail
  refine F.loop (σ := Nat) [6, 7, 8, 9, 10, 14, 15, 16, 17, 18, 19, 20, 21, 22, 23, 24, 25, 26, 27, 28, 29, 30, 31, 32, 33, 34, 35, 36, 37, 38, 39, 40, 41, 42, 43, 44, 45, 46, 47, 48, 49, 50, 51, 52, 53, 54, 55, 56, 57, 58, 59, 60, 61, 62, 63, 64] (fun k => [(6, .i k)]) (fun k => [(1, .live false 2 (E false (GN k)))]) (fun k => k ≤ 9) (fun k => 9 - k) 0 ⟨rfl, trivial⟩ ⟨obE (by rw [hg0]), trivial⟩ (by omega) ?_
  rintro k k1
  have hNk := hN k
  have hgk := hgs k
  have hl1 := hNk.1
  by_cases hk : k < 9
  · have hKo := fun i hi => genK_ok hr hNk i hi
    generalize hYe : GN (k + 1) = Y at *
    generalize hXe : GN k = X at *
    repeat' first | refine s1 ?_ | fail
    refine F.loop (σ := Nat) [7, 8, 9, 10, 18, 19, 20, 21, 22, 23, 24, 25, 26, 27, 28, 29, 30, 31, 32, 33, 34, 35, 36, 37, 38, 39, 40, 41, 42, 43, 44, 45, 46, 47, 48, 49, 50, 51, 52, 53, 54, 55, 56, 57, 58, 59, 60, 61, 62, 63, 64] (fun i => [(7, .i i)]) (fun i => [(1, .live false 2 (E false (genK r X i)))]) (fun i => i ≤ r.q.fr.length) (fun i => r.q.fr.length - i) 0 ⟨rfl, trivial⟩ ⟨rfl, trivial⟩ (Nat.zero_le _) ?_
    rintro i i1
    by_cases hi : i < r.q.fr.length
    · have hKi := hKo i (by omega)
      obtain ⟨a1, a2, a3, a4, a5, a6, a7, a8⟩ := gen_arr hr hKi hi
      have hIm := specImageOf_a a3 a5 a8
      have hAd := addSpaces_a r.p _ _ a4 a6 a7
      have hgi : genK r X (i + 1) = (genK r X i).set (r.q.to.getD i default).toNat (addS r.p ((genK r X i).getD (r.q.to.getD i default).toNat default) (imgSp r.p (r.m.getD i default) ((genK r X i).getD (r.q.fr.getD i default).toNat default))) := rfl
      have f : 0 ≤ r.q.fr.getD i default ∧ r.q.fr.getD i default < r.q.n := okQ_fr c1 hi
      have g : 0 ≤ r.q.to.getD i default ∧ r.q.to.getD i default < r.q.n := okQ_to c1 hi
      have hli := hKi.1
      clear hKi a3 a4 a5 a6 a7 a8
      generalize genK r X i = L at hIm hAd hgi hli ⊢
      generalize imgSp r.p (r.m.getD i default) (L.getD (r.q.fr.getD i default).toNat default) = IM at hIm hAd hgi
      generalize addS r.p (L.getD (r.q.to.getD i default).toNat default) IM = AS at hAd hgi
      rw [← Nat.zero_add (r.q.fr.getD i default).toNat] at hIm
      rw [← Nat.zero_add (r.q.to.getD i default).toNat] at hAd
      repeat' first | refine s1 ?_ | fail
      refine AW.draw 21 G.mixed (by kernel_rfl) ?_
      refine dP 0 ?_
      refine dL 1 ?_
      refine dP 2 ?_
      refine dL 3 ?_
      refine dP 4 ?_
      refine dP 5 ?_
      refine dL 6 ?_
      refine dP 7 ?_
      refine dP 8 ?_
      refine dP 9 ?_
      refine dL 10 ?_
      refine dP 11 ?_
      refine dP 12 ?_
      refine dL 13 ?_
      refine dP 14 ?_
      refine dL 15 ?_
      refine ARA.any [16, 20] (by kernel_rfl) (by simp) ?_
      intro k hk
      simp only [List.mem_cons, List.not_mem_nil, or_false] at hk
      rcases hk with rfl | rfl
      refine ⟨_, true, rfl, rfl, ?_⟩
      first | refine s1 ?_ | refine F.c (hIm) ?_
      refine ARg.nil (ATh.normal ?_)
      refine dP 17 ?_
      refine dP 18 ?_
      refine dP 19 ?_
      refine dO 20 true ?_
      refine s1 ?_
      refine ARg.nil (ATh.normal ?_)
      refine dO 21 false ?_
      refine s1 ?_
      refine ARg.nil (ATh.normal ?_)
      refine dP 22 ?_
      refine dN ?_
      rotate_left
      refine ⟨_, true, rfl, rfl, ?_⟩
      refine s1 ?_
      refine ARg.nil (ATh.normal ?_)
      refine dO 16 true ?_
      first | refine s1 ?_ | refine F.c (hIm) ?_
      refine ARg.nil (ATh.normal ?_)
      refine dP 17 ?_
      refine dP 18 ?_
      refine dP 19 ?_
      refine dO 21 false ?_
      refine s1 ?_
      refine ARg.nil (ATh.normal ?_)
      refine dP 22 ?_
      refine dN ?_
      rotate_left
      all_goals
        repeat' first | refine s1 ?_ | fail
        refine AW.draw 14 G.mixed (by kernel_rfl) ?_
        refine dP 0 ?_
        refine dP 1 ?_
        refine dP 2 ?_
        refine dL 3 ?_
        refine dP 4 ?_
        refine dP 5 ?_
        refine dP 6 ?_
        refine dL 7 ?_
        refine dL 8 ?_
        refine dO 9 true ?_
        first | refine s1 ?_ | refine F.c (hAd) ?_
        refine ARg.nil (ATh.normal ?_)
        refine dP 10 ?_
        refine dP 11 ?_
        refine dzG (α := List Int) (ls := AS.b) 62 1 rfl rfl rfl rfl ?_
        refine dP 12 ?_
        refine dP 13 ?_
        refine dO 14 false ?_
        first | refine s1 ?_ | (refine F.stGE (α := Spc) (oo := false) (v := AS) rfl rfl rfl rfl rfl (by omega) (by omega) (.at1 rfl (.at1 rfl .nil)) rfl rfl rfl rfl rfl ?_)
        refine ARg.nil (ATh.normal ?_)
        refine dN ?_
        rotate_left
        all_goals
          rw [Nat.zero_add (r.q.to.getD i default).toNat]
          repeat' first | refine s1 ?_ | fail
          exact ⟨i + 1, F.fit ⟨rfl, trivial⟩ ⟨obE (by rw [hgi]), trivial⟩, by omega, by omega⟩
    · obtain rfl : i = r.q.fr.length := by omega
      rw [← hgk]
      repeat' first | refine s1 ?_ | fail
      exact ⟨k + 1, F.fit ⟨rfl, trivial⟩ ⟨obE (by rw [hYe]), trivial⟩, by omega, by omega⟩
  · obtain rfl : k = 9 := by omega
    generalize GN 9 = X at *
    repeat' first | refine s1 ?_ | fail
    refine kM ?_
    exact F.retM rfl trivial
theorem generatedSub_w (r : Rep) (v : Nat) (x : List Int) (hr : isRep r = true) (hv : v < r.d.length) (hx : x.length = (r.d.getD v default).toNat) (hb : ∀ j, j < (r.d.getD v default).toNat → 0 ≤ x.getD j default ∧ x.getD j default ≤ r.p - 1) : AM Try.prog 76 [.agg (enc false r), .i (v : Int), ar false x] [] [.dt true 2 (E false (genA r (begS r v x))), .b true] [] := by
  refine AM.go Try.func76 Try.ntmps76 rfl rfl fun w0 mp hw => ?_; simp [WfL, WfA, E_length, Enc.enc, In64] at hw
  obtain ⟨r1, r2, r3, r4⟩ := isRep_spec hr
  obtain ⟨c1, c2, c3, c4⟩ := areDims_spec r2
  have h5 := okQ_spec c1
  have hd : 0 ≤ r.d.getD v default ∧ r.d.getD v default ≤ 4 := allIn_spec c3 hv
  have hF := specIsRep_a r
  rw [hr] at hF
  have hI := l1In_a (v : Int) 0 ((r.d.length : Int) - 1)
  rw [decide_eq_true (by omega)] at hI
  have hV := specIsVector_a r.p x
  have hvx : isVec r.p x = true := by
    simp only [isVec, Bool.and_eq_true, decide_eq_true_eq]
    exact ⟨⟨r1, by omega⟩, allIn_all fun j hj => hb j (by omega)⟩
  rw [hvx] at hV
  have hxl : (x.length : Int) = r.d.getD v default := by omega
  have hZ := l12Zero_a r (by omega)
  have hl0 := radK_len r 0
  have hvb : VecB r.p (r.d.getD v default).toNat [x] := fun y hy => by
    simp only [List.mem_singleton] at hy
    subst hy; exact ⟨hx, hb⟩
  have hSp := l5Span_a r.p (r.d.getD v default).toNat [x] r1 (by simp) (by omega) hvb
  rw [Int.toNat_of_nonneg hd.1] at hSp
  have hB0 : begS r v x = (radK r 0).set v ⟨r.d.getD v default, spanL r.p (r.d.getD v default).toNat [x]⟩ := rfl
  have hok := begS_ok hr hv hx hb
  have hC := l12Close_w r (begS r v x) hr hok
  have hbl0 := hok.1
  generalize genA r (begS r v x) = GA at hC ⊢
  generalize begS r v x = BG at *
  generalize spanL r.p (r.d.getD v default).toNat [x] = SL at hSp hB0
  generalize radK r 0 = R0 at hZ hl0 hB0
  repeat' first | refine s1 ?_ | (refine kR ?_; first | refine F.c (hF) ?_ | refine F.c (hI) ?_ | refine F.c (hV) ?_ | refine F.c (hZ) ?_) | fail
  refine AW.share (o := 1) (ls := R0) rfl ?_
  refine AW.draw 13 G.mixed (by kernel_rfl) ?_
  refine dP 0 ?_
  refine dP 1 ?_
  refine dP 2 ?_
  refine dL 3 ?_
  refine dP 4 ?_
  refine dL 5 ?_
  refine dP 6 ?_
  refine dP 7 ?_
  refine dL 8 ?_
  refine dP 9 ?_
  refine dO 10 true ?_
  refine s1 ?_
  refine ARg.nil (ATh.normal ?_)
  refine dzA (α := List Int) (ls := [x]) 51 rfl rfl rfl ?_
  refine dO 11 true ?_
  first | refine s1 ?_ | refine F.c (hSp) ?_
  refine ARg.nil (ATh.normal ?_)
  refine dzG (α := List Int) (ls := SL) 52 1 rfl rfl rfl rfl ?_
  refine dP 12 ?_
  refine dO 13 false ?_
  first | refine s1 ?_ | (refine F.stGE (α := Spc) (oo := false) (v := ⟨r.d.getD v default, SL⟩) rfl rfl rfl rfl rfl (by omega) (by omega) (.at1 rfl (.at1 rfl .nil)) rfl rfl rfl rfl rfl ?_)
  refine ARg.nil (ATh.normal ?_)
  refine dN ?_
  rotate_left
  all_goals
    rw [Nat.zero_add v, ← hB0]
    refine AW.freezeA (α := Spc) 8 rfl rfl (hbl0.trans hl0.symm) ?_
    repeat' first | refine s1 ?_ | (refine kR ?_; first | refine F.w (hC) ?_) | fail
    refine kM ?_
    exact F.retM rfl trivial
/-- the dimensions of what a vector generates -/
theorem gen_dims {r : Rep} {v : Nat} {x : List Int} (h : isRep r = true) (hv : v < r.d.length) (hx : x.length = (r.d.getD v default).toNat) (hb : ∀ j, j < (r.d.getD v default).toNat → 0 ≤ x.getD j default ∧ x.getD j default ≤ r.p - 1) : isSub r (genA r (begS r v x)) = true ∧ SpOk r (genA r (begS r v x)) := ⟨genA_ok h (begS_ok h hv hx hb), genN_ok h (begS_ok h hv hx hb) 9⟩
def simP (r : Rep) (v c : Nat) : Bool := decide (c = 0) || simC r v c
theorem simV_yes {r : Rep} {v N : Nat} (hN : (powI r.p (r.d.getD v default).toNat).toNat = N) (h : ∀ c, c < N → simP r v c = true) : simV r v = true := by
  unfold simV; rw [hN]; exact all_yes h
theorem simV_no {r : Rep} {v N c : Nat} (hN : (powI r.p (r.d.getD v default).toNat).toNat = N) (hc : c < N) (h : simP r v c = false) : simV r v = false := by
  unfold simV; rw [hN]; exact all_no hc h
theorem implIsSimple_a (r : Rep) : AC Try.prog 29 [.agg (enc false r)] [.b (simB r)] := by
  refine AC.go Try.func29 Try.ntmps29 rfl rfl fun w0 hw => ?_; simp [WfL, WfA, E_length, Enc.enc, In64] at hw
  have hF := implIsRep_a r
  unfold simB
  cases hr : isRep r with
  | false =>
    rw [hr] at hF
    repeat' first | refine s1 ?_ | (refine kR ?_; first | refine F.c (hF) ?_) | fail
    refine F.ret ?_
    rfl
  | true =>
    rw [hr] at hF
    obtain ⟨r1, r2, r3, r4⟩ := isRep_spec hr
    obtain ⟨c1, c2, c3, c4⟩ := areDims_spec r2
    have h5 := okQ_spec c1
    have hp := isF_pos r1
    have hS := sumOf_a r.d (by omega) (fun j hj => by have : 0 ≤ r.d.getD j default ∧ r.d.getD j default ≤ 4 := allIn_spec c3 hj; omega)
    by_cases h0 : r.d.sum = 0
    · rw [decide_eq_false (by omega)]
      rw [h0] at hS
      repeat' first | refine s1 ?_ | (refine kR ?_; first | refine F.c (hF) ?_ | refine F.c (hS) ?_) | fail
      refine F.ret ?_
      rfl
    · rw [decide_eq_true h0]
      generalize r.d.sum = sm at hS h0
      repeat' first | refine s1 ?_ | (refine kR ?_; first | refine F.c (hF) ?_ | refine F.c (hS) ?_) | fail
      refine AW.freezeP (α := Rep) (oo := false) r 1 rfl rfl ?_
      refine F.loop (σ := Nat) [2, 3, 4, 5, 18, 19, 20, 21, 22, 23, 24, 25, 26, 27, 28, 29, 30, 31, 32, 33, 34, 35, 36, 37, 38, 39, 40, 41, 42, 43, 44] (fun v => [(18, .i v)]) (fun _ => []) (fun v => v ≤ r.d.length ∧ ∀ u, u < v → simV r u = true) (fun v => r.d.length - v) 0 ⟨rfl, trivial⟩ trivial ⟨Nat.zero_le _, fun u hu => by omega⟩ ?_
      rintro v ⟨v1, v2⟩
      by_cases hv : v < r.d.length
      · have hd : 0 ≤ r.d.getD v default ∧ r.d.getD v default ≤ 4 := allIn_spec c3 hv
        have hdn := Int.toNat_of_nonneg hd.1
        generalize hn : (r.d.getD v default).toNat = n at hdn
        have hn4 : n ≤ 4 := by omega
        have hPw := power_a r.p n hp (by omega)
        have hpb := powI_bd hp n (by omega)
        have h8 : (5 : Int) ^ n ≤ 625 := by
          have h : ∀ k : Nat, k ≤ 4 → (5 : Int) ^ k ≤ 625 := by decide
          exact h n hn4
        obtain ⟨N, hN⟩ : ∃ N : Nat, powI r.p n = N := ⟨(powI r.p n).toNat, by omega⟩
        have hNn : (powI r.p (r.d.getD v default).toNat).toNat = N := by rw [hn, hN]; rfl
        rw [hN] at hPw
        rw [hdn] at hPw
        have hNb : 1 ≤ N ∧ N ≤ 625 := by omega
        have hyes := simV_yes hNn
        have hno := fun c => simV_no (c := c) hNn
        repeat' first | refine s1 ?_ | fail
        refine F.loop (σ := Nat) [2, 5, 23, 24, 25, 26, 27, 28, 29, 30, 31, 32, 33, 34, 35, 36, 37, 38, 39, 40, 41, 42, 43] (fun c => [(5, .i c)]) (fun _ => []) (fun c => 1 ≤ c ∧ c ≤ N ∧ ∀ j, j < c → simP r v j = true) (fun c => N - c) 1 ⟨rfl, trivial⟩ trivial ⟨Nat.le_refl _, hNb.1, fun j (hj : j < 1) => by obtain rfl := Nat.lt_one_iff.mp hj; rfl⟩ ?_
        rintro c ⟨q1', q2', q3'⟩
        by_cases hcN : c < N
        · have hV := vectorOf_a r.p c n hp (by omega) (by omega)
          rw [hdn] at hV
          have hxl : (digV r.p c n).length = (r.d.getD v default).toNat := by rw [digV_len, hn]
          have hxb : ∀ j, j < (r.d.getD v default).toNat → 0 ≤ (digV r.p c n).getD j default ∧ (digV r.p c n).getD j default ≤ r.p - 1 := fun j hj => by
            rw [hn] at hj
            rw [digV_get _ _ hj]
            exact digN_bd (by omega) _ _
          have hG := generated_w r v (digV r.p c n) hr hv hxl hxb
          obtain ⟨g1, g2⟩ := gen_dims hr hv hxl hxb
          obtain ⟨f1, f2, f3, f4⟩ := dim_facts hr g2
          have hD := subDims_a (genA r (begS r v (digV r.p c n))) (by omega) (fun i hi => by have := f2 i hi; omega)
          have hE := equal_a (dimS (genA r (begS r v (digV r.p c n)))) r.d
          have hsc : simC r v c = decide (dimS (genA r (begS r v (digV r.p c n))) = r.d) := by unfold simC; rw [hn]
          rw [← hsc] at hE
          have hsp : simP r v c = simC r v c := by unfold simP; rw [decide_eq_false (by omega), Bool.false_or]
          generalize genA r (begS r v (digV r.p c n)) = GA at hG hD hE
          generalize digV r.p c n = X at hV hG
          generalize dimS GA = DG at hD hE
          cases hx : simC r v c with
          | true =>
            rw [hx] at hE hsp
            repeat' first | refine s1 ?_ | (refine kR ?_; first | refine F.c (hPw) ?_) | fail
            refine AW.drawI G.mixed (by kernel_rfl) (by rfl) ?_
            intro T w1 MP1 I0
            refine iL 0 ?_
            refine iP 1 ?_
            refine iP 2 ?_
            refine iL 3 ?_
            refine iP 4 ?_
            refine iP 5 ?_
            refine iP 9 ?_
            refine iL 10 ?_
            refine iO 6 ?_
            first | refine s1 ?_ | refine F.c (hV) ?_
            refine ARg.nil (ATh.normal ?_)
            refine iz (α := Int) (ls := X) 37 rfl rfl rfl ?_
            refine iO 7 ?_
            first | refine s1 ?_ | refine F.w (hG) ?_
            refine ARg.nil (ATh.normal ?_)
            refine iO 8 ?_
            first | refine s1 ?_ | refine F.c (hD) ?_
            refine ARg.nil (ATh.normal ?_)
            refine iO 11 ?_
            first | refine s1 ?_ | refine F.c (hE) ?_
            refine ARg.nil (ATh.normal ?_)
            refine iP 12 ?_
            refine iN ?_
            rotate_left
            all_goals
              repeat' first | refine s1 ?_ | fail
              exact ⟨c + 1, F.fit ⟨rfl, trivial⟩ trivial, ⟨by omega, by omega, snocP q3' hsp⟩, by omega⟩
          | false =>
            rw [hx] at hE hsp
            repeat' first | refine s1 ?_ | (refine kR ?_; first | refine F.c (hPw) ?_) | fail
            refine AW.drawI G.mixed (by kernel_rfl) (by rfl) ?_
            intro T w1 MP1 I0
            refine iL 0 ?_
            refine iP 1 ?_
            refine iP 2 ?_
            refine iL 3 ?_
            refine iP 4 ?_
            refine iP 5 ?_
            refine iP 9 ?_
            refine iL 10 ?_
            refine iO 6 ?_
            first | refine s1 ?_ | refine F.c (hV) ?_
            refine ARg.nil (ATh.normal ?_)
            refine iz (α := Int) (ls := X) 37 rfl rfl rfl ?_
            refine iO 7 ?_
            first | refine s1 ?_ | refine F.w (hG) ?_
            refine ARg.nil (ATh.normal ?_)
            refine iO 8 ?_
            first | refine s1 ?_ | refine F.c (hD) ?_
            refine ARg.nil (ATh.normal ?_)
            refine iO 11 ?_
            first | refine s1 ?_ | refine F.c (hE) ?_
            refine ARg.nil (ATh.normal ?_)
            refine iP 12 ?_
            refine iN ?_
            rotate_left
            all_goals
              repeat' first | refine s1 ?_ | fail
              refine F.ret ?_
              rw [all_no hv (hno c hcN hsp)]; rfl
        · obtain rfl : c = N := by omega
          have hvv := hyes q3'
          repeat' first | refine s1 ?_ | (refine kR ?_; first | refine F.c (hPw) ?_) | fail
          exact ⟨v + 1, F.fit ⟨rfl, trivial⟩ trivial, ⟨by omega, snocP v2 hvv⟩, by omega⟩
      · obtain rfl : v = r.d.length := by omega
        repeat' first | refine s1 ?_ | fail
        refine F.ret ?_
        rw [all_yes v2]; rfl
theorem totalOfAll_a (r : Rep) : AC Try.prog 73 [.agg (enc false r)] [.i (if isRep r = true then r.d.sum else -1)] := by
  cases hr : isRep r with
  | true => rw [if_pos rfl]; exact totalOf_a r hr
  | false =>
    rw [if_neg (by simp)]
    refine AC.go Try.func73 Try.ntmps73 rfl rfl fun w0 hw => ?_; simp [WfL, WfA, E_length, Enc.enc, In64] at hw
    have hF := specIsRep_a r
    rw [hr] at hF
    repeat' first | refine s1 ?_ | (refine kR ?_; first | refine F.c (hF) ?_) | fail
    (refine kZ ?_; exact F.ret rfl)
theorem specIsSimple_a (r : Rep) : AC Try.prog 28 [.agg (enc false r)] [.b (simB r)] := by
  refine AC.go Try.func28 Try.ntmps28 rfl rfl fun w0 hw => ?_; simp [WfL, WfA, E_length, Enc.enc, In64] at hw
  have hT := totalOfAll_a r
  unfold simB
  cases hr : isRep r with
  | false =>
    rw [hr, if_neg (by simp)] at hT
    repeat' first | refine s1 ?_ | (refine kR ?_; first | refine F.c (hT) ?_) | fail
    refine F.ret ?_
    rfl
  | true =>
    rw [hr, if_pos rfl] at hT
    obtain ⟨r1, r2, r3, r4⟩ := isRep_spec hr
    obtain ⟨c1, c2, c3, c4⟩ := areDims_spec r2
    have h5 := okQ_spec c1
    have hp := isF_pos r1
    have hrs := rep_sum hr
    by_cases h0 : r.d.sum = 0
    · rw [decide_eq_false (by omega)]
      rw [h0] at hT
      repeat' first | refine s1 ?_ | (refine kR ?_; first | refine F.c (hT) ?_) | fail
      refine F.ret ?_
      rfl
    · rw [decide_eq_true h0]
      generalize r.d.sum = sm at hT h0 hrs
      repeat' first | refine s1 ?_ | (refine kR ?_; first | refine F.c (hT) ?_) | fail
      refine AW.freezeP (α := Rep) (oo := false) r 1 rfl rfl ?_
      refine F.loop (σ := Nat) [2, 3, 4, 5, 6, 7, 8, 9, 13, 14, 15, 16, 17, 18, 19, 20, 21, 22, 23, 24, 25, 26, 27, 28, 29, 30, 31, 32, 33, 34, 35, 36, 37, 38, 39, 40, 41, 42, 43, 44, 45, 46, 47, 48, 49, 50, 51, 52, 53, 54, 55, 56, 57, 58] (fun v => [(3, .i v)]) (fun _ => []) (fun v => v ≤ r.d.length ∧ ∀ u, u < v → simV r u = true) (fun v => r.d.length - v) 0 ⟨rfl, trivial⟩ trivial ⟨Nat.zero_le _, fun u hu => by omega⟩ ?_
      rintro v ⟨v1, v2⟩
      by_cases hv : v < r.d.length
      · have hd : 0 ≤ r.d.getD v default ∧ r.d.getD v default ≤ 4 := allIn_spec c3 hv
        have hdn := Int.toNat_of_nonneg hd.1
        generalize hn : (r.d.getD v default).toNat = n at hdn
        have hn4 : n ≤ 4 := by omega
        have hPw := l5Power_a r.p n hp (by omega)
        have hpb := powI_bd hp n (by omega)
        have h8 : (5 : Int) ^ n ≤ 625 := by
          have h : ∀ k : Nat, k ≤ 4 → (5 : Int) ^ k ≤ 625 := by decide
          exact h n hn4
        obtain ⟨N, hN⟩ : ∃ N : Nat, powI r.p n = N := ⟨(powI r.p n).toNat, by omega⟩
        have hNn : (powI r.p (r.d.getD v default).toNat).toNat = N := by rw [hn, hN]; rfl
        rw [hN] at hPw
        rw [hdn] at hPw
        have hNb : 1 ≤ N ∧ N ≤ 625 := by omega
        have hyes := simV_yes hNn
        have hno := fun c => simV_no (c := c) hNn
        repeat' first | refine s1 ?_ | fail
        refine AW.drawI G.mixed (by kernel_rfl) (by rfl) ?_
        intro T w1 MP1 I0
        refine iP 0 ?_
        refine iL 1 ?_
        refine iP 2 ?_
        refine iL 3 ?_
        refine iP 4 ?_
        refine iP 5 ?_
        refine iL 6 ?_
        refine iO 7 ?_
        first | refine s1 ?_ | refine F.c (hPw) ?_
        refine ARg.nil (ATh.normal ?_)
        refine iP 8 ?_
        refine iN ?_
        rotate_left
        all_goals
          repeat' first | refine s1 ?_ | fail
          refine F.loop (σ := Nat) [2, 5, 6, 7, 8, 9, 28, 29, 30, 31, 32, 33, 34, 35, 36, 37, 38, 39, 40, 41, 42, 43, 44, 45, 46, 47, 48, 49, 50, 51, 52, 53, 54, 55, 56, 57, 58] (fun c => [(5, .i c)]) (fun _ => []) (fun c => 1 ≤ c ∧ c ≤ N ∧ ∀ j, j < c → simP r v j = true) (fun c => N - c) 1 ⟨rfl, trivial⟩ trivial ⟨Nat.le_refl _, hNb.1, fun j (hj : j < 1) => by obtain rfl := Nat.lt_one_iff.mp hj; rfl⟩ ?_
          rintro c ⟨q1', q2', q3'⟩
          by_cases hcN : c < N
          · have hV := specVectorOf_a r.p c n r1 (by omega) (by omega) (by omega)
            rw [hdn] at hV
            have hxl : (digV r.p c n).length = (r.d.getD v default).toNat := by rw [digV_len, hn]
            have hxb : ∀ j, j < (r.d.getD v default).toNat → 0 ≤ (digV r.p c n).getD j default ∧ (digV r.p c n).getD j default ≤ r.p - 1 := fun j hj => by
              rw [hn] at hj
              rw [digV_get _ _ hj]
              exact digN_bd (by omega) _ _
            have hG := generatedSub_w r v (digV r.p c n) hr hv hxl hxb
            obtain ⟨g1, g2⟩ := gen_dims hr hv hxl hxb
            have hD := specSubDims_a r (genA r (begS r v (digV r.p c n))) g1
            have hE := l6Same_a (dimS (genA r (begS r v (digV r.p c n)))) r.d
            have hsc : simC r v c = decide (dimS (genA r (begS r v (digV r.p c n))) = r.d) := by unfold simC; rw [hn]
            rw [← hsc] at hE
            have hsp : simP r v c = simC r v c := by unfold simP; rw [decide_eq_false (by omega), Bool.false_or]
            generalize genA r (begS r v (digV r.p c n)) = GA at hG hD hE
            generalize digV r.p c n = X at hV hG
            generalize dimS GA = DG at hD hE
            cases hx : simC r v c with
            | true =>
              rw [hx] at hE hsp
              repeat' first | refine s1 ?_ | fail
              refine AW.drawI G.mixed (by kernel_rfl) (by rfl) ?_
              intro T w1 MP1 I0
              refine iP 0 ?_
              refine iL 1 ?_
              refine iP 2 ?_
              refine iL 3 ?_
              refine iP 4 ?_
              refine iP 5 ?_
              refine iL 6 ?_
              refine iP 7 ?_
              refine iO 8 ?_
              first | refine s1 ?_ | refine F.c (hV) ?_
              refine ARg.nil (ATh.normal ?_)
              refine iP 9 ?_
              refine iP 10 ?_
              refine iP 11 ?_
              refine iP 12 ?_
              refine iP 13 ?_
              refine iN ?_
              rotate_left
              all_goals
                refine AW.freezeA (α := Int) 6 rfl rfl rfl ?_
                repeat' first | refine s1 ?_ | (refine kR ?_; first | refine F.w (hG) ?_) | fail
                refine AW.draw 7 G.mixed (by kernel_rfl) ?_
                refine dL 0 ?_
                refine dP 1 ?_
                refine dP 3 ?_
                refine dL 4 ?_
                refine dO 2 true ?_
                first | refine s1 ?_ | refine F.c (hD) ?_ | refine F.c (hE) ?_
                refine ARg.nil (ATh.normal ?_)
                refine dO 5 true ?_
                first | refine s1 ?_ | refine F.c (hD) ?_ | refine F.c (hE) ?_
                refine ARg.nil (ATh.normal ?_)
                refine dP 6 ?_
                refine dN ?_
                rotate_left
                all_goals
                  repeat' first | refine s1 ?_ | fail
                  exact ⟨c + 1, F.fit ⟨rfl, trivial⟩ trivial, ⟨by omega, by omega, snocP q3' hsp⟩, by omega⟩
            | false =>
              rw [hx] at hE hsp
              repeat' first | refine s1 ?_ | fail
              refine AW.drawI G.mixed (by kernel_rfl) (by rfl) ?_
              intro T w1 MP1 I0
              refine iP 0 ?_
              refine iL 1 ?_
              refine iP 2 ?_
              refine iL 3 ?_
              refine iP 4 ?_
              refine iP 5 ?_
              refine iL 6 ?_
              refine iP 7 ?_
              refine iO 8 ?_
              first | refine s1 ?_ | refine F.c (hV) ?_
              refine ARg.nil (ATh.normal ?_)
              refine iP 9 ?_
              refine iP 10 ?_
              refine iP 11 ?_
              refine iP 12 ?_
              refine iP 13 ?_
              refine iN ?_
              rotate_left
              all_goals
                refine AW.freezeA (α := Int) 6 rfl rfl rfl ?_
                repeat' first | refine s1 ?_ | (refine kR ?_; first | refine F.w (hG) ?_) | fail
                refine AW.draw 7 G.mixed (by kernel_rfl) ?_
                refine dL 0 ?_
                refine dP 1 ?_
                refine dP 3 ?_
                refine dL 4 ?_
                refine dO 2 true ?_
                first | refine s1 ?_ | refine F.c (hD) ?_ | refine F.c (hE) ?_
                refine ARg.nil (ATh.normal ?_)
                refine dO 5 true ?_
                first | refine s1 ?_ | refine F.c (hD) ?_ | refine F.c (hE) ?_
                refine ARg.nil (ATh.normal ?_)
                refine dP 6 ?_
                refine dN ?_
                rotate_left
                all_goals
                  repeat' first | refine s1 ?_ | fail
                  refine F.ret ?_
                  rw [all_no hv (hno c hcN hsp)]; rfl
          · obtain rfl : c = N := by omega
            have hvv := hyes q3'
            repeat' first | refine s1 ?_ | fail
            exact ⟨v + 1, F.fit ⟨rfl, trivial⟩ trivial, ⟨by omega, snocP v2 hvv⟩, by omega⟩
      · obtain rfl : v = r.d.length := by omega
        repeat' first | refine s1 ?_ | fail
        refine F.ret ?_
        rw [all_yes v2]; rfl
end Go.Proofs.Ytanembgijdkagaa.V
