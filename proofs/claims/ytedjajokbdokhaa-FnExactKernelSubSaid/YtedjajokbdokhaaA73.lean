/- Contracts: kernels and images of morphisms as parts. -/
import Derived.Test.YtedjajokbdokhaaC2
import Derived.Test.YtedjajokbdokhaaC1
import Derived.Test.YtedjajokbdokhaaA26
namespace Go.Proofs.Ytedjajokbdokhaa.V
open V.Enc (enc)
open Go.RowKit G D
set_option linter.unusedVariables false
set_option linter.unusedSimpArgs false
set_option maxHeartbeats 4000000
set_option maxRecDepth 4000
attribute [local irreducible] AW ARg ARA ARet MRet ASil AC AM

theorem map_take {α β : Type} [Inhabited α] (f : α → β) {l : List α} {k : Nat} (h : k < l.length) : (l.map f).take (k + 1) = (l.map f).take k ++ [f (l.getD k default)] := by
  have e : l.getD k default = l[k] := by simp [h]
  rw [List.take_succ_eq_append_getElem (by simpa using h), e]
  simp
def kerLs (p : Int) (f : List Mat) : List Spc := f.map (kerS p)
def imgLs (p : Int) (f : List Mat) : List Spc := f.map (imgS p)
theorem kernelSub_a (p : Int) (f : List Mat) (hf : ∀ v, v < f.length → isMat p (f.getD v default) = true) (hl : f.length ≤ 1000) : AC Try.prog 52 [.i p, ar false f] [.dt true 2 (E true (kerLs p f))] := by
  refine AC.go Try.func52 Try.ntmps52 rfl rfl fun w0 hw => ?_; simp [WfL, WfA, E_length, Enc.enc, In64] at hw
  have hll : (kerLs p f).length = f.length := by simp [kerLs]
  repeat' first | refine s1 ?_ | fail
  refine AW.open 5 2 (.inl rfl) ?_
  refine F.loop (σ := Nat) [5, 7, 10, 11, 12, 13, 14, 15, 16, 17, 18, 19, 20, 21, 22, 23, 24] (fun k => [(5, .sl 0 k 0 k), (10, .i k)]) (fun k => [(0, .live false 2 (E true ((kerLs p f).take k)))]) (fun k => k ≤ f.length) (fun k => f.length - k) 0 ⟨rfl, rfl, trivial⟩ ⟨rfl, trivial⟩ (Nat.zero_le _) ?_
  rintro k k1
  have hp : ((kerLs p f).take k).length = k := by rw [List.length_take]; omega
  by_cases hk : k < f.length
  · have hm := hf k hk
    have hKe := matKer_a hm
    have hSp := kerSpan_a hm
    have hts : (kerLs p f).take (k + 1) = (kerLs p f).take k ++ [kerS p (f.getD k default)] := map_take _ hk
    generalize kerS p (f.getD k default) = KS at hSp hts
    generalize kerL _ _ _ _ = KL at hKe hSp
    repeat' first | refine s1 ?_ | fail
    refine AW.draw 9 G.mixed (by kernel_rfl) ?_
    refine dP 0 ?_
    refine dP 1 ?_
    refine dP 2 ?_
    refine dL 3 ?_
    refine dP 4 ?_
    refine dL 5 ?_
    refine dO 6 true ?_
    first | refine s1 ?_ | refine F.c (hKe) ?_ | refine F.c (hSp) ?_
    refine ARg.nil (ATh.normal ?_)
    refine dO 7 true ?_
    first | refine s1 ?_ | refine F.c (hKe) ?_ | refine F.c (hSp) ?_
    refine ARg.nil (ATh.normal ?_)
    refine dO 8 true ?_
    refine s1 ?_
    refine ARg.nil (ATh.normal ?_)
    refine dO 9 false ?_
    first | refine s1 ?_ | refine F.a1 Spc (a := KS) ?_
    refine ARg.nil (ATh.normal ?_)
    refine dP 10 ?_
    refine dN ?_
    repeat' first | refine s1 ?_ | fail
    exact ⟨k + 1, F.fit ⟨rfl, rfl, trivial⟩ ⟨obE (by rw [hts]), trivial⟩, by omega, by omega⟩
  · obtain rfl : k = f.length := by omega
    have e : (kerLs p f).take f.length = kerLs p f := List.take_of_length_le (by omega)
    rw [e]
    clear hp e
    generalize kerLs p f = L at hll ⊢
    rw [← hll]
    repeat' first | refine s1 ?_ | fail
    (refine kZ ?_; exact F.ret rfl)
theorem imageSub_a (p : Int) (f : List Mat) (hf : ∀ v, v < f.length → isMat p (f.getD v default) = true) (hl : f.length ≤ 1000) : AC Try.prog 44 [.i p, ar false f] [.dt true 2 (E true (imgLs p f))] := by
  refine AC.go Try.func44 Try.ntmps44 rfl rfl fun w0 hw => ?_; simp [WfL, WfA, E_length, Enc.enc, In64] at hw
  have hll : (imgLs p f).length = f.length := by simp [imgLs]
  repeat' first | refine s1 ?_ | fail
  refine AW.open 5 2 (.inl rfl) ?_
  refine F.loop (σ := Nat) [5, 7, 10, 11, 12, 13, 14, 15, 16, 17, 18, 19, 20, 21, 22, 23] (fun k => [(5, .sl 0 k 0 k), (10, .i k)]) (fun k => [(0, .live false 2 (E true ((imgLs p f).take k)))]) (fun k => k ≤ f.length) (fun k => f.length - k) 0 ⟨rfl, rfl, trivial⟩ ⟨rfl, trivial⟩ (Nat.zero_le _) ?_
  rintro k k1
  have hp : ((imgLs p f).take k).length = k := by rw [List.length_take]; omega
  by_cases hk : k < f.length
  · have hm := hf k hk
    have hCo := matCols_a hm
    have hSp := imgSpan_a hm
    have hts : (imgLs p f).take (k + 1) = (imgLs p f).take k ++ [imgS p (f.getD k default)] := map_take _ hk
    generalize imgS p (f.getD k default) = IS at hSp hts
    generalize hRL : (rowsL (f.getD k default).c.toNat (f.getD k default).r.toNat fun k_1 i => ent (f.getD k default) i k_1) = RL at hCo hSp
    repeat' first | refine s1 ?_ | fail
    refine AW.draw 8 G.mixed (by kernel_rfl) ?_
    refine dP 0 ?_
    refine dP 1 ?_
    refine dP 2 ?_
    refine dL 3 ?_
    refine dL 4 ?_
    refine dO 5 true ?_
    first | refine s1 ?_ | refine F.c (hCo) ?_ | refine F.c (hSp) ?_
    refine ARg.nil (ATh.normal ?_)
    refine dO 6 true ?_
    first | refine s1 ?_ | refine F.c (hCo) ?_ | refine F.c (hSp) ?_
    refine ARg.nil (ATh.normal ?_)
    refine dO 7 true ?_
    refine s1 ?_
    refine ARg.nil (ATh.normal ?_)
    refine dO 8 false ?_
    first | refine s1 ?_ | refine F.a1 Spc (a := IS) ?_
    refine ARg.nil (ATh.normal ?_)
    refine dP 9 ?_
    refine dN ?_
    repeat' first | refine s1 ?_ | fail
    exact ⟨k + 1, F.fit ⟨rfl, rfl, trivial⟩ ⟨obE (by rw [hts]), trivial⟩, by omega, by omega⟩
  · obtain rfl : k = f.length := by omega
    have e : (imgLs p f).take f.length = imgLs p f := List.take_of_length_le (by omega)
    rw [e]
    clear hp e
    generalize imgLs p f = L at hll ⊢
    rw [← hll]
    repeat' first | refine s1 ?_ | fail
    (refine kZ ?_; exact F.ret rfl)
def kerP (a b : Rep) (f : List Mat) : List Spc × Bool := if isMor a b f = true then (kerLs a.p f, true) else ([], false)
def imgP (a b : Rep) (f : List Mat) : List Spc × Bool := if isMor a b f = true then (imgLs a.p f, true) else ([], false)
/-- the matrices of a morphism -/
theorem mor_ok {a b : Rep} {f : List Mat} (h : isMor a b f = true) : f.length = a.d.length ∧ f.length ≤ 5 ∧ a.p = b.p ∧ b.d.length = a.d.length ∧ ∀ v, v < f.length → isMat a.p (f.getD v default) = true ∧ (f.getD v default).c = a.d.getD v default ∧ (f.getD v default).r = b.d.getD v default := by
  obtain ⟨a1, a2, a3⟩ := areM_spec (isMor_are h)
  have hh := Fits.of a1
  have h5 := okQ_spec hh.ok
  have hda := hh.da
  have hdb := hh.db
  refine ⟨by omega, by omega, hh.p, by omega, fun v hv => ?_⟩
  have f1 := a3 v hv
  simp only [fitV, Bool.and_eq_true, decide_eq_true_eq] at f1
  exact ⟨f1.1.1, f1.1.2, f1.2⟩
theorem implKernelSub_a (a b : Rep) (f : List Mat) : AC Try.prog 28 [.agg (enc false a), .agg (enc false b), ar false f] [.dt true 2 (E true (kerP a b f).1), .b (kerP a b f).2] := by
  refine AC.go Try.func28 Try.ntmps28 rfl rfl fun w0 hw => ?_; simp [WfL, WfA, E_length, Enc.enc, In64] at hw
  have hF := implIsMorphism_a a b f
  unfold kerP
  cases hf : isMor a b f with
  | false =>
    rw [hf] at hF
    rw [if_neg (by simp)]
    repeat' first | refine s1 ?_ | (refine kR ?_; first | refine F.c (hF) ?_) | fail
    (refine kZ ?_; exact F.ret rfl)
  | true =>
    rw [hf] at hF
    rw [if_pos rfl]
    obtain ⟨m1, m2, m3, m4, m5⟩ := mor_ok hf
    have hK := kernelSub_a a.p f (fun v hv => (m5 v hv).1) (by omega)
    generalize kerLs a.p f = L at hK ⊢
    repeat' first | refine s1 ?_ | (refine kR ?_; first | refine F.c (hF) ?_ | refine F.c (hK) ?_) | fail
    (refine kZ ?_; exact F.ret rfl)
theorem implImageSub_a (a b : Rep) (f : List Mat) : AC Try.prog 19 [.agg (enc false a), .agg (enc false b), ar false f] [.dt true 2 (E true (imgP a b f).1), .b (imgP a b f).2] := by
  refine AC.go Try.func19 Try.ntmps19 rfl rfl fun w0 hw => ?_; simp [WfL, WfA, E_length, Enc.enc, In64] at hw
  have hF := implIsMorphism_a a b f
  unfold imgP
  cases hf : isMor a b f with
  | false =>
    rw [hf] at hF
    rw [if_neg (by simp)]
    repeat' first | refine s1 ?_ | (refine kR ?_; first | refine F.c (hF) ?_) | fail
    (refine kZ ?_; exact F.ret rfl)
  | true =>
    rw [hf] at hF
    rw [if_pos rfl]
    obtain ⟨m1, m2, m3, m4, m5⟩ := mor_ok hf
    have hK := imageSub_a a.p f (fun v hv => (m5 v hv).1) (by omega)
    generalize imgLs a.p f = L at hK ⊢
    repeat' first | refine s1 ?_ | (refine kR ?_; first | refine F.c (hF) ?_ | refine F.c (hK) ?_) | fail
    (refine kZ ?_; exact F.ret rfl)
theorem specKernelSub_a (a b : Rep) (f : List Mat) : AC Try.prog 27 [.agg (enc false a), .agg (enc false b), ar false f] [.dt true 2 (E true (kerP a b f).1), .b (kerP a b f).2] := by
  refine AC.go Try.func27 Try.ntmps27 rfl rfl fun w0 hw => ?_; simp [WfL, WfA, E_length, Enc.enc, In64] at hw
  have hF := specIsMorphism_a a b f
  unfold kerP
  cases hf : isMor a b f with
  | false =>
    rw [hf] at hF
    rw [if_neg (by simp)]
    repeat' first | refine s1 ?_ | (refine kR ?_; first | refine F.c (hF) ?_) | fail
    (refine kZ ?_; exact F.ret rfl)
  | true =>
    rw [hf] at hF
    rw [if_pos rfl]
    obtain ⟨m1, m2, m3, m4, m5⟩ := mor_ok hf
    have hll : (kerLs a.p f).length = f.length := by simp [kerLs]
    repeat' first | refine s1 ?_ | (refine kR ?_; first | refine F.c (hF) ?_) | fail
    refine AW.open 8 2 (.inr rfl) ?_
    refine F.loop (σ := Nat) [8, 9, 17, 18, 19, 20, 21, 22, 23, 24, 25, 26, 27, 28, 29, 30, 31, 32, 33, 34, 35, 36, 37, 38, 39, 40] (fun k => [(8, .sl 2 k 0 k), (9, .i k)]) (fun k => [(2, .live false 2 (E true ((kerLs a.p f).take k)))]) (fun k => k ≤ f.length) (fun k => f.length - k) 0 ⟨rfl, rfl, trivial⟩ ⟨rfl, trivial⟩ (Nat.zero_le _) ?_
    rintro k k1
    have hp : ((kerLs a.p f).take k).length = k := by rw [List.length_take]; omega
    by_cases hk : k < f.length
    · obtain ⟨n1, n2, n3⟩ := m5 k hk
      have hKe := matL4Ker_a n1
      have hSp := kerL5_a n1
      rw [n2] at hSp
      have hts : (kerLs a.p f).take (k + 1) = (kerLs a.p f).take k ++ [kerS a.p (f.getD k default)] := map_take _ hk
      generalize kerS a.p (f.getD k default) = KS at hSp hts
      rw [← n2] at hSp
      generalize kerL _ _ _ _ = KL at hKe hSp
      rw [n2] at hSp
      repeat' first | refine s1 ?_ | fail
      refine AW.draw 17 G.mixed (by kernel_rfl) ?_
      refine dP 0 ?_
      refine dP 1 ?_
      refine dL 2 ?_
      refine dP 3 ?_
      refine dL 4 ?_
      refine dP 5 ?_
      refine dP 6 ?_
      refine dL 7 ?_
      refine dP 8 ?_
      refine dL 9 ?_
      refine dP 10 ?_
      refine dP 11 ?_
      refine dP 12 ?_
      refine dL 13 ?_
      refine dO 14 true ?_
      first | refine s1 ?_ | refine F.c (hKe) ?_ | refine F.c (hSp) ?_
      refine ARg.nil (ATh.normal ?_)
      refine dO 15 true ?_
      first | refine s1 ?_ | refine F.c (hKe) ?_ | refine F.c (hSp) ?_
      refine ARg.nil (ATh.normal ?_)
      refine dO 16 true ?_
      refine s1 ?_
      refine ARg.nil (ATh.normal ?_)
      refine dO 17 false ?_
      first | refine s1 ?_ | refine F.a1 Spc (a := KS) ?_
      refine ARg.nil (ATh.normal ?_)
      refine dP 18 ?_
      refine dN ?_
      repeat' first | refine s1 ?_ | fail
      exact ⟨k + 1, F.fit ⟨rfl, rfl, trivial⟩ ⟨obE (by rw [hts]), trivial⟩, by omega, by omega⟩
    · obtain rfl : k = f.length := by omega
      have e : (kerLs a.p f).take f.length = kerLs a.p f := List.take_of_length_le (by omega)
      rw [e]
      clear hp e
      generalize kerLs a.p f = L at hll ⊢
      rw [← hll]
      repeat' first | refine s1 ?_ | fail
      (refine kZ ?_; exact F.ret rfl)
theorem specImageSub_a (a b : Rep) (f : List Mat) : AC Try.prog 17 [.agg (enc false a), .agg (enc false b), ar false f] [.dt true 2 (E true (imgP a b f).1), .b (imgP a b f).2] := by
  refine AC.go Try.func17 Try.ntmps17 rfl rfl fun w0 hw => ?_; simp [WfL, WfA, E_length, Enc.enc, In64] at hw
  have hF := specIsMorphism_a a b f
  unfold imgP
  cases hf : isMor a b f with
  | false =>
    rw [hf] at hF
    rw [if_neg (by simp)]
    repeat' first | refine s1 ?_ | (refine kR ?_; first | refine F.c (hF) ?_) | fail
    (refine kZ ?_; exact F.ret rfl)
  | true =>
    rw [hf] at hF
    rw [if_pos rfl]
    obtain ⟨m1, m2, m3, m4, m5⟩ := mor_ok hf
    have hll : (imgLs a.p f).length = f.length := by simp [imgLs]
    repeat' first | refine s1 ?_ | (refine kR ?_; first | refine F.c (hF) ?_) | fail
    refine AW.open 8 2 (.inr rfl) ?_
    refine F.loop (σ := Nat) [8, 9, 17, 18, 19, 20, 21, 22, 23, 24, 25, 26, 27, 28, 29, 30, 31, 32, 33, 34, 35, 36, 37, 38, 39, 40] (fun k => [(8, .sl 2 k 0 k), (9, .i k)]) (fun k => [(2, .live false 2 (E true ((imgLs a.p f).take k)))]) (fun k => k ≤ f.length) (fun k => f.length - k) 0 ⟨rfl, rfl, trivial⟩ ⟨rfl, trivial⟩ (Nat.zero_le _) ?_
    rintro k k1
    have hp : ((imgLs a.p f).take k).length = k := by rw [List.length_take]; omega
    by_cases hk : k < f.length
    · obtain ⟨n1, n2, n3⟩ := m5 k hk
      have hIm := matImg_a n1
      have hSp := imgL5_a n1
      generalize hRL : pivC _ _ _ = RL at hIm hSp
      rw [n3] at hSp
      have hts : (imgLs a.p f).take (k + 1) = (imgLs a.p f).take k ++ [imgS a.p (f.getD k default)] := map_take _ hk
      generalize imgS a.p (f.getD k default) = IS at hSp hts
      repeat' first | refine s1 ?_ | fail
      refine AW.draw 17 G.mixed (by kernel_rfl) ?_
      refine dP 0 ?_
      refine dP 1 ?_
      refine dL 2 ?_
      refine dP 3 ?_
      refine dL 4 ?_
      refine dP 5 ?_
      refine dP 6 ?_
      refine dL 7 ?_
      refine dP 8 ?_
      refine dL 9 ?_
      refine dP 10 ?_
      refine dP 11 ?_
      refine dP 12 ?_
      refine dL 13 ?_
      refine dO 14 true ?_
      first | refine s1 ?_ | refine F.c (hIm) ?_ | refine F.c (hSp) ?_
      refine ARg.nil (ATh.normal ?_)
      refine dO 15 true ?_
      first | refine s1 ?_ | refine F.c (hIm) ?_ | refine F.c (hSp) ?_
      refine ARg.nil (ATh.normal ?_)
      refine dO 16 true ?_
      refine s1 ?_
      refine ARg.nil (ATh.normal ?_)
      refine dO 17 false ?_
      first | refine s1 ?_ | refine F.a1 Spc (a := IS) ?_
      refine ARg.nil (ATh.normal ?_)
      refine dP 18 ?_
      refine dN ?_
      repeat' first | refine s1 ?_ | fail
      exact ⟨k + 1, F.fit ⟨rfl, rfl, trivial⟩ ⟨obE (by rw [hts]), trivial⟩, by omega, by omega⟩
    · obtain rfl : k = f.length := by omega
      have e : (imgLs a.p f).take f.length = imgLs a.p f := List.take_of_length_le (by omega)
      rw [e]
      clear hp e
      generalize imgLs a.p f = L at hll ⊢
      rw [← hll]
      repeat' first | refine s1 ?_ | fail
      (refine kZ ?_; exact F.ret rfl)
theorem kerLs_ok {a b : Rep} {f : List Mat} (h : isMor a b f = true) {v : Nat} (hv : v < f.length) : (kerLs a.p f).getD v default = kerS a.p (f.getD v default) ∧ isSpc a.p (kerS a.p (f.getD v default)) = true := by
  obtain ⟨m1, m2, m3, m4, m5⟩ := mor_ok h
  exact ⟨by simp [kerLs, hv], kerS_ok (m5 v hv).1⟩
theorem imgLs_ok {a b : Rep} {f : List Mat} (h : isMor a b f = true) {v : Nat} (hv : v < f.length) : (imgLs a.p f).getD v default = imgS a.p (f.getD v default) ∧ isSpc a.p (imgS a.p (f.getD v default)) = true := by
  obtain ⟨m1, m2, m3, m4, m5⟩ := mor_ok h
  exact ⟨by simp [imgLs, hv], imgS_ok (m5 v hv).1⟩
theorem kerP_ct (a b : Rep) (f : List Mat) : cnt ctS (kerP a b f).1 + cnt lnS (kerP a b f).1 ≤ 1000 := by
  unfold kerP
  by_cases h : isMor a b f = true
  · rw [if_pos h]
    obtain ⟨m1, m2, m3, m4, m5⟩ := mor_ok h
    have hll : (kerLs a.p f).length = f.length := by simp [kerLs]
    have := spcs_ct (p := a.p) (l := kerLs a.p f) (n := 5) (by omega) fun v hv => by
      obtain ⟨e1, e2⟩ := kerLs_ok h (v := v) (by omega)
      rw [e1]; exact e2
    show cnt ctS (kerLs a.p f) + cnt lnS (kerLs a.p f) ≤ 1000
    omega
  · rw [if_neg h]; simp [cnt]
theorem imgP_ct (a b : Rep) (f : List Mat) : cnt ctS (imgP a b f).1 + cnt lnS (imgP a b f).1 ≤ 1000 := by
  unfold imgP
  by_cases h : isMor a b f = true
  · rw [if_pos h]
    obtain ⟨m1, m2, m3, m4, m5⟩ := mor_ok h
    have hll : (imgLs a.p f).length = f.length := by simp [imgLs]
    have := spcs_ct (p := a.p) (l := imgLs a.p f) (n := 5) (by omega) fun v hv => by
      obtain ⟨e1, e2⟩ := imgLs_ok h (v := v) (by omega)
      rw [e1]; exact e2
    show cnt ctS (imgLs a.p f) + cnt lnS (imgLs a.p f) ≤ 1000
    omega
  · rw [if_neg h]; simp [cnt]
end Go.Proofs.Ytedjajokbdokhaa.V
