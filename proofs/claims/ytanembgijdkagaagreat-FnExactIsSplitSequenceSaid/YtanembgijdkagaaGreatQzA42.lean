/- Contracts: the reference's morphisms, dimensions of morphisms. -/
import Derived.Test.YtanembgijdkagaaGreatQzUq
import Derived.Test.YtanembgijdkagaaGreatQzB9
namespace Go.Proofs.YtanembgijdkagaaGreat.V
open V.Enc (enc)
open Go.RowKit G D
set_option linter.unusedVariables false
set_option linter.unusedSimpArgs false
set_option maxHeartbeats 4000000
set_option maxRecDepth 4000
attribute [local irreducible] AW ARg ARA ARet MRet ASil AC AM
theorem cutV_take (a b : Rep) (x : List Int) {k : Nat} (h : k < a.d.length) : (cutV a b x).take (k + 1) = (cutV a b x).take k ++ [⟨b.d.getD k default, a.d.getD k default, (x.take (szT a b (k + 1))).drop (szT a b k)⟩] := by
  simp only [cutV, ← List.map_take, range_take h, List.map_append, List.map_cons, List.map_nil]
theorem l11Cells_a (a b : Rep) (x : List Int) (h : Fits a b) (hx : szT a b a.d.length ≤ x.length) (hb : x.length ≤ 1048576) : AC Tryz.prog 105 [.agg (enc false a), .agg (enc false b), ar false x] [.dt true 3 (E true (cutV a b x))] := by
  refine AC.go Tryz.func105 Tryz.ntmps105 rfl rfl fun w0 hw => ?_; simp [WfL, WfA, E_length, Enc.enc, In64] at hw
  have h5 := okQ_spec h.ok
  have hda := h.da
  have hdb := h.db
  repeat' first | refine s1 ?_ | refine q1 ?_ | fail
  refine AW.open 7 3 (.inr rfl) ?_
  refine F.loop (σ := Nat) [7, 8, 9, 10, 12, 13, 14, 15, 16, 17, 18, 19, 20, 21, 22, 23, 24, 25, 26, 27, 28, 29, 30, 31, 32, 33, 34, 35, 36, 37, 38, 39, 40, 41, 42, 43, 44, 45, 46, 47, 48, 49, 50, 51, 52, 53, 54] (fun k => [(7, .sl 2 k 0 k), (8, .i (szT a b k)), (9, .i k)]) (fun k => [(2, .live false 3 (E true ((cutV a b x).take k)))]) (fun k => k ≤ a.d.length) (fun k => a.d.length - k) 0 ⟨rfl, rfl, rfl, trivial⟩ ⟨rfl, trivial⟩ (Nat.zero_le _) ?_
  rintro k h1
  have hcl := cutV_len a b x
  have hp : ((cutV a b x).take k).length = k := by rw [List.length_take]; omega
  by_cases hlt : k < a.d.length
  · have da := h.ba k hlt
    have db := h.bb k (by omega)
    obtain ⟨m1, m2⟩ := mul44 da db
    have hst : szT a b (k + 1) = szT a b k + (a.d.getD k default).toNat * (b.d.getD k default).toNat := rfl
    have hs := szT_mono a b (m := k + 1) (n := a.d.length) (by omega)
    have hs' := szT_le h (k + 1) (by omega)
    have b3 : In64 (a.d.getD k default * b.d.getD k default) := by unfold In64; omega
    have hE : (szT a b k : Int) + a.d.getD k default * b.d.getD k default = ((szT a b (k + 1) : Nat) : Int) := by rw [m1, hst]; push_cast; rfl
    have b4 : In64 ((szT a b k : Int) + a.d.getD k default * b.d.getD k default) := by unfold In64; omega
    have hts := cutV_take a b x hlt
    have hxl : ((x.take (szT a b (k + 1))).drop (szT a b k)).length ≤ 1048576 := by simp; omega
    repeat' first | refine s1 ?_ | refine q1 ?_ | fail
    refine AW.draw 12 G.mixed (by kernel_rfl) ?_
    refine dP 0 ?_
    first | refine dL 1 ?_ | refine dLQ 1 ?_
    refine dP 2 ?_
    first | refine dP 3 ?_ | refine dQ 3 ?_
    first | refine dL 4 ?_ | refine dLQ 4 ?_
    refine dP 5 ?_
    first | refine dL 6 ?_ | refine dLQ 6 ?_
    refine dP 7 ?_
    first | refine dP 8 ?_ | refine dQ 8 ?_
    first | refine dL 9 ?_ | refine dLQ 9 ?_
    refine dP 10 ?_
    refine dP 11 ?_
    refine dN ?_
    repeat' first | refine s1 ?_ | refine q1 ?_ | fail
    refine AW.draw 21 G.mixed (by kernel_rfl) ?_
    refine dP 0 ?_
    refine dP 1 ?_
    first | refine dL 2 ?_ | refine dLQ 2 ?_
    refine dP 3 ?_
    first | refine dP 4 ?_ | refine dQ 4 ?_
    first | refine dL 5 ?_ | refine dLQ 5 ?_
    refine dP 6 ?_
    first | refine dL 7 ?_ | refine dLQ 7 ?_
    refine dP 8 ?_
    first | refine dP 9 ?_ | refine dQ 9 ?_
    first | refine dL 10 ?_ | refine dLQ 10 ?_
    refine dP 12 ?_
    refine dP 13 ?_
    refine dP 14 ?_
    refine dP 15 ?_
    refine dP 16 ?_
    first | refine dP 17 ?_ | refine dP 17 ?_ (hs := by exact (A.slcD (α := Int) (lo := szT a b k) (hi' := szT a b (k + 1)) rfl rfl (congrArg AV.i hE) (by omega) (by omega)))
    refine dO 11 true ?_
    refine s1 ?_
    refine ARg.nil (ATh.normal ?_)
    refine dO 18 true ?_
    first | refine s1 ?_ | refine F.aLN Int (oo := true) ?_
    refine ARg.nil (ATh.normal ?_)
    refine dP 19 ?_
    refine dO 20 true ?_
    refine s1 ?_
    refine ARg.nil (ATh.normal ?_)
    refine dO 21 false ?_
    first | refine s1 ?_ | refine F.a1 Mat (a := ⟨b.d.getD k default, a.d.getD k default, (x.take (szT a b (k + 1))).drop (szT a b k)⟩) ?_
    refine ARg.nil (ATh.normal ?_)
    refine dP 22 ?_
    refine dN ?_
    repeat' first | refine s1 ?_ | refine q1 ?_ | fail
    exact ⟨k + 1, F.fit ⟨rfl, iE hE, rfl, trivial⟩ ⟨obE (by rw [hts]), trivial⟩, by omega, by omega⟩
  · obtain rfl : k = a.d.length := by omega
    rw [← hcl, List.take_length]
    repeat' first | refine s1 ?_ | refine q1 ?_ | fail
    (refine kZ ?_; exact F.ret rfl)
theorem eq_ker_a (a b : Rep) (hf : fitR a b = true) : AC Tryz.prog 103 [.i a.p, .agg (enc false (eqM a b))] [.dt true 1 (E true (kerL a.p (szA a b a.q.fr.length) (szT a b a.d.length) (ent (eqM a b))))] := by
  have h := Fits.of hf
  have h5 := okQ_spec h.ok
  have hda := h.da
  have hp := isF_pos h.f
  have hn := szT_le h a.d.length (Nat.le_refl _)
  have hN := szA_le h a.q.fr.length (Nat.le_refl _)
  have := l4Kernel_a a.p (szA a b a.q.fr.length) (szT a b a.d.length) (ent (eqM a b)) h.f (by omega) (by omega) (eqM_bd (by omega))
  rw [eqM_tm (by omega)] at this
  exact this
/-- cells of the basis of the morphisms -/
def hkL (a b : Rep) : List (List Int) := kerL a.p (szA a b a.q.fr.length) (szT a b a.d.length) (ent (eqM a b))
theorem hkL_len (a b : Rep) (hf : fitR a b = true) : (hkL a b).length + rkE a b = szT a b a.d.length := by
  have h := Fits.of hf
  have hp := isF_pos h.f
  exact kerL_len h.f (eqM_bd (by omega))
theorem hkL_get (a b : Rep) {k : Nat} (hk : k < (hkL a b).length) : ((hkL a b).getD k default).length = szT a b a.d.length := by
  have hm : (hkL a b).getD k default ∈ hkL a b := by simp [hk]
  unfold hkL kerL at hm
  rw [List.mem_map] at hm
  obtain ⟨j, _, e⟩ := hm
  unfold hkL kerL
  rw [← e]
  exact kerV_len ..
def homL (a b : Rep) : List (List Mat) := (hkL a b).map (cutV a b)
theorem homL_len (a b : Rep) : (homL a b).length = (hkL a b).length := by simp [homL]
theorem homL_take (a b : Rep) {k : Nat} (h : k < (hkL a b).length) : (homL a b).take (k + 1) = (homL a b).take k ++ [cutV a b ((hkL a b).getD k default)] := by
  rw [homL, List.take_succ_eq_append_getElem (by simpa using h)]
  simp [h]
def homP (a b : Rep) : List (List Mat) × Bool := if fitR a b = true then (homL a b, true) else ([], false)
theorem specHomBasis_a (a b : Rep) : AC Tryz.prog 41 [.agg (enc false a), .agg (enc false b)] [.dt true 1 (E true (homP a b).1), .b (homP a b).2] := by
  refine AC.go Tryz.func41 Tryz.ntmps41 rfl rfl fun w0 hw => ?_; simp [WfL, WfA, E_length, Enc.enc, In64] at hw
  have hF := l9Fit_a a b
  unfold homP
  cases hf : fitR a b with
  | false =>
    rw [hf] at hF
    rw [if_neg (by simp)]
    repeat' first | refine s1 ?_ | refine q1 ?_ | (refine kR ?_; first | refine F.c (hF) ?_) | fail
    (refine kZ ?_; exact F.ret rfl)
  | true =>
    rw [hf] at hF
    rw [if_pos rfl]
    have h := Fits.of hf
    have hE := l11Equations_a a b hf
    have hK := eq_ker_a a b hf
    rw [show (⟨(szA a b a.q.fr.length : Nat), (szT a b a.d.length : Nat), eqA a b a.q.fr.length⟩ : Mat) = eqM a b from rfl] at hE
    rw [show kerL a.p (szA a b a.q.fr.length) (szT a b a.d.length) (ent (eqM a b)) = hkL a b from rfl] at hK
    have hle := rkE_le a b hf
    have hlen := hkL_len a b hf
    have hll := homL_len a b
    have hC := fun k (hk : k < (hkL a b).length) => l11Cells_a a b ((hkL a b).getD k default) h (by rw [hkL_get a b hk]; omega) (by rw [hkL_get a b hk]; omega)
    have hts := fun k (hk : k < (hkL a b).length) => homL_take a b hk
    generalize homL a b = HL at hll hts ⊢
    generalize hkL a b = KL at hK hlen hll hC hts ⊢
    generalize eqM a b = EM at hE hK
    repeat' first | refine s1 ?_ | refine q1 ?_ | (refine kR ?_; first | refine F.c (hF) ?_) | fail
    refine AW.draw 7 G.mixed (by kernel_rfl) ?_
    refine dP 0 ?_
    first | refine dL 1 ?_ | refine dLQ 1 ?_
    first | refine dL 2 ?_ | refine dLQ 2 ?_
    first | refine dL 3 ?_ | refine dLQ 3 ?_
    refine dO 4 true ?_
    first | refine s1 ?_ | refine F.c (hE) ?_ | refine F.c (hK) ?_
    refine ARg.nil (ATh.normal ?_)
    refine dO 5 true ?_
    first | refine s1 ?_ | refine F.c (hE) ?_ | refine F.c (hK) ?_
    refine ARg.nil (ATh.normal ?_)
    refine dP 6 ?_
    refine dN ?_
    repeat' first | refine s1 ?_ | refine q1 ?_ | fail
    refine AW.lend (o := 3) rfl ?_
    refine AW.open 6 1 (.inr rfl) ?_
    refine F.loop (σ := Nat) [6, 8, 21, 22, 23, 24, 25, 26, 27, 28, 29, 30, 31, 32, 33, 34, 35, 36] (fun k => [(6, .sl 4 k 0 k), (8, .i k)]) (fun k => [(4, .live false 1 (E true (HL.take k)))]) (fun k => k ≤ KL.length) (fun k => KL.length - k) 0 ⟨rfl, rfl, trivial⟩ ⟨rfl, trivial⟩ (Nat.zero_le _) ?_
    rintro k k1
    by_cases hk : k < KL.length
    · have hCk := hC k hk
      have ht := hts k hk
      have hp : (HL.take k).length = k := by rw [List.length_take]; omega
      generalize cutV a b (KL.getD k default) = V' at hCk ht
      rw [← Nat.zero_add k] at hCk
      repeat' first | refine s1 ?_ | refine q1 ?_ | fail
      refine AW.draw 9 G.mixed (by kernel_rfl) ?_
      refine dP 0 ?_
      first | refine dL 1 ?_ | refine dLQ 1 ?_
      first | refine dL 2 ?_ | refine dLQ 2 ?_
      refine dP 3 ?_
      refine dP 4 ?_
      first | refine dP 5 ?_ | refine dQ 5 ?_
      first | refine dL 6 ?_ | refine dLQ 6 ?_
      refine dO 7 true ?_
      first | refine s1 ?_ | refine F.c (hCk) ?_
      refine ARg.nil (ATh.normal ?_)
      refine dO 8 true ?_
      refine s1 ?_
      refine ARg.nil (ATh.normal ?_)
      refine dO 9 false ?_
      first | refine s1 ?_ | refine F.a1 (List Mat) (a := V') ?_
      refine ARg.nil (ATh.normal ?_)
      refine dP 10 ?_
      refine dN ?_
      repeat' first | refine s1 ?_ | refine q1 ?_ | fail
      exact ⟨k + 1, F.fit ⟨rfl, rfl, trivial⟩ ⟨obE (by rw [ht]), trivial⟩, by omega, by omega⟩
    · obtain rfl : k = KL.length := by omega
      rw [← hll, List.take_length]
      repeat' first | refine s1 ?_ | refine q1 ?_ | fail
      (refine kZ ?_; exact F.ret rfl)
/-- the dimension of the morphisms -/
def homD (a b : Rep) : Int := if fitR a b = true then (szT a b a.d.length : Int) - (rkE a b : Int) else -1
theorem specHomDim_a (a b : Rep) : AC Tryz.prog 54 [.agg (enc false a), .agg (enc false b)] [.i (homD a b)] := by
  refine AC.go Tryz.func54 Tryz.ntmps54 rfl rfl fun w0 hw => ?_; simp [WfL, WfA, E_length, Enc.enc, In64] at hw
  have hB := specHomBasis_a a b
  unfold homD
  cases hf : fitR a b with
  | false =>
    rw [show homP a b = ([], false) by unfold homP; rw [if_neg (by simp [hf])]] at hB
    rw [if_neg (by simp)]
    repeat' first | refine s1 ?_ | refine q1 ?_ | (refine kR ?_; first | refine F.c (hB) ?_) | fail
    (refine kZ ?_; exact F.ret rfl)
  | true =>
    rw [show homP a b = (homL a b, true) by unfold homP; rw [if_pos hf]] at hB
    have hlen := hkL_len a b hf
    rw [← homL_len] at hlen
    rw [if_pos rfl]
    generalize homL a b = HL at hB hlen
    have hr : (szT a b a.d.length : Int) - (rkE a b : Int) = (HL.length : Nat) := by omega
    rw [hr]
    repeat' first | refine s1 ?_ | refine q1 ?_ | (refine kR ?_; first | refine F.c (hB) ?_) | fail
    (refine kZ ?_; exact F.ret rfl)
theorem homDim_a (a b : Rep) (hf : fitR a b = true) : AC Tryz.prog 108 [.agg (enc false a), .agg (enc false b)] [.i ((szT a b a.d.length : Int) - (rkE a b : Int))] := by
  refine AC.go Tryz.func108 Tryz.ntmps108 rfl rfl fun w0 hw => ?_; simp [WfL, WfA, E_length, Enc.enc, In64] at hw
  have hB := boundaries_a a b hf
  have hR := eq_rank_a a b hf
  have hle := rkE_le a b hf
  have hEr : (eqM a b).c = (szT a b a.d.length : Nat) := rfl
  rw [← hEr]
  generalize rkE a b = K at hR hle ⊢
  generalize eqM a b = EM at hB hR hEr ⊢
  repeat' first | refine s1 ?_ | refine q1 ?_ | (refine kR ?_; first | refine F.c (hB) ?_) | fail
  refine AW.draw 8 G.mixed (by kernel_rfl) ?_
  refine dP 0 ?_
  first | refine dL 1 ?_ | refine dLQ 1 ?_
  refine dP 2 ?_
  first | refine dL 3 ?_ | refine dLQ 3 ?_
  first | refine dL 4 ?_ | refine dLQ 4 ?_
  refine dO 5 true ?_
  first | refine s1 ?_ | refine F.c (hR) ?_
  refine ARg.nil (ATh.normal ?_)
  refine dP 6 ?_
  refine dP 7 ?_
  refine dN ?_
  repeat' first | refine s1 ?_ | refine q1 ?_ | fail
  (refine kZ ?_; exact F.ret rfl)
end Go.Proofs.YtanembgijdkagaaGreat.V
