/- Contracts: pairs of parts that complement each other. -/
import Derived.Test.YtedjajokbdokhaaGreatUi
import Derived.Test.YtedjajokbdokhaaGreatA77
import Derived.Test.YtedjajokbdokhaaGreatA79
import Derived.Test.YtedjajokbdokhaaGreatA80
namespace Go.Proofs.YtedjajokbdokhaaGreat.V
open V.Enc (enc)
open Go.RowKit G D
set_option linter.unusedVariables false
set_option linter.unusedSimpArgs false
set_option maxHeartbeats 4000000
set_option maxRecDepth 4000
attribute [local irreducible] AW ARg ARA ARet MRet ASil AC AM ARI

theorem specSubDims_a (r : Rep) (s : List Spc) (h : isSub r s = true) : AC Tryz.prog 88 [.agg (enc false r), ar false s] [.dt true 1 (E true (dimS s))] := by
  refine AC.go Tryz.func88 Tryz.ntmps88 rfl rfl fun w0 hw => ?_; simp [WfL, WfA, E_length, Enc.enc, In64] at hw
  have hF := specIsSub_a r s
  rw [h] at hF
  obtain ⟨h1, h2, h3, h4⟩ := isSub_spec h
  obtain ⟨r1, r2, r3, r4⟩ := isRep_spec h1
  obtain ⟨c1, c2, c3, _⟩ := areDims_spec r2
  have h5 := okQ_spec c1
  have hll := dimS_len s
  have hts := fun k hk => dimS_take (l := s) (k := k) hk
  have hTs : ∀ k, dimS (s.take k) = (dimS s).take k := fun k => by simp [dimS]
  simp only [hTs] at hts
  have hbb : ∀ v, v < s.length → (s.getD v default).b.length ≤ 16 := fun v hv => (isSpc_spec (h3 v hv).1).2.2.1
  generalize dimS s = T at hll hts ⊢
  repeat' first | refine s1 ?_ | fail
  refine AW.open 5 1 (.inr rfl) ?_
  refine F.loop (σ := Nat) [5, 6, 8, 9, 10, 11, 12, 13, 14, 15, 16, 17, 18, 19, 20, 21, 22, 23, 24, 25, 26, 27] (fun k => [(5, .sl 1 k 0 k), (6, .i k)]) (fun k => [(1, .live false 1 (E true (T.take k)))]) (fun k => k ≤ s.length) (fun k => s.length - k) 0 ⟨rfl, rfl, trivial⟩ ⟨rfl, trivial⟩ (Nat.zero_le _) ?_
  rintro k k1
  have hp : (T.take k).length = k := by rw [List.length_take]; omega
  by_cases hk : k < s.length
  · have ht := hts k hk
    have hb := hbb k hk
    repeat' first | refine s1 ?_ | (refine kR ?_; first | refine F.c (hF) ?_ | refine F.a1 Int ?_) | fail
    exact ⟨k + 1, F.fit ⟨rfl, rfl, trivial⟩ ⟨obE (by rw [ht]), trivial⟩, by omega, by omega⟩
  · obtain rfl : k = s.length := by omega
    have e : T.take s.length = T := List.take_of_length_le (by omega)
    rw [e]
    rw [← hll]
    clear hp e
    repeat' first | refine s1 ?_ | (refine kR ?_; first | refine F.c (hF) ?_) | fail
    (refine kZ ?_; exact F.ret rfl)
def cmpV (r : Rep) (s t : List Spc) (v : Nat) : Bool := decide (((addS r.p (s.getD v default) (t.getD v default)).b.length : Int) = r.d.getD v default) && decide ((((s.getD v default).b.length : Int) + ((t.getD v default).b.length : Int)) = r.d.getD v default)
def cmpB (r : Rep) (s t : List Spc) : Bool := isSub r s && (isSub r t && (List.range r.d.length).all (cmpV r s t))
theorem implIsComplementPair_a (r : Rep) (s t : List Spc) : AC Tryz.prog 37 [.agg (enc false r), ar false s, ar false t] [.b (cmpB r s t)] := by
  refine AC.go Tryz.func37 Tryz.ntmps37 rfl rfl fun w0 hw => ?_; simp [WfL, WfA, E_length, Enc.enc, In64] at hw
  have hS := implIsSub_a r s
  have hT := implIsSub_a r t
  unfold cmpB
  cases hs : isSub r s with
  | false =>
    rw [hs] at hS
    repeat' first | refine s1 ?_ | (refine kR ?_; first | refine F.c (hS) ?_) | fail
    refine F.ret ?_
    rfl
  | true =>
    rw [hs] at hS
    cases ht : isSub r t with
    | false =>
      rw [ht] at hT
      by_cases hst : s = t
      · subst hst; rw [hs] at ht; cases ht
      · repeat' first | refine s1 ?_ | (refine kR ?_; first | refine F.c (hS) ?_ | refine F.c (hT) ?_) | fail
        refine F.ret ?_
        rfl
    | true =>
      rw [ht] at hT
      rw [Bool.true_and, Bool.true_and]
      obtain ⟨l1, l2, l3⟩ := sub_pair hs ht
      have hsd := (isSub_spec hs).2.1
      repeat' first | refine s1 ?_ | (refine kR ?_; first | refine F.c (hS) ?_ | refine F.c (hT) ?_) | fail
      refine F.loop (σ := Nat) [6, 7, 8, 22, 23, 24, 25, 26, 27, 28, 29, 30, 31, 32, 33, 34, 35, 36, 37, 38, 39, 40, 41, 42, 43, 44, 45, 46, 47, 48, 49, 50, 51, 52, 53, 54, 55, 56, 57, 58, 59] (fun k => [(22, .i k)]) (fun _ => []) (fun k => k ≤ r.d.length ∧ ∀ j, j < k → cmpV r s t j = true) (fun k => r.d.length - k) 0 ⟨rfl, trivial⟩ trivial ⟨Nat.zero_le _, fun j hj => by omega⟩ ?_
      rintro k ⟨k1, k2⟩
      by_cases hk : k < r.d.length
      · have hks : k < s.length := by omega
        have hkt : k < t.length := by omega
        obtain ⟨n1, n2, n3⟩ := l3 k hks
        have hA := sumSpace_a r.p _ _ n1 n2 n3
        have b1 := (isSpc_spec n1).2.2.1
        have b2 := (isSpc_spec n2).2.2.1
        have hcv : cmpV r s t k = (decide (((addS r.p (s.getD k default) (t.getD k default)).b.length : Int) = r.d.getD k default) && decide ((((s.getD k default).b.length : Int) + ((t.getD k default).b.length : Int)) = r.d.getD k default)) := rfl
        generalize addS r.p (s.getD k default) (t.getD k default) = X at hA hcv
        by_cases e1 : (X.b.length : Int) = r.d.getD k default
        · by_cases e2 : ((s.getD k default).b.length : Int) + ((t.getD k default).b.length : Int) = r.d.getD k default
          · repeat' first | refine s1 ?_ | fail
            refine AW.draw 32 G.mixed (by kernel_rfl) ?_
            refine dP 0 ?_
            refine dL 1 ?_
            refine dP 2 ?_
            refine dP 3 ?_
            refine dP 4 ?_
            refine dL 5 ?_
            refine dP 6 ?_
            refine dP 7 ?_
            refine dP 8 ?_
            refine dL 9 ?_
            refine dP 13 ?_
            refine dO 10 true ?_
            first | refine s1 ?_ | refine F.c (hA) ?_
            refine ARg.nil (ATh.normal ?_)
            first | refine dP 11 ?_ | refine dP 11 ?_ (hs := by exact (A.fldG ⟨Tryz.underlying81⟩ rfl (inferInstance : One Tryz.prog 55) rfl rfl))
            refine dP 12 ?_
            refine dP 14 ?_
            refine dP 15 ?_
            first | refine dT 42 rfl (by first | assumption | rfl | (simp only [decide_eq_true_eq, Bool.not_eq_true', decide_eq_false_iff_not, Bool.and_eq_true, Bool.or_eq_true]; omega)) ?_ | refine dF 42 rfl (by first | assumption | rfl | (simp only [decide_eq_false_iff_not, Bool.not_eq_false', decide_eq_true_eq, Bool.and_eq_false_iff, Bool.or_eq_false_iff]; omega)) ?_ | (refine dD 42 rfl ?_ ?_ <;> intro hc <;> (try simp only [decide_eq_true_eq, decide_eq_false_iff_not, Bool.not_eq_true', Bool.not_eq_false'] at hc)) | skip
            all_goals
              first | refine dK 16 ?_ | refine dP 16 ?_
              first | refine dK 17 ?_ | refine dP 17 ?_
              first | refine dK 18 ?_ | refine dP 18 ?_
              first | refine dK 19 ?_ | refine dP 19 ?_
              first | refine dK 20 ?_ | refine dL 20 ?_
              first | refine dK 21 ?_ | refine dP 21 ?_
              first | refine dK 22 ?_ | refine dP 22 ?_
              first | refine dK 23 ?_ | refine dP 23 ?_
              first | refine dK 24 ?_ | refine dP 24 ?_
              first | refine dK 25 ?_ | refine dP 25 ?_
              first | refine dK 26 ?_ | refine dL 26 ?_
              first | refine dK 27 ?_ | refine dP 27 ?_
              first | refine dK 28 ?_ | refine dP 28 ?_
              first | refine dK 29 ?_ | refine dP 29 ?_
              first | refine dK 30 ?_ | refine dP 30 ?_
              refine dP 31 ?_
              refine dN ?_
              rotate_left
            all_goals
              repeat' first | refine s1 ?_ | fail
              exact ⟨k + 1, F.fit ⟨rfl, trivial⟩ trivial, ⟨by omega, snocP k2 (by rw [hcv, decide_eq_true e1, decide_eq_true e2]; rfl)⟩, by omega⟩
          · repeat' first | refine s1 ?_ | fail
            refine AW.draw 32 G.mixed (by kernel_rfl) ?_
            refine dP 0 ?_
            refine dL 1 ?_
            refine dP 2 ?_
            refine dP 3 ?_
            refine dP 4 ?_
            refine dL 5 ?_
            refine dP 6 ?_
            refine dP 7 ?_
            refine dP 8 ?_
            refine dL 9 ?_
            refine dP 13 ?_
            refine dO 10 true ?_
            first | refine s1 ?_ | refine F.c (hA) ?_
            refine ARg.nil (ATh.normal ?_)
            first | refine dP 11 ?_ | refine dP 11 ?_ (hs := by exact (A.fldG ⟨Tryz.underlying81⟩ rfl (inferInstance : One Tryz.prog 55) rfl rfl))
            refine dP 12 ?_
            refine dP 14 ?_
            refine dP 15 ?_
            first | refine dT 42 rfl (by first | assumption | rfl | (simp only [decide_eq_true_eq, Bool.not_eq_true', decide_eq_false_iff_not, Bool.and_eq_true, Bool.or_eq_true]; omega)) ?_ | refine dF 42 rfl (by first | assumption | rfl | (simp only [decide_eq_false_iff_not, Bool.not_eq_false', decide_eq_true_eq, Bool.and_eq_false_iff, Bool.or_eq_false_iff]; omega)) ?_ | (refine dD 42 rfl ?_ ?_ <;> intro hc <;> (try simp only [decide_eq_true_eq, decide_eq_false_iff_not, Bool.not_eq_true', Bool.not_eq_false'] at hc)) | skip
            all_goals
              first | refine dK 16 ?_ | refine dP 16 ?_
              first | refine dK 17 ?_ | refine dP 17 ?_
              first | refine dK 18 ?_ | refine dP 18 ?_
              first | refine dK 19 ?_ | refine dP 19 ?_
              first | refine dK 20 ?_ | refine dL 20 ?_
              first | refine dK 21 ?_ | refine dP 21 ?_
              first | refine dK 22 ?_ | refine dP 22 ?_
              first | refine dK 23 ?_ | refine dP 23 ?_
              first | refine dK 24 ?_ | refine dP 24 ?_
              first | refine dK 25 ?_ | refine dP 25 ?_
              first | refine dK 26 ?_ | refine dL 26 ?_
              first | refine dK 27 ?_ | refine dP 27 ?_
              first | refine dK 28 ?_ | refine dP 28 ?_
              first | refine dK 29 ?_ | refine dP 29 ?_
              first | refine dK 30 ?_ | refine dP 30 ?_
              refine dP 31 ?_
              refine dN ?_
              rotate_left
            all_goals
              repeat' first | refine s1 ?_ | fail
              refine F.ret ?_
              rw [all_no hk (by rw [hcv, decide_eq_false e2, Bool.and_false])]
        · repeat' first | refine s1 ?_ | fail
          refine AW.draw 32 G.mixed (by kernel_rfl) ?_
          refine dP 0 ?_
          refine dL 1 ?_
          refine dP 2 ?_
          refine dP 3 ?_
          refine dP 4 ?_
          refine dL 5 ?_
          refine dP 6 ?_
          refine dP 7 ?_
          refine dP 8 ?_
          refine dL 9 ?_
          refine dP 13 ?_
          refine dO 10 true ?_
          first | refine s1 ?_ | refine F.c (hA) ?_
          refine ARg.nil (ATh.normal ?_)
          first | refine dP 11 ?_ | refine dP 11 ?_ (hs := by exact (A.fldG ⟨Tryz.underlying81⟩ rfl (inferInstance : One Tryz.prog 55) rfl rfl))
          refine dP 12 ?_
          refine dP 14 ?_
          refine dP 15 ?_
          first | refine dT 42 rfl (by first | assumption | rfl | (simp only [decide_eq_true_eq, Bool.not_eq_true', decide_eq_false_iff_not, Bool.and_eq_true, Bool.or_eq_true]; omega)) ?_ | refine dF 42 rfl (by first | assumption | rfl | (simp only [decide_eq_false_iff_not, Bool.not_eq_false', decide_eq_true_eq, Bool.and_eq_false_iff, Bool.or_eq_false_iff]; omega)) ?_ | (refine dD 42 rfl ?_ ?_ <;> intro hc <;> (try simp only [decide_eq_true_eq, decide_eq_false_iff_not, Bool.not_eq_true', Bool.not_eq_false'] at hc)) | skip
          all_goals
            first | refine dK 16 ?_ | refine dP 16 ?_
            first | refine dK 17 ?_ | refine dP 17 ?_
            first | refine dK 18 ?_ | refine dP 18 ?_
            first | refine dK 19 ?_ | refine dP 19 ?_
            first | refine dK 20 ?_ | refine dL 20 ?_
            first | refine dK 21 ?_ | refine dP 21 ?_
            first | refine dK 22 ?_ | refine dP 22 ?_
            first | refine dK 23 ?_ | refine dP 23 ?_
            first | refine dK 24 ?_ | refine dP 24 ?_
            first | refine dK 25 ?_ | refine dP 25 ?_
            first | refine dK 26 ?_ | refine dL 26 ?_
            first | refine dK 27 ?_ | refine dP 27 ?_
            first | refine dK 28 ?_ | refine dP 28 ?_
            first | refine dK 29 ?_ | refine dP 29 ?_
            first | refine dK 30 ?_ | refine dP 30 ?_
            refine dP 31 ?_
            refine dN ?_
            rotate_left
          all_goals
            repeat' first | refine s1 ?_ | fail
            refine F.ret ?_
            rw [all_no hk (by rw [hcv, decide_eq_false e1, Bool.false_and])]
      · obtain rfl : k = r.d.length := by omega
        repeat' first | refine s1 ?_ | fail
        refine F.ret ?_
        rw [all_yes k2]
theorem list_eq_iff {x y : List Int} (hl : x.length = y.length) : decide (x = y) = (List.range y.length).all fun v => decide (x.getD v default = y.getD v default) := by
  rw [Bool.eq_iff_iff, decide_eq_true_eq, List.all_eq_true]
  constructor
  · rintro rfl v _; simp
  · intro h
    exact ext_getD hl fun j hj => by
      have := h j (by simp; omega)
      exact of_decide_eq_true this
theorem cmp_eq {r : Rep} {s t : List Spc} (hs : isSub r s = true) (ht : isSub r t = true) : (decide (dimS (pairL (addS r.p) s t) = r.d) && sameSL (pairL (metS r.p) s t) (radK r 0)) = (List.range r.d.length).all (cmpV r s t) := by
  obtain ⟨l1, l2, l3⟩ := sub_pair hs ht
  obtain ⟨h1, hsd, h3, h4⟩ := isSub_spec hs
  obtain ⟨r1, r2, r3, r4⟩ := isRep_spec h1
  obtain ⟨c1, c2, c3, _⟩ := areDims_spec r2
  have hlA := pairL_len (addS r.p) s t
  have hlM := pairL_len (metS r.p) s t
  have hlR := radK_len r 0
  have hdl := dimS_len (pairL (addS r.p) s t)
  rw [list_eq_iff (by omega)]
  unfold sameSL
  rw [decide_eq_true (show (pairL (metS r.p) s t).length = (radK r 0).length by omega), Bool.true_and, hlM, hsd]
  rw [Bool.eq_iff_iff, Bool.and_eq_true, List.all_eq_true, List.all_eq_true, List.all_eq_true]
  have key : ∀ v, v < r.d.length → (dimS (pairL (addS r.p) s t)).getD v default = ((addS r.p (s.getD v default) (t.getD v default)).b.length : Int) ∧ (pairL (metS r.p) s t).getD v default = metS r.p (s.getD v default) (t.getD v default) ∧ (radK r 0).getD v default = ⟨r.d.getD v default, []⟩ := fun v hv => by
    refine ⟨?_, pairL_get _ _ _ (by omega), by simp [radK, hv]⟩
    rw [dimS_get (by omega), pairL_get _ _ _ (by omega)]
  have hd : ∀ v, v < r.d.length → 0 ≤ r.d.getD v default := fun v hv => by
    have hd : 0 ≤ r.d.getD v default ∧ r.d.getD v default ≤ 4 := allIn_spec c3 hv
    exact hd.1
  have hmn : ∀ v, v < r.d.length → ((addS r.p (s.getD v default) (t.getD v default)).b.length : Int) = r.d.getD v default → ((metS r.p (s.getD v default) (t.getD v default)).b = [] ↔ ((s.getD v default).b.length : Int) + ((t.getD v default).b.length : Int) = r.d.getD v default) := fun v hv he => by
    obtain ⟨n1, n2, n3⟩ := l3 v (by omega)
    have hn := (h3 v (by omega)).2
    have := hd v hv
    rw [meet_nil n1 n2 n3 (by omega)]
    omega
  constructor
  · rintro ⟨ha, hb⟩ v hv
    have hv' : v < r.d.length := by simpa using hv
    obtain ⟨k1, k2, k3⟩ := key v hv'
    have h6 := of_decide_eq_true (ha v hv)
    have h7 := hb v hv
    rw [k1] at h6
    rw [k2, k3] at h7
    simp only [sameS, Bool.and_eq_true, decide_eq_true_eq] at h7
    unfold cmpV
    rw [decide_eq_true h6, decide_eq_true ((hmn v hv' h6).mp h7.2)]; rfl
  · intro ha
    refine ⟨fun v hv => ?_, fun v hv => ?_⟩
    · have hv' : v < r.d.length := by simpa using hv
      obtain ⟨k1, k2, k3⟩ := key v hv'
      have h6 := ha v hv
      simp only [cmpV, Bool.and_eq_true, decide_eq_true_eq] at h6
      rw [k1]
      exact decide_eq_true h6.1
    · have hv' : v < r.d.length := by simpa using hv
      obtain ⟨k1, k2, k3⟩ := key v hv'
      have h6 := ha v hv
      simp only [cmpV, Bool.and_eq_true, decide_eq_true_eq] at h6
      rw [k2, k3]
      simp only [sameS, Bool.and_eq_true, decide_eq_true_eq]
      exact ⟨(h3 v (by omega)).2, (hmn v hv' h6.1).mpr h6.2⟩
theorem specIsComplementPair_a (r : Rep) (s t : List Spc) : AC Tryz.prog 36 [.agg (enc false r), ar false s, ar false t] [.b (cmpB r s t)] := by
  refine AC.go Tryz.func36 Tryz.ntmps36 rfl rfl fun w0 hw => ?_; simp [WfL, WfA, E_length, Enc.enc, In64] at hw
  have hA := specAddSubs_a r s t
  have hM := specMeetSubs_a r s t
  unfold cmpB
  by_cases h : isSub r s = true ∧ isSub r t = true
  · obtain ⟨hs, ht⟩ := h
    rw [show addP r s t = (pairL (addS r.p) s t, true) by unfold addP; rw [if_pos ⟨hs, ht⟩]] at hA
    rw [show metP r s t = (pairL (metS r.p) s t, true) by unfold metP; rw [if_pos ⟨hs, ht⟩]] at hM
    dsimp only at hA hM
    rw [hs, ht, Bool.true_and, Bool.true_and, ← cmp_eq hs ht]
    obtain ⟨h1, h2, h3, h4⟩ := isSub_spec hs
    obtain ⟨r1, r2, r3, r4⟩ := isRep_spec h1
    obtain ⟨c1, c2, c3, _⟩ := areDims_spec r2
    have h5 := okQ_spec c1
    obtain ⟨l1, l2, l3⟩ := sub_pair hs ht
    have hD := specSubDims_a r (pairL (addS r.p) s t) (addSubs_ok hs ht)
    have hE := l6Same_a (dimS (pairL (addS r.p) s t)) r.d
    have hZ := l12Zero_a r (by omega)
    have hQ := specEqualSubs_a (pairL (metS r.p) s t) (radK r 0) (fun v hv => by
      have hv : v < s.length := by rw [pairL_len] at hv; exact hv
      rw [pairL_get _ _ _ hv]
      exact spc_short (metS_ok (l3 v hv).1))
    generalize sameSL (pairL (metS r.p) s t) (radK r 0) = Y2 at hQ ⊢
    generalize decide (dimS (pairL (addS r.p) s t) = r.d) = Y1 at hE ⊢
    generalize dimS (pairL (addS r.p) s t) = D1 at hD hE
    generalize pairL (addS r.p) s t = L1 at hA hD
    generalize pairL (metS r.p) s t = L2 at hM hQ
    generalize radK r 0 = Z at hZ hQ
    cases Y1 with
    | false =>
      repeat' first | refine s1 ?_ | (refine kR ?_; first | refine F.c (hA) ?_ | refine F.c (hM) ?_) | fail
      refine AW.draw 19 G.mixed (by kernel_rfl) ?_
      refine dP 0 ?_
      refine dP 1 ?_
      first | refine dT 26 rfl (by first | assumption | rfl | (simp only [decide_eq_true_eq, Bool.not_eq_true', decide_eq_false_iff_not, Bool.and_eq_true, Bool.or_eq_true]; omega)) ?_ | refine dF 26 rfl (by first | assumption | rfl | (simp only [decide_eq_false_iff_not, Bool.not_eq_false', decide_eq_true_eq, Bool.and_eq_false_iff, Bool.or_eq_false_iff]; omega)) ?_ | (refine dD 26 rfl ?_ ?_ <;> intro hc <;> (try simp only [decide_eq_true_eq, decide_eq_false_iff_not, Bool.not_eq_true', Bool.not_eq_false'] at hc)) | skip
      all_goals
        first | refine dK 2 ?_ | refine dP 2 ?_
        refine dP 3 ?_
        refine dP 4 ?_
        first | refine dT 29 rfl (by first | assumption | rfl | (simp only [decide_eq_true_eq, Bool.not_eq_true', decide_eq_false_iff_not, Bool.and_eq_true, Bool.or_eq_true]; omega)) ?_ | refine dF 29 rfl (by first | assumption | rfl | (simp only [decide_eq_false_iff_not, Bool.not_eq_false', decide_eq_true_eq, Bool.and_eq_false_iff, Bool.or_eq_false_iff]; omega)) ?_ | (refine dD 29 rfl ?_ ?_ <;> intro hc <;> (try simp only [decide_eq_true_eq, decide_eq_false_iff_not, Bool.not_eq_true', Bool.not_eq_false'] at hc)) | skip
        all_goals
          first | refine dK 5 ?_ | refine dL 5 ?_
          first | refine dK 6 ?_ | refine dP 6 ?_
          first | refine dK 8 ?_ | refine dP 8 ?_
          first | refine dK 9 ?_ | refine dL 9 ?_
          refine dO 7 true ?_
          first | refine s1 ?_ | refine F.c (hD) ?_
          refine ARg.nil (ATh.normal ?_)
          refine dO 10 true ?_
          first | refine s1 ?_ | refine F.c (hE) ?_
          refine ARg.nil (ATh.normal ?_)
          refine dP 11 ?_
          refine dP 12 ?_
          first | refine dT 37 rfl (by first | assumption | rfl | (simp only [decide_eq_true_eq, Bool.not_eq_true', decide_eq_false_iff_not, Bool.and_eq_true, Bool.or_eq_true]; omega)) ?_ | refine dF 37 rfl (by first | assumption | rfl | (simp only [decide_eq_false_iff_not, Bool.not_eq_false', decide_eq_true_eq, Bool.and_eq_false_iff, Bool.or_eq_false_iff]; omega)) ?_ | (refine dD 37 rfl ?_ ?_ <;> intro hc <;> (try simp only [decide_eq_true_eq, decide_eq_false_iff_not, Bool.not_eq_true', Bool.not_eq_false'] at hc)) | skip
          all_goals
            first | refine dK 13 ?_ | refine dP 13 ?_
            first | refine dK 14 ?_ | refine dL 14 ?_
            refine dO 15 true ?_
            refine s1 ?_
            refine ARg.nil (ATh.normal ?_)
            refine dO 16 true ?_
            refine s1 ?_
            refine ARg.nil (ATh.normal ?_)
            refine dP 17 ?_
            refine dP 18 ?_
            refine dN ?_
            rotate_left
      all_goals
        repeat' first | refine s1 ?_ | fail
        refine F.ret ?_
        rfl
    | true =>
      repeat' first | refine s1 ?_ | (refine kR ?_; first | refine F.c (hA) ?_ | refine F.c (hM) ?_) | fail
      refine AW.draw 19 G.mixed (by kernel_rfl) ?_
      refine dP 0 ?_
      refine dP 1 ?_
      first | refine dT 26 rfl (by first | assumption | rfl | (simp only [decide_eq_true_eq, Bool.not_eq_true', decide_eq_false_iff_not, Bool.and_eq_true, Bool.or_eq_true]; omega)) ?_ | refine dF 26 rfl (by first | assumption | rfl | (simp only [decide_eq_false_iff_not, Bool.not_eq_false', decide_eq_true_eq, Bool.and_eq_false_iff, Bool.or_eq_false_iff]; omega)) ?_ | (refine dD 26 rfl ?_ ?_ <;> intro hc <;> (try simp only [decide_eq_true_eq, decide_eq_false_iff_not, Bool.not_eq_true', Bool.not_eq_false'] at hc)) | skip
      all_goals
        first | refine dK 2 ?_ | refine dP 2 ?_
        refine dP 3 ?_
        refine dP 4 ?_
        first | refine dT 29 rfl (by first | assumption | rfl | (simp only [decide_eq_true_eq, Bool.not_eq_true', decide_eq_false_iff_not, Bool.and_eq_true, Bool.or_eq_true]; omega)) ?_ | refine dF 29 rfl (by first | assumption | rfl | (simp only [decide_eq_false_iff_not, Bool.not_eq_false', decide_eq_true_eq, Bool.and_eq_false_iff, Bool.or_eq_false_iff]; omega)) ?_ | (refine dD 29 rfl ?_ ?_ <;> intro hc <;> (try simp only [decide_eq_true_eq, decide_eq_false_iff_not, Bool.not_eq_true', Bool.not_eq_false'] at hc)) | skip
        all_goals
          first | refine dK 5 ?_ | refine dL 5 ?_
          first | refine dK 6 ?_ | refine dP 6 ?_
          first | refine dK 8 ?_ | refine dP 8 ?_
          first | refine dK 9 ?_ | refine dL 9 ?_
          refine dO 7 true ?_
          first | refine s1 ?_ | refine F.c (hD) ?_
          refine ARg.nil (ATh.normal ?_)
          refine dO 10 true ?_
          first | refine s1 ?_ | refine F.c (hE) ?_
          refine ARg.nil (ATh.normal ?_)
          refine dP 11 ?_
          refine dP 12 ?_
          first | refine dT 37 rfl (by first | assumption | rfl | (simp only [decide_eq_true_eq, Bool.not_eq_true', decide_eq_false_iff_not, Bool.and_eq_true, Bool.or_eq_true]; omega)) ?_ | refine dF 37 rfl (by first | assumption | rfl | (simp only [decide_eq_false_iff_not, Bool.not_eq_false', decide_eq_true_eq, Bool.and_eq_false_iff, Bool.or_eq_false_iff]; omega)) ?_ | (refine dD 37 rfl ?_ ?_ <;> intro hc <;> (try simp only [decide_eq_true_eq, decide_eq_false_iff_not, Bool.not_eq_true', Bool.not_eq_false'] at hc)) | skip
          all_goals
            first | refine dK 13 ?_ | refine dP 13 ?_
            first | refine dK 14 ?_ | refine dL 14 ?_
            refine dO 15 true ?_
            first | refine s1 ?_ | refine F.c (hZ) ?_
            refine ARg.nil (ATh.normal ?_)
            refine dO 16 true ?_
            first | refine s1 ?_ | refine F.c (hQ) ?_
            refine ARg.nil (ATh.normal ?_)
            refine dP 17 ?_
            refine dP 18 ?_
            refine dN ?_
            rotate_left
      all_goals
        repeat' first | refine s1 ?_ | fail
        refine F.ret ?_
        simp
  · rw [show addP r s t = ([], false) by unfold addP; rw [if_neg h]] at hA
    rw [show metP r s t = ([], false) by unfold metP; rw [if_neg h]] at hM
    dsimp only at hA hM
    have e : (isSub r s && (isSub r t && (List.range r.d.length).all (cmpV r s t))) = false := by
      cases e1 : isSub r s with
      | false => rfl
      | true =>
        cases e2 : isSub r t with
        | false => rfl
        | true => exact absurd ⟨e1, e2⟩ h
    rw [e]
    repeat' first | refine s1 ?_ | (refine kR ?_; first | refine F.c (hA) ?_ | refine F.c (hM) ?_) | fail
    refine AW.draw 19 G.mixed (by kernel_rfl) ?_
    refine dP 0 ?_
    refine dP 1 ?_
    first | refine dT 26 rfl (by first | assumption | rfl | (simp only [decide_eq_true_eq, Bool.not_eq_true', decide_eq_false_iff_not, Bool.and_eq_true, Bool.or_eq_true]; omega)) ?_ | refine dF 26 rfl (by first | assumption | rfl | (simp only [decide_eq_false_iff_not, Bool.not_eq_false', decide_eq_true_eq, Bool.and_eq_false_iff, Bool.or_eq_false_iff]; omega)) ?_ | (refine dD 26 rfl ?_ ?_ <;> intro hc <;> (try simp only [decide_eq_true_eq, decide_eq_false_iff_not, Bool.not_eq_true', Bool.not_eq_false'] at hc)) | skip
    all_goals
      first | refine dK 2 ?_ | refine dP 2 ?_
      refine dP 3 ?_
      refine dP 4 ?_
      first | refine dT 29 rfl (by first | assumption | rfl | (simp only [decide_eq_true_eq, Bool.not_eq_true', decide_eq_false_iff_not, Bool.and_eq_true, Bool.or_eq_true]; omega)) ?_ | refine dF 29 rfl (by first | assumption | rfl | (simp only [decide_eq_false_iff_not, Bool.not_eq_false', decide_eq_true_eq, Bool.and_eq_false_iff, Bool.or_eq_false_iff]; omega)) ?_ | (refine dD 29 rfl ?_ ?_ <;> intro hc <;> (try simp only [decide_eq_true_eq, decide_eq_false_iff_not, Bool.not_eq_true', Bool.not_eq_false'] at hc)) | skip
      all_goals
        first | refine dK 5 ?_ | refine dL 5 ?_
        first | refine dK 6 ?_ | refine dP 6 ?_
        first | refine dK 8 ?_ | refine dP 8 ?_
        first | refine dK 9 ?_ | refine dL 9 ?_
        refine dO 7 true ?_
        refine s1 ?_
        refine ARg.nil (ATh.normal ?_)
        refine dO 10 true ?_
        refine s1 ?_
        refine ARg.nil (ATh.normal ?_)
        refine dP 11 ?_
        refine dP 12 ?_
        first | refine dT 37 rfl (by first | assumption | rfl | (simp only [decide_eq_true_eq, Bool.not_eq_true', decide_eq_false_iff_not, Bool.and_eq_true, Bool.or_eq_true]; omega)) ?_ | refine dF 37 rfl (by first | assumption | rfl | (simp only [decide_eq_false_iff_not, Bool.not_eq_false', decide_eq_true_eq, Bool.and_eq_false_iff, Bool.or_eq_false_iff]; omega)) ?_ | (refine dD 37 rfl ?_ ?_ <;> intro hc <;> (try simp only [decide_eq_true_eq, decide_eq_false_iff_not, Bool.not_eq_true', Bool.not_eq_false'] at hc)) | skip
        all_goals
          first | refine dK 13 ?_ | refine dP 13 ?_
          first | refine dK 14 ?_ | refine dL 14 ?_
          refine dO 15 true ?_
          refine s1 ?_
          refine ARg.nil (ATh.normal ?_)
          refine dO 16 true ?_
          refine s1 ?_
          refine ARg.nil (ATh.normal ?_)
          refine dP 17 ?_
          refine dP 18 ?_
          refine dN ?_
          rotate_left
    all_goals
      repeat' first | refine s1 ?_ | fail
      refine F.ret ?_
      rfl
end Go.Proofs.YtedjajokbdokhaaGreat.V
