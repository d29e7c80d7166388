/- Contracts: images of spaces, spaces within others, parts, as the reference finds them. -/
import Derived.Test.YtedjajokbdokhaaGreatUi
import Derived.Test.YtedjajokbdokhaaGreatA71
import Derived.Test.YtedjajokbdokhaaGreatB8
namespace Go.Proofs.YtedjajokbdokhaaGreat.V
open V.Enc (enc)
open Go.RowKit G D
set_option linter.unusedVariables false
set_option linter.unusedSimpArgs false
set_option maxHeartbeats 4000000
set_option maxRecDepth 4000
attribute [local irreducible] AW ARg ARA ARet MRet ASil AC AM ARI

theorem isVec_of {p : Int} {v : List Int} (hF : isF p = true) (hl : v.length ≤ 64) (hb : ∀ j, j < v.length → 0 ≤ v.getD j default ∧ v.getD j default ≤ p - 1) : isVec p v = true := by
  simp only [isVec, Bool.and_eq_true, decide_eq_true_eq]
  exact ⟨⟨hF, hl⟩, allIn_all hb⟩
theorem specApply_a {p : Int} {m : Mat} {v : List Int} (hm : isMat p m = true) (hn : v.length = m.c.toNat) (hb : ∀ j, j < m.c.toNat → 0 ≤ v.getD j default ∧ v.getD j default ≤ p - 1) : AC Tryz.prog 175 [.i p, .agg (enc false m), ar false v] [.dt true 1 (E true (appV p m v)), .b true] := by
  refine AC.go Tryz.func175 Tryz.ntmps175 rfl rfl fun w0 hw => ?_; simp [WfL, WfA, E_length, Enc.enc, In64] at hw
  obtain ⟨h0, h1, h2, h3, h4⟩ := isMat_spec hm
  have hM := specIsMatrix_a p m
  rw [hm] at hM
  have hV := specIsVector_a p v
  rw [isVec_of h0 (by omega) (fun j hj => hb j (by omega))] at hV
  have hT := l3Multiply_a p m.r.toNat m.c.toNat 1 (ent m) (fcF [v]) h0 (by omega) (by omega) (by omega) (ent_bd hm) (fun i hi j hj => by
    obtain rfl : j = 0 := by omega
    exact hb i hi)
  rw [isMat_tm hm] at hT
  have e : tm m.r.toNat 1 (mulF p (ent m) (fcF [v]) m.c.toNat) = ⟨(m.r.toNat : Int), 1, appV p m v⟩ := by
    unfold tm appV
    rw [ent_fc]; rfl
  have e0 : tm m.c.toNat 1 (fcF [v]) = ⟨(v.length : Int), 1, v⟩ := by
    unfold tm
    rw [tab_one, hn]
    congr 1
    exact rowL_of hn
  rw [e, e0] at hT
  have hcn : (v.length : Int) = m.c := by omega
  generalize appV p m v = X at hT ⊢
  repeat' first | refine s1 ?_ | refine q1 ?_ | (refine kR ?_; first | refine F.c (hM) ?_ | refine F.c (hV) ?_) | fail
  refine AW.draw 12 G.mixed (by kernel_rfl) ?_
  refine dP 0 ?_
  first | refine dL 1 ?_ | refine dLQ 1 ?_
  refine dP 2 ?_
  refine dP 3 ?_
  refine dP 5 ?_
  refine dO 4 true ?_
  refine s1 ?_
  refine ARg.nil (ATh.normal ?_)
  refine dO 6 true ?_
  first | refine s1 ?_ | refine F.aLN Int (oo := true) ?_
  refine ARg.nil (ATh.normal ?_)
  refine dP 7 ?_
  refine dO 8 true ?_
  first | refine s1 ?_ | refine F.c (hT) ?_
  refine ARg.nil (ATh.normal ?_)
  first | refine dP 9 ?_ | refine dP 9 ?_ (hs := by exact (A.fldG ⟨Tryz.underlying71⟩ rfl (inferInstance : One Tryz.prog 22) rfl rfl))
  refine dP 10 ?_
  refine dP 11 ?_
  refine dN ?_
  rotate_left
  all_goals
    repeat' first | refine s1 ?_ | refine q1 ?_ | fail
    (refine kZ ?_; exact F.ret rfl)
theorem specImageOf_a {p : Int} {m : Mat} {s : Spc} (hm : isMat p m = true) (hs : isSpc p s = true) (hn : s.n = m.c) : AC Tryz.prog 122 [.i p, .agg (enc false m), .agg (enc false s)] [.agg (enc true (imgSp p m s)), .b true] := by
  refine AC.go Tryz.func122 Tryz.ntmps122 rfl rfl fun w0 hw => ?_; simp [WfL, WfA, E_length, Enc.enc, In64] at hw
  have hM := specIsMatrix_a p m
  rw [hm] at hM
  have hSp := specIsSpace_a p s
  rw [hs] at hSp
  obtain ⟨h0, h1, h2, h3, h4⟩ := isMat_spec hm
  obtain ⟨_, _, g3, g4⟩ := isSpc_spec hs
  have hp := isF_pos h0
  have hll := imgL_len p m s
  have hS := l5Span_a p m.r.toNat (imgL p m s) h0 (by omega) (by omega) (imgL_vec (by omega) m s)
  rw [Int.toNat_of_nonneg h1.1, show (⟨m.r, spanL p m.r.toNat (imgL p m s)⟩ : Spc) = imgSp p m s from rfl] at hS
  have hAp := fun k (hk : k < s.b.length) => specApply_a hm (v := s.b.getD k default) (by rw [(g4 _ (gm hk)).1, hn]) (fun j hj => (g4 _ (gm hk)).2 j (by rw [hn]; exact hj))
  have hIt := fun k (hk : k < s.b.length) => imgL_take p m s hk
  generalize imgSp p m s = IM at hS ⊢
  generalize imgL p m s = L at hll hS hIt
  repeat' first | refine s1 ?_ | refine q1 ?_ | (refine kR ?_; first | refine F.c (hM) ?_ | refine F.c (hSp) ?_) | fail
  refine AW.open 8 1 (.inr rfl) ?_
  refine F.loop (σ := Nat) [8, 9, 10, 11, 31, 32, 33, 34, 35, 36, 37, 38, 39, 40, 41, 42, 43, 44, 45, 46, 47, 48, 49, 50, 51, 52] (fun k => [(8, .sl 3 k 0 k), (9, .i k)]) (fun k => [(3, .live false 1 (E true (L.take k)))]) (fun k => k ≤ s.b.length) (fun k => s.b.length - k) 0 ⟨rfl, rfl, trivial⟩ ⟨rfl, trivial⟩ (Nat.zero_le _) ?_
  rintro k k1
  have hp2 : (L.take k).length = k := by rw [List.length_take]; omega
  by_cases hk : k < s.b.length
  · have hA := hAp k hk
    have hts := hIt k hk
    generalize appV p m (s.b.getD k default) = X at hA hts
    repeat' first | refine s1 ?_ | refine q1 ?_ | fail
    refine AW.draw 13 G.mixed (by kernel_rfl) ?_
    refine dP 0 ?_
    first | refine dL 1 ?_ | refine dLQ 1 ?_
    refine dP 2 ?_
    first | refine dL 3 ?_ | refine dLQ 3 ?_
    refine dP 4 ?_
    first | refine dP 5 ?_ | refine dQ 5 ?_
    first | refine dL 6 ?_ | refine dLQ 6 ?_
    refine dO 7 true ?_
    first | refine s1 ?_ | refine F.c (hA) ?_
    refine ARg.nil (ATh.normal ?_)
    refine dP 8 ?_
    refine dP 9 ?_
    refine dP 10 ?_
    refine dP 11 ?_
    refine dP 12 ?_
    refine dN ?_
    rotate_left
    all_goals
      repeat' first | refine s1 ?_ | refine q1 ?_ | (refine kR ?_; first | refine F.a1 (List Int) (a := X) ?_) | fail
      exact ⟨k + 1, F.fit ⟨rfl, rfl, trivial⟩ ⟨obE (by rw [hts]), trivial⟩, by omega, by omega⟩
  · obtain rfl : k = s.b.length := by omega
    have e : L.take s.b.length = L := List.take_of_length_le (by omega)
    rw [e]
    rw [← hll]
    clear hp2 e
    repeat' first | refine s1 ?_ | refine q1 ?_ | (refine kR ?_; first | refine F.c (hS) ?_) | fail
    (refine kZ ?_; exact F.ret rfl)
theorem specIsWithin_a (p : Int) (a b : Spc) (ha : isSpc p a = true) (hb : isSpc p b = true) (hn : b.n = a.n) : AC Tryz.prog 123 [.i p, .agg (enc false a), .agg (enc false b)] [.b (inS p a b)] := by
  refine AC.go Tryz.func123 Tryz.ntmps123 rfl rfl fun w0 hw => ?_; simp [WfL, WfA, E_length, Enc.enc, In64] at hw
  have hA := addSpaces_a p a b ha hb hn
  have he := within_eq ha hb hn
  generalize inS p a b = Y at he ⊢
  generalize addS p a b = X at hA he
  have he2 : decide ((X.b.length : Int) = (b.b.length : Int)) = Y := by
    rw [← he]
    exact decide_eq_decide.2 (by omega)
  repeat' first | refine s1 ?_ | refine q1 ?_ | (refine kR ?_; first | refine F.c (hA) ?_) | fail
  refine F.ret ?_
  rw [← he2]
theorem specIsSub_a (r : Rep) (s : List Spc) : AC Tryz.prog 68 [.agg (enc false r), ar false s] [.b (isSub r s)] := by
  refine AC.go Tryz.func68 Tryz.ntmps68 rfl rfl fun w0 hw => ?_; simp [WfL, WfA, E_length, Enc.enc, In64] at hw
  have hR := specIsRep_a r
  unfold isSub
  cases hr : isRep r with
  | false =>
    rw [hr] at hR
    repeat' first | refine s1 ?_ | refine q1 ?_ | (refine kR ?_; first | refine F.c (hR) ?_) | fail
    refine F.ret ?_
    rfl
  | true =>
    rw [hr] at hR
    rw [Bool.true_and]
    obtain ⟨r1, r2, r3, r4⟩ := isRep_spec hr
    obtain ⟨c1, c2, c3, _⟩ := areDims_spec r2
    have h5 := okQ_spec c1
    by_cases hl : s.length = r.d.length
    · rw [decide_eq_true hl, Bool.true_and]
      repeat' first | refine s1 ?_ | refine q1 ?_ | (refine kR ?_; first | refine F.c (hR) ?_) | fail
      refine F.loop (σ := Nat) [4, 5, 20, 21, 22, 23, 24, 25, 26, 27, 28, 29, 30, 31, 32, 33, 34, 35, 36, 37, 38, 39, 40, 41, 42, 43, 44, 45, 46] (fun k => [(5, .i k)]) (fun _ => []) (fun k => k ≤ s.length ∧ ∀ j, j < k → spcAt r s j = true) (fun k => s.length - k) 0 ⟨rfl, trivial⟩ trivial ⟨Nat.zero_le _, fun j hj => by omega⟩ ?_
      rintro k ⟨k1, k2⟩
      by_cases hk : k < s.length
      · have hS := specIsSpace_a r.p (s.getD k default)
        have hsp : spcAt r s k = (isSpc r.p (s.getD k default) && decide ((s.getD k default).n = r.d.getD k default)) := rfl
        have hkd : k < r.d.length := by omega
        cases hx : isSpc r.p (s.getD k default) with
        | false =>
          rw [hx] at hS hsp
          repeat' first | refine s1 ?_ | refine q1 ?_ | fail
          refine AW.draw 21 G.mixed (by kernel_rfl) ?_
          refine dP 0 ?_
          first | refine dL 1 ?_ | refine dLQ 1 ?_
          refine dP 2 ?_
          refine dP 3 ?_
          first | refine dP 4 ?_ | refine dQ 4 ?_
          first | refine dL 5 ?_ | refine dLQ 5 ?_
          refine dO 6 true ?_
          first | refine s1 ?_ | refine F.c (hS) ?_
          refine ARg.nil (ATh.normal ?_)
          refine dP 7 ?_
          refine dP 8 ?_
          first | refine dT 34 rfl (by first | assumption | rfl | (simp only [decide_eq_true_eq, Bool.not_eq_true', decide_eq_false_iff_not, Bool.and_eq_true, Bool.or_eq_true]; omega)) ?_ | refine dF 34 rfl (by first | assumption | rfl | (simp only [decide_eq_false_iff_not, Bool.not_eq_false', decide_eq_true_eq, Bool.and_eq_false_iff, Bool.or_eq_false_iff]; omega)) ?_ | (refine dD 34 rfl ?_ ?_ <;> intro hc <;> (try simp only [decide_eq_true_eq, decide_eq_false_iff_not, Bool.not_eq_true', Bool.not_eq_false'] at hc)) | skip
          all_goals
            first | refine dK 9 ?_ | refine dP 9 ?_
            first | refine dK 10 ?_ | refine dP 10 ?_
            first | refine dK 11 ?_ | refine dP 11 ?_ | refine dQ 11 ?_
            first | refine dK 12 ?_ | refine dP 12 ?_
            first | refine dK 13 ?_ | refine dL 13 ?_ | refine dLQ 13 ?_
            first | refine dK 14 ?_ | refine dP 14 ?_
            first | refine dK 15 ?_ | refine dL 15 ?_ | refine dLQ 15 ?_
            first | refine dK 16 ?_ | refine dP 16 ?_
            first | refine dK 17 ?_ | refine dP 17 ?_ | refine dQ 17 ?_
            first | refine dK 18 ?_ | refine dL 18 ?_ | refine dLQ 18 ?_
            first | refine dK 19 ?_ | refine dP 19 ?_
            refine dP 20 ?_
            refine dN ?_
            rotate_left
          all_goals
            repeat' first | refine s1 ?_ | refine q1 ?_ | fail
            refine F.ret ?_
            rw [all_no hk hsp]; rfl
        | true =>
          rw [hx] at hS hsp
          by_cases hd : (s.getD k default).n = r.d.getD k default
          · repeat' first | refine s1 ?_ | refine q1 ?_ | fail
            refine AW.draw 21 G.mixed (by kernel_rfl) ?_
            refine dP 0 ?_
            first | refine dL 1 ?_ | refine dLQ 1 ?_
            refine dP 2 ?_
            refine dP 3 ?_
            first | refine dP 4 ?_ | refine dQ 4 ?_
            first | refine dL 5 ?_ | refine dLQ 5 ?_
            refine dO 6 true ?_
            first | refine s1 ?_ | refine F.c (hS) ?_
            refine ARg.nil (ATh.normal ?_)
            refine dP 7 ?_
            refine dP 8 ?_
            first | refine dT 34 rfl (by first | assumption | rfl | (simp only [decide_eq_true_eq, Bool.not_eq_true', decide_eq_false_iff_not, Bool.and_eq_true, Bool.or_eq_true]; omega)) ?_ | refine dF 34 rfl (by first | assumption | rfl | (simp only [decide_eq_false_iff_not, Bool.not_eq_false', decide_eq_true_eq, Bool.and_eq_false_iff, Bool.or_eq_false_iff]; omega)) ?_ | (refine dD 34 rfl ?_ ?_ <;> intro hc <;> (try simp only [decide_eq_true_eq, decide_eq_false_iff_not, Bool.not_eq_true', Bool.not_eq_false'] at hc)) | skip
            all_goals
              first | refine dK 9 ?_ | refine dP 9 ?_
              first | refine dK 10 ?_ | refine dP 10 ?_
              first | refine dK 11 ?_ | refine dP 11 ?_ | refine dQ 11 ?_
              first | refine dK 12 ?_ | refine dP 12 ?_
              first | refine dK 13 ?_ | refine dL 13 ?_ | refine dLQ 13 ?_
              first | refine dK 14 ?_ | refine dP 14 ?_
              first | refine dK 15 ?_ | refine dL 15 ?_ | refine dLQ 15 ?_
              first | refine dK 16 ?_ | refine dP 16 ?_
              first | refine dK 17 ?_ | refine dP 17 ?_ | refine dQ 17 ?_
              first | refine dK 18 ?_ | refine dL 18 ?_ | refine dLQ 18 ?_
              first | refine dK 19 ?_ | refine dP 19 ?_
              refine dP 20 ?_
              refine dN ?_
              rotate_left
            all_goals
              repeat' first | refine s1 ?_ | refine q1 ?_ | fail
              exact ⟨k + 1, F.fit ⟨rfl, trivial⟩ trivial, ⟨by omega, snocP k2 (by rw [hsp, decide_eq_true hd]; rfl)⟩, by omega⟩
          · repeat' first | refine s1 ?_ | refine q1 ?_ | fail
            refine AW.draw 21 G.mixed (by kernel_rfl) ?_
            refine dP 0 ?_
            first | refine dL 1 ?_ | refine dLQ 1 ?_
            refine dP 2 ?_
            refine dP 3 ?_
            first | refine dP 4 ?_ | refine dQ 4 ?_
            first | refine dL 5 ?_ | refine dLQ 5 ?_
            refine dO 6 true ?_
            first | refine s1 ?_ | refine F.c (hS) ?_
            refine ARg.nil (ATh.normal ?_)
            refine dP 7 ?_
            refine dP 8 ?_
            first | refine dT 34 rfl (by first | assumption | rfl | (simp only [decide_eq_true_eq, Bool.not_eq_true', decide_eq_false_iff_not, Bool.and_eq_true, Bool.or_eq_true]; omega)) ?_ | refine dF 34 rfl (by first | assumption | rfl | (simp only [decide_eq_false_iff_not, Bool.not_eq_false', decide_eq_true_eq, Bool.and_eq_false_iff, Bool.or_eq_false_iff]; omega)) ?_ | (refine dD 34 rfl ?_ ?_ <;> intro hc <;> (try simp only [decide_eq_true_eq, decide_eq_false_iff_not, Bool.not_eq_true', Bool.not_eq_false'] at hc)) | skip
            all_goals
              first | refine dK 9 ?_ | refine dP 9 ?_
              first | refine dK 10 ?_ | refine dP 10 ?_
              first | refine dK 11 ?_ | refine dP 11 ?_ | refine dQ 11 ?_
              first | refine dK 12 ?_ | refine dP 12 ?_
              first | refine dK 13 ?_ | refine dL 13 ?_ | refine dLQ 13 ?_
              first | refine dK 14 ?_ | refine dP 14 ?_
              first | refine dK 15 ?_ | refine dL 15 ?_ | refine dLQ 15 ?_
              first | refine dK 16 ?_ | refine dP 16 ?_
              first | refine dK 17 ?_ | refine dP 17 ?_ | refine dQ 17 ?_
              first | refine dK 18 ?_ | refine dL 18 ?_ | refine dLQ 18 ?_
              first | refine dK 19 ?_ | refine dP 19 ?_
              refine dP 20 ?_
              refine dN ?_
              rotate_left
            all_goals
              repeat' first | refine s1 ?_ | refine q1 ?_ | fail
              refine F.ret ?_
              rw [all_no hk (by rw [hsp, decide_eq_false hd]; rfl)]; rfl
      · obtain rfl : k = s.length := by omega
        rw [all_yes k2, Bool.true_and]
        repeat' first | refine s1 ?_ | refine q1 ?_ | fail
        refine F.loop (σ := Nat) [4, 6, 7, 8, 47, 48, 49, 50, 51, 52, 53, 54, 55, 56, 57, 58, 59, 60, 61, 62, 63, 64, 65, 66, 67, 68, 69, 70, 71, 72, 73, 74, 75, 76, 77, 78, 79, 80, 81, 82, 83, 84, 85, 86, 87] (fun k => [(6, .i k)]) (fun _ => []) (fun k => k ≤ r.m.length ∧ ∀ j, j < k → subAt r s j = true) (fun k => r.m.length - k) 0 ⟨rfl, trivial⟩ trivial ⟨Nat.zero_le _, fun j hj => by omega⟩ ?_
        rintro k ⟨i1, i2⟩
        by_cases hk : k < r.m.length
        · obtain ⟨m1, m2, m3, m4, m5⟩ := arrow_ok hr hk
          have hF1 : (r.q.fr.getD k default).toNat < s.length := by omega
          have hT1 : (r.q.to.getD k default).toNat < s.length := by omega
          have hkf : k < r.q.fr.length := by omega
          have hkt : k < r.q.to.length := by omega
          have f1 := k2 _ hF1
          have t1 := k2 _ hT1
          simp only [spcAt, Bool.and_eq_true, decide_eq_true_eq] at f1 t1
          have hI := specImageOf_a m1 f1.1 (by rw [f1.2, m4])
          have hW := specIsWithin_a r.p (imgSp r.p (r.m.getD k default) (s.getD (r.q.fr.getD k default).toNat default)) (s.getD (r.q.to.getD k default).toNat default) (imgSp_ok m1 _) t1.1 (by rw [t1.2]; exact m5.symm)
          have hsb : subAt r s k = inS r.p (imgSp r.p (r.m.getD k default) (s.getD (r.q.fr.getD k default).toNat default)) (s.getD (r.q.to.getD k default).toNat default) := rfl
          generalize imgSp r.p (r.m.getD k default) (s.getD (r.q.fr.getD k default).toNat default) = IM at hI hW hsb
          cases hx : inS r.p IM (s.getD (r.q.to.getD k default).toNat default) with
          | false =>
            rw [hx] at hW hsb
            repeat' first | refine s1 ?_ | refine q1 ?_ | fail
            refine AW.draw 21 G.mixed (by kernel_rfl) ?_
            refine dP 0 ?_
            first | refine dL 1 ?_ | refine dLQ 1 ?_
            refine dP 2 ?_
            first | refine dL 3 ?_ | refine dLQ 3 ?_
            refine dP 4 ?_
            first | refine dP 5 ?_ | refine dQ 5 ?_
            first | refine dL 6 ?_ | refine dLQ 6 ?_
            refine dP 7 ?_
            refine dP 8 ?_
            refine dP 9 ?_
            first | refine dL 10 ?_ | refine dLQ 10 ?_
            refine dP 11 ?_
            first | refine dP 12 ?_ | refine dQ 12 ?_
            first | refine dL 13 ?_ | refine dLQ 13 ?_
            first | refine dP 14 ?_ | refine dQ 14 ?_
            first | refine dL 15 ?_ | refine dLQ 15 ?_
            refine ARA.any [16, 20] (by kernel_rfl) (by simp) ?_
            intro k hk
            simp only [List.mem_cons, List.not_mem_nil, or_false] at hk
            rcases hk with rfl | rfl
            refine ⟨_, true, rfl, rfl, ?_⟩
            first | refine s1 ?_ | refine F.c (hI) ?_
            refine ARg.nil (ATh.normal ?_)
            refine dP 17 ?_
            refine dP 18 ?_
            refine dP 19 ?_
            refine dO 20 true ?_
            refine s1 ?_
            refine ARg.nil (ATh.normal ?_)
            refine dO 21 false ?_
            first | refine s1 ?_ | refine q1 ?_
            refine ARg.nil (ATh.normal ?_)
            refine dP 22 ?_
            refine dN ?_
            rotate_left
            refine ⟨_, true, rfl, rfl, ?_⟩
            refine s1 ?_
            refine ARg.nil (ATh.normal ?_)
            refine dO 16 true ?_
            first | refine s1 ?_ | refine F.c (hI) ?_
            refine ARg.nil (ATh.normal ?_)
            refine dP 17 ?_
            refine dP 18 ?_
            refine dP 19 ?_
            refine dO 21 false ?_
            first | refine s1 ?_ | refine q1 ?_
            refine ARg.nil (ATh.normal ?_)
            refine dP 22 ?_
            refine dN ?_
            rotate_left
            all_goals
              repeat' first | refine s1 ?_ | refine q1 ?_ | fail
              refine AW.draw 14 G.mixed (by kernel_rfl) ?_
              refine dP 0 ?_
              first | refine dL 1 ?_ | refine dLQ 1 ?_
              first | refine dL 2 ?_ | refine dLQ 2 ?_
              refine dP 3 ?_
              refine dP 4 ?_
              refine dP 5 ?_
              first | refine dL 6 ?_ | refine dLQ 6 ?_
              refine dP 7 ?_
              first | refine dP 8 ?_ | refine dQ 8 ?_
              first | refine dL 9 ?_ | refine dLQ 9 ?_
              first | refine dP 10 ?_ | refine dQ 10 ?_
              first | refine dL 11 ?_ | refine dLQ 11 ?_
              refine dO 12 true ?_
              first | refine s1 ?_ | refine F.c (hW) ?_
              refine ARg.nil (ATh.normal ?_)
              refine dP 13 ?_
              refine dN ?_
              rotate_left
              all_goals
                repeat' first | refine s1 ?_ | refine q1 ?_ | fail
                refine F.ret ?_
                rw [all_no hk hsb]
          | true =>
            rw [hx] at hW hsb
            repeat' first | refine s1 ?_ | refine q1 ?_ | fail
            refine AW.draw 21 G.mixed (by kernel_rfl) ?_
            refine dP 0 ?_
            first | refine dL 1 ?_ | refine dLQ 1 ?_
            refine dP 2 ?_
            first | refine dL 3 ?_ | refine dLQ 3 ?_
            refine dP 4 ?_
            first | refine dP 5 ?_ | refine dQ 5 ?_
            first | refine dL 6 ?_ | refine dLQ 6 ?_
            refine dP 7 ?_
            refine dP 8 ?_
            refine dP 9 ?_
            first | refine dL 10 ?_ | refine dLQ 10 ?_
            refine dP 11 ?_
            first | refine dP 12 ?_ | refine dQ 12 ?_
            first | refine dL 13 ?_ | refine dLQ 13 ?_
            first | refine dP 14 ?_ | refine dQ 14 ?_
            first | refine dL 15 ?_ | refine dLQ 15 ?_
            refine ARA.any [16, 20] (by kernel_rfl) (by simp) ?_
            intro k hk
            simp only [List.mem_cons, List.not_mem_nil, or_false] at hk
            rcases hk with rfl | rfl
            refine ⟨_, true, rfl, rfl, ?_⟩
            first | refine s1 ?_ | refine F.c (hI) ?_
            refine ARg.nil (ATh.normal ?_)
            refine dP 17 ?_
            refine dP 18 ?_
            refine dP 19 ?_
            refine dO 20 true ?_
            refine s1 ?_
            refine ARg.nil (ATh.normal ?_)
            refine dO 21 false ?_
            first | refine s1 ?_ | refine q1 ?_
            refine ARg.nil (ATh.normal ?_)
            refine dP 22 ?_
            refine dN ?_
            rotate_left
            refine ⟨_, true, rfl, rfl, ?_⟩
            refine s1 ?_
            refine ARg.nil (ATh.normal ?_)
            refine dO 16 true ?_
            first | refine s1 ?_ | refine F.c (hI) ?_
            refine ARg.nil (ATh.normal ?_)
            refine dP 17 ?_
            refine dP 18 ?_
            refine dP 19 ?_
            refine dO 21 false ?_
            first | refine s1 ?_ | refine q1 ?_
            refine ARg.nil (ATh.normal ?_)
            refine dP 22 ?_
            refine dN ?_
            rotate_left
            all_goals
              repeat' first | refine s1 ?_ | refine q1 ?_ | fail
              refine AW.draw 14 G.mixed (by kernel_rfl) ?_
              refine dP 0 ?_
              first | refine dL 1 ?_ | refine dLQ 1 ?_
              first | refine dL 2 ?_ | refine dLQ 2 ?_
              refine dP 3 ?_
              refine dP 4 ?_
              refine dP 5 ?_
              first | refine dL 6 ?_ | refine dLQ 6 ?_
              refine dP 7 ?_
              first | refine dP 8 ?_ | refine dQ 8 ?_
              first | refine dL 9 ?_ | refine dLQ 9 ?_
              first | refine dP 10 ?_ | refine dQ 10 ?_
              first | refine dL 11 ?_ | refine dLQ 11 ?_
              refine dO 12 true ?_
              first | refine s1 ?_ | refine F.c (hW) ?_
              refine ARg.nil (ATh.normal ?_)
              refine dP 13 ?_
              refine dN ?_
              rotate_left
              all_goals
                repeat' first | refine s1 ?_ | refine q1 ?_ | fail
                exact ⟨k + 1, F.fit ⟨rfl, trivial⟩ trivial, ⟨by omega, snocP i2 hsb⟩, by omega⟩
        · obtain rfl : k = r.m.length := by omega
          repeat' first | refine s1 ?_ | refine q1 ?_ | fail
          refine F.ret ?_
          rw [all_yes i2]
    · rw [decide_eq_false hl, Bool.false_and]
      repeat' first | refine s1 ?_ | refine q1 ?_ | (refine kR ?_; first | refine F.c (hR) ?_) | fail
      (refine kZ ?_; exact F.ret rfl)
end Go.Proofs.YtedjajokbdokhaaGreat.V
