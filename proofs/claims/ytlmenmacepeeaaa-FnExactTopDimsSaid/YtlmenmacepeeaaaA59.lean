/- Contracts: the radical, as the reference builds it; both results. -/
import Derived.Test.YtlmenmacepeeaaaA58
import Derived.Test.YtlmenmacepeeaaaA56
namespace Go.Proofs.Ytlmenmacepeeaaa.V
open V.Enc (enc)
open Go.RowKit G D
set_option linter.unusedVariables false
set_option linter.unusedSimpArgs false
set_option maxHeartbeats 4000000
set_option maxRecDepth 4000
attribute [local irreducible] AW ARg ARA ARet MRet ASil AC AM

theorem l12Zero_a (r : Rep) (h : r.d.length ≤ 1000) : AC Try.prog 114 [.agg (enc false r)] [.dt true 2 (E true (radK r 0))] := by
  refine AC.go Try.func114 Try.ntmps114 rfl rfl fun w0 hw => ?_; simp [WfL, WfA, E_length, Enc.enc, In64] at hw
  unfold radK
  repeat' first | refine s1 ?_ | fail
  refine AW.open 3 2 (.inr rfl) ?_
  refine F.loop (σ := Nat) [3, 4, 6, 7, 8, 9, 10, 11, 12, 13, 14, 15, 16, 17, 18, 19, 20, 21, 22] (fun k => [(3, .sl 1 k 0 k), (4, .i k)]) (fun k => [(1, .live false 2 (E true ((r.d.take k).map fun d => (⟨d, []⟩ : Spc))))]) (fun k => k ≤ r.d.length) (fun k => r.d.length - k) 0 ⟨rfl, rfl, trivial⟩ ⟨rfl, trivial⟩ (Nat.zero_le _) ?_
  rintro k k1
  have hp : ((r.d.take k).map fun d => (⟨d, []⟩ : Spc)).length = k := by simp; omega
  by_cases hk : k < r.d.length
  · have hts := zeroS_take hk
    generalize (r.d.take k).map (fun d => (⟨d, []⟩ : Spc)) = X at hts hp ⊢
    repeat' first | refine s1 ?_ | (refine kR ?_; first | refine F.a1 Spc (a := ⟨r.d.getD k default, []⟩) ?_ (hmv := .at1 rfl (.em 1 .nil))) | fail
    exact ⟨k + 1, F.fit ⟨rfl, rfl, trivial⟩ ⟨obE (by rw [hts]), trivial⟩, by omega, by omega⟩
  · obtain rfl : k = r.d.length := by omega
    rw [List.take_length]
    have hml : (r.d.map fun d => (⟨d, []⟩ : Spc)).length = r.d.length := by simp
    rw [← hml]
    repeat' first | refine s1 ?_ | fail
    (refine kZ ?_; exact F.ret rfl)
theorem matImg_a {p : Int} {m : Mat} (h : isMat p m = true) : AC Try.prog 117 [.i p, .agg (enc false m)] [.dt true 1 (E true (pivC m.r.toNat (ent m) (redK p m.r.toNat (ent m) m.c.toNat).2))] := by
  obtain ⟨h0, h1, h2, h3, h4⟩ := isMat_spec h
  have := l4Image_a p m.r.toNat m.c.toNat (ent m) h0 (by omega) (by omega) (ent_bd h)
  rw [isMat_tm h] at this
  exact this
theorem pivC_vec {p : Int} {m : Mat} (h : isMat p m = true) : VecB p m.r.toNat (pivC m.r.toNat (ent m) (redK p m.r.toNat (ent m) m.c.toNat).2) ∧ (pivC m.r.toNat (ent m) (redK p m.r.toNat (ent m) m.c.toNat).2).length ≤ 8 := by
  obtain ⟨h0, h1, h2, h3, h4⟩ := isMat_spec h
  have hp := isF_pos h0
  obtain ⟨b1, b2, b3, b4⟩ := redK_bd (show 0 < p by omega) (ent_bd h) m.c.toNat
  refine ⟨fun x hx => ?_, by rw [pivC_len]; omega⟩
  simp only [pivC, List.mem_map] at hx
  obtain ⟨k, hk, rfl⟩ := hx
  exact ⟨rowL_len .., fun j hj => by rw [rowL_get _ hj]; exact ent_bd h j hj k (b4 k hk)⟩
theorem imgL5_a {p : Int} {m : Mat} (h : isMat p m = true) : AC Try.prog 116 [.i p, .i m.r, ar false (pivC m.r.toNat (ent m) (redK p m.r.toNat (ent m) m.c.toNat).2)] [.agg (enc true (imgS p m))] := by
  obtain ⟨h0, h1, h2, h3, h4⟩ := isMat_spec h
  obtain ⟨v1, v2⟩ := pivC_vec h
  have := l5Span_a p m.r.toNat _ h0 (by omega) (by omega) v1
  rw [span_cols h0 (ent_bd h), Int.toNat_of_nonneg h1.1] at this
  exact this
def radP (r : Rep) : List Spc × Bool := if isRep r = true then (radL r, true) else ([], false)
theorem specRadicalOf_a (r : Rep) : AC Try.prog 44 [.agg (enc false r)] [.dt true 2 (E true (radP r).1), .b (radP r).2] := by
  refine AC.go Try.func44 Try.ntmps44 rfl rfl fun w0 hw => ?_; simp [WfL, WfA, E_length, Enc.enc, In64] at hw
  have hF := specIsRep_a r
  unfold radP
  cases h : isRep r with
  | false =>
    rw [h] at hF
    rw [if_neg (by simp)]
    repeat' first | refine s1 ?_ | (refine kR ?_; first | refine F.c (hF) ?_) | fail
    (refine kZ ?_; exact F.ret rfl)
  | true =>
    rw [h] at hF
    rw [if_pos rfl]
    obtain ⟨r1, r2, r3, r4⟩ := isRep_spec h
    obtain ⟨c1, c2, c3, _⟩ := areDims_spec r2
    have h5 := okQ_spec c1
    have hZ := l12Zero_a r (by omega)
    have hl0 := radK_len r 0
    repeat' first | refine s1 ?_ | (refine kR ?_; first | refine F.c (hF) ?_ | refine F.c (hZ) ?_) | fail
    refine F.loop (σ := Nat) [5, 6, 13, 14, 15, 16, 17, 18, 19, 20, 21, 22, 23, 24, 25, 26, 27, 28, 29, 30, 31, 32, 33, 34, 35, 36, 37, 38, 39, 40, 41, 42, 43, 44, 45, 46, 47, 48, 49, 50, 51, 52, 53, 54] (fun k => [(5, .i k)]) (fun k => [(1, .live false 2 (E true (radK r k)))]) (fun k => k ≤ r.q.fr.length) (fun k => r.q.fr.length - k) 0 ⟨rfl, trivial⟩ ⟨rfl, trivial⟩ (Nat.zero_le _) ?_
    rintro k k1
    by_cases hk : k < r.q.fr.length
    · obtain ⟨q1', q2, q3, q4⟩ := radical_m h hk
      have hkm : k < r.m.length := by omega
      obtain ⟨o1, o2⟩ := radK_ok h k (by omega) (r.q.to.getD k default).toNat q3.2
      have hL := radK_len r k
      have hIm := matImg_a q2
      have hSp := imgL5_a q2
      generalize hRL : pivC _ _ _ = RL at hIm hSp
      rw [q4] at hSp
      have hAdd := addSpaces_a r.p ((radK r k).getD (r.q.to.getD k default).toNat default) (imgS r.p (r.m.getD k default)) o2 (imgS_ok q2) (by rw [o1]; exact q4)
      have hst : radK r (k + 1) = (radK r k).set (r.q.to.getD k default).toNat (addS r.p ((radK r k).getD (r.q.to.getD k default).toNat default) (imgS r.p (r.m.getD k default))) := rfl
      have hwI := (Int.toNat_of_nonneg q3.1).symm
      generalize hww : (r.q.to.getD k default).toNat = w at hwI hst hAdd q3
      generalize radK r k = L at hst hAdd hL ⊢
      generalize imgS r.p (r.m.getD k default) = IM at hSp hAdd hst
      generalize addS r.p (L.getD w default) IM = AS at hAdd hst
      have hwl : w < L.length := by omega
      have hbl : (E true L).length = (radK r 0).length := by rw [E_length, hL, hl0]
      have hself : L.set w (L.getD w default) = L := set_self hwl
      repeat' first | refine s1 ?_ | fail
      refine AW.takeE (α := Spc) (o := 1) (k := w) (j := 1) (ls := L) rfl hwl rfl (E_length _ _) ?_
      refine AW.draw 29 G.mixed (by kernel_rfl) ?_
      refine dP 0 ?_
      refine dP 1 ?_
      refine dP 2 ?_
      refine dL 3 ?_
      refine dP 4 ?_
      refine dP 5 ?_
      first | refine dP 6 ?_ | refine dP 6 ?_ (hs := by exact (A.idxT (k := w) rfl rfl rfl hbl hwI (by omega)))
      first | refine dL 7 ?_ | refine dL 7 ?_ (hs := by exact (A.ldSG (k := w) rfl rfl hbl (by omega) (by omega) rfl rfl))
      refine dP 8 ?_
      refine dL 9 ?_
      refine dP 10 ?_
      refine dL 11 ?_
      refine dP 12 ?_
      refine dP 13 ?_
      refine dL 14 ?_
      refine dP 15 ?_
      refine dL 16 ?_
      refine dP 17 ?_
      refine dL 18 ?_
      refine dP 19 ?_
      refine dP 20 ?_
      refine dL 21 ?_
      refine dO 22 true ?_
      first | refine s1 ?_ | refine F.c (hIm) ?_
      refine ARg.nil (ATh.normal ?_)
      refine dO 23 true ?_
      first | refine s1 ?_ | refine F.c (hSp) ?_
      refine ARg.nil (ATh.normal ?_)
      refine dO 24 true ?_
      first | refine s1 ?_ | refine F.c (hAdd) ?_
      refine ARg.nil (ATh.normal ?_)
      refine dP 25 ?_
      refine dP 26 ?_
      refine dP 27 ?_
      first | refine dP 28 ?_ | refine dP 28 ?_ (hs := by exact (A.idxT (k := w) rfl rfl rfl hbl hwI (by omega)))
      refine dO 29 false ?_
      first | refine s1 ?_ | (refine F.put (α := Spc) (o := 1) (o2 := 2) (k := w) (j := 1) (v := L.getD w default) (x := L.getD w default) (ls := L) rfl rfl (E_length _ _) (E_pure _ _) rfl hwl rfl rfl ?_; rw [hself]; refine F.stGE (α := Spc) (oo := true) (v := AS) rfl rfl rfl rfl rfl (by omega) (by omega) (.at1 rfl (.mv rfl (by simp) (E_length _ _) (E_pure _ _) .nil)) rfl rfl rfl rfl rfl ?_)
      refine ARg.nil (ATh.normal ?_)
      refine dN ?_
      rotate_left
      all_goals
        rw [Nat.zero_add w]
        repeat' first | refine s1 ?_ | fail
        exact ⟨k + 1, F.fit ⟨rfl, trivial⟩ ⟨obE (by rw [hst]), trivial⟩, by omega, by omega⟩
    · obtain rfl : k = r.q.fr.length := by omega
      have hL := radK_len r r.q.fr.length
      have e : radK r r.q.fr.length = radL r := rfl
      rw [e] at hL ⊢
      generalize radL r = L at hL ⊢
      repeat' first | refine s1 ?_ | fail
      (refine kZ ?_; exact F.ret rfl)
theorem implRadicalOf_a (r : Rep) : AC Try.prog 45 [.agg (enc false r)] [.dt true 2 (E true (radP r).1), .b (radP r).2] := by
  refine AC.go Try.func45 Try.ntmps45 rfl rfl fun w0 hw => ?_; simp [WfL, WfA, E_length, Enc.enc, In64] at hw
  have hF := implIsRep_a r
  unfold radP
  cases h : isRep r with
  | false =>
    rw [h] at hF
    rw [if_neg (by simp)]
    repeat' first | refine s1 ?_ | (refine kR ?_; first | refine F.c (hF) ?_) | fail
    (refine kZ ?_; exact F.ret rfl)
  | true =>
    rw [h] at hF
    rw [if_pos rfl]
    have hR := radical_a r h
    generalize radL r = L at hR ⊢
    repeat' first | refine s1 ?_ | (refine kR ?_; first | refine F.c (hF) ?_ | refine F.c (hR) ?_) | fail
    (refine kZ ?_; exact F.ret rfl)
end Go.Proofs.Ytlmenmacepeeaaa.V
