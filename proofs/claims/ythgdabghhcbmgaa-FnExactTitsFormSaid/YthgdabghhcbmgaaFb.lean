/- Contracts of the laws' own functions over quivers. -/
import Derived.Test.YthgdabghhcbmgaaFa
import Derived.Test.YthgdabghhcbmgaaPa
namespace Go.Proofs.Ythgdabghhcbmgaa.F
open Go.RowKit G D
set_option linter.unusedVariables false
set_option maxHeartbeats 4000000

def szQ (q : Quiv) (left : Int) : Int := if szL q.fr.length left < 0 then -1 else if szL q.to.length (szL q.fr.length left) < 0 then -1 else szL q.to.length (szL q.fr.length left)
theorem szQ_bd {q : Quiv} (h : 0 ≤ szQ q 1048576) : q.fr.length ≤ 1048576 ∧ q.to.length ≤ 1048576 := by
  unfold szQ szL at h
  split at h
  · omega
  · split at h
    · omega
    · constructor <;> omega
theorem szQuiver_c (q : Quiv) (vs : List Value) (F : List Nat) (left : Int) (w : World) (hq : quivR.V w q vs F) (h0 : 0 ≤ left) (h1 : left ≤ 1048576) :
    Run Try.prog 11 [.agg vs.toArray, .int .i64 left] w fun v w' => v = .int .i64 (szQ q left) ∧ Later w w' := by
  obtain ⟨v1, v2, F1, F2, rfl, rfl, hn, hq1, hq2⟩ := quivR.open hq
  obtain ⟨p1, c1, rfl, hpc, hcm, hp⟩ := listR.open1 hq1
  obtain ⟨p2, c2, rfl, hpc2, hcm2, hp2⟩ := listR.open1 hq2
  have hs : szL q.fr.length left ≤ 1048576 := by unfold szL; split <;> omega
  refine Run.go Try.func11 Try.ntmps11 rfl rfl ?_
  repeat' first | refine go1 ?_ | (refine jR ?_; first | refine Rg.box rfl rfl rfl rfl (fun b w1 hb hs hl hB => ?_) | (refine Rg.call (szIntS_c _ _ _ _ (by unfold maxLen; omega) (by omega) (by omega) _) rfl rfl rfl ?_; rintro v w' ⟨rfl, rfl⟩)) | (refine go2 ?_ ?_ <;> intro hc)
  · refine Fin.oneI rfl rfl ⟨?_, hl⟩
    simp [szQ, hc]
  · refine Fin.oneI rfl rfl ⟨?_, hl⟩
    simp [szQ, *]
  · refine Fin.oneI rfl rfl ⟨?_, hl⟩
    simp [szQ, *]

theorem toQuiver_c (q : Quiv) (vs : List Value) (F : List Nat) (w : World) (hq : quivR.V w q vs F) (hn1 : q.fr.length ≤ 1048576) (hn2 : q.to.length ≤ 1048576) :
    Run Try.prog 13 [.agg vs.toArray] w fun v w' => Later w w' ∧ ∃ us F', v = .agg us.toArray ∧ New quivR w q us w' F' := by
  obtain ⟨v1, v2, F1, F2, rfl, rfl, hn, hq1, hq2⟩ := quivR.open hq
  obtain ⟨p1, c1, rfl, hpc, hcm, hp⟩ := listR.open1 hq1
  obtain ⟨p2, c2, rfl, hpc2, hcm2, hp2⟩ := listR.open1 hq2
  have hH := Hp.init w
  refine Run.go Try.func13 Try.ntmps13 rfl rfl ?_
  repeat' first | refine go1 ?_ | (refine go2 ?_ ?_ <;> intro hc) | (clear hH; intro b w1 hH) | (clear hH; intro w1 hH)
  refine Rg.call (toIntS_c q.fr _ _ _ (intsR.later hq1 hH.low) hn1) rfl rfl rfl ?_
  rintro v1 w2 ⟨hl1, G1, hN1⟩
  have hg1 := hH.low.size
  replace hH := hH.got hl1 hN1
  obtain ⟨p3, c3, rfl, h31, h32, h33⟩ := listR.open1 hN1.1
  repeat' first | refine go1 ?_ | (refine go2 ?_ ?_ <;> intro hc) | (clear hH; intro b w1 hH) | (clear hH; intro w1 hH)
  refine Rg.call (toIntS_c q.to _ _ _ (intsR.later hq2 hH.low) hn2) rfl rfl rfl ?_
  rintro v2 w3 ⟨hl2, G2, hN2⟩
  have hg2 := hH.low.size
  have hlt := hH.lt 0 rfl
  replace hH := hH.got hl2 hN2
  obtain ⟨p4, c4, rfl, h41, h42, h43⟩ := listR.open1 hN2.1
  repeat' first | refine go1 ?_ | (refine go2 ?_ ?_ <;> intro hc) | (clear hH; intro b w1 hH) | (clear hH; intro w1 hH)
  refine Fin.of1 rfl (Res.agg rfl (hH.blk 1 rfl).cells rfl) ⟨hH.low, _, G1 ++ G2, rfl, quivR.mk hn (hH.data 1 rfl hN1.1) (hH.data 0 rfl hN2.1), nodup_append_lt hN1.2.1 hN2.2.1 hlt hN2.2.2.1, all_append ?_ ?_, (hH.opn 1 rfl hN1.2.2.2).append (hH.opn 0 rfl hN2.2.2.2)⟩
  · intro k hk; have := hN1.2.2.1 k hk; omega
  · intro k hk; have := hN2.2.2.1 k hk; omega

theorem eqQuiver_c (a a' : Quiv) (va vb : List Value) (Fa Fb : List Nat) (w : World) (ha : quivR.V w a va Fa) (hb : quivR.V w a' vb Fb) :
    Run Try.prog 16 [.agg va.toArray, .agg vb.toArray] w fun v w' => v = .bool (decide (a.n = a'.n) && decide (a.fr = a'.fr) && decide (a.to = a'.to)) ∧ Later w w' := by
  obtain ⟨v1, v2, F1, F2, rfl, rfl, hn, ha1, ha2⟩ := quivR.open ha
  obtain ⟨p1, c1, rfl, _⟩ := listR.open1 ha1
  obtain ⟨p2, c2, rfl, _⟩ := listR.open1 ha2
  obtain ⟨v3, v4, F3, F4, rfl, rfl, hn', hb1, hb2⟩ := quivR.open hb
  obtain ⟨p3, c3, rfl, _⟩ := listR.open1 hb1
  obtain ⟨p4, c4, rfl, _⟩ := listR.open1 hb2
  have hH := Hp.init w
  refine Run.go Try.func16 Try.ntmps16 rfl rfl ?_
  repeat' first | refine go1 ?_ | (refine go2 ?_ ?_ <;> intro hc) | (clear hH; intro b w1 hH) | (clear hH; intro w1 hH)
  · exact Fin.oneB rfl rfl ⟨by simp [hc], hH.low⟩
  · have e1 : a.n = a'.n := by omega
    refine Rg.call (eqIntS_c a.fr a'.fr _ _ _ _ _ (intsR.later ha1 hH.low) (intsR.later hb1 hH.low)) rfl rfl rfl ?_
    rintro v w2 ⟨rfl, hl2⟩
    replace hH := hH.later hl2
    by_cases e2 : a.fr = a'.fr
    · rw [decide_eq_true e2]
      repeat' first | refine go1 ?_ | (refine go2 ?_ ?_ <;> intro hc) | (clear hH; intro b w1 hH) | (clear hH; intro w1 hH)
      refine Rg.call (eqIntS_c a.to a'.to _ _ _ _ _ (intsR.later ha2 hH.low) (intsR.later hb2 hH.low)) rfl rfl rfl ?_
      rintro v w2 ⟨rfl, hl2⟩
      replace hH := hH.later hl2
      by_cases e3 : a.to = a'.to
      · rw [decide_eq_true e3]
        repeat' first | refine go1 ?_ | (refine go2 ?_ ?_ <;> intro hc) | (clear hH; intro b w1 hH) | (clear hH; intro w1 hH)
        exact Fin.oneB rfl rfl ⟨by simp [e1], hH.low⟩
      · rw [decide_eq_false e3]
        repeat' first | refine go1 ?_ | (refine go2 ?_ ?_ <;> intro hc) | (clear hH; intro b w1 hH) | (clear hH; intro w1 hH)
        exact Fin.oneB rfl rfl ⟨by simp, hH.low⟩
    · rw [decide_eq_false e2]
      repeat' first | refine go1 ?_ | (refine go2 ?_ ?_ <;> intro hc) | (clear hH; intro b w1 hH) | (clear hH; intro w1 hH)
      exact Fin.oneB rfl rfl ⟨by simp, hH.low⟩
end Go.Proofs.Ythgdabghhcbmgaa.F
