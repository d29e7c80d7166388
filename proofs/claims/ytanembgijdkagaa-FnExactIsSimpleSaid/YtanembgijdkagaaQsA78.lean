/- Products of matrices with combinations; sums of parts are parts; the radical is one. No program is walked. -/
import Derived.Test.YtanembgijdkagaaQsA70
namespace Go.Proofs.Ytanembgijdkagaa.V
open Go.RowKit G D
set_option linter.unusedVariables false
set_option linter.unusedSimpArgs false
set_option maxHeartbeats 1000000
set_option maxRecDepth 4000
theorem addS_ss {p : Int} {a b : Spc} (ha : isSpc p a = true) (hb : isSpc p b = true) (hn : b.n = a.n) : SS p (addS p a b).b.length (a.b.length + b.b.length) a.n.toNat (vecF (addS p a b).b) (vecF (a.b ++ b.b)) := by
  obtain ⟨h1, h2, h3, h4⟩ := isSpc_spec ha
  obtain ⟨_, _, g3, g4⟩ := isSpc_spec hb
  rw [hn] at g4
  have := span_ss h1 (h4.app g4).bd
  rw [List.length_append] at this
  show SS p (spanL p a.n.toNat (a.b ++ b.b)).length _ _ (vecF (spanL p a.n.toNat (a.b ++ b.b))) _
  unfold spanL
  rw [List.length_append]
  exact this
theorem addS_l {p : Int} {a b : Spc} (ha : isSpc p a = true) (hb : isSpc p b = true) (hn : b.n = a.n) {i : Nat} (hi : i < a.b.length) : Sp p (addS p a b).b.length a.n.toNat (vecF (addS p a b).b) (vecF a.b i) :=
  ((addS_ss ha hb hn).2 i (by omega)).cg fun j _ => by rw [vecF_app_l hi]; exact .refl _
theorem addS_r {p : Int} {a b : Spc} (ha : isSpc p a = true) (hb : isSpc p b = true) (hn : b.n = a.n) {i : Nat} (hi : i < b.b.length) : Sp p (addS p a b).b.length a.n.toNat (vecF (addS p a b).b) (vecF b.b i) :=
  ((addS_ss ha hb hn).2 (a.b.length + i) (by omega)).cg fun j _ => by rw [vecF_app_r]; exact .refl _
theorem arrow_ok {r : Rep} (h : isRep r = true) {i : Nat} (hi : i < r.m.length) : isMat r.p (r.m.getD i default) = true ∧ (0 ≤ r.q.fr.getD i default ∧ (r.q.fr.getD i default).toNat < r.d.length) ∧ (0 ≤ r.q.to.getD i default ∧ (r.q.to.getD i default).toNat < r.d.length) ∧ (r.m.getD i default).c = r.d.getD (r.q.fr.getD i default).toNat default ∧ (r.m.getD i default).r = r.d.getD (r.q.to.getD i default).toNat default := by
  obtain ⟨h1, h2, h3, h4⟩ := isRep_spec h
  obtain ⟨c1, c2, c3, _⟩ := areDims_spec h2
  have f : 0 ≤ r.q.fr.getD i default ∧ r.q.fr.getD i default < r.q.n := okQ_fr c1 (by omega)
  have t : 0 ≤ r.q.to.getD i default ∧ r.q.to.getD i default < r.q.n := okQ_to c1 (by omega)
  have hm := h4 i hi
  simp only [fitM, Bool.and_eq_true, decide_eq_true_eq] at hm
  exact ⟨hm.1.1, ⟨f.1, by omega⟩, ⟨t.1, by omega⟩, hm.1.2, hm.2⟩
theorem isSub_mk {r : Rep} {s : List Spc} (h1 : isRep r = true) (h2 : s.length = r.d.length) (h3 : ∀ v, v < s.length → isSpc r.p (s.getD v default) = true ∧ (s.getD v default).n = r.d.getD v default) (h4 : ∀ i, i < r.m.length → subAt r s i = true) : isSub r s = true := by
  simp only [isSub, Bool.and_eq_true, decide_eq_true_eq, List.all_eq_true]
  refine ⟨h1, h2, fun v hv => ?_, fun i hi => h4 i (by simpa using hi)⟩
  have := h3 v (by simpa using hv)
  simpa [spcAt] using this
end Go.Proofs.Ytanembgijdkagaa.V
