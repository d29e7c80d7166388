/- Contracts: images of spaces, spaces within others, parts, as the reference finds them. -/
import Derived.Test.YtanembgijdkagaaQpUi
import Derived.Test.YtanembgijdkagaaQpA71
import Derived.Test.YtanembgijdkagaaQpUq
import Derived.Test.YtanembgijdkagaaQpB6
import Derived.Test.YtanembgijdkagaaQpA15
import Derived.Test.YtanembgijdkagaaQpA6
namespace Go.Proofs.Ytanembgijdkagaa.V
open V.Enc (enc)
open Go.RowKit G D
set_option linter.unusedVariables false
set_option linter.unusedSimpArgs false
set_option maxHeartbeats 4000000
set_option maxRecDepth 4000
attribute [local irreducible] AW ARg ARA ARet MRet ASil AC AM ARI
theorem isVec_of {p : Int} {v : List Int} (hF : isF p = true) (hl : v.length ≤ 64) (hb : ∀ j, j < v.length → 0 ≤ v.getD j default ∧ v.getD j default ≤ p - 1) : isVec p v = true := by
  simp only [isVec, Bool.and_eq_true, decide_eq_true_eq]
  exact ⟨⟨hF, hl⟩, allIn_all hb⟩
theorem specApply_a {p : Int} {m : Mat} {v : List Int} (hm : isMat p m = true) (hn : v.length = m.c.toNat) (hb : ∀ j, j < m.c.toNat → 0 ≤ v.getD j default ∧ v.getD j default ≤ p - 1) : AC Try.prog 89 [.i p, .agg (enc false m), ar false v] [.dt true 1 (E true (appV p m v)), .b true] := by
  refine AC.go Try.func89 Try.ntmps89 rfl rfl fun w0 hw => ?_; simp [WfL, WfA, E_length, Enc.enc, In64] at hw
  obtain ⟨h0, h1, h2, h3, h4⟩ := isMat_spec hm
  have hM := specIsMatrix_a p m
  rw [hm] at hM
  have hV := specIsVector_a p v
  rw [isVec_of h0 (by omega) (fun j hj => hb j (by omega))] at hV
  have hT := l3Multiply_a p m.r.toNat m.c.toNat 1 (ent m) (fcF [v]) h0 (by omega) (by omega) (by omega) (ent_bd hm) (fun i hi j hj => by
    obtain rfl : j = 0 := by omega
    exact hb i hi)
  rw [isMat_tm hm] at hT
  have e : tm m.r.toNat 1 (mulF p (ent m) (fcF [v]) m.c.toNat) = ⟨(m.r.toNat : Int), 1, appV p m v⟩ := by
    unfold tm appV
    rw [ent_fc]; rfl
  have e0 : tm m.c.toNat 1 (fcF [v]) = ⟨(v.length : Int), 1, v⟩ := by
    unfold tm
    rw [tab_one, hn]
    congr 1
    exact rowL_of hn
  rw [e, e0] at hT
  have hcn : (v.length : Int) = m.c := by omega
  generalize appV p m v = X at hT ⊢
  repeat' first | refine s1 ?_ | refine q1 ?_ | (refine kR ?_; first | refine F.c (hM) ?_ | refine F.c (hV) ?_) | fail
  refine AW.draw 12 G.mixed (by kernel_rfl) ?_
  refine dP 0 ?_
  first | refine dL 1 ?_ | refine dLQ 1 ?_
  refine dP 2 ?_
  refine dP 3 ?_
  refine dP 5 ?_
  refine dO 4 true ?_
  refine s1 ?_
  refine ARg.nil (ATh.normal ?_)
  refine dO 6 true ?_
  first | refine s1 ?_ | refine F.aLN Int (oo := true) ?_
  refine ARg.nil (ATh.normal ?_)
  refine dP 7 ?_
  refine dO 8 true ?_
  first | refine s1 ?_ | refine F.c (hT) ?_
  refine ARg.nil (ATh.normal ?_)
  first | refine dP 9 ?_ (hs := by exact (A.fldG ⟨Try.underlying68⟩ rfl (inferInstance : One Try.prog 22) rfl rfl)) | refine dP 9 ?_
  refine dP 10 ?_
  refine dP 11 ?_
  refine dN ?_
  rotate_left
  all_goals
    repeat' first | refine s1 ?_ | refine q1 ?_ | fail
    (refine kZ ?_; exact F.ret rfl)
end Go.Proofs.Ytanembgijdkagaa.V
