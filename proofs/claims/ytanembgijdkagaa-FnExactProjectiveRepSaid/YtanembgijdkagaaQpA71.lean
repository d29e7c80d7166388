/- Contracts: spaces within others, images of spaces, valid spaces, as the program finds them. -/
import Derived.Test.YtanembgijdkagaaQpUf
import Derived.Test.YtanembgijdkagaaQpA78
import Derived.Test.YtanembgijdkagaaQpUq
import Derived.Test.YtanembgijdkagaaQpB6
import Derived.Test.YtanembgijdkagaaQpA15
import Derived.Test.YtanembgijdkagaaQpA6
import Derived.Test.YtanembgijdkagaaQpB4
import Derived.Test.YtanembgijdkagaaQpB1
import Derived.Test.YtanembgijdkagaaQpUd
namespace Go.Proofs.Ytanembgijdkagaa.V
open V.Enc (enc)
open Go.RowKit G D
set_option linter.unusedVariables false
set_option linter.unusedSimpArgs false
set_option maxHeartbeats 4000000
set_option maxRecDepth 4000
attribute [local irreducible] AW ARg ARA ARet MRet ASil AC AM
theorem ent_fc (m : Mat) (v : List Int) (n r : Nat) (p : Int) : tab r 1 (mulF p (ent m) (fcF [v]) n) = rowL r fun i => sumN (fun k => ent m i k * v.getD k default) n % p := by
  rw [tab_one]
  refine rowL_ext fun i _ => ?_
  unfold mulF
  rw [dotK_sum]
  rfl
theorem apply_a {p : Int} {m : Mat} {v : List Int} (hm : isMat p m = true) (hn : v.length = m.c.toNat) (hb : ∀ j, j < m.c.toNat → 0 ≤ v.getD j default ∧ v.getD j default ≤ p - 1) : AC Try.prog 92 [.i p, .agg (enc false m), ar false v] [.dt true 1 (E true (appV p m v))] := by
  refine AC.go Try.func92 Try.ntmps92 rfl rfl fun w0 hw => ?_; simp [WfL, WfA, E_length, Enc.enc, In64] at hw
  obtain ⟨h0, h1, h2, h3, h4⟩ := isMat_spec hm
  have hFC := fromColumns_a m.c.toNat [v] (by omega) (by simp) (fun k hk => by
    obtain rfl : k = 0 := by simpa using hk
    exact hn)
  rw [show [v].length = 1 from rfl, Int.toNat_of_nonneg h2.1] at hFC
  have hT := times_a p m.r.toNat m.c.toNat 1 (ent m) (fcF [v]) h0 (by omega) (by omega) (by omega) (ent_bd hm) (fun i hi j hj => by
    obtain rfl : j = 0 := by omega
    exact hb i hi)
  rw [isMat_tm hm] at hT
  have e : tm m.r.toNat 1 (mulF p (ent m) (fcF [v]) m.c.toNat) = ⟨(m.r.toNat : Int), 1, appV p m v⟩ := by
    unfold tm appV
    rw [ent_fc]; rfl
  rw [e] at hT
  generalize appV p m v = X at hT ⊢
  generalize tm m.c.toNat 1 (fcF [v]) = T1 at hFC hT
  repeat' first | refine s1 ?_ | refine q1 ?_ | fail
  refine AW.draw 10 G.mixed (by kernel_rfl) ?_
  refine dP 0 ?_
  first | refine dL 1 ?_ | refine dLQ 1 ?_
  refine dP 2 ?_
  first | refine dL 3 ?_ | refine dLQ 3 ?_
  refine dP 4 ?_
  refine dO 5 true ?_
  refine s1 ?_
  refine ARg.nil (ATh.normal ?_)
  refine dO 6 true ?_
  first | refine s1 ?_ | refine F.c (hFC) ?_ | refine F.c (hT) ?_
  refine ARg.nil (ATh.normal ?_)
  refine dO 7 true ?_
  first | refine s1 ?_ | refine F.c (hFC) ?_ | refine F.c (hT) ?_
  refine ARg.nil (ATh.normal ?_)
  first | refine dP 8 ?_ (hs := by exact (A.fldG ⟨Try.underlying68⟩ rfl (inferInstance : One Try.prog 22) rfl rfl)) | refine dP 8 ?_
  refine dP 9 ?_
  refine dN ?_
  rotate_left
  all_goals
    repeat' first | refine s1 ?_ | refine q1 ?_ | fail
    (refine kZ ?_; exact F.ret rfl)
end Go.Proofs.Ytanembgijdkagaa.V
