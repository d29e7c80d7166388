/- Contracts: zero and simple representations of the reference, simple ones of the program. -/
import Derived.Test.YtanembgijdkagaaQpB2
namespace Go.Proofs.Ytanembgijdkagaa.V
open V.Enc (enc)
open Go.RowKit G D
set_option linter.unusedVariables false
set_option linter.unusedSimpArgs false
set_option maxHeartbeats 400000
attribute [local irreducible] AW ARg ARA ARet MRet ASil AC AM
theorem l8Zero_a (p : Int) (q : Quiv) (d : List Int) (hq : okQ q = true) (hl : (d.length : Int) = q.n) (hd : ∀ j, j < d.length → 0 ≤ d.getD j default ∧ d.getD j default ≤ 1024) : AC Try.prog 39 [.i p, .agg (enc false q), ar false d] [.agg (enc true (zeroR p q d))] := by
  refine AC.go Try.func39 Try.ntmps39 rfl rfl fun w0 hw => ?_; simp [WfL, WfA, E_length, Enc.enc, In64] at hw
  have h5 := okQ_spec hq
  have hA := l6Copy_a q (by omega)
  repeat' first | refine s1 ?_ | (refine kR ?_; first | refine F.c (hA) ?_ | refine F.aLN (α := Int) ?_) | fail
  refine AW.openV (o := 5) (j := 5) 3 rfl rfl (.inr rfl) rfl ?_
  refine F.loop (σ := Nat) [8, 17, 18, 19, 20, 21, 22, 23, 24, 25, 26, 27, 28, 29, 30, 31, 32, 33, 34, 35, 36, 37, 38, 39, 40, 41, 42, 43, 44, 45] (fun k => [(8, .i k)]) (fun k => [(5, .live false 6 [[.i p, .i q.n, .sl 2 q.fr.length 0 q.fr.length, .sl 3 q.to.length 0 q.to.length, .sl 4 d.length 0 d.length, .sl 6 k 0 k]]), (6, .live false 3 (E true ((zeroMs q d).take k)))]) (fun k => k ≤ q.fr.length) (fun k => q.fr.length - k) 0 ⟨rfl, trivial⟩ ⟨rfl, rfl, trivial⟩ (Nat.zero_le _) ?_
  rintro k h1
  have hzl := zeroMs_len q d
  have hp : ((zeroMs q d).take k).length = k := by rw [List.length_take]; omega
  by_cases hlt : k < q.fr.length
  · have f := okQ_fr hq hlt
    have t := okQ_to hq hlt
    have f' : 0 ≤ q.fr.getD k default ∧ q.fr.getD k default < q.n := f
    have t' : 0 ≤ q.to.getD k default ∧ q.to.getD k default < q.n := t
    have df := hd (q.fr.getD k default).toNat (by omega)
    have dt := hd (q.to.getD k default).toNat (by omega)
    have hZ := l3Zero_a _ _ dt df
    repeat' first | refine s1 ?_ | fail
    refine AW.draw 20 G.mixed (by kernel_rfl) ?_
    refine dP 0 ?_
    refine dL 1 ?_
    refine dP 2 ?_
    refine dP 3 ?_
    refine dL 4 ?_
    refine dP 5 ?_
    refine dP 6 ?_
    refine dL 7 ?_
    refine dP 8 ?_
    refine dL 9 ?_
    refine dP 10 ?_
    refine dP 11 ?_
    refine dL 12 ?_
    refine dP 13 ?_
    refine dP 14 ?_
    refine dL 15 ?_
    refine dP 16 ?_
    refine dL 17 ?_
    refine dO 18 true ?_
    first | refine s1 ?_ | refine F.c (hZ) ?_
    refine ARg.nil (ATh.normal ?_)
    refine dO 19 true ?_
    refine s1 ?_
    refine ARg.nil (ATh.normal ?_)
    refine dO 20 false ?_
    first | refine s1 ?_ | refine F.a1 Mat ?_
    refine ARg.nil (ATh.normal ?_)
    refine dP 21 ?_
    refine dO 22 false ?_
    refine s1 ?_
    refine ARg.nil (ATh.normal ?_)
    refine dN ?_
    repeat' first | refine s1 ?_ | fail
    exact ⟨k + 1, F.fit ⟨rfl, trivial⟩ ⟨rfl, obE (by rw [zeroMs_take hlt]; rfl), trivial⟩, by omega, by omega⟩
  · obtain rfl : k = q.fr.length := by omega
    rw [← hzl, List.take_length]
    repeat' first | refine s1 ?_ | fail
    refine F.ret rfl
end Go.Proofs.Ytanembgijdkagaa.V
