/- Contracts: pairs of parts that complement each other. -/
import Derived.Test.YtanembgijdkagaaQsUi
import Derived.Test.YtanembgijdkagaaQsA72
import Derived.Test.YtanembgijdkagaaQsA78
import Derived.Test.YtanembgijdkagaaQsUq
import Derived.Test.YtanembgijdkagaaQsB4
import Derived.Test.YtanembgijdkagaaQsB5
import Derived.Test.YtanembgijdkagaaQsB6
import Derived.Test.YtanembgijdkagaaQsA51
import Derived.Test.YtanembgijdkagaaQsB8
import Derived.Test.YtanembgijdkagaaQsC1
import Derived.Test.YtanembgijdkagaaQsA80
namespace Go.Proofs.Ytanembgijdkagaa.V
open V.Enc (enc)
open Go.RowKit G D
set_option linter.unusedVariables false
set_option linter.unusedSimpArgs false
set_option maxHeartbeats 4000000
set_option maxRecDepth 4000
attribute [local irreducible] AW ARg ARA ARet MRet ASil AC AM ARI
theorem specSubDims_a (r : Rep) (s : List Spc) (h : isSub r s = true) : AC Try.prog 78 [.agg (enc false r), ar false s] [.dt true 1 (E true (dimS s))] := by
  refine AC.go Try.func78 Try.ntmps78 rfl rfl fun w0 hw => ?_; simp [WfL, WfA, E_length, Enc.enc, In64] at hw
  have hF := specIsSub_a r s
  rw [h] at hF
  obtain ⟨h1, h2, h3, h4⟩ := isSub_spec h
  obtain ⟨r1, r2, r3, r4⟩ := isRep_spec h1
  obtain ⟨c1, c2, c3, _⟩ := areDims_spec r2
  have h5 := okQ_spec c1
  have hll := dimS_len s
  have hts := fun k hk => dimS_take (l := s) (k := k) hk
  have hTs : ∀ k, dimS (s.take k) = (dimS s).take k := fun k => by simp [dimS]
  simp only [hTs] at hts
  have hbb : ∀ v, v < s.length → (s.getD v default).b.length ≤ 16 := fun v hv => (isSpc_spec (h3 v hv).1).2.2.1
  generalize dimS s = T at hll hts ⊢
  repeat' first | refine s1 ?_ | fail
  refine AW.open 5 1 (.inr rfl) ?_
  refine F.loop (σ := Nat) [5, 6, 8, 9, 10, 11, 12, 13, 14, 15, 16, 17, 18, 19, 20, 21, 22, 23, 24, 25, 26, 27] (fun k => [(5, .sl 1 k 0 k), (6, .i k)]) (fun k => [(1, .live false 1 (E true (T.take k)))]) (fun k => k ≤ s.length) (fun k => s.length - k) 0 ⟨rfl, rfl, trivial⟩ ⟨rfl, trivial⟩ (Nat.zero_le _) ?_
  rintro k k1
  have hp : (T.take k).length = k := by rw [List.length_take]; omega
  by_cases hk : k < s.length
  · have ht := hts k hk
    have hb := hbb k hk
    repeat' first | refine s1 ?_ | (refine kR ?_; first | refine F.c (hF) ?_ | refine F.a1 Int ?_) | fail
    exact ⟨k + 1, F.fit ⟨rfl, rfl, trivial⟩ ⟨obE (by rw [ht]), trivial⟩, by omega, by omega⟩
  · obtain rfl : k = s.length := by omega
    have e : T.take s.length = T := List.take_of_length_le (by omega)
    rw [e]
    rw [← hll]
    clear hp e
    repeat' first | refine s1 ?_ | (refine kR ?_; first | refine F.c (hF) ?_) | fail
    (refine kZ ?_; exact F.ret rfl)
end Go.Proofs.Ytanembgijdkagaa.V
