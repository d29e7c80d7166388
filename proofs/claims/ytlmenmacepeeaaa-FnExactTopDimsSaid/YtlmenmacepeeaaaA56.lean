/- Contracts: sums of spaces, as the reference does them. -/
import Derived.Test.YtlmenmacepeeaaaUq
import Derived.Test.YtlmenmacepeeaaaA55
namespace Go.Proofs.Ytlmenmacepeeaaa.V
open V.Enc (enc)
open Go.RowKit G D
set_option linter.unusedVariables false
set_option linter.unusedSimpArgs false
set_option maxHeartbeats 4000000
set_option maxRecDepth 4000
attribute [local irreducible] AW ARg ARA ARet MRet ASil AC AM

theorem addSpaces_a (p : Int) (a b : Spc) (ha : isSpc p a = true) (hb : isSpc p b = true) (hn : b.n = a.n) : AC Try.prog 115 [.i p, .agg (enc false a), .agg (enc false b)] [.agg (enc true (addS p a b)), .b true] := by
  refine AC.go Try.func115 Try.ntmps115 rfl rfl fun w0 hw => ?_; simp [WfL, WfA, E_length, Enc.enc, In64] at hw
  have hA := specIsSpace_a p a
  have hB := specIsSpace_a p b
  rw [ha] at hA
  rw [hb] at hB
  obtain ⟨h1, h2, h3, h4⟩ := isSpc_spec ha
  obtain ⟨_, _, g3, g4⟩ := isSpc_spec hb
  rw [hn] at g4
  have hS := l5Span_a p a.n.toNat (a.b ++ b.b) h1 (by rw [List.length_append]; omega) (by omega) (h4.app g4)
  rw [Int.toNat_of_nonneg h2.1] at hS
  rw [show (⟨a.n, spanL p a.n.toNat (a.b ++ b.b)⟩ : Spc) = addS p a b from rfl] at hS
  generalize addS p a b = SS' at hS ⊢
  repeat' first | refine s1 ?_ | (refine kR ?_; first | refine F.c (hA) ?_ | refine F.c (hB) ?_) | fail
  refine AW.draw 2 G.mixed (by kernel_rfl) ?_
  refine dP 0 ?_
  refine dP 1 ?_
  refine dP 4 ?_
  refine dP 7 ?_
  refine ARA.any [2, 3, 5, 8] (by kernel_rfl) (by simp) ?_
  intro k hk
  simp only [List.mem_cons, List.not_mem_nil, or_false] at hk
  rcases hk with rfl | rfl | rfl | rfl
  refine ⟨_, true, rfl, rfl, ?_⟩
  refine s1 ?_
  refine ARg.nil (ATh.normal ?_)
  refine ARA.any [3, 5, 8] (by kernel_rfl) (by simp) ?_
  intro k hk
  simp only [List.mem_cons, List.not_mem_nil, or_false] at hk
  rcases hk with rfl | rfl | rfl
  refine ⟨_, true, rfl, rfl, ?_⟩
  refine s1 ?_
  refine ARg.nil (ATh.normal ?_)
  refine ARA.any [5, 8] (by kernel_rfl) (by simp) ?_
  intro k hk
  simp only [List.mem_cons, List.not_mem_nil, or_false] at hk
  rcases hk with rfl | rfl
  refine ⟨_, true, rfl, rfl, ?_⟩
  refine s1 ?_
  refine ARg.nil (ATh.normal ?_)
  refine ARA.any [6, 8] (by kernel_rfl) (by simp) ?_
  intro k hk
  simp only [List.mem_cons, List.not_mem_nil, or_false] at hk
  rcases hk with rfl | rfl
  refine ⟨_, false, rfl, rfl, ?_⟩
  first | refine s1 ?_ | refine F.aLN (List Int) (oo := false) ?_
  refine ARg.nil (ATh.normal ?_)
  refine dO 8 true ?_
  refine s1 ?_
  refine ARg.nil (ATh.normal ?_)
  refine dO 9 false ?_
  first | refine s1 ?_ | refine F.aL (List Int) (oo := false) ?_
  refine ARg.nil (ATh.normal ?_)
  refine dO 10 false ?_
  first | refine s1 ?_ | refine F.c (hS) ?_
  refine ARg.nil (ATh.normal ?_)
  refine dO 11 false ?_
  refine s1 ?_
  refine ARg.nil (ATh.normal ?_)
  refine dP 12 ?_
  refine dN ?_
  rotate_left
  refine ⟨_, true, rfl, rfl, ?_⟩
  refine s1 ?_
  refine ARg.nil (ATh.normal ?_)
  refine dO 6 false ?_
  first | refine s1 ?_ | refine F.aLN (List Int) (oo := false) ?_
  refine ARg.nil (ATh.normal ?_)
  refine dO 9 false ?_
  first | refine s1 ?_ | refine F.aL (List Int) (oo := false) ?_
  refine ARg.nil (ATh.normal ?_)
  refine dO 10 false ?_
  first | refine s1 ?_ | refine F.c (hS) ?_
  refine ARg.nil (ATh.normal ?_)
  refine dO 11 false ?_
  refine s1 ?_
  refine ARg.nil (ATh.normal ?_)
  refine dP 12 ?_
  refine dN ?_
  rotate_left
  refine ⟨_, true, rfl, rfl, ?_⟩
  refine s1 ?_
  refine ARg.nil (ATh.normal ?_)
  refine dO 5 true ?_
  refine s1 ?_
  refine ARg.nil (ATh.normal ?_)
  refine dO 6 false ?_
  first | refine s1 ?_ | refine F.aLN (List Int) (oo := false) ?_
  refine ARg.nil (ATh.normal ?_)
  refine dO 9 false ?_
  first | refine s1 ?_ | refine F.aL (List Int) (oo := false) ?_
  refine ARg.nil (ATh.normal ?_)
  refine dO 10 false ?_
  first | refine s1 ?_ | refine F.c (hS) ?_
  refine ARg.nil (ATh.normal ?_)
  refine dO 11 false ?_
  refine s1 ?_
  refine ARg.nil (ATh.normal ?_)
  refine dP 12 ?_
  refine dN ?_
  rotate_left
  refine ⟨_, true, rfl, rfl, ?_⟩
  refine s1 ?_
  refine ARg.nil (ATh.normal ?_)
  refine ARA.any [3, 8] (by kernel_rfl) (by simp) ?_
  intro k hk
  simp only [List.mem_cons, List.not_mem_nil, or_false] at hk
  rcases hk with rfl | rfl
  refine ⟨_, true, rfl, rfl, ?_⟩
  refine s1 ?_
  refine ARg.nil (ATh.normal ?_)
  refine ARA.any [6, 8] (by kernel_rfl) (by simp) ?_
  intro k hk
  simp only [List.mem_cons, List.not_mem_nil, or_false] at hk
  rcases hk with rfl | rfl
  refine ⟨_, false, rfl, rfl, ?_⟩
  first | refine s1 ?_ | refine F.aLN (List Int) (oo := false) ?_
  refine ARg.nil (ATh.normal ?_)
  refine dO 8 true ?_
  refine s1 ?_
  refine ARg.nil (ATh.normal ?_)
  refine dO 9 false ?_
  first | refine s1 ?_ | refine F.aL (List Int) (oo := false) ?_
  refine ARg.nil (ATh.normal ?_)
  refine dO 10 false ?_
  first | refine s1 ?_ | refine F.c (hS) ?_
  refine ARg.nil (ATh.normal ?_)
  refine dO 11 false ?_
  refine s1 ?_
  refine ARg.nil (ATh.normal ?_)
  refine dP 12 ?_
  refine dN ?_
  rotate_left
  refine ⟨_, true, rfl, rfl, ?_⟩
  refine s1 ?_
  refine ARg.nil (ATh.normal ?_)
  refine dO 6 false ?_
  first | refine s1 ?_ | refine F.aLN (List Int) (oo := false) ?_
  refine ARg.nil (ATh.normal ?_)
  refine dO 9 false ?_
  first | refine s1 ?_ | refine F.aL (List Int) (oo := false) ?_
  refine ARg.nil (ATh.normal ?_)
  refine dO 10 false ?_
  first | refine s1 ?_ | refine F.c (hS) ?_
  refine ARg.nil (ATh.normal ?_)
  refine dO 11 false ?_
  refine s1 ?_
  refine ARg.nil (ATh.normal ?_)
  refine dP 12 ?_
  refine dN ?_
  rotate_left
  refine ⟨_, true, rfl, rfl, ?_⟩
  refine s1 ?_
  refine ARg.nil (ATh.normal ?_)
  refine dO 3 true ?_
  refine s1 ?_
  refine ARg.nil (ATh.normal ?_)
  refine dO 6 false ?_
  first | refine s1 ?_ | refine F.aLN (List Int) (oo := false) ?_
  refine ARg.nil (ATh.normal ?_)
  refine dO 9 false ?_
  first | refine s1 ?_ | refine F.aL (List Int) (oo := false) ?_
  refine ARg.nil (ATh.normal ?_)
  refine dO 10 false ?_
  first | refine s1 ?_ | refine F.c (hS) ?_
  refine ARg.nil (ATh.normal ?_)
  refine dO 11 false ?_
  refine s1 ?_
  refine ARg.nil (ATh.normal ?_)
  refine dP 12 ?_
  refine dN ?_
  rotate_left
  refine ⟨_, true, rfl, rfl, ?_⟩
  refine s1 ?_
  refine ARg.nil (ATh.normal ?_)
  refine ARA.any [3, 5] (by kernel_rfl) (by simp) ?_
  intro k hk
  simp only [List.mem_cons, List.not_mem_nil, or_false] at hk
  rcases hk with rfl | rfl
  refine ⟨_, true, rfl, rfl, ?_⟩
  refine s1 ?_
  refine ARg.nil (ATh.normal ?_)
  refine dO 5 true ?_
  refine s1 ?_
  refine ARg.nil (ATh.normal ?_)
  refine dO 6 false ?_
  first | refine s1 ?_ | refine F.aLN (List Int) (oo := false) ?_
  refine ARg.nil (ATh.normal ?_)
  refine dO 9 false ?_
  first | refine s1 ?_ | refine F.aL (List Int) (oo := false) ?_
  refine ARg.nil (ATh.normal ?_)
  refine dO 10 false ?_
  first | refine s1 ?_ | refine F.c (hS) ?_
  refine ARg.nil (ATh.normal ?_)
  refine dO 11 false ?_
  refine s1 ?_
  refine ARg.nil (ATh.normal ?_)
  refine dP 12 ?_
  refine dN ?_
  rotate_left
  refine ⟨_, true, rfl, rfl, ?_⟩
  refine s1 ?_
  refine ARg.nil (ATh.normal ?_)
  refine dO 3 true ?_
  refine s1 ?_
  refine ARg.nil (ATh.normal ?_)
  refine dO 6 false ?_
  first | refine s1 ?_ | refine F.aLN (List Int) (oo := false) ?_
  refine ARg.nil (ATh.normal ?_)
  refine dO 9 false ?_
  first | refine s1 ?_ | refine F.aL (List Int) (oo := false) ?_
  refine ARg.nil (ATh.normal ?_)
  refine dO 10 false ?_
  first | refine s1 ?_ | refine F.c (hS) ?_
  refine ARg.nil (ATh.normal ?_)
  refine dO 11 false ?_
  refine s1 ?_
  refine ARg.nil (ATh.normal ?_)
  refine dP 12 ?_
  refine dN ?_
  rotate_left
  refine ⟨_, true, rfl, rfl, ?_⟩
  refine s1 ?_
  refine ARg.nil (ATh.normal ?_)
  refine ARA.any [2, 5, 8] (by kernel_rfl) (by simp) ?_
  intro k hk
  simp only [List.mem_cons, List.not_mem_nil, or_false] at hk
  rcases hk with rfl | rfl | rfl
  refine ⟨_, true, rfl, rfl, ?_⟩
  refine s1 ?_
  refine ARg.nil (ATh.normal ?_)
  refine ARA.any [5, 8] (by kernel_rfl) (by simp) ?_
  intro k hk
  simp only [List.mem_cons, List.not_mem_nil, or_false] at hk
  rcases hk with rfl | rfl
  refine ⟨_, true, rfl, rfl, ?_⟩
  refine s1 ?_
  refine ARg.nil (ATh.normal ?_)
  refine ARA.any [6, 8] (by kernel_rfl) (by simp) ?_
  intro k hk
  simp only [List.mem_cons, List.not_mem_nil, or_false] at hk
  rcases hk with rfl | rfl
  refine ⟨_, false, rfl, rfl, ?_⟩
  first | refine s1 ?_ | refine F.aLN (List Int) (oo := false) ?_
  refine ARg.nil (ATh.normal ?_)
  refine dO 8 true ?_
  refine s1 ?_
  refine ARg.nil (ATh.normal ?_)
  refine dO 9 false ?_
  first | refine s1 ?_ | refine F.aL (List Int) (oo := false) ?_
  refine ARg.nil (ATh.normal ?_)
  refine dO 10 false ?_
  first | refine s1 ?_ | refine F.c (hS) ?_
  refine ARg.nil (ATh.normal ?_)
  refine dO 11 false ?_
  refine s1 ?_
  refine ARg.nil (ATh.normal ?_)
  refine dP 12 ?_
  refine dN ?_
  rotate_left
  refine ⟨_, true, rfl, rfl, ?_⟩
  refine s1 ?_
  refine ARg.nil (ATh.normal ?_)
  refine dO 6 false ?_
  first | refine s1 ?_ | refine F.aLN (List Int) (oo := false) ?_
  refine ARg.nil (ATh.normal ?_)
  refine dO 9 false ?_
  first | refine s1 ?_ | refine F.aL (List Int) (oo := false) ?_
  refine ARg.nil (ATh.normal ?_)
  refine dO 10 false ?_
  first | refine s1 ?_ | refine F.c (hS) ?_
  refine ARg.nil (ATh.normal ?_)
  refine dO 11 false ?_
  refine s1 ?_
  refine ARg.nil (ATh.normal ?_)
  refine dP 12 ?_
  refine dN ?_
  rotate_left
  refine ⟨_, true, rfl, rfl, ?_⟩
  refine s1 ?_
  refine ARg.nil (ATh.normal ?_)
  refine dO 5 true ?_
  refine s1 ?_
  refine ARg.nil (ATh.normal ?_)
  refine dO 6 false ?_
  first | refine s1 ?_ | refine F.aLN (List Int) (oo := false) ?_
  refine ARg.nil (ATh.normal ?_)
  refine dO 9 false ?_
  first | refine s1 ?_ | refine F.aL (List Int) (oo := false) ?_
  refine ARg.nil (ATh.normal ?_)
  refine dO 10 false ?_
  first | refine s1 ?_ | refine F.c (hS) ?_
  refine ARg.nil (ATh.normal ?_)
  refine dO 11 false ?_
  refine s1 ?_
  refine ARg.nil (ATh.normal ?_)
  refine dP 12 ?_
  refine dN ?_
  rotate_left
  refine ⟨_, true, rfl, rfl, ?_⟩
  refine s1 ?_
  refine ARg.nil (ATh.normal ?_)
  refine ARA.any [2, 6, 8] (by kernel_rfl) (by simp) ?_
  intro k hk
  simp only [List.mem_cons, List.not_mem_nil, or_false] at hk
  rcases hk with rfl | rfl | rfl
  refine ⟨_, true, rfl, rfl, ?_⟩
  refine s1 ?_
  refine ARg.nil (ATh.normal ?_)
  refine ARA.any [6, 8] (by kernel_rfl) (by simp) ?_
  intro k hk
  simp only [List.mem_cons, List.not_mem_nil, or_false] at hk
  rcases hk with rfl | rfl
  refine ⟨_, false, rfl, rfl, ?_⟩
  first | refine s1 ?_ | refine F.aLN (List Int) (oo := false) ?_
  refine ARg.nil (ATh.normal ?_)
  refine dO 8 true ?_
  refine s1 ?_
  refine ARg.nil (ATh.normal ?_)
  refine dO 9 false ?_
  first | refine s1 ?_ | refine F.aL (List Int) (oo := false) ?_
  refine ARg.nil (ATh.normal ?_)
  refine dO 10 false ?_
  first | refine s1 ?_ | refine F.c (hS) ?_
  refine ARg.nil (ATh.normal ?_)
  refine dO 11 false ?_
  refine s1 ?_
  refine ARg.nil (ATh.normal ?_)
  refine dP 12 ?_
  refine dN ?_
  rotate_left
  refine ⟨_, true, rfl, rfl, ?_⟩
  refine s1 ?_
  refine ARg.nil (ATh.normal ?_)
  refine dO 6 false ?_
  first | refine s1 ?_ | refine F.aLN (List Int) (oo := false) ?_
  refine ARg.nil (ATh.normal ?_)
  refine dO 9 false ?_
  first | refine s1 ?_ | refine F.aL (List Int) (oo := false) ?_
  refine ARg.nil (ATh.normal ?_)
  refine dO 10 false ?_
  first | refine s1 ?_ | refine F.c (hS) ?_
  refine ARg.nil (ATh.normal ?_)
  refine dO 11 false ?_
  refine s1 ?_
  refine ARg.nil (ATh.normal ?_)
  refine dP 12 ?_
  refine dN ?_
  rotate_left
  refine ⟨_, false, rfl, rfl, ?_⟩
  first | refine s1 ?_ | refine F.aLN (List Int) (oo := false) ?_
  refine ARg.nil (ATh.normal ?_)
  refine ARA.any [2, 8] (by kernel_rfl) (by simp) ?_
  intro k hk
  simp only [List.mem_cons, List.not_mem_nil, or_false] at hk
  rcases hk with rfl | rfl
  refine ⟨_, true, rfl, rfl, ?_⟩
  refine s1 ?_
  refine ARg.nil (ATh.normal ?_)
  refine dO 8 true ?_
  refine s1 ?_
  refine ARg.nil (ATh.normal ?_)
  refine dO 9 false ?_
  first | refine s1 ?_ | refine F.aL (List Int) (oo := false) ?_
  refine ARg.nil (ATh.normal ?_)
  refine dO 10 false ?_
  first | refine s1 ?_ | refine F.c (hS) ?_
  refine ARg.nil (ATh.normal ?_)
  refine dO 11 false ?_
  refine s1 ?_
  refine ARg.nil (ATh.normal ?_)
  refine dP 12 ?_
  refine dN ?_
  rotate_left
  refine ⟨_, true, rfl, rfl, ?_⟩
  refine s1 ?_
  refine ARg.nil (ATh.normal ?_)
  refine ARA.any [2, 9] (by kernel_rfl) (by simp) ?_
  intro k hk
  simp only [List.mem_cons, List.not_mem_nil, or_false] at hk
  rcases hk with rfl | rfl
  refine ⟨_, true, rfl, rfl, ?_⟩
  refine s1 ?_
  refine ARg.nil (ATh.normal ?_)
  refine dO 9 false ?_
  first | refine s1 ?_ | refine F.aL (List Int) (oo := false) ?_
  refine ARg.nil (ATh.normal ?_)
  refine dO 10 false ?_
  first | refine s1 ?_ | refine F.c (hS) ?_
  refine ARg.nil (ATh.normal ?_)
  refine dO 11 false ?_
  refine s1 ?_
  refine ARg.nil (ATh.normal ?_)
  refine dP 12 ?_
  refine dN ?_
  rotate_left
  refine ⟨_, false, rfl, rfl, ?_⟩
  first | refine s1 ?_ | refine F.aL (List Int) (oo := false) ?_
  refine ARg.nil (ATh.normal ?_)
  refine dO 2 true ?_
  refine s1 ?_
  refine ARg.nil (ATh.normal ?_)
  refine dO 10 false ?_
  first | refine s1 ?_ | refine F.c (hS) ?_
  refine ARg.nil (ATh.normal ?_)
  refine dO 11 false ?_
  refine s1 ?_
  refine ARg.nil (ATh.normal ?_)
  refine dP 12 ?_
  refine dN ?_
  rotate_left
  refine ⟨_, true, rfl, rfl, ?_⟩
  refine s1 ?_
  refine ARg.nil (ATh.normal ?_)
  refine ARA.any [2, 6] (by kernel_rfl) (by simp) ?_
  intro k hk
  simp only [List.mem_cons, List.not_mem_nil, or_false] at hk
  rcases hk with rfl | rfl
  refine ⟨_, true, rfl, rfl, ?_⟩
  refine s1 ?_
  refine ARg.nil (ATh.normal ?_)
  refine dO 6 false ?_
  first | refine s1 ?_ | refine F.aLN (List Int) (oo := false) ?_
  refine ARg.nil (ATh.normal ?_)
  refine dO 9 false ?_
  first | refine s1 ?_ | refine F.aL (List Int) (oo := false) ?_
  refine ARg.nil (ATh.normal ?_)
  refine dO 10 false ?_
  first | refine s1 ?_ | refine F.c (hS) ?_
  refine ARg.nil (ATh.normal ?_)
  refine dO 11 false ?_
  refine s1 ?_
  refine ARg.nil (ATh.normal ?_)
  refine dP 12 ?_
  refine dN ?_
  rotate_left
  refine ⟨_, false, rfl, rfl, ?_⟩
  first | refine s1 ?_ | refine F.aLN (List Int) (oo := false) ?_
  refine ARg.nil (ATh.normal ?_)
  refine ARA.any [2, 9] (by kernel_rfl) (by simp) ?_
  intro k hk
  simp only [List.mem_cons, List.not_mem_nil, or_false] at hk
  rcases hk with rfl | rfl
  refine ⟨_, true, rfl, rfl, ?_⟩
  refine s1 ?_
  refine ARg.nil (ATh.normal ?_)
  refine dO 9 false ?_
  first | refine s1 ?_ | refine F.aL (List Int) (oo := false) ?_
  refine ARg.nil (ATh.normal ?_)
  refine dO 10 false ?_
  first | refine s1 ?_ | refine F.c (hS) ?_
  refine ARg.nil (ATh.normal ?_)
  refine dO 11 false ?_
  refine s1 ?_
  refine ARg.nil (ATh.normal ?_)
  refine dP 12 ?_
  refine dN ?_
  rotate_left
  refine ⟨_, false, rfl, rfl, ?_⟩
  first | refine s1 ?_ | refine F.aL (List Int) (oo := false) ?_
  refine ARg.nil (ATh.normal ?_)
  refine dO 2 true ?_
  refine s1 ?_
  refine ARg.nil (ATh.normal ?_)
  refine dO 10 false ?_
  first | refine s1 ?_ | refine F.c (hS) ?_
  refine ARg.nil (ATh.normal ?_)
  refine dO 11 false ?_
  refine s1 ?_
  refine ARg.nil (ATh.normal ?_)
  refine dP 12 ?_
  refine dN ?_
  rotate_left
  refine ⟨_, true, rfl, rfl, ?_⟩
  refine s1 ?_
  refine ARg.nil (ATh.normal ?_)
  refine ARA.any [2, 5] (by kernel_rfl) (by simp) ?_
  intro k hk
  simp only [List.mem_cons, List.not_mem_nil, or_false] at hk
  rcases hk with rfl | rfl
  refine ⟨_, true, rfl, rfl, ?_⟩
  refine s1 ?_
  refine ARg.nil (ATh.normal ?_)
  refine dO 5 true ?_
  refine s1 ?_
  refine ARg.nil (ATh.normal ?_)
  refine dO 6 false ?_
  first | refine s1 ?_ | refine F.aLN (List Int) (oo := false) ?_
  refine ARg.nil (ATh.normal ?_)
  refine dO 9 false ?_
  first | refine s1 ?_ | refine F.aL (List Int) (oo := false) ?_
  refine ARg.nil (ATh.normal ?_)
  refine dO 10 false ?_
  first | refine s1 ?_ | refine F.c (hS) ?_
  refine ARg.nil (ATh.normal ?_)
  refine dO 11 false ?_
  refine s1 ?_
  refine ARg.nil (ATh.normal ?_)
  refine dP 12 ?_
  refine dN ?_
  rotate_left
  refine ⟨_, true, rfl, rfl, ?_⟩
  refine s1 ?_
  refine ARg.nil (ATh.normal ?_)
  refine ARA.any [2, 6] (by kernel_rfl) (by simp) ?_
  intro k hk
  simp only [List.mem_cons, List.not_mem_nil, or_false] at hk
  rcases hk with rfl | rfl
  refine ⟨_, true, rfl, rfl, ?_⟩
  refine s1 ?_
  refine ARg.nil (ATh.normal ?_)
  refine dO 6 false ?_
  first | refine s1 ?_ | refine F.aLN (List Int) (oo := false) ?_
  refine ARg.nil (ATh.normal ?_)
  refine dO 9 false ?_
  first | refine s1 ?_ | refine F.aL (List Int) (oo := false) ?_
  refine ARg.nil (ATh.normal ?_)
  refine dO 10 false ?_
  first | refine s1 ?_ | refine F.c (hS) ?_
  refine ARg.nil (ATh.normal ?_)
  refine dO 11 false ?_
  refine s1 ?_
  refine ARg.nil (ATh.normal ?_)
  refine dP 12 ?_
  refine dN ?_
  rotate_left
  refine ⟨_, false, rfl, rfl, ?_⟩
  first | refine s1 ?_ | refine F.aLN (List Int) (oo := false) ?_
  refine ARg.nil (ATh.normal ?_)
  refine ARA.any [2, 9] (by kernel_rfl) (by simp) ?_
  intro k hk
  simp only [List.mem_cons, List.not_mem_nil, or_false] at hk
  rcases hk with rfl | rfl
  refine ⟨_, true, rfl, rfl, ?_⟩
  refine s1 ?_
  refine ARg.nil (ATh.normal ?_)
  refine dO 9 false ?_
  first | refine s1 ?_ | refine F.aL (List Int) (oo := false) ?_
  refine ARg.nil (ATh.normal ?_)
  refine dO 10 false ?_
  first | refine s1 ?_ | refine F.c (hS) ?_
  refine ARg.nil (ATh.normal ?_)
  refine dO 11 false ?_
  refine s1 ?_
  refine ARg.nil (ATh.normal ?_)
  refine dP 12 ?_
  refine dN ?_
  rotate_left
  refine ⟨_, false, rfl, rfl, ?_⟩
  first | refine s1 ?_ | refine F.aL (List Int) (oo := false) ?_
  refine ARg.nil (ATh.normal ?_)
  refine dO 2 true ?_
  refine s1 ?_
  refine ARg.nil (ATh.normal ?_)
  refine dO 10 false ?_
  first | refine s1 ?_ | refine F.c (hS) ?_
  refine ARg.nil (ATh.normal ?_)
  refine dO 11 false ?_
  refine s1 ?_
  refine ARg.nil (ATh.normal ?_)
  refine dP 12 ?_
  refine dN ?_
  rotate_left
  refine ⟨_, true, rfl, rfl, ?_⟩
  refine s1 ?_
  refine ARg.nil (ATh.normal ?_)
  refine ARA.any [2, 3, 8] (by kernel_rfl) (by simp) ?_
  intro k hk
  simp only [List.mem_cons, List.not_mem_nil, or_false] at hk
  rcases hk with rfl | rfl | rfl
  refine ⟨_, true, rfl, rfl, ?_⟩
  refine s1 ?_
  refine ARg.nil (ATh.normal ?_)
  refine ARA.any [3, 8] (by kernel_rfl) (by simp) ?_
  intro k hk
  simp only [List.mem_cons, List.not_mem_nil, or_false] at hk
  rcases hk with rfl | rfl
  refine ⟨_, true, rfl, rfl, ?_⟩
  refine s1 ?_
  refine ARg.nil (ATh.normal ?_)
  refine ARA.any [6, 8] (by kernel_rfl) (by simp) ?_
  intro k hk
  simp only [List.mem_cons, List.not_mem_nil, or_false] at hk
  rcases hk with rfl | rfl
  refine ⟨_, false, rfl, rfl, ?_⟩
  first | refine s1 ?_ | refine F.aLN (List Int) (oo := false) ?_
  refine ARg.nil (ATh.normal ?_)
  refine dO 8 true ?_
  refine s1 ?_
  refine ARg.nil (ATh.normal ?_)
  refine dO 9 false ?_
  first | refine s1 ?_ | refine F.aL (List Int) (oo := false) ?_
  refine ARg.nil (ATh.normal ?_)
  refine dO 10 false ?_
  first | refine s1 ?_ | refine F.c (hS) ?_
  refine ARg.nil (ATh.normal ?_)
  refine dO 11 false ?_
  refine s1 ?_
  refine ARg.nil (ATh.normal ?_)
  refine dP 12 ?_
  refine dN ?_
  rotate_left
  refine ⟨_, true, rfl, rfl, ?_⟩
  refine s1 ?_
  refine ARg.nil (ATh.normal ?_)
  refine dO 6 false ?_
  first | refine s1 ?_ | refine F.aLN (List Int) (oo := false) ?_
  refine ARg.nil (ATh.normal ?_)
  refine dO 9 false ?_
  first | refine s1 ?_ | refine F.aL (List Int) (oo := false) ?_
  refine ARg.nil (ATh.normal ?_)
  refine dO 10 false ?_
  first | refine s1 ?_ | refine F.c (hS) ?_
  refine ARg.nil (ATh.normal ?_)
  refine dO 11 false ?_
  refine s1 ?_
  refine ARg.nil (ATh.normal ?_)
  refine dP 12 ?_
  refine dN ?_
  rotate_left
  refine ⟨_, true, rfl, rfl, ?_⟩
  refine s1 ?_
  refine ARg.nil (ATh.normal ?_)
  refine dO 3 true ?_
  refine s1 ?_
  refine ARg.nil (ATh.normal ?_)
  refine dO 6 false ?_
  first | refine s1 ?_ | refine F.aLN (List Int) (oo := false) ?_
  refine ARg.nil (ATh.normal ?_)
  refine dO 9 false ?_
  first | refine s1 ?_ | refine F.aL (List Int) (oo := false) ?_
  refine ARg.nil (ATh.normal ?_)
  refine dO 10 false ?_
  first | refine s1 ?_ | refine F.c (hS) ?_
  refine ARg.nil (ATh.normal ?_)
  refine dO 11 false ?_
  refine s1 ?_
  refine ARg.nil (ATh.normal ?_)
  refine dP 12 ?_
  refine dN ?_
  rotate_left
  refine ⟨_, true, rfl, rfl, ?_⟩
  refine s1 ?_
  refine ARg.nil (ATh.normal ?_)
  refine ARA.any [2, 6, 8] (by kernel_rfl) (by simp) ?_
  intro k hk
  simp only [List.mem_cons, List.not_mem_nil, or_false] at hk
  rcases hk with rfl | rfl | rfl
  refine ⟨_, true, rfl, rfl, ?_⟩
  refine s1 ?_
  refine ARg.nil (ATh.normal ?_)
  refine ARA.any [6, 8] (by kernel_rfl) (by simp) ?_
  intro k hk
  simp only [List.mem_cons, List.not_mem_nil, or_false] at hk
  rcases hk with rfl | rfl
  refine ⟨_, false, rfl, rfl, ?_⟩
  first | refine s1 ?_ | refine F.aLN (List Int) (oo := false) ?_
  refine ARg.nil (ATh.normal ?_)
  refine dO 8 true ?_
  refine s1 ?_
  refine ARg.nil (ATh.normal ?_)
  refine dO 9 false ?_
  first | refine s1 ?_ | refine F.aL (List Int) (oo := false) ?_
  refine ARg.nil (ATh.normal ?_)
  refine dO 10 false ?_
  first | refine s1 ?_ | refine F.c (hS) ?_
  refine ARg.nil (ATh.normal ?_)
  refine dO 11 false ?_
  refine s1 ?_
  refine ARg.nil (ATh.normal ?_)
  refine dP 12 ?_
  refine dN ?_
  rotate_left
  refine ⟨_, true, rfl, rfl, ?_⟩
  refine s1 ?_
  refine ARg.nil (ATh.normal ?_)
  refine dO 6 false ?_
  first | refine s1 ?_ | refine F.aLN (List Int) (oo := false) ?_
  refine ARg.nil (ATh.normal ?_)
  refine dO 9 false ?_
  first | refine s1 ?_ | refine F.aL (List Int) (oo := false) ?_
  refine ARg.nil (ATh.normal ?_)
  refine dO 10 false ?_
  first | refine s1 ?_ | refine F.c (hS) ?_
  refine ARg.nil (ATh.normal ?_)
  refine dO 11 false ?_
  refine s1 ?_
  refine ARg.nil (ATh.normal ?_)
  refine dP 12 ?_
  refine dN ?_
  rotate_left
  refine ⟨_, false, rfl, rfl, ?_⟩
  first | refine s1 ?_ | refine F.aLN (List Int) (oo := false) ?_
  refine ARg.nil (ATh.normal ?_)
  refine ARA.any [2, 8] (by kernel_rfl) (by simp) ?_
  intro k hk
  simp only [List.mem_cons, List.not_mem_nil, or_false] at hk
  rcases hk with rfl | rfl
  refine ⟨_, true, rfl, rfl, ?_⟩
  refine s1 ?_
  refine ARg.nil (ATh.normal ?_)
  refine dO 8 true ?_
  refine s1 ?_
  refine ARg.nil (ATh.normal ?_)
  refine dO 9 false ?_
  first | refine s1 ?_ | refine F.aL (List Int) (oo := false) ?_
  refine ARg.nil (ATh.normal ?_)
  refine dO 10 false ?_
  first | refine s1 ?_ | refine F.c (hS) ?_
  refine ARg.nil (ATh.normal ?_)
  refine dO 11 false ?_
  refine s1 ?_
  refine ARg.nil (ATh.normal ?_)
  refine dP 12 ?_
  refine dN ?_
  rotate_left
  refine ⟨_, true, rfl, rfl, ?_⟩
  refine s1 ?_
  refine ARg.nil (ATh.normal ?_)
  refine ARA.any [2, 9] (by kernel_rfl) (by simp) ?_
  intro k hk
  simp only [List.mem_cons, List.not_mem_nil, or_false] at hk
  rcases hk with rfl | rfl
  refine ⟨_, true, rfl, rfl, ?_⟩
  refine s1 ?_
  refine ARg.nil (ATh.normal ?_)
  refine dO 9 false ?_
  first | refine s1 ?_ | refine F.aL (List Int) (oo := false) ?_
  refine ARg.nil (ATh.normal ?_)
  refine dO 10 false ?_
  first | refine s1 ?_ | refine F.c (hS) ?_
  refine ARg.nil (ATh.normal ?_)
  refine dO 11 false ?_
  refine s1 ?_
  refine ARg.nil (ATh.normal ?_)
  refine dP 12 ?_
  refine dN ?_
  rotate_left
  refine ⟨_, false, rfl, rfl, ?_⟩
  first | refine s1 ?_ | refine F.aL (List Int) (oo := false) ?_
  refine ARg.nil (ATh.normal ?_)
  refine dO 2 true ?_
  refine s1 ?_
  refine ARg.nil (ATh.normal ?_)
  refine dO 10 false ?_
  first | refine s1 ?_ | refine F.c (hS) ?_
  refine ARg.nil (ATh.normal ?_)
  refine dO 11 false ?_
  refine s1 ?_
  refine ARg.nil (ATh.normal ?_)
  refine dP 12 ?_
  refine dN ?_
  rotate_left
  refine ⟨_, true, rfl, rfl, ?_⟩
  refine s1 ?_
  refine ARg.nil (ATh.normal ?_)
  refine ARA.any [2, 6] (by kernel_rfl) (by simp) ?_
  intro k hk
  simp only [List.mem_cons, List.not_mem_nil, or_false] at hk
  rcases hk with rfl | rfl
  refine ⟨_, true, rfl, rfl, ?_⟩
  refine s1 ?_
  refine ARg.nil (ATh.normal ?_)
  refine dO 6 false ?_
  first | refine s1 ?_ | refine F.aLN (List Int) (oo := false) ?_
  refine ARg.nil (ATh.normal ?_)
  refine dO 9 false ?_
  first | refine s1 ?_ | refine F.aL (List Int) (oo := false) ?_
  refine ARg.nil (ATh.normal ?_)
  refine dO 10 false ?_
  first | refine s1 ?_ | refine F.c (hS) ?_
  refine ARg.nil (ATh.normal ?_)
  refine dO 11 false ?_
  refine s1 ?_
  refine ARg.nil (ATh.normal ?_)
  refine dP 12 ?_
  refine dN ?_
  rotate_left
  refine ⟨_, false, rfl, rfl, ?_⟩
  first | refine s1 ?_ | refine F.aLN (List Int) (oo := false) ?_
  refine ARg.nil (ATh.normal ?_)
  refine ARA.any [2, 9] (by kernel_rfl) (by simp) ?_
  intro k hk
  simp only [List.mem_cons, List.not_mem_nil, or_false] at hk
  rcases hk with rfl | rfl
  refine ⟨_, true, rfl, rfl, ?_⟩
  refine s1 ?_
  refine ARg.nil (ATh.normal ?_)
  refine dO 9 false ?_
  first | refine s1 ?_ | refine F.aL (List Int) (oo := false) ?_
  refine ARg.nil (ATh.normal ?_)
  refine dO 10 false ?_
  first | refine s1 ?_ | refine F.c (hS) ?_
  refine ARg.nil (ATh.normal ?_)
  refine dO 11 false ?_
  refine s1 ?_
  refine ARg.nil (ATh.normal ?_)
  refine dP 12 ?_
  refine dN ?_
  rotate_left
  refine ⟨_, false, rfl, rfl, ?_⟩
  first | refine s1 ?_ | refine F.aL (List Int) (oo := false) ?_
  refine ARg.nil (ATh.normal ?_)
  refine dO 2 true ?_
  refine s1 ?_
  refine ARg.nil (ATh.normal ?_)
  refine dO 10 false ?_
  first | refine s1 ?_ | refine F.c (hS) ?_
  refine ARg.nil (ATh.normal ?_)
  refine dO 11 false ?_
  refine s1 ?_
  refine ARg.nil (ATh.normal ?_)
  refine dP 12 ?_
  refine dN ?_
  rotate_left
  refine ⟨_, true, rfl, rfl, ?_⟩
  refine s1 ?_
  refine ARg.nil (ATh.normal ?_)
  refine ARA.any [2, 3] (by kernel_rfl) (by simp) ?_
  intro k hk
  simp only [List.mem_cons, List.not_mem_nil, or_false] at hk
  rcases hk with rfl | rfl
  refine ⟨_, true, rfl, rfl, ?_⟩
  refine s1 ?_
  refine ARg.nil (ATh.normal ?_)
  refine dO 3 true ?_
  refine s1 ?_
  refine ARg.nil (ATh.normal ?_)
  refine dO 6 false ?_
  first | refine s1 ?_ | refine F.aLN (List Int) (oo := false) ?_
  refine ARg.nil (ATh.normal ?_)
  refine dO 9 false ?_
  first | refine s1 ?_ | refine F.aL (List Int) (oo := false) ?_
  refine ARg.nil (ATh.normal ?_)
  refine dO 10 false ?_
  first | refine s1 ?_ | refine F.c (hS) ?_
  refine ARg.nil (ATh.normal ?_)
  refine dO 11 false ?_
  refine s1 ?_
  refine ARg.nil (ATh.normal ?_)
  refine dP 12 ?_
  refine dN ?_
  rotate_left
  refine ⟨_, true, rfl, rfl, ?_⟩
  refine s1 ?_
  refine ARg.nil (ATh.normal ?_)
  refine ARA.any [2, 6] (by kernel_rfl) (by simp) ?_
  intro k hk
  simp only [List.mem_cons, List.not_mem_nil, or_false] at hk
  rcases hk with rfl | rfl
  refine ⟨_, true, rfl, rfl, ?_⟩
  refine s1 ?_
  refine ARg.nil (ATh.normal ?_)
  refine dO 6 false ?_
  first | refine s1 ?_ | refine F.aLN (List Int) (oo := false) ?_
  refine ARg.nil (ATh.normal ?_)
  refine dO 9 false ?_
  first | refine s1 ?_ | refine F.aL (List Int) (oo := false) ?_
  refine ARg.nil (ATh.normal ?_)
  refine dO 10 false ?_
  first | refine s1 ?_ | refine F.c (hS) ?_
  refine ARg.nil (ATh.normal ?_)
  refine dO 11 false ?_
  refine s1 ?_
  refine ARg.nil (ATh.normal ?_)
  refine dP 12 ?_
  refine dN ?_
  rotate_left
  refine ⟨_, false, rfl, rfl, ?_⟩
  first | refine s1 ?_ | refine F.aLN (List Int) (oo := false) ?_
  refine ARg.nil (ATh.normal ?_)
  refine ARA.any [2, 9] (by kernel_rfl) (by simp) ?_
  intro k hk
  simp only [List.mem_cons, List.not_mem_nil, or_false] at hk
  rcases hk with rfl | rfl
  refine ⟨_, true, rfl, rfl, ?_⟩
  refine s1 ?_
  refine ARg.nil (ATh.normal ?_)
  refine dO 9 false ?_
  first | refine s1 ?_ | refine F.aL (List Int) (oo := false) ?_
  refine ARg.nil (ATh.normal ?_)
  refine dO 10 false ?_
  first | refine s1 ?_ | refine F.c (hS) ?_
  refine ARg.nil (ATh.normal ?_)
  refine dO 11 false ?_
  refine s1 ?_
  refine ARg.nil (ATh.normal ?_)
  refine dP 12 ?_
  refine dN ?_
  rotate_left
  refine ⟨_, false, rfl, rfl, ?_⟩
  first | refine s1 ?_ | refine F.aL (List Int) (oo := false) ?_
  refine ARg.nil (ATh.normal ?_)
  refine dO 2 true ?_
  refine s1 ?_
  refine ARg.nil (ATh.normal ?_)
  refine dO 10 false ?_
  first | refine s1 ?_ | refine F.c (hS) ?_
  refine ARg.nil (ATh.normal ?_)
  refine dO 11 false ?_
  refine s1 ?_
  refine ARg.nil (ATh.normal ?_)
  refine dP 12 ?_
  refine dN ?_
  rotate_left
  refine ⟨_, true, rfl, rfl, ?_⟩
  refine s1 ?_
  refine ARg.nil (ATh.normal ?_)
  refine ARA.any [2, 3, 5] (by kernel_rfl) (by simp) ?_
  intro k hk
  simp only [List.mem_cons, List.not_mem_nil, or_false] at hk
  rcases hk with rfl | rfl | rfl
  refine ⟨_, true, rfl, rfl, ?_⟩
  refine s1 ?_
  refine ARg.nil (ATh.normal ?_)
  refine ARA.any [3, 5] (by kernel_rfl) (by simp) ?_
  intro k hk
  simp only [List.mem_cons, List.not_mem_nil, or_false] at hk
  rcases hk with rfl | rfl
  refine ⟨_, true, rfl, rfl, ?_⟩
  refine s1 ?_
  refine ARg.nil (ATh.normal ?_)
  refine dO 5 true ?_
  refine s1 ?_
  refine ARg.nil (ATh.normal ?_)
  refine dO 6 false ?_
  first | refine s1 ?_ | refine F.aLN (List Int) (oo := false) ?_
  refine ARg.nil (ATh.normal ?_)
  refine dO 9 false ?_
  first | refine s1 ?_ | refine F.aL (List Int) (oo := false) ?_
  refine ARg.nil (ATh.normal ?_)
  refine dO 10 false ?_
  first | refine s1 ?_ | refine F.c (hS) ?_
  refine ARg.nil (ATh.normal ?_)
  refine dO 11 false ?_
  refine s1 ?_
  refine ARg.nil (ATh.normal ?_)
  refine dP 12 ?_
  refine dN ?_
  rotate_left
  refine ⟨_, true, rfl, rfl, ?_⟩
  refine s1 ?_
  refine ARg.nil (ATh.normal ?_)
  refine dO 3 true ?_
  refine s1 ?_
  refine ARg.nil (ATh.normal ?_)
  refine dO 6 false ?_
  first | refine s1 ?_ | refine F.aLN (List Int) (oo := false) ?_
  refine ARg.nil (ATh.normal ?_)
  refine dO 9 false ?_
  first | refine s1 ?_ | refine F.aL (List Int) (oo := false) ?_
  refine ARg.nil (ATh.normal ?_)
  refine dO 10 false ?_
  first | refine s1 ?_ | refine F.c (hS) ?_
  refine ARg.nil (ATh.normal ?_)
  refine dO 11 false ?_
  refine s1 ?_
  refine ARg.nil (ATh.normal ?_)
  refine dP 12 ?_
  refine dN ?_
  rotate_left
  refine ⟨_, true, rfl, rfl, ?_⟩
  refine s1 ?_
  refine ARg.nil (ATh.normal ?_)
  refine ARA.any [2, 5] (by kernel_rfl) (by simp) ?_
  intro k hk
  simp only [List.mem_cons, List.not_mem_nil, or_false] at hk
  rcases hk with rfl | rfl
  refine ⟨_, true, rfl, rfl, ?_⟩
  refine s1 ?_
  refine ARg.nil (ATh.normal ?_)
  refine dO 5 true ?_
  refine s1 ?_
  refine ARg.nil (ATh.normal ?_)
  refine dO 6 false ?_
  first | refine s1 ?_ | refine F.aLN (List Int) (oo := false) ?_
  refine ARg.nil (ATh.normal ?_)
  refine dO 9 false ?_
  first | refine s1 ?_ | refine F.aL (List Int) (oo := false) ?_
  refine ARg.nil (ATh.normal ?_)
  refine dO 10 false ?_
  first | refine s1 ?_ | refine F.c (hS) ?_
  refine ARg.nil (ATh.normal ?_)
  refine dO 11 false ?_
  refine s1 ?_
  refine ARg.nil (ATh.normal ?_)
  refine dP 12 ?_
  refine dN ?_
  rotate_left
  refine ⟨_, true, rfl, rfl, ?_⟩
  refine s1 ?_
  refine ARg.nil (ATh.normal ?_)
  refine ARA.any [2, 6] (by kernel_rfl) (by simp) ?_
  intro k hk
  simp only [List.mem_cons, List.not_mem_nil, or_false] at hk
  rcases hk with rfl | rfl
  refine ⟨_, true, rfl, rfl, ?_⟩
  refine s1 ?_
  refine ARg.nil (ATh.normal ?_)
  refine dO 6 false ?_
  first | refine s1 ?_ | refine F.aLN (List Int) (oo := false) ?_
  refine ARg.nil (ATh.normal ?_)
  refine dO 9 false ?_
  first | refine s1 ?_ | refine F.aL (List Int) (oo := false) ?_
  refine ARg.nil (ATh.normal ?_)
  refine dO 10 false ?_
  first | refine s1 ?_ | refine F.c (hS) ?_
  refine ARg.nil (ATh.normal ?_)
  refine dO 11 false ?_
  refine s1 ?_
  refine ARg.nil (ATh.normal ?_)
  refine dP 12 ?_
  refine dN ?_
  rotate_left
  refine ⟨_, false, rfl, rfl, ?_⟩
  first | refine s1 ?_ | refine F.aLN (List Int) (oo := false) ?_
  refine ARg.nil (ATh.normal ?_)
  refine ARA.any [2, 9] (by kernel_rfl) (by simp) ?_
  intro k hk
  simp only [List.mem_cons, List.not_mem_nil, or_false] at hk
  rcases hk with rfl | rfl
  refine ⟨_, true, rfl, rfl, ?_⟩
  refine s1 ?_
  refine ARg.nil (ATh.normal ?_)
  refine dO 9 false ?_
  first | refine s1 ?_ | refine F.aL (List Int) (oo := false) ?_
  refine ARg.nil (ATh.normal ?_)
  refine dO 10 false ?_
  first | refine s1 ?_ | refine F.c (hS) ?_
  refine ARg.nil (ATh.normal ?_)
  refine dO 11 false ?_
  refine s1 ?_
  refine ARg.nil (ATh.normal ?_)
  refine dP 12 ?_
  refine dN ?_
  rotate_left
  refine ⟨_, false, rfl, rfl, ?_⟩
  first | refine s1 ?_ | refine F.aL (List Int) (oo := false) ?_
  refine ARg.nil (ATh.normal ?_)
  refine dO 2 true ?_
  refine s1 ?_
  refine ARg.nil (ATh.normal ?_)
  refine dO 10 false ?_
  first | refine s1 ?_ | refine F.c (hS) ?_
  refine ARg.nil (ATh.normal ?_)
  refine dO 11 false ?_
  refine s1 ?_
  refine ARg.nil (ATh.normal ?_)
  refine dP 12 ?_
  refine dN ?_
  rotate_left
  refine ⟨_, true, rfl, rfl, ?_⟩
  refine s1 ?_
  refine ARg.nil (ATh.normal ?_)
  refine ARA.any [2, 3] (by kernel_rfl) (by simp) ?_
  intro k hk
  simp only [List.mem_cons, List.not_mem_nil, or_false] at hk
  rcases hk with rfl | rfl
  refine ⟨_, true, rfl, rfl, ?_⟩
  refine s1 ?_
  refine ARg.nil (ATh.normal ?_)
  refine dO 3 true ?_
  refine s1 ?_
  refine ARg.nil (ATh.normal ?_)
  refine dO 6 false ?_
  first | refine s1 ?_ | refine F.aLN (List Int) (oo := false) ?_
  refine ARg.nil (ATh.normal ?_)
  refine dO 9 false ?_
  first | refine s1 ?_ | refine F.aL (List Int) (oo := false) ?_
  refine ARg.nil (ATh.normal ?_)
  refine dO 10 false ?_
  first | refine s1 ?_ | refine F.c (hS) ?_
  refine ARg.nil (ATh.normal ?_)
  refine dO 11 false ?_
  refine s1 ?_
  refine ARg.nil (ATh.normal ?_)
  refine dP 12 ?_
  refine dN ?_
  rotate_left
  refine ⟨_, true, rfl, rfl, ?_⟩
  refine s1 ?_
  refine ARg.nil (ATh.normal ?_)
  refine ARA.any [2, 6] (by kernel_rfl) (by simp) ?_
  intro k hk
  simp only [List.mem_cons, List.not_mem_nil, or_false] at hk
  rcases hk with rfl | rfl
  refine ⟨_, true, rfl, rfl, ?_⟩
  refine s1 ?_
  refine ARg.nil (ATh.normal ?_)
  refine dO 6 false ?_
  first | refine s1 ?_ | refine F.aLN (List Int) (oo := false) ?_
  refine ARg.nil (ATh.normal ?_)
  refine dO 9 false ?_
  first | refine s1 ?_ | refine F.aL (List Int) (oo := false) ?_
  refine ARg.nil (ATh.normal ?_)
  refine dO 10 false ?_
  first | refine s1 ?_ | refine F.c (hS) ?_
  refine ARg.nil (ATh.normal ?_)
  refine dO 11 false ?_
  refine s1 ?_
  refine ARg.nil (ATh.normal ?_)
  refine dP 12 ?_
  refine dN ?_
  rotate_left
  refine ⟨_, false, rfl, rfl, ?_⟩
  first | refine s1 ?_ | refine F.aLN (List Int) (oo := false) ?_
  refine ARg.nil (ATh.normal ?_)
  refine ARA.any [2, 9] (by kernel_rfl) (by simp) ?_
  intro k hk
  simp only [List.mem_cons, List.not_mem_nil, or_false] at hk
  rcases hk with rfl | rfl
  refine ⟨_, true, rfl, rfl, ?_⟩
  refine s1 ?_
  refine ARg.nil (ATh.normal ?_)
  refine dO 9 false ?_
  first | refine s1 ?_ | refine F.aL (List Int) (oo := false) ?_
  refine ARg.nil (ATh.normal ?_)
  refine dO 10 false ?_
  first | refine s1 ?_ | refine F.c (hS) ?_
  refine ARg.nil (ATh.normal ?_)
  refine dO 11 false ?_
  refine s1 ?_
  refine ARg.nil (ATh.normal ?_)
  refine dP 12 ?_
  refine dN ?_
  rotate_left
  refine ⟨_, false, rfl, rfl, ?_⟩
  first | refine s1 ?_ | refine F.aL (List Int) (oo := false) ?_
  refine ARg.nil (ATh.normal ?_)
  refine dO 2 true ?_
  refine s1 ?_
  refine ARg.nil (ATh.normal ?_)
  refine dO 10 false ?_
  first | refine s1 ?_ | refine F.c (hS) ?_
  refine ARg.nil (ATh.normal ?_)
  refine dO 11 false ?_
  refine s1 ?_
  refine ARg.nil (ATh.normal ?_)
  refine dP 12 ?_
  refine dN ?_
  rotate_left
  all_goals
    repeat' first | refine s1 ?_ | fail
    (refine kZ ?_; exact F.ret rfl)
end Go.Proofs.Ytlmenmacepeeaaa.V
