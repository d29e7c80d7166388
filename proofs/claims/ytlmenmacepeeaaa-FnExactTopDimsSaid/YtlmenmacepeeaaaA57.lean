/- Contracts: lists of vectors put together, sums of spaces, spaces of nothing, as the program does them. -/
import Derived.Test.YtlmenmacepeeaaaA52
namespace Go.Proofs.Ytlmenmacepeeaaa.V
open V.Enc (enc)
open Go.RowKit G D
set_option linter.unusedVariables false
set_option linter.unusedSimpArgs false
set_option maxHeartbeats 4000000
set_option maxRecDepth 4000
attribute [local irreducible] AW ARg ARA ARet MRet ASil AC AM

theorem grow2_a (n : Nat) (hn : n ≤ 1048576) : AC Try.prog 216 [.nl, .i n] [.dt true 1 []] := by
  refine AC.go Try.func216 Try.ntmps216 rfl rfl fun w0 hw => ?_; simp [WfL, WfA, E_length, Enc.enc, In64] at hw
  repeat' first | refine s1 ?_ | (refine kR ?_; first | refine F.sil (A.capN rfl) rfl rfl ?_ | refine F.sil (A.slcN (lo := 0) (hi' := 0) rfl rfl rfl (Nat.le_refl _) rfl) rfl rfl ?_ | refine F.appZ (m := n) (List Int) rfl rfl rfl (by omega) (by omega) (mkB (by omega)) (by omega) rfl rfl ?_ | refine F.slcut (k := 0) rfl rfl (by simp [E_length]) rfl (Nat.zero_le _) rfl rfl rfl ?_) | (refine s2 ?_ ?_ <;> intro hc <;> (try simp only [decide_eq_true_eq, decide_eq_false_iff_not, Bool.not_eq_true', Bool.not_eq_false'] at hc)) | fail
  all_goals exact F.ret rfl
theorem concat2_w (ls : List (List (List Int))) (hn : ls.flatten.length ≤ 1048576) : AM Try.prog 202 [ar false ls] [] [.dt true 1 (E false ls.flatten)] [] := by
  refine AM.go Try.func202 Try.ntmps202 rfl rfl fun w0 mp hw => ?_; simp [WfL, WfA, E_length, Enc.enc, In64] at hw
  repeat' first | refine s1 ?_ | (refine s2 ?_ ?_ <;> intro hc <;> (try simp only [decide_eq_true_eq, decide_eq_false_iff_not, Bool.not_eq_true', Bool.not_eq_false'] at hc)) | fail
  refine F.loop (σ := Nat) [3, 5, 11, 12, 13, 14, 15, 16, 17, 18, 19, 20, 21, 22] (fun k => [(3, .i ((ls.take k).flatten.length : Nat)), (11, .i k)]) (fun _ => []) (fun k => k ≤ ls.length) (fun k => ls.length - k) 0 ⟨rfl, rfl, trivial⟩ trivial (Nat.zero_le _) ?_
  rintro k h1
  have hfl := flat_le ls k
  by_cases hlt : k < ls.length
  · have hf2 := flat_len ls hlt
    have hf3 := flat_le ls (k + 1)
    repeat' first | refine s1 ?_ | fail
    refine ⟨k + 1, F.fit ⟨iE (by omega), rfl, trivial⟩ trivial, by omega, by omega⟩
  · have hG := grow2_a (ls.take k).flatten.length (by omega)
    repeat' first | refine s1 ?_ | (refine kR ?_; first | refine F.c (hG) ?_) | (refine s2 ?_ ?_ <;> intro hc <;> (try simp only [decide_eq_true_eq, decide_eq_false_iff_not, Bool.not_eq_true', Bool.not_eq_false'] at hc)) | fail
    obtain rfl : k = ls.length := by omega
    refine F.loop (σ := Nat) [6, 8, 27, 28, 29, 30, 31, 32, 33, 34] (fun k => [(6, .sl 0 (ls.take k).flatten.length 0 (ls.take k).flatten.length), (27, .i k)]) (fun k => [(0, .live false 1 (E false (ls.take k).flatten))]) (fun k => k ≤ ls.length) (fun k => ls.length - k) 0 ⟨rfl, rfl, trivial⟩ ⟨rfl, trivial⟩ (Nat.zero_le _) ?_
    rintro k h1
    have hfl := flat_le ls k
    by_cases hlt : k < ls.length
    · have hf2 := flat_len ls hlt
      have hf3 := flat_le ls (k + 1)
      repeat' first | refine s1 ?_ | (refine kR ?_; first | refine F.appL (α := List Int) (oo := false) rfl rfl rfl rfl .imm rfl rfl (by omega) (by omega) rfl rfl rfl rfl rfl ?_) | fail
      refine ⟨k + 1, F.fit ⟨slE (by omega), rfl, trivial⟩ ⟨obE (by rw [flat_take ls hlt]), trivial⟩, by omega, by omega⟩
    · obtain rfl : k = ls.length := by omega
      rw [List.take_length]
      repeat' first | refine s1 ?_ | fail
      refine kM ?_
      exact F.retM rfl trivial
theorem sumSpace_a (p : Int) (a b : Spc) (ha : isSpc p a = true) (hb : isSpc p b = true) (hn : b.n = a.n) : AC Try.prog 169 [.i p, .agg (enc false a), .agg (enc false b)] [.agg (enc true (addS p a b))] := by
  refine AC.go Try.func169 Try.ntmps169 rfl rfl fun w0 hw => ?_; simp [WfL, WfA, E_length, Enc.enc, In64] at hw
  obtain ⟨h1, h2, h3, h4⟩ := isSpc_spec ha
  obtain ⟨_, _, g3, g4⟩ := isSpc_spec hb
  rw [hn] at g4
  have hS := span_a p a.n.toNat (a.b ++ b.b) h1 (by rw [List.length_append]; omega) (by omega) (h4.app g4)
  rw [Int.toNat_of_nonneg h2.1] at hS
  rw [show (⟨a.n, spanL p a.n.toNat (a.b ++ b.b)⟩ : Spc) = addS p a b from rfl] at hS
  have hC := concat2_w [a.b, b.b] (by simp; omega)
  rw [show [a.b, b.b].flatten = a.b ++ b.b by simp] at hC
  generalize addS p a b = SS' at hS ⊢
  repeat' first | refine s1 ?_ | fail
  refine AW.draw 10 G.mixed (by kernel_rfl) ?_
  refine dP 0 ?_
  refine dP 1 ?_
  refine dL 2 ?_
  refine dP 3 ?_
  refine dL 4 ?_
  refine dP 5 ?_
  refine dL 6 ?_
  refine dO 7 true ?_
  refine s1 ?_
  refine ARg.nil (ATh.normal ?_)
  refine dzA (α := List (List Int)) (ls := [a.b, b.b]) 14 rfl rfl rfl ?_
  refine dO 8 true ?_
  first | refine s1 ?_ | refine F.w (hC) ?_ | refine F.c (hS) ?_
  refine ARg.nil (ATh.normal ?_)
  refine dO 9 true ?_
  first | refine s1 ?_ | refine F.w (hC) ?_ | refine F.c (hS) ?_
  refine ARg.nil (ATh.normal ?_)
  refine dO 10 false ?_
  refine s1 ?_
  refine ARg.nil (ATh.normal ?_)
  refine dN ?_
  rotate_left
  all_goals
    repeat' first | refine s1 ?_ | fail
    (refine kZ ?_; exact F.ret rfl)
theorem zeroS_take {d : List Int} {k : Nat} (h : k < d.length) : (d.take (k + 1)).map (fun d => (⟨d, []⟩ : Spc)) = (d.take k).map (fun d => (⟨d, []⟩ : Spc)) ++ [⟨d.getD k default, []⟩] := by
  have e : d.getD k default = d[k] := by simp [h]
  rw [List.take_succ_eq_append_getElem h, List.map_append, e]
  rfl
theorem zeroSub_a (r : Rep) (h : r.d.length ≤ 1000) : AC Try.prog 168 [.agg (enc false r)] [.dt true 2 (E true (radK r 0))] := by
  refine AC.go Try.func168 Try.ntmps168 rfl rfl fun w0 hw => ?_; simp [WfL, WfA, E_length, Enc.enc, In64] at hw
  unfold radK
  repeat' first | refine s1 ?_ | fail
  refine AW.open 3 2 (.inl rfl) ?_
  refine F.loop (σ := Nat) [3, 5, 9, 10, 11, 12, 13, 14, 15, 16, 17, 18] (fun k => [(3, .sl 1 k 0 k), (9, .i k)]) (fun k => [(1, .live false 2 (E true ((r.d.take k).map fun d => (⟨d, []⟩ : Spc))))]) (fun k => k ≤ r.d.length) (fun k => r.d.length - k) 0 ⟨rfl, rfl, trivial⟩ ⟨rfl, trivial⟩ (Nat.zero_le _) ?_
  rintro k k1
  have hp : ((r.d.take k).map fun d => (⟨d, []⟩ : Spc)).length = k := by simp; omega
  by_cases hk : k < r.d.length
  · have hts := zeroS_take hk
    generalize (r.d.take k).map (fun d => (⟨d, []⟩ : Spc)) = X at hts hp ⊢
    repeat' first | refine s1 ?_ | (refine kR ?_; first | refine F.a1 Spc (a := ⟨r.d.getD k default, []⟩) ?_ (hmv := .at1 rfl (.nl 1 .nil))) | fail
    exact ⟨k + 1, F.fit ⟨rfl, rfl, trivial⟩ ⟨obE (by rw [hts]), trivial⟩, by omega, by omega⟩
  · obtain rfl : k = r.d.length := by omega
    rw [List.take_length]
    have hml : (r.d.map fun d => (⟨d, []⟩ : Spc)).length = r.d.length := by simp
    rw [← hml]
    repeat' first | refine s1 ?_ | fail
    (refine kZ ?_; exact F.ret rfl)
end Go.Proofs.Ytlmenmacepeeaaa.V
