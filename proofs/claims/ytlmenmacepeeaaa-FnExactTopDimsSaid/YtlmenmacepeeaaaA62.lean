/- Contracts: dimensions of spaces, and of the top. -/
import Derived.Test.YtlmenmacepeeaaaA59
namespace Go.Proofs.Ytlmenmacepeeaaa.V
open V.Enc (enc)
open Go.RowKit G D
set_option linter.unusedVariables false
set_option linter.unusedSimpArgs false
set_option maxHeartbeats 4000000
set_option maxRecDepth 4000
attribute [local irreducible] AW ARg ARA ARet MRet ASil AC AM

def dimS (l : List Spc) : List Int := l.map fun s => (s.b.length : Int)
theorem dimS_take {l : List Spc} {k : Nat} (h : k < l.length) : dimS (l.take (k + 1)) = dimS (l.take k) ++ [((l.getD k default).b.length : Int)] := by
  have e : l.getD k default = l[k] := by simp [h]
  rw [dimS, List.take_succ_eq_append_getElem h, List.map_append, e]
  rfl
theorem dimS_len (l : List Spc) : (dimS l).length = l.length := by simp [dimS]
theorem subDims_a (l : List Spc) (hl : l.length ≤ 1000) (hb : ∀ i, i < l.length → (l.getD i default).b.length ≤ 1000) : AC Try.prog 91 [ar false l] [.dt true 1 (E true (dimS l))] := by
  refine AC.go Try.func91 Try.ntmps91 rfl rfl fun w0 hw => ?_; simp [WfL, WfA, E_length, Enc.enc, In64] at hw
  repeat' first | refine s1 ?_ | fail
  refine AW.open 3 1 (.inl rfl) ?_
  refine F.loop (σ := Nat) [3, 5, 8, 9, 10, 11, 12, 13, 14, 15, 16, 17, 18] (fun k => [(3, .sl 0 k 0 k), (8, .i k)]) (fun k => [(0, .live false 1 (E true (dimS (l.take k))))]) (fun k => k ≤ l.length) (fun k => l.length - k) 0 ⟨rfl, rfl, trivial⟩ ⟨rfl, trivial⟩ (Nat.zero_le _) ?_
  rintro k k1
  have hp : (dimS (l.take k)).length = k := by rw [dimS_len, List.length_take]; omega
  by_cases hk : k < l.length
  · have hts := dimS_take hk
    have hbk := hb k hk
    generalize dimS (l.take k) = X at hts hp ⊢
    repeat' first | refine s1 ?_ | (refine kR ?_; first | refine F.a1 Int ?_) | fail
    exact ⟨k + 1, F.fit ⟨rfl, rfl, trivial⟩ ⟨obE (by rw [hts]), trivial⟩, by omega, by omega⟩
  · obtain rfl : k = l.length := by omega
    rw [List.take_length]
    have hml := dimS_len l
    rw [← hml]
    repeat' first | refine s1 ?_ | fail
    (refine kZ ?_; exact F.ret rfl)
/-- what the parts' dimensions leave, for the first k vertices -/
def topK (d : List Int) (l : List Int) (k : Nat) : List Int := rowL l.length fun v => if v < k then d.getD v default - l.getD v default else l.getD v default
theorem topK_len (d l : List Int) (k : Nat) : (topK d l k).length = l.length := rowL_len ..
theorem topK_zero (d l : List Int) : topK d l 0 = l := by
  unfold topK
  rw [rowL_ext (g := fun v => l.getD v default) fun v hv => by simp]
  exact rowL_of rfl
theorem topK_get {d l : List Int} {k : Nat} (h : k < l.length) : (topK d l k).getD k default = l.getD k default := by
  unfold topK; rw [rowL_get _ h, if_neg (by omega)]
theorem topK_set {d l : List Int} {k : Nat} (h : k < l.length) : (topK d l k).set k (d.getD k default - l.getD k default) = topK d l (k + 1) := by
  apply List.ext_getElem (by simp [topK])
  intro i h1 h2
  rw [List.getElem_set]
  simp only [topK, rowL, List.getElem_map, List.getElem_range]
  by_cases e : k = i
  · subst e; simp
  · have : i < k + 1 ↔ i < k := by omega
    simp [e, this]
def topD (r : Rep) : List Int := if isRep r = true then topK r.d (dimS (radL r)) r.d.length else []
theorem rad_b {r : Rep} (h : isRep r = true) {v : Nat} (hv : v < r.d.length) : ((radL r).getD v default).b.length ≤ 16 := (isSpc_spec (radK_ok h r.q.fr.length (Nat.le_refl _) v hv).2).2.2.1
theorem implTopDims_a (r : Rep) : AC Try.prog 31 [.agg (enc false r)] [.dt true 1 (E true (topD r))] := by
  refine AC.go Try.func31 Try.ntmps31 rfl rfl fun w0 hw => ?_; simp [WfL, WfA, E_length, Enc.enc, In64] at hw
  have hF := implIsRep_a r
  unfold topD
  cases h : isRep r with
  | false =>
    rw [h] at hF
    rw [if_neg (by simp)]
    repeat' first | refine s1 ?_ | (refine kR ?_; first | refine F.c (hF) ?_) | fail
    (refine kZ ?_; exact F.ret rfl)
  | true =>
    rw [h] at hF
    rw [if_pos rfl]
    obtain ⟨r1, r2, r3, r4⟩ := isRep_spec h
    obtain ⟨c1, c2, c3, _⟩ := areDims_spec r2
    have h5 := okQ_spec c1
    have hR := radical_a r h
    have hl : (radL r).length = r.d.length := radK_len r r.q.fr.length
    have hD := subDims_a (radL r) (by omega) (fun i hi => by have := rad_b h (v := i) (by omega); omega)
    have hdl := dimS_len (radL r)
    have hdb : ∀ v, v < r.d.length → 0 ≤ (dimS (radL r)).getD v default ∧ (dimS (radL r)).getD v default ≤ 16 := fun v hv => by
      have e : (dimS (radL r)).getD v default = (((radL r).getD v default).b.length : Int) := by simp [dimS, hl, hv]
      have := rad_b h hv
      rw [e]; omega
    generalize dimS (radL r) = D0 at hD hdl hdb ⊢
    generalize radL r = L at hR hD hdl hl
    have hz := topK_zero r.d D0
    repeat' first | refine s1 ?_ | (refine kR ?_; first | refine F.c (hF) ?_ | refine F.c (hR) ?_ | refine F.c (hD) ?_) | fail
    refine F.loop (σ := Nat) [4, 13, 14, 15, 16, 17, 18, 19, 20, 21, 22, 23, 24, 25, 26, 27, 28, 29] (fun k => [(13, .i k)]) (fun k => [(2, .live false 1 (E true (topK r.d D0 k)))]) (fun k => k ≤ r.d.length) (fun k => r.d.length - k) 0 ⟨rfl, trivial⟩ ⟨obE (by rw [hz]), trivial⟩ (Nat.zero_le _) ?_
    rintro k k1
    have hkl := topK_len r.d D0 k
    by_cases hk : k < r.d.length
    · have hg := topK_get (d := r.d) (l := D0) (k := k) (by omega)
      have hs := topK_set (d := r.d) (l := D0) (k := k) (by omega)
      have hb := hdb k hk
      have hd : 0 ≤ r.d.getD k default ∧ r.d.getD k default ≤ 4 := allIn_spec c3 hk
      generalize topK r.d D0 k = X at hkl hg hs ⊢
      rw [← hg] at hb hs
      have hi : In64 (r.d.getD k default - X.getD (0 + k) default) := by rw [Nat.zero_add]; unfold In64; omega
      repeat' first | refine s1 ?_ | fail
      refine AW.draw 13 G.mixed (by kernel_rfl) ?_
      refine dP 0 ?_
      refine dP 1 ?_
      refine dP 2 ?_
      refine dL 3 ?_
      refine dP 4 ?_
      refine dP 5 ?_
      refine dL 6 ?_
      refine dP 7 ?_
      refine dP 8 ?_
      refine dP 9 ?_
      refine dL 10 ?_
      refine dP 11 ?_
      refine dP 12 ?_
      refine dO 13 false ?_
      refine s1 ?_
      refine ARg.nil (ATh.normal ?_)
      refine dN ?_
      repeat' first | refine s1 ?_ | fail
      exact ⟨k + 1, F.fit ⟨rfl, trivial⟩ ⟨obE (by rw [Nat.zero_add k, hs]), trivial⟩, by omega, by omega⟩
    · obtain rfl : k = r.d.length := by omega
      generalize topK r.d D0 r.d.length = X at hkl ⊢
      have hXl : X.length = L.length := by omega
      repeat' first | refine s1 ?_ | fail
      (refine kZ ?_; exact F.ret rfl)
theorem specTopDims_a (r : Rep) : AC Try.prog 30 [.agg (enc false r)] [.dt true 1 (E true (topD r))] := by
  refine AC.go Try.func30 Try.ntmps30 rfl rfl fun w0 hw => ?_; simp [WfL, WfA, E_length, Enc.enc, In64] at hw
  have hR := specRadicalOf_a r
  unfold topD
  cases h : isRep r with
  | false =>
    rw [show radP r = ([], false) by unfold radP; rw [if_neg (by simp [h])]] at hR
    rw [if_neg (by simp)]
    repeat' first | refine s1 ?_ | (refine kR ?_; first | refine F.c (hR) ?_) | fail
    refine F.loop (σ := Nat) [5, 6, 13, 14, 15, 16, 17, 18, 19, 20, 21, 22, 23, 24, 25, 26, 27, 28, 29, 30, 31, 32, 33, 34, 35, 36] (fun k => [(5, .em), (6, .i 0)]) (fun _ => []) (fun _ => True) (fun _ => 0) 0 ⟨rfl, rfl, trivial⟩ trivial trivial ?_
    rintro k _
    repeat' first | refine s1 ?_ | fail
    (refine kZ ?_; exact F.ret rfl)
  | true =>
    rw [show radP r = (radL r, true) by unfold radP; rw [if_pos h]] at hR
    rw [if_pos rfl]
    obtain ⟨r1, r2, r3, r4⟩ := isRep_spec h
    obtain ⟨c1, c2, c3, _⟩ := areDims_spec r2
    have h5 := okQ_spec c1
    have hl : (radL r).length = r.d.length := radK_len r r.q.fr.length
    have hbv := fun v hv => rad_b h (v := v) hv
    have hTl := topK_len r.d (dimS (radL r)) r.d.length
    have hTt : ∀ k, k < r.d.length → (topK r.d (dimS (radL r)) r.d.length).take (k + 1) = (topK r.d (dimS (radL r)) r.d.length).take k ++ [r.d.getD k default - (((radL r).getD k default).b.length : Int)] := fun k hk => by
      unfold topK
      rw [rowL_take _ (by rw [dimS_len]; omega), if_pos hk]
      have e : (dimS (radL r)).getD k default = (((radL r).getD k default).b.length : Int) := by simp [dimS, hl, hk]
      rw [e]
    rw [dimS_len, hl] at hTl
    generalize topK r.d (dimS (radL r)) r.d.length = T at hTl hTt ⊢
    generalize radL r = L at hR hl hbv hTt
    repeat' first | refine s1 ?_ | (refine kR ?_; first | refine F.c (hR) ?_) | fail
    refine AW.lend (o := 1) rfl ?_
    refine AW.open 5 1 (.inr rfl) ?_
    refine F.loop (σ := Nat) [5, 6, 13, 14, 15, 16, 17, 18, 19, 20, 21, 22, 23, 24, 25, 26, 27, 28, 29, 30, 31, 32, 33, 34, 35, 36] (fun k => [(5, .sl 2 k 0 k), (6, .i k)]) (fun k => [(2, .live false 1 (E true (T.take k)))]) (fun k => k ≤ r.d.length) (fun k => r.d.length - k) 0 ⟨rfl, rfl, trivial⟩ ⟨rfl, trivial⟩ (Nat.zero_le _) ?_
    rintro k k1
    have hp : (T.take k).length = k := by rw [List.length_take]; omega
    by_cases hk : k < r.d.length
    · have hts := hTt k hk
      have hb := hbv k hk
      have hd : 0 ≤ r.d.getD k default ∧ r.d.getD k default ≤ 4 := allIn_spec c3 hk
      rw [← Nat.zero_add k] at hb
      have hi : In64 (r.d.getD k default - ((L.getD (0 + k) default).b.length : Int)) := by unfold In64; omega
      repeat' first | refine s1 ?_ | fail
      refine AW.draw 14 G.mixed (by kernel_rfl) ?_
      refine dP 0 ?_
      refine dP 1 ?_
      refine dL 2 ?_
      refine dP 3 ?_
      refine dP 4 ?_
      refine dL 5 ?_
      refine dP 6 ?_
      refine dP 7 ?_
      refine dP 8 ?_
      refine dP 9 ?_
      refine dL 10 ?_
      refine dP 11 ?_
      refine dP 12 ?_
      refine dO 13 true ?_
      refine s1 ?_
      refine ARg.nil (ATh.normal ?_)
      refine dO 14 false ?_
      first | refine s1 ?_ | refine F.a1 Int ?_
      refine ARg.nil (ATh.normal ?_)
      refine dP 15 ?_
      refine dN ?_
      repeat' first | refine s1 ?_ | fail
      exact ⟨k + 1, F.fit ⟨rfl, rfl, trivial⟩ ⟨obE (by rw [hts, Nat.zero_add k]), trivial⟩, by omega, by omega⟩
    · obtain rfl : k = r.d.length := by omega
      have e : T.take r.d.length = T := List.take_of_length_le (by omega)
      rw [e]
      rw [← hTl]
      clear hp e
      repeat' first | refine s1 ?_ | fail
      (refine kZ ?_; exact F.ret rfl)
theorem topD_len (r : Rep) : (topD r).length ≤ 1000 := by
  unfold topD
  by_cases h : isRep r = true
  · rw [if_pos h, topK_len, dimS_len]
    obtain ⟨r1, r2, r3, r4⟩ := isRep_spec h
    obtain ⟨c1, c2, c3, _⟩ := areDims_spec r2
    have h5 := okQ_spec c1
    have hl : (radL r).length = r.d.length := radK_len r r.q.fr.length
    omega
  · rw [if_neg h]; simp
end Go.Proofs.Ytlmenmacepeeaaa.V
