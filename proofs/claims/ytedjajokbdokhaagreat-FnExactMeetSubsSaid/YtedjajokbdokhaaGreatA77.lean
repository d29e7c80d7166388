/- Contracts: sums and meets of parts. -/
import Derived.Test.YtedjajokbdokhaaGreatUi
import Derived.Test.YtedjajokbdokhaaGreatA72
import Derived.Test.YtedjajokbdokhaaGreatA78
import Derived.Test.YtedjajokbdokhaaGreatC2
namespace Go.Proofs.YtedjajokbdokhaaGreat.V
open V.Enc (enc)
open Go.RowKit G D
set_option linter.unusedVariables false
set_option linter.unusedSimpArgs false
set_option maxHeartbeats 4000000
set_option maxRecDepth 4000
attribute [local irreducible] AW ARg ARA ARet MRet ASil AC AM ARI

def pairL (g : Spc → Spc → Spc) (s t : List Spc) : List Spc := (List.range s.length).map fun v => g (s.getD v default) (t.getD v default)
theorem pairL_len (g : Spc → Spc → Spc) (s t : List Spc) : (pairL g s t).length = s.length := by simp [pairL]
theorem pairL_get (g : Spc → Spc → Spc) (s t : List Spc) {v : Nat} (hv : v < s.length) : (pairL g s t).getD v default = g (s.getD v default) (t.getD v default) := by simp [pairL, hv]
theorem pairL_take (g : Spc → Spc → Spc) (s t : List Spc) {v : Nat} (hv : v < s.length) : (pairL g s t).take (v + 1) = (pairL g s t).take v ++ [g (s.getD v default) (t.getD v default)] := by
  simp only [pairL, ← List.map_take, range_take hv, List.map_append, List.map_cons, List.map_nil]
theorem pairwise_a (s t : List Spc) (f : Nat) [IsFn Tryz.prog f] (cs : List AV) (g : Spc → Spc → Spc) (hcs : ∀ hp, SnapL hp cs cs) (hl : t.length = s.length) (hb : s.length ≤ 1000) (hf : ∀ v, v < s.length → AC Tryz.prog f (.agg (enc false (s.getD v default)) :: .agg (enc false (t.getD v default)) :: cs) [.agg (enc true (g (s.getD v default) (t.getD v default)))]) : AC Tryz.prog 72 [ar false s, ar false t, .fn f cs] [.dt true 2 (E true (pairL g s t))] := by
  refine AC.go Tryz.func72 Tryz.ntmps72 rfl rfl fun w0 hw => ?_; simp [WfL, WfA, E_length, Enc.enc, In64] at hw
  have hll := pairL_len g s t
  repeat' first | refine s1 ?_ | fail
  refine AW.open 7 2 (.inl rfl) ?_
  refine F.loop (σ := Nat) [7, 8, 9, 12, 13, 14, 15, 16, 17, 18, 19, 20, 21, 22, 23, 24, 25, 26, 27] (fun k => [(7, .sl 0 k 0 k), (12, .i k)]) (fun k => [(0, .live false 2 (E true ((pairL g s t).take k)))]) (fun k => k ≤ s.length) (fun k => s.length - k) 0 ⟨rfl, rfl, trivial⟩ ⟨rfl, trivial⟩ (Nat.zero_le _) ?_
  rintro k k1
  have hp : ((pairL g s t).take k).length = k := by rw [List.length_take]; omega
  by_cases hk : k < s.length
  · have hkt : k < t.length := by omega
    have h1 := hf k hk
    have hts := pairL_take g s t hk
    generalize g (s.getD k default) (t.getD k default) = G1 at h1 hts
    repeat' first | refine s1 ?_ | fail
    refine AW.draw 9 G.mixed (by kernel_rfl) ?_
    refine dP 0 ?_
    refine dP 1 ?_
    refine dL 2 ?_
    refine dP 3 ?_
    refine dP 4 ?_
    refine dP 5 ?_
    refine dL 6 ?_
    refine dO 7 true ?_
    first | refine s1 ?_ | refine F.cv (h1) ?_
    refine ARg.nil (ATh.normal ?_)
    refine dO 8 true ?_
    refine s1 ?_
    refine ARg.nil (ATh.normal ?_)
    refine dO 9 false ?_
    first | refine s1 ?_ | refine F.a1 Spc (a := G1) ?_
    refine ARg.nil (ATh.normal ?_)
    refine dP 10 ?_
    refine dN ?_
    rotate_left
    all_goals
      repeat' first | refine s1 ?_ | fail
      exact ⟨k + 1, F.fit ⟨rfl, rfl, trivial⟩ ⟨obE (by rw [hts]), trivial⟩, by omega, by omega⟩
  · obtain rfl : k = s.length := by omega
    have e : (pairL g s t).take s.length = pairL g s t := List.take_of_length_le (by omega)
    rw [e]
    clear hp e
    generalize pairL g s t = L at hll ⊢
    rw [← hll]
    repeat' first | refine s1 ?_ | fail
    (refine kZ ?_; exact F.ret rfl)
theorem addSubs1_a (r : Rep) (a b : Spc) (ha : isSpc r.p a = true) (hb : isSpc r.p b = true) (hn : b.n = a.n) : AC Tryz.prog 73 [.agg (enc false a), .agg (enc false b), .ip (enc false r)] [.agg (enc true (addS r.p a b))] := by
  refine AC.go Tryz.func73 Tryz.ntmps73 rfl rfl fun w0 hw => ?_; simp [WfL, WfA, E_length, Enc.enc, In64] at hw
  have hS := sumSpace_a r.p a b ha hb hn
  generalize addS r.p a b = X at hS ⊢
  repeat' first | refine s1 ?_ | (refine kR ?_; first | refine F.c (hS) ?_) | fail
  (refine kZ ?_; exact F.ret rfl)
theorem meetSubs1_a (r : Rep) (a b : Spc) (ha : isSpc r.p a = true) (hb : isSpc r.p b = true) (hn : b.n = a.n) : AC Tryz.prog 78 [.agg (enc false a), .agg (enc false b), .ip (enc false r)] [.agg (enc true (metS r.p a b))] := by
  refine AC.go Tryz.func78 Tryz.ntmps78 rfl rfl fun w0 hw => ?_; simp [WfL, WfA, E_length, Enc.enc, In64] at hw
  have hS := meetSpace_a r.p a b ha hb hn
  generalize metS r.p a b = X at hS ⊢
  repeat' first | refine s1 ?_ | (refine kR ?_; first | refine F.c (hS) ?_) | fail
  (refine kZ ?_; exact F.ret rfl)
def addP (r : Rep) (s t : List Spc) : List Spc × Bool := if isSub r s = true ∧ isSub r t = true then (pairL (addS r.p) s t, true) else ([], false)
def metP (r : Rep) (s t : List Spc) : List Spc × Bool := if isSub r s = true ∧ isSub r t = true then (pairL (metS r.p) s t, true) else ([], false)
theorem sub_pair {r : Rep} {s t : List Spc} (hs : isSub r s = true) (ht : isSub r t = true) : t.length = s.length ∧ s.length ≤ 5 ∧ ∀ v, v < s.length → isSpc r.p (s.getD v default) = true ∧ isSpc r.p (t.getD v default) = true ∧ (t.getD v default).n = (s.getD v default).n := by
  obtain ⟨h1, h2, h3, h4⟩ := isSub_spec hs
  obtain ⟨_, g2, g3, g4⟩ := isSub_spec ht
  obtain ⟨r1, r2, r3, r4⟩ := isRep_spec h1
  obtain ⟨c1, c2, c3, _⟩ := areDims_spec r2
  have h5 := okQ_spec c1
  refine ⟨by omega, by omega, fun v hv => ?_⟩
  obtain ⟨a1, a2⟩ := h3 v hv
  obtain ⟨b1, b2⟩ := g3 v (by omega)
  exact ⟨a1, b1, by rw [b2, a2]⟩
theorem implAddSubs_a (r : Rep) (s t : List Spc) : AC Tryz.prog 24 [.agg (enc false r), ar false s, ar false t] [.dt true 2 (E true (addP r s t).1), .b (addP r s t).2] := by
  refine AC.go Tryz.func24 Tryz.ntmps24 rfl rfl fun w0 hw => ?_; simp [WfL, WfA, E_length, Enc.enc, In64] at hw
  have hS := implIsSub_a r s
  have hT := implIsSub_a r t
  unfold addP
  cases hs : isSub r s with
  | false =>
    rw [hs] at hS
    rw [if_neg (by simp)]
    repeat' first | refine s1 ?_ | (refine kR ?_; first | refine F.c (hS) ?_) | fail
    (refine kZ ?_; exact F.ret rfl)
  | true =>
    rw [hs] at hS
    cases ht : isSub r t with
    | false =>
      rw [ht] at hT
      rw [if_neg (by simp)]
      by_cases hst : s = t
      · subst hst; rw [hs] at ht; cases ht
      · repeat' first | refine s1 ?_ | (refine kR ?_; first | refine F.c (hS) ?_ | refine F.c (hT) ?_) | fail
        (refine kZ ?_; exact F.ret rfl)
    | true =>
      rw [ht] at hT
      rw [if_pos ⟨rfl, rfl⟩]
      obtain ⟨l1, l2, l3⟩ := sub_pair hs ht
      have hP := pairwise_a s t 73 [.ip (enc false r)] (addS r.p) (fun _ => .ip .nil) l1 (by omega) (fun v hv => addSubs1_a r _ _ (l3 v hv).1 (l3 v hv).2.1 (l3 v hv).2.2)
      generalize pairL (addS r.p) s t = L at hP ⊢
      repeat' first | refine s1 ?_ | (refine kR ?_; first | refine F.c (hS) ?_ | refine F.c (hT) ?_ | refine F.c (hP) ?_) | fail
      (refine kZ ?_; exact F.ret rfl)
theorem implMeetSubs_a (r : Rep) (s t : List Spc) : AC Tryz.prog 30 [.agg (enc false r), ar false s, ar false t] [.dt true 2 (E true (metP r s t).1), .b (metP r s t).2] := by
  refine AC.go Tryz.func30 Tryz.ntmps30 rfl rfl fun w0 hw => ?_; simp [WfL, WfA, E_length, Enc.enc, In64] at hw
  have hS := implIsSub_a r s
  have hT := implIsSub_a r t
  unfold metP
  cases hs : isSub r s with
  | false =>
    rw [hs] at hS
    rw [if_neg (by simp)]
    repeat' first | refine s1 ?_ | (refine kR ?_; first | refine F.c (hS) ?_) | fail
    (refine kZ ?_; exact F.ret rfl)
  | true =>
    rw [hs] at hS
    cases ht : isSub r t with
    | false =>
      rw [ht] at hT
      rw [if_neg (by simp)]
      by_cases hst : s = t
      · subst hst; rw [hs] at ht; cases ht
      · repeat' first | refine s1 ?_ | (refine kR ?_; first | refine F.c (hS) ?_ | refine F.c (hT) ?_) | fail
        (refine kZ ?_; exact F.ret rfl)
    | true =>
      rw [ht] at hT
      rw [if_pos ⟨rfl, rfl⟩]
      obtain ⟨l1, l2, l3⟩ := sub_pair hs ht
      have hP := pairwise_a s t 78 [.ip (enc false r)] (metS r.p) (fun _ => .ip .nil) l1 (by omega) (fun v hv => meetSubs1_a r _ _ (l3 v hv).1 (l3 v hv).2.1 (l3 v hv).2.2)
      generalize pairL (metS r.p) s t = L at hP ⊢
      repeat' first | refine s1 ?_ | (refine kR ?_; first | refine F.c (hS) ?_ | refine F.c (hT) ?_ | refine F.c (hP) ?_) | fail
      (refine kZ ?_; exact F.ret rfl)
theorem specAddSubs_a (r : Rep) (s t : List Spc) : AC Tryz.prog 22 [.agg (enc false r), ar false s, ar false t] [.dt true 2 (E true (addP r s t).1), .b (addP r s t).2] := by
  refine AC.go Tryz.func22 Tryz.ntmps22 rfl rfl fun w0 hw => ?_; simp [WfL, WfA, E_length, Enc.enc, In64] at hw
  have hS := specIsSub_a r s
  have hT := specIsSub_a r t
  unfold addP
  cases hs : isSub r s with
  | false =>
    rw [hs] at hS
    rw [if_neg (by simp)]
    repeat' first | refine s1 ?_ | (refine kR ?_; first | refine F.c (hS) ?_) | fail
    (refine kZ ?_; exact F.ret rfl)
  | true =>
    rw [hs] at hS
    cases ht : isSub r t with
    | false =>
      rw [ht] at hT
      rw [if_neg (by simp)]
      by_cases hst : s = t
      · subst hst; rw [hs] at ht; cases ht
      · repeat' first | refine s1 ?_ | (refine kR ?_; first | refine F.c (hS) ?_ | refine F.c (hT) ?_) | fail
        (refine kZ ?_; exact F.ret rfl)
    | true =>
      rw [ht] at hT
      rw [if_pos ⟨rfl, rfl⟩]
      obtain ⟨l1, l2, l3⟩ := sub_pair hs ht
      have hll := pairL_len (addS r.p) s t
      repeat' first | refine s1 ?_ | (refine kR ?_; first | refine F.c (hS) ?_ | refine F.c (hT) ?_) | fail
      refine AW.open 8 2 (.inr rfl) ?_
      refine F.loop (σ := Nat) [8, 9, 10, 11, 24, 25, 26, 27, 28, 29, 30, 31, 32, 33, 34, 35, 36, 37, 38, 39, 40, 41, 42, 43, 44, 45, 46, 47] (fun k => [(8, .sl 1 k 0 k), (9, .i k)]) (fun k => [(1, .live false 2 (E true ((pairL (addS r.p) s t).take k)))]) (fun k => k ≤ s.length) (fun k => s.length - k) 0 ⟨rfl, rfl, trivial⟩ ⟨rfl, trivial⟩ (Nat.zero_le _) ?_
      rintro k k1
      have hp : ((pairL (addS r.p) s t).take k).length = k := by rw [List.length_take]; omega
      by_cases hk : k < s.length
      · have hkt : k < t.length := by omega
        obtain ⟨n1, n2, n3⟩ := l3 k hk
        have hA := addSpaces_a r.p _ _ n1 n2 n3
        have hts := pairL_take (addS r.p) s t hk
        generalize addS r.p (s.getD k default) (t.getD k default) = G1 at hA hts
        repeat' first | refine s1 ?_ | fail
        refine AW.draw 15 G.mixed (by kernel_rfl) ?_
        refine dP 0 ?_
        refine dL 1 ?_
        refine dP 2 ?_
        refine dP 3 ?_
        refine dP 4 ?_
        refine dL 5 ?_
        refine dP 6 ?_
        refine dP 7 ?_
        refine dP 8 ?_
        refine dL 9 ?_
        refine ARA.any [10, 14] (by kernel_rfl) (by simp) ?_
        intro k hk
        simp only [List.mem_cons, List.not_mem_nil, or_false] at hk
        rcases hk with rfl | rfl
        refine ⟨_, true, rfl, rfl, ?_⟩
        first | refine s1 ?_ | refine F.c (hA) ?_
        refine ARg.nil (ATh.normal ?_)
        refine dP 11 ?_
        refine dP 12 ?_
        refine dP 13 ?_
        refine dO 14 true ?_
        refine s1 ?_
        refine ARg.nil (ATh.normal ?_)
        refine dO 15 false ?_
        refine s1 ?_
        refine ARg.nil (ATh.normal ?_)
        refine dP 16 ?_
        refine dN ?_
        rotate_left
        refine ⟨_, true, rfl, rfl, ?_⟩
        refine s1 ?_
        refine ARg.nil (ATh.normal ?_)
        refine dO 10 true ?_
        first | refine s1 ?_ | refine F.c (hA) ?_
        refine ARg.nil (ATh.normal ?_)
        refine dP 11 ?_
        refine dP 12 ?_
        refine dP 13 ?_
        refine dO 15 false ?_
        refine s1 ?_
        refine ARg.nil (ATh.normal ?_)
        refine dP 16 ?_
        refine dN ?_
        rotate_left
        all_goals
          repeat' first | refine s1 ?_ | (refine kR ?_; first | refine F.a1 Spc (a := G1) ?_) | fail
          exact ⟨k + 1, F.fit ⟨rfl, rfl, trivial⟩ ⟨obE (by rw [hts]), trivial⟩, by omega, by omega⟩
      · obtain rfl : k = s.length := by omega
        have e : (pairL (addS r.p) s t).take s.length = pairL (addS r.p) s t := List.take_of_length_le (by omega)
        rw [e]
        clear hp e
        generalize pairL (addS r.p) s t = L at hll ⊢
        rw [← hll]
        repeat' first | refine s1 ?_ | fail
        (refine kZ ?_; exact F.ret rfl)
theorem specMeetSubs_a (r : Rep) (s t : List Spc) : AC Tryz.prog 29 [.agg (enc false r), ar false s, ar false t] [.dt true 2 (E true (metP r s t).1), .b (metP r s t).2] := by
  refine AC.go Tryz.func29 Tryz.ntmps29 rfl rfl fun w0 hw => ?_; simp [WfL, WfA, E_length, Enc.enc, In64] at hw
  have hS := specIsSub_a r s
  have hT := specIsSub_a r t
  unfold metP
  cases hs : isSub r s with
  | false =>
    rw [hs] at hS
    rw [if_neg (by simp)]
    repeat' first | refine s1 ?_ | (refine kR ?_; first | refine F.c (hS) ?_) | fail
    (refine kZ ?_; exact F.ret rfl)
  | true =>
    rw [hs] at hS
    cases ht : isSub r t with
    | false =>
      rw [ht] at hT
      rw [if_neg (by simp)]
      by_cases hst : s = t
      · subst hst; rw [hs] at ht; cases ht
      · repeat' first | refine s1 ?_ | (refine kR ?_; first | refine F.c (hS) ?_ | refine F.c (hT) ?_) | fail
        (refine kZ ?_; exact F.ret rfl)
    | true =>
      rw [ht] at hT
      rw [if_pos ⟨rfl, rfl⟩]
      obtain ⟨l1, l2, l3⟩ := sub_pair hs ht
      have hll := pairL_len (metS r.p) s t
      repeat' first | refine s1 ?_ | (refine kR ?_; first | refine F.c (hS) ?_ | refine F.c (hT) ?_) | fail
      refine AW.open 8 2 (.inr rfl) ?_
      refine F.loop (σ := Nat) [8, 9, 10, 11, 24, 25, 26, 27, 28, 29, 30, 31, 32, 33, 34, 35, 36, 37, 38, 39, 40, 41, 42, 43, 44, 45, 46, 47] (fun k => [(8, .sl 1 k 0 k), (9, .i k)]) (fun k => [(1, .live false 2 (E true ((pairL (metS r.p) s t).take k)))]) (fun k => k ≤ s.length) (fun k => s.length - k) 0 ⟨rfl, rfl, trivial⟩ ⟨rfl, trivial⟩ (Nat.zero_le _) ?_
      rintro k k1
      have hp : ((pairL (metS r.p) s t).take k).length = k := by rw [List.length_take]; omega
      by_cases hk : k < s.length
      · have hkt : k < t.length := by omega
        obtain ⟨n1, n2, n3⟩ := l3 k hk
        have hA := meetSpaces_a r.p _ _ n1 n2 n3
        have hts := pairL_take (metS r.p) s t hk
        generalize metS r.p (s.getD k default) (t.getD k default) = G1 at hA hts
        repeat' first | refine s1 ?_ | fail
        refine AW.draw 15 G.mixed (by kernel_rfl) ?_
        refine dP 0 ?_
        refine dL 1 ?_
        refine dP 2 ?_
        refine dP 3 ?_
        refine dP 4 ?_
        refine dL 5 ?_
        refine dP 6 ?_
        refine dP 7 ?_
        refine dP 8 ?_
        refine dL 9 ?_
        refine ARA.any [10, 14] (by kernel_rfl) (by simp) ?_
        intro k hk
        simp only [List.mem_cons, List.not_mem_nil, or_false] at hk
        rcases hk with rfl | rfl
        refine ⟨_, true, rfl, rfl, ?_⟩
        first | refine s1 ?_ | refine F.c (hA) ?_
        refine ARg.nil (ATh.normal ?_)
        refine dP 11 ?_
        refine dP 12 ?_
        refine dP 13 ?_
        refine dO 14 true ?_
        refine s1 ?_
        refine ARg.nil (ATh.normal ?_)
        refine dO 15 false ?_
        refine s1 ?_
        refine ARg.nil (ATh.normal ?_)
        refine dP 16 ?_
        refine dN ?_
        rotate_left
        refine ⟨_, true, rfl, rfl, ?_⟩
        refine s1 ?_
        refine ARg.nil (ATh.normal ?_)
        refine dO 10 true ?_
        first | refine s1 ?_ | refine F.c (hA) ?_
        refine ARg.nil (ATh.normal ?_)
        refine dP 11 ?_
        refine dP 12 ?_
        refine dP 13 ?_
        refine dO 15 false ?_
        refine s1 ?_
        refine ARg.nil (ATh.normal ?_)
        refine dP 16 ?_
        refine dN ?_
        rotate_left
        all_goals
          repeat' first | refine s1 ?_ | (refine kR ?_; first | refine F.a1 Spc (a := G1) ?_) | fail
          exact ⟨k + 1, F.fit ⟨rfl, rfl, trivial⟩ ⟨obE (by rw [hts]), trivial⟩, by omega, by omega⟩
      · obtain rfl : k = s.length := by omega
        have e : (pairL (metS r.p) s t).take s.length = pairL (metS r.p) s t := List.take_of_length_le (by omega)
        rw [e]
        clear hp e
        generalize pairL (metS r.p) s t = L at hll ⊢
        rw [← hll]
        repeat' first | refine s1 ?_ | fail
        (refine kZ ?_; exact F.ret rfl)
/-- how much their memory holds -/
theorem pair_ct {r : Rep} {s t : List Spc} {g : Spc → Spc → Spc} (hs : isSub r s = true) (ht : isSub r t = true) (hg : ∀ v, v < s.length → isSpc r.p (g (s.getD v default) (t.getD v default)) = true) : cnt ctS (pairL g s t) + cnt lnS (pairL g s t) ≤ 1000 := by
  obtain ⟨l1, l2, l3⟩ := sub_pair hs ht
  have hll := pairL_len g s t
  have := spcs_ct (p := r.p) (l := pairL g s t) (n := 5) (by omega) fun v hv => by
    rw [pairL_get g s t (by omega)]
    exact hg v (by omega)
  omega
theorem addP_ct (r : Rep) (s t : List Spc) : cnt ctS (addP r s t).1 + cnt lnS (addP r s t).1 ≤ 1000 := by
  unfold addP
  by_cases h : isSub r s = true ∧ isSub r t = true
  · rw [if_pos h]
    obtain ⟨l1, l2, l3⟩ := sub_pair h.1 h.2
    exact pair_ct h.1 h.2 fun v hv => addS_ok (l3 v hv).1 (l3 v hv).2.1 (l3 v hv).2.2
  · rw [if_neg h]; simp [cnt]
theorem metP_ct (r : Rep) (s t : List Spc) : cnt ctS (metP r s t).1 + cnt lnS (metP r s t).1 ≤ 1000 := by
  unfold metP
  by_cases h : isSub r s = true ∧ isSub r t = true
  · rw [if_pos h]
    obtain ⟨l1, l2, l3⟩ := sub_pair h.1 h.2
    exact pair_ct h.1 h.2 fun v hv => metS_ok (l3 v hv).1
  · rw [if_neg h]; simp [cnt]
end Go.Proofs.YtedjajokbdokhaaGreat.V
