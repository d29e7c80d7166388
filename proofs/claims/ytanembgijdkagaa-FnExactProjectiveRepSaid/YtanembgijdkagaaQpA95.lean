/- Contracts: opposite quivers, dual and injective representations. -/
import Derived.Test.YtanembgijdkagaaQpA91
import Derived.Test.YtanembgijdkagaaQpUg
namespace Go.Proofs.Ytanembgijdkagaa.V
open V.Enc (enc)
open Go.RowKit G D
set_option linter.unusedVariables false
set_option linter.unusedSimpArgs false
set_option maxHeartbeats 4000000
set_option maxRecDepth 4000
attribute [local irreducible] AW ARg ARA ARet MRet ASil AC AM ARI
def oppQ (q : Quiv) : Quiv := ⟨q.n, q.to, q.fr⟩
def oppP (q : Quiv) : Quiv × Bool := if okQ q = true then (oppQ q, true) else (⟨0, [], []⟩, false)
theorem implOppositeOf_a (q : Quiv) : AC Try.prog 56 [.agg (enc false q)] [.agg (enc true (oppP q).1), .b (oppP q).2] := by
  refine AC.go Try.func56 Try.ntmps56 rfl rfl fun w0 hw => ?_; simp [WfL, WfA, E_length, Enc.enc, In64] at hw
  have hQ := implIsQuiver_a q
  unfold oppP
  cases h : okQ q with
  | false =>
    rw [h] at hQ
    rw [if_neg (by simp)]
    repeat' first | refine s1 ?_ | (refine kR ?_; first | refine F.c (hQ) ?_) | fail
    (refine kZ ?_; exact F.ret rfl)
  | true =>
    rw [h] at hQ
    rw [if_pos rfl]
    have h5 := okQ_spec h
    have hA := clone_a q.to (by omega)
    have hB := clone_a q.fr (by omega)
    unfold oppQ
    dsimp only
    repeat' first | refine s1 ?_ | (refine kR ?_; first | refine F.c (hQ) ?_) | fail
    refine AW.draw 9 G.mixed (by kernel_rfl) ?_
    refine dP 0 ?_
    refine dL 1 ?_
    refine dP 2 ?_
    refine dL 3 ?_
    refine dP 5 ?_
    refine dL 6 ?_
    refine dO 4 true ?_
    first | refine s1 ?_ | refine F.c (hA) ?_ | refine F.c (hB) ?_
    refine ARg.nil (ATh.normal ?_)
    refine dO 7 true ?_
    first | refine s1 ?_ | refine F.c (hA) ?_ | refine F.c (hB) ?_
    refine ARg.nil (ATh.normal ?_)
    refine dP 8 ?_
    refine dO 9 false ?_
    refine s1 ?_
    refine ARg.nil (ATh.normal ?_)
    refine dP 10 ?_
    refine dN ?_
    rotate_left
    all_goals
      repeat' first | refine s1 ?_ | fail
      (refine kZ ?_; exact F.ret rfl)
theorem specOppositeOf_a (q : Quiv) : AC Try.prog 54 [.agg (enc false q)] [.agg (enc true (oppP q).1), .b (oppP q).2] := by
  refine AC.go Try.func54 Try.ntmps54 rfl rfl fun w0 hw => ?_; simp [WfL, WfA, E_length, Enc.enc, In64] at hw
  have hQ := specIsQuiver_a q
  unfold oppP
  cases h : okQ q with
  | false =>
    rw [h] at hQ
    rw [if_neg (by simp)]
    repeat' first | refine s1 ?_ | (refine kR ?_; first | refine F.c (hQ) ?_) | fail
    (refine kZ ?_; exact F.ret rfl)
  | true =>
    rw [h] at hQ
    rw [if_pos rfl]
    have h5 := okQ_spec h
    unfold oppQ
    dsimp only
    repeat' first | refine s1 ?_ | (refine kR ?_; first | refine F.c (hQ) ?_) | fail
    refine AW.draw 11 G.mixed (by kernel_rfl) ?_
    refine dP 0 ?_
    refine dL 1 ?_
    refine dP 3 ?_
    refine dL 4 ?_
    refine dP 7 ?_
    refine dL 8 ?_
    refine ARA.any [2, 6] (by kernel_rfl) (by simp) ?_
    intro k hk
    simp only [List.mem_cons, List.not_mem_nil, or_false] at hk
    rcases hk with rfl | rfl
    refine ⟨_, true, rfl, rfl, ?_⟩
    refine s1 ?_
    refine ARg.nil (ATh.normal ?_)
    refine ARA.any [5, 6] (by kernel_rfl) (by simp) ?_
    intro k hk
    simp only [List.mem_cons, List.not_mem_nil, or_false] at hk
    rcases hk with rfl | rfl
    refine ⟨_, true, rfl, rfl, ?_⟩
    first | refine s1 ?_ | refine F.appLN (α := Int) (oo := true) (.inr rfl) rfl .imm rfl rfl (by omega) (by omega) rfl rfl rfl rfl ?_
    refine ARg.nil (ATh.normal ?_)
    refine dO 6 true ?_
    refine s1 ?_
    refine ARg.nil (ATh.normal ?_)
    refine dO 9 true ?_
    first | refine s1 ?_ | refine F.appLN (α := Int) (oo := true) (.inr rfl) rfl .imm rfl rfl (by omega) (by omega) rfl rfl rfl rfl ?_
    refine ARg.nil (ATh.normal ?_)
    refine dP 10 ?_
    refine dO 11 false ?_
    refine s1 ?_
    refine ARg.nil (ATh.normal ?_)
    refine dP 12 ?_
    refine dN ?_
    rotate_left
    refine ⟨_, true, rfl, rfl, ?_⟩
    refine s1 ?_
    refine ARg.nil (ATh.normal ?_)
    refine dO 5 true ?_
    first | refine s1 ?_ | refine F.appLN (α := Int) (oo := true) (.inr rfl) rfl .imm rfl rfl (by omega) (by omega) rfl rfl rfl rfl ?_
    refine ARg.nil (ATh.normal ?_)
    refine dO 9 true ?_
    first | refine s1 ?_ | refine F.appLN (α := Int) (oo := true) (.inr rfl) rfl .imm rfl rfl (by omega) (by omega) rfl rfl rfl rfl ?_
    refine ARg.nil (ATh.normal ?_)
    refine dP 10 ?_
    refine dO 11 false ?_
    refine s1 ?_
    refine ARg.nil (ATh.normal ?_)
    refine dP 12 ?_
    refine dN ?_
    rotate_left
    refine ⟨_, true, rfl, rfl, ?_⟩
    refine s1 ?_
    refine ARg.nil (ATh.normal ?_)
    refine dO 2 true ?_
    refine s1 ?_
    refine ARg.nil (ATh.normal ?_)
    refine dO 5 true ?_
    first | refine s1 ?_ | refine F.appLN (α := Int) (oo := true) (.inr rfl) rfl .imm rfl rfl (by omega) (by omega) rfl rfl rfl rfl ?_
    refine ARg.nil (ATh.normal ?_)
    refine dO 9 true ?_
    first | refine s1 ?_ | refine F.appLN (α := Int) (oo := true) (.inr rfl) rfl .imm rfl rfl (by omega) (by omega) rfl rfl rfl rfl ?_
    refine ARg.nil (ATh.normal ?_)
    refine dP 10 ?_
    refine dO 11 false ?_
    refine s1 ?_
    refine ARg.nil (ATh.normal ?_)
    refine dP 12 ?_
    refine dN ?_
    rotate_left
    all_goals
      repeat' first | refine s1 ?_ | fail
      (refine kZ ?_; exact F.ret rfl)
/-- the transpose -/
def trM (m : Mat) : Mat := tm m.c.toNat m.r.toNat fun i j => ent m j i
def trL (l : List Mat) : List Mat := l.map trM
theorem trL_len (l : List Mat) : (trL l).length = l.length := by simp [trL]
theorem trL_take {l : List Mat} {k : Nat} (h : k < l.length) : (trL l).take (k + 1) = (trL l).take k ++ [trM (l.getD k default)] := map_take trM h
def dualR (r : Rep) : Rep := ⟨r.p, oppQ r.q, r.d, trL r.m⟩
theorem implDualRep_t (r : Rep) (h : isRep r = true) : AC Try.prog 57 [.agg (enc false r)] [.agg (enc true (dualR r)), .b true] := by
  refine AC.go Try.func57 Try.ntmps57 rfl rfl fun w0 hw => ?_; simp [WfL, WfA, E_length, Enc.enc, In64] at hw
  have hF := implIsRep_a r
  rw [h] at hF
  obtain ⟨h1, h2, h3, h4⟩ := isRep_spec h
  obtain ⟨c1, c2, c3, c4⟩ := areDims_spec h2
  have h5 := okQ_spec c1
  have hO := implOppositeOf_a r.q
  rw [show oppP r.q = (oppQ r.q, true) by unfold oppP; rw [if_pos c1]] at hO
  unfold oppQ at hO
  dsimp only at hO
  have hC := clone_a r.d (by omega)
  have hll := trL_len r.m
  have hts := fun k hk => trL_take (l := r.m) (k := k) hk
  have hmt := fun k (hk : k < r.m.length) => (arrow_ok h hk).1
  unfold dualR oppQ
  generalize trL r.m = L at hll hts ⊢
  repeat' first | refine s1 ?_ | (refine kR ?_; first | refine F.c (hF) ?_ | refine F.c (hO) ?_) | fail
  refine AW.draw 8 G.mixed (by kernel_rfl) ?_
  refine dP 0 ?_
  refine dL 1 ?_
  refine dL 2 ?_
  refine dP 3 ?_
  refine dL 4 ?_
  refine ARA.any [5, 7] (by kernel_rfl) (by simp) ?_
  intro k hk
  simp only [List.mem_cons, List.not_mem_nil, or_false] at hk
  rcases hk with rfl | rfl
  refine ⟨_, true, rfl, rfl, ?_⟩
  first | refine s1 ?_ | refine F.c (hC) ?_
  refine ARg.nil (ATh.normal ?_)
  refine dP 6 ?_
  refine dO 7 true ?_
  refine s1 ?_
  refine ARg.nil (ATh.normal ?_)
  refine dO 8 false ?_
  refine s1 ?_
  refine ARg.nil (ATh.normal ?_)
  refine dN ?_
  rotate_left
  refine ⟨_, true, rfl, rfl, ?_⟩
  refine s1 ?_
  refine ARg.nil (ATh.normal ?_)
  refine dO 5 true ?_
  first | refine s1 ?_ | refine F.c (hC) ?_
  refine ARg.nil (ATh.normal ?_)
  refine dP 6 ?_
  refine dO 8 false ?_
  refine s1 ?_
  refine ARg.nil (ATh.normal ?_)
  refine dN ?_
  rotate_left
  all_goals try
   (
    repeat' first | refine s1 ?_ | fail
    refine AW.openV (o := 6) (j := 5) 3 rfl rfl (.inl rfl) rfl ?_
    refine F.loop (σ := Nat) [8, 29, 30, 31, 32, 33, 34, 35, 36, 37, 38, 39, 40, 41, 42, 43] (fun k => [(29, .i k)]) (fun k => [(6, .live false 6 [[.i r.p, .i r.q.n, .sl 2 r.q.to.length 0 r.q.to.length, .sl 3 r.q.fr.length 0 r.q.fr.length, .sl 5 r.d.length 0 r.d.length, .sl 7 k 0 k]]), (7, .live false 3 (E true (L.take k)))]) (fun k => k ≤ r.m.length) (fun k => r.m.length - k) 0 ⟨rfl, trivial⟩ ⟨rfl, rfl, trivial⟩ (Nat.zero_le _) ?_
    rintro k k1
    have hp2 : (L.take k).length = k := by rw [List.length_take]; omega
    by_cases hk : k < r.m.length
    · have hm := hmt k hk
      have ht := hts k hk
      obtain ⟨_, g1, g2, _, _⟩ := isMat_spec hm
      have hR := rows_a (r.m.getD k default).r.toNat (r.m.getD k default).c.toNat (ent (r.m.getD k default)) (by omega) (by omega)
      rw [isMat_tm hm] at hR
      have hrl := rowsL_len (r.m.getD k default).r.toNat (r.m.getD k default).c.toNat (ent (r.m.getD k default))
      have hFC := fromColumns_a (r.m.getD k default).c.toNat (rowsL (r.m.getD k default).r.toNat (r.m.getD k default).c.toNat (ent (r.m.getD k default))) (by omega) (by omega) (fun j hj => by rw [hrl] at hj; rw [rowsL_get _ _ hj]; exact rowL_len ..)
      rw [rows_fc, Int.toNat_of_nonneg g2.1] at hFC
      have hFC : AC Try.prog 94 [.i (r.m.getD k default).c, ar false (rowsL (r.m.getD k default).r.toNat (r.m.getD k default).c.toNat (ent (r.m.getD k default)))] [.agg (enc true (trM (r.m.getD k default)))] := hFC
      generalize trM (r.m.getD k default) = Y at hFC ht
      generalize rowsL (r.m.getD k default).r.toNat (r.m.getD k default).c.toNat (ent (r.m.getD k default)) = RL at hR hFC
      repeat' first | refine s1 ?_ | fail
      refine AW.draw 8 G.mixed (by kernel_rfl) ?_
      refine dP 0 ?_
      refine dL 1 ?_
      refine dP 2 ?_
      refine dL 3 ?_
      refine dL 4 ?_
      refine dO 5 true ?_
      first | refine s1 ?_ | refine F.c (hR) ?_ | refine F.c (hFC) ?_
      refine ARg.nil (ATh.normal ?_)
      refine dO 6 true ?_
      first | refine s1 ?_ | refine F.c (hR) ?_ | refine F.c (hFC) ?_
      refine ARg.nil (ATh.normal ?_)
      refine dO 7 true ?_
      refine s1 ?_
      refine ARg.nil (ATh.normal ?_)
      refine dO 8 false ?_
      first | refine s1 ?_ | refine F.a1 Mat (a := Y) ?_
      refine ARg.nil (ATh.normal ?_)
      refine dP 9 ?_
      refine dO 10 false ?_
      refine s1 ?_
      refine ARg.nil (ATh.normal ?_)
      refine dN ?_
      rotate_left
      all_goals
        repeat' first | refine s1 ?_ | fail
        exact ⟨k + 1, F.fit ⟨rfl, trivial⟩ ⟨rfl, obE (by rw [ht]), trivial⟩, by omega, by omega⟩
    · obtain rfl : k = r.m.length := by omega
      have e : L.take r.m.length = L := List.take_of_length_le (by omega)
      rw [e]
      clear hp2 e
      rw [← hll]
      repeat' first | refine s1 ?_ | fail
      (refine kZ ?_; exact F.ret rfl))
  all_goals try
   (
    repeat' first | refine s1 ?_ | fail
    refine AW.openV (o := 5) (j := 5) 3 rfl rfl (.inl rfl) rfl ?_
    refine F.loop (σ := Nat) [8, 29, 30, 31, 32, 33, 34, 35, 36, 37, 38, 39, 40, 41, 42, 43] (fun k => [(29, .i k)]) (fun k => [(5, .live false 6 [[.i r.p, .i r.q.n, .sl 2 r.q.to.length 0 r.q.to.length, .sl 3 r.q.fr.length 0 r.q.fr.length, .sl 6 r.d.length 0 r.d.length, .sl 7 k 0 k]]), (7, .live false 3 (E true (L.take k)))]) (fun k => k ≤ r.m.length) (fun k => r.m.length - k) 0 ⟨rfl, trivial⟩ ⟨rfl, rfl, trivial⟩ (Nat.zero_le _) ?_
    rintro k k1
    have hp2 : (L.take k).length = k := by rw [List.length_take]; omega
    by_cases hk : k < r.m.length
    · have hm := hmt k hk
      have ht := hts k hk
      obtain ⟨_, g1, g2, _, _⟩ := isMat_spec hm
      have hR := rows_a (r.m.getD k default).r.toNat (r.m.getD k default).c.toNat (ent (r.m.getD k default)) (by omega) (by omega)
      rw [isMat_tm hm] at hR
      have hrl := rowsL_len (r.m.getD k default).r.toNat (r.m.getD k default).c.toNat (ent (r.m.getD k default))
      have hFC := fromColumns_a (r.m.getD k default).c.toNat (rowsL (r.m.getD k default).r.toNat (r.m.getD k default).c.toNat (ent (r.m.getD k default))) (by omega) (by omega) (fun j hj => by rw [hrl] at hj; rw [rowsL_get _ _ hj]; exact rowL_len ..)
      rw [rows_fc, Int.toNat_of_nonneg g2.1] at hFC
      have hFC : AC Try.prog 94 [.i (r.m.getD k default).c, ar false (rowsL (r.m.getD k default).r.toNat (r.m.getD k default).c.toNat (ent (r.m.getD k default)))] [.agg (enc true (trM (r.m.getD k default)))] := hFC
      generalize trM (r.m.getD k default) = Y at hFC ht
      generalize rowsL (r.m.getD k default).r.toNat (r.m.getD k default).c.toNat (ent (r.m.getD k default)) = RL at hR hFC
      repeat' first | refine s1 ?_ | fail
      refine AW.draw 8 G.mixed (by kernel_rfl) ?_
      refine dP 0 ?_
      refine dL 1 ?_
      refine dP 2 ?_
      refine dL 3 ?_
      refine dL 4 ?_
      refine dO 5 true ?_
      first | refine s1 ?_ | refine F.c (hR) ?_ | refine F.c (hFC) ?_
      refine ARg.nil (ATh.normal ?_)
      refine dO 6 true ?_
      first | refine s1 ?_ | refine F.c (hR) ?_ | refine F.c (hFC) ?_
      refine ARg.nil (ATh.normal ?_)
      refine dO 7 true ?_
      refine s1 ?_
      refine ARg.nil (ATh.normal ?_)
      refine dO 8 false ?_
      first | refine s1 ?_ | refine F.a1 Mat (a := Y) ?_
      refine ARg.nil (ATh.normal ?_)
      refine dP 9 ?_
      refine dO 10 false ?_
      refine s1 ?_
      refine ARg.nil (ATh.normal ?_)
      refine dN ?_
      rotate_left
      all_goals
        repeat' first | refine s1 ?_ | fail
        exact ⟨k + 1, F.fit ⟨rfl, trivial⟩ ⟨rfl, obE (by rw [ht]), trivial⟩, by omega, by omega⟩
    · obtain rfl : k = r.m.length := by omega
      have e : L.take r.m.length = L := List.take_of_length_le (by omega)
      rw [e]
      clear hp2 e
      rw [← hll]
      repeat' first | refine s1 ?_ | fail
      (refine kZ ?_; exact F.ret rfl))
theorem specDualRep_t (r : Rep) (h : isRep r = true) : AC Try.prog 55 [.agg (enc false r)] [.agg (enc true (dualR r)), .b true] := by
  refine AC.go Try.func55 Try.ntmps55 rfl rfl fun w0 hw => ?_; simp [WfL, WfA, E_length, Enc.enc, In64] at hw
  have hF := specIsRep_a r
  rw [h] at hF
  obtain ⟨h1, h2, h3, h4⟩ := isRep_spec h
  obtain ⟨c1, c2, c3, c4⟩ := areDims_spec h2
  have h5 := okQ_spec c1
  have hO := specOppositeOf_a r.q
  rw [show oppP r.q = (oppQ r.q, true) by unfold oppP; rw [if_pos c1]] at hO
  unfold oppQ at hO
  dsimp only at hO
  have hC := clone_a r.d (by omega)
  have hll := trL_len r.m
  have hts := fun k hk => trL_take (l := r.m) (k := k) hk
  have hmt := fun k (hk : k < r.m.length) => (arrow_ok h hk).1
  unfold dualR oppQ
  generalize trL r.m = L at hll hts ⊢
  repeat' first | refine s1 ?_ | (refine kR ?_; first | refine F.c (hF) ?_ | refine F.c (hO) ?_) | fail
  refine AW.draw 10 G.mixed (by kernel_rfl) ?_
  refine dP 0 ?_
  refine dL 1 ?_
  refine dL 2 ?_
  refine dP 4 ?_
  refine dL 5 ?_
  refine ARA.any [3, 7, 9] (by kernel_rfl) (by simp) ?_
  intro k hk
  simp only [List.mem_cons, List.not_mem_nil, or_false] at hk
  rcases hk with rfl | rfl | rfl
  refine ⟨_, true, rfl, rfl, ?_⟩
  refine s1 ?_
  refine ARg.nil (ATh.normal ?_)
  refine ARA.any [6, 7, 9] (by kernel_rfl) (by simp) ?_
  intro k hk
  simp only [List.mem_cons, List.not_mem_nil, or_false] at hk
  rcases hk with rfl | rfl | rfl
  refine ⟨_, true, rfl, rfl, ?_⟩
  first | refine s1 ?_ | refine F.appLN (α := Int) (oo := true) (.inr rfl) rfl .imm rfl rfl (by omega) (by omega) rfl rfl rfl rfl ?_
  refine ARg.nil (ATh.normal ?_)
  refine ARA.any [7, 9] (by kernel_rfl) (by simp) ?_
  intro k hk
  simp only [List.mem_cons, List.not_mem_nil, or_false] at hk
  rcases hk with rfl | rfl
  refine ⟨_, true, rfl, rfl, ?_⟩
  refine s1 ?_
  refine ARg.nil (ATh.normal ?_)
  refine dP 8 ?_
  refine dO 9 true ?_
  refine s1 ?_
  refine ARg.nil (ATh.normal ?_)
  refine dO 10 false ?_
  refine s1 ?_
  refine ARg.nil (ATh.normal ?_)
  refine dN ?_
  rotate_left
  refine ⟨_, true, rfl, rfl, ?_⟩
  refine s1 ?_
  refine ARg.nil (ATh.normal ?_)
  refine dO 7 true ?_
  refine s1 ?_
  refine ARg.nil (ATh.normal ?_)
  refine dP 8 ?_
  refine dO 10 false ?_
  refine s1 ?_
  refine ARg.nil (ATh.normal ?_)
  refine dN ?_
  rotate_left
  refine ⟨_, true, rfl, rfl, ?_⟩
  refine s1 ?_
  refine ARg.nil (ATh.normal ?_)
  refine ARA.any [6, 9] (by kernel_rfl) (by simp) ?_
  intro k hk
  simp only [List.mem_cons, List.not_mem_nil, or_false] at hk
  rcases hk with rfl | rfl
  refine ⟨_, true, rfl, rfl, ?_⟩
  first | refine s1 ?_ | refine F.appLN (α := Int) (oo := true) (.inr rfl) rfl .imm rfl rfl (by omega) (by omega) rfl rfl rfl rfl ?_
  refine ARg.nil (ATh.normal ?_)
  refine dP 8 ?_
  refine dO 9 true ?_
  refine s1 ?_
  refine ARg.nil (ATh.normal ?_)
  refine dO 10 false ?_
  refine s1 ?_
  refine ARg.nil (ATh.normal ?_)
  refine dN ?_
  rotate_left
  refine ⟨_, true, rfl, rfl, ?_⟩
  refine s1 ?_
  refine ARg.nil (ATh.normal ?_)
  refine dO 6 true ?_
  first | refine s1 ?_ | refine F.appLN (α := Int) (oo := true) (.inr rfl) rfl .imm rfl rfl (by omega) (by omega) rfl rfl rfl rfl ?_
  refine ARg.nil (ATh.normal ?_)
  refine dP 8 ?_
  refine dO 10 false ?_
  refine s1 ?_
  refine ARg.nil (ATh.normal ?_)
  refine dN ?_
  rotate_left
  refine ⟨_, true, rfl, rfl, ?_⟩
  refine s1 ?_
  refine ARg.nil (ATh.normal ?_)
  refine ARA.any [6, 7] (by kernel_rfl) (by simp) ?_
  intro k hk
  simp only [List.mem_cons, List.not_mem_nil, or_false] at hk
  rcases hk with rfl | rfl
  refine ⟨_, true, rfl, rfl, ?_⟩
  first | refine s1 ?_ | refine F.appLN (α := Int) (oo := true) (.inr rfl) rfl .imm rfl rfl (by omega) (by omega) rfl rfl rfl rfl ?_
  refine ARg.nil (ATh.normal ?_)
  refine dO 7 true ?_
  refine s1 ?_
  refine ARg.nil (ATh.normal ?_)
  refine dP 8 ?_
  refine dO 10 false ?_
  refine s1 ?_
  refine ARg.nil (ATh.normal ?_)
  refine dN ?_
  rotate_left
  refine ⟨_, true, rfl, rfl, ?_⟩
  refine s1 ?_
  refine ARg.nil (ATh.normal ?_)
  refine dO 6 true ?_
  first | refine s1 ?_ | refine F.appLN (α := Int) (oo := true) (.inr rfl) rfl .imm rfl rfl (by omega) (by omega) rfl rfl rfl rfl ?_
  refine ARg.nil (ATh.normal ?_)
  refine dP 8 ?_
  refine dO 10 false ?_
  refine s1 ?_
  refine ARg.nil (ATh.normal ?_)
  refine dN ?_
  rotate_left
  refine ⟨_, true, rfl, rfl, ?_⟩
  refine s1 ?_
  refine ARg.nil (ATh.normal ?_)
  refine ARA.any [3, 9] (by kernel_rfl) (by simp) ?_
  intro k hk
  simp only [List.mem_cons, List.not_mem_nil, or_false] at hk
  rcases hk with rfl | rfl
  refine ⟨_, true, rfl, rfl, ?_⟩
  refine s1 ?_
  refine ARg.nil (ATh.normal ?_)
  refine ARA.any [6, 9] (by kernel_rfl) (by simp) ?_
  intro k hk
  simp only [List.mem_cons, List.not_mem_nil, or_false] at hk
  rcases hk with rfl | rfl
  refine ⟨_, true, rfl, rfl, ?_⟩
  first | refine s1 ?_ | refine F.appLN (α := Int) (oo := true) (.inr rfl) rfl .imm rfl rfl (by omega) (by omega) rfl rfl rfl rfl ?_
  refine ARg.nil (ATh.normal ?_)
  refine dP 8 ?_
  refine dO 9 true ?_
  refine s1 ?_
  refine ARg.nil (ATh.normal ?_)
  refine dO 10 false ?_
  refine s1 ?_
  refine ARg.nil (ATh.normal ?_)
  refine dN ?_
  rotate_left
  refine ⟨_, true, rfl, rfl, ?_⟩
  refine s1 ?_
  refine ARg.nil (ATh.normal ?_)
  refine dO 6 true ?_
  first | refine s1 ?_ | refine F.appLN (α := Int) (oo := true) (.inr rfl) rfl .imm rfl rfl (by omega) (by omega) rfl rfl rfl rfl ?_
  refine ARg.nil (ATh.normal ?_)
  refine dP 8 ?_
  refine dO 10 false ?_
  refine s1 ?_
  refine ARg.nil (ATh.normal ?_)
  refine dN ?_
  rotate_left
  refine ⟨_, true, rfl, rfl, ?_⟩
  refine s1 ?_
  refine ARg.nil (ATh.normal ?_)
  refine dO 3 true ?_
  refine s1 ?_
  refine ARg.nil (ATh.normal ?_)
  refine dO 6 true ?_
  first | refine s1 ?_ | refine F.appLN (α := Int) (oo := true) (.inr rfl) rfl .imm rfl rfl (by omega) (by omega) rfl rfl rfl rfl ?_
  refine ARg.nil (ATh.normal ?_)
  refine dP 8 ?_
  refine dO 10 false ?_
  refine s1 ?_
  refine ARg.nil (ATh.normal ?_)
  refine dN ?_
  rotate_left
  refine ⟨_, true, rfl, rfl, ?_⟩
  refine s1 ?_
  refine ARg.nil (ATh.normal ?_)
  refine ARA.any [3, 7] (by kernel_rfl) (by simp) ?_
  intro k hk
  simp only [List.mem_cons, List.not_mem_nil, or_false] at hk
  rcases hk with rfl | rfl
  refine ⟨_, true, rfl, rfl, ?_⟩
  refine s1 ?_
  refine ARg.nil (ATh.normal ?_)
  refine ARA.any [6, 7] (by kernel_rfl) (by simp) ?_
  intro k hk
  simp only [List.mem_cons, List.not_mem_nil, or_false] at hk
  rcases hk with rfl | rfl
  refine ⟨_, true, rfl, rfl, ?_⟩
  first | refine s1 ?_ | refine F.appLN (α := Int) (oo := true) (.inr rfl) rfl .imm rfl rfl (by omega) (by omega) rfl rfl rfl rfl ?_
  refine ARg.nil (ATh.normal ?_)
  refine dO 7 true ?_
  refine s1 ?_
  refine ARg.nil (ATh.normal ?_)
  refine dP 8 ?_
  refine dO 10 false ?_
  refine s1 ?_
  refine ARg.nil (ATh.normal ?_)
  refine dN ?_
  rotate_left
  refine ⟨_, true, rfl, rfl, ?_⟩
  refine s1 ?_
  refine ARg.nil (ATh.normal ?_)
  refine dO 6 true ?_
  first | refine s1 ?_ | refine F.appLN (α := Int) (oo := true) (.inr rfl) rfl .imm rfl rfl (by omega) (by omega) rfl rfl rfl rfl ?_
  refine ARg.nil (ATh.normal ?_)
  refine dP 8 ?_
  refine dO 10 false ?_
  refine s1 ?_
  refine ARg.nil (ATh.normal ?_)
  refine dN ?_
  rotate_left
  refine ⟨_, true, rfl, rfl, ?_⟩
  refine s1 ?_
  refine ARg.nil (ATh.normal ?_)
  refine dO 3 true ?_
  refine s1 ?_
  refine ARg.nil (ATh.normal ?_)
  refine dO 6 true ?_
  first | refine s1 ?_ | refine F.appLN (α := Int) (oo := true) (.inr rfl) rfl .imm rfl rfl (by omega) (by omega) rfl rfl rfl rfl ?_
  refine ARg.nil (ATh.normal ?_)
  refine dP 8 ?_
  refine dO 10 false ?_
  refine s1 ?_
  refine ARg.nil (ATh.normal ?_)
  refine dN ?_
  rotate_left
  all_goals try
   (
    repeat' first | refine s1 ?_ | fail
    refine AW.openV (o := 6) (j := 5) 3 rfl rfl (.inr rfl) rfl ?_
    refine F.loop (σ := Nat) [7, 27, 28, 29, 30, 31, 32, 33, 34, 35, 36, 37, 38, 39, 40, 41, 42, 43, 44] (fun k => [(7, .i k)]) (fun k => [(6, .live false 6 [[.i r.p, .i r.q.n, .sl 2 r.q.to.length 0 r.q.to.length, .sl 3 r.q.fr.length 0 r.q.fr.length, .sl 5 r.d.length 0 r.d.length, .sl 7 k 0 k]]), (7, .live false 3 (E true (L.take k)))]) (fun k => k ≤ r.m.length) (fun k => r.m.length - k) 0 ⟨rfl, trivial⟩ ⟨rfl, rfl, trivial⟩ (Nat.zero_le _) ?_
    rintro k k1
    have hp2 : (L.take k).length = k := by rw [List.length_take]; omega
    by_cases hk : k < r.m.length
    · have hm := hmt k hk
      have ht := hts k hk
      obtain ⟨_, g1, g2, _, _⟩ := isMat_spec hm
      have hT := l3Transpose_a (r.m.getD k default).r.toNat (r.m.getD k default).c.toNat (ent (r.m.getD k default)) (by omega) (by omega)
      rw [isMat_tm hm] at hT
      have hT : AC Try.prog 113 [.agg (enc false (r.m.getD k default))] [.agg (enc true (trM (r.m.getD k default)))] := hT
      generalize trM (r.m.getD k default) = Y at hT ht
      repeat' first | refine s1 ?_ | fail
      refine AW.draw 9 G.mixed (by kernel_rfl) ?_
      refine dP 0 ?_
      refine dL 1 ?_
      refine dP 2 ?_
      refine dL 3 ?_
      refine dP 4 ?_
      refine dP 5 ?_
      refine dL 6 ?_
      refine dO 7 true ?_
      first | refine s1 ?_ | refine F.c (hT) ?_
      refine ARg.nil (ATh.normal ?_)
      refine dO 8 true ?_
      refine s1 ?_
      refine ARg.nil (ATh.normal ?_)
      refine dO 9 false ?_
      first | refine s1 ?_ | refine F.a1 Mat (a := Y) ?_
      refine ARg.nil (ATh.normal ?_)
      refine dP 10 ?_
      refine dO 11 false ?_
      refine s1 ?_
      refine ARg.nil (ATh.normal ?_)
      refine dN ?_
      rotate_left
      all_goals
        repeat' first | refine s1 ?_ | fail
        exact ⟨k + 1, F.fit ⟨rfl, trivial⟩ ⟨rfl, obE (by rw [ht]), trivial⟩, by omega, by omega⟩
    · obtain rfl : k = r.m.length := by omega
      have e : L.take r.m.length = L := List.take_of_length_le (by omega)
      rw [e]
      clear hp2 e
      rw [← hll]
      repeat' first | refine s1 ?_ | fail
      (refine kZ ?_; exact F.ret rfl))
  all_goals try
   (
    repeat' first | refine s1 ?_ | fail
    refine AW.openV (o := 5) (j := 5) 3 rfl rfl (.inr rfl) rfl ?_
    refine F.loop (σ := Nat) [7, 27, 28, 29, 30, 31, 32, 33, 34, 35, 36, 37, 38, 39, 40, 41, 42, 43, 44] (fun k => [(7, .i k)]) (fun k => [(5, .live false 6 [[.i r.p, .i r.q.n, .sl 2 r.q.to.length 0 r.q.to.length, .sl 3 r.q.fr.length 0 r.q.fr.length, .sl 6 r.d.length 0 r.d.length, .sl 7 k 0 k]]), (7, .live false 3 (E true (L.take k)))]) (fun k => k ≤ r.m.length) (fun k => r.m.length - k) 0 ⟨rfl, trivial⟩ ⟨rfl, rfl, trivial⟩ (Nat.zero_le _) ?_
    rintro k k1
    have hp2 : (L.take k).length = k := by rw [List.length_take]; omega
    by_cases hk : k < r.m.length
    · have hm := hmt k hk
      have ht := hts k hk
      obtain ⟨_, g1, g2, _, _⟩ := isMat_spec hm
      have hT := l3Transpose_a (r.m.getD k default).r.toNat (r.m.getD k default).c.toNat (ent (r.m.getD k default)) (by omega) (by omega)
      rw [isMat_tm hm] at hT
      have hT : AC Try.prog 113 [.agg (enc false (r.m.getD k default))] [.agg (enc true (trM (r.m.getD k default)))] := hT
      generalize trM (r.m.getD k default) = Y at hT ht
      repeat' first | refine s1 ?_ | fail
      refine AW.draw 9 G.mixed (by kernel_rfl) ?_
      refine dP 0 ?_
      refine dL 1 ?_
      refine dP 2 ?_
      refine dL 3 ?_
      refine dP 4 ?_
      refine dP 5 ?_
      refine dL 6 ?_
      refine dO 7 true ?_
      first | refine s1 ?_ | refine F.c (hT) ?_
      refine ARg.nil (ATh.normal ?_)
      refine dO 8 true ?_
      refine s1 ?_
      refine ARg.nil (ATh.normal ?_)
      refine dO 9 false ?_
      first | refine s1 ?_ | refine F.a1 Mat (a := Y) ?_
      refine ARg.nil (ATh.normal ?_)
      refine dP 10 ?_
      refine dO 11 false ?_
      refine s1 ?_
      refine ARg.nil (ATh.normal ?_)
      refine dN ?_
      rotate_left
      all_goals
        repeat' first | refine s1 ?_ | fail
        exact ⟨k + 1, F.fit ⟨rfl, trivial⟩ ⟨rfl, obE (by rw [ht]), trivial⟩, by omega, by omega⟩
    · obtain rfl : k = r.m.length := by omega
      have e : L.take r.m.length = L := List.take_of_length_le (by omega)
      rw [e]
      clear hp2 e
      rw [← hll]
      repeat' first | refine s1 ?_ | fail
      (refine kZ ?_; exact F.ret rfl))
theorem projR_ok {p : Int} {q : Quiv} {v : Int} (hp : isF p = true) (h : areDims q (projD q v) = true) : isRep (projR p q v) = true := by
  obtain ⟨c1, c2, c3, c4⟩ := areDims_spec h
  have h5 := okQ_spec c1
  have hpp := isF_pos hp
  obtain ⟨p1, p2, p3, p4⟩ := projD_yes h
  have hl := pjMs_len q v
  simp only [isRep, Bool.and_eq_true, decide_eq_true_eq, List.all_eq_true]
  refine ⟨⟨⟨hp, h⟩, hl⟩, fun i hi => ?_⟩
  have hi' : i < (projR p q v).m.length := by simpa using hi
  have hi : i < q.fr.length := by
    have : i < (pjMs q v).length := hi'
    omega
  obtain ⟨b1, b2, b3, b4, b5⟩ := prj_arrow h hi
  have f : 0 ≤ q.fr.getD i default ∧ q.fr.getD i default < q.n := okQ_fr c1 hi
  have t : 0 ≤ q.to.getD i default ∧ q.to.getD i default < q.n := okQ_to c1 hi
  have ef := p4 (q.fr.getD i default).toNat (by omega)
  have et := p4 (q.to.getD i default).toNat (by omega)
  rw [Int.toNat_of_nonneg f.1] at ef
  rw [Int.toNat_of_nonneg t.1] at et
  simp only [fitM, Bool.and_eq_true, decide_eq_true_eq]
  have e : (projR p q v).m.getD i default = pjM q v i := pjMs_get q v hi
  rw [e]
  refine ⟨⟨isMat_tab hp (by omega) (by omega) fun a ha b hb => ?_, ?_⟩, ?_⟩
  · show 0 ≤ pjF q v i _ a b ∧ pjF q v i _ a b ≤ p - 1
    unfold pjF
    split <;> omega
  · show ((betw q v (q.fr.getD i default)).length : Int) = (projD q v).getD (q.fr.getD i default).toNat default
    rw [ef]
  · show ((betw q v (q.to.getD i default)).length : Int) = (projD q v).getD (q.to.getD i default).toNat default
    rw [et]
def injP (p : Int) (q : Quiv) (v : Int) : Rep × Bool := if okQ q = true ∧ (projP p (oppQ q) v).2 = true then (dualR (projR p (oppQ q) v), true) else (⟨0, ⟨0, [], []⟩, [], []⟩, false)
theorem projP_empty (p : Int) (v : Int) : (projP p ⟨0, [], []⟩ v).2 = false := by
  unfold projP
  rw [if_neg fun h => by
    have := areDims_spec h.2
    have := okQ_spec this.1
    simp at this]
theorem projP_true2 {p : Int} {q : Quiv} {v : Int} (h : (projP p q v).2 = true) : isF p = true ∧ areDims q (projD q v) = true ∧ projP p q v = (projR p q v, true) := by
  unfold projP at h ⊢
  by_cases hh : isF p = true ∧ areDims q (projD q v) = true
  · exact ⟨hh.1, hh.2, if_pos hh⟩
  · rw [if_neg hh] at h; cases h
theorem implInjectiveRep_a (p : Int) (q : Quiv) (v : Int) : AC Try.prog 18 [.i p, .agg (enc false q), .i v] [.agg (enc true (injP p q v).1), .b (injP p q v).2] := by
  refine AC.go Try.func18 Try.ntmps18 rfl rfl fun w0 hw => ?_; simp [WfL, WfA, E_length, Enc.enc, In64] at hw
  have hO := implOppositeOf_a q
  unfold injP
  unfold oppP at hO
  cases hq : okQ q with
  | false =>
    rw [hq, if_neg (by simp)] at hO
    rw [if_neg (by simp)]
    dsimp only at hO
    repeat' first | refine s1 ?_ | (refine kR ?_; first | refine F.c (hO) ?_) | fail
    (refine kZ ?_; exact F.ret rfl)
  | true =>
    rw [hq, if_pos rfl] at hO
    dsimp only at hO
    have hP := implProjectiveRep_a p (oppQ q) v
    cases h2 : (projP p (oppQ q) v).2 with
    | false =>
      rw [h2] at hP
      rw [if_neg (by simp)]
      generalize (projP p (oppQ q) v).1 = PR at hP
      generalize oppQ q = O at hO hP
      repeat' first | refine s1 ?_ | (refine kR ?_; first | refine F.c (hO) ?_ | refine F.c (hP) ?_) | fail
      (refine kZ ?_; exact F.ret rfl)
    | true =>
      rw [if_pos ⟨rfl, rfl⟩]
      obtain ⟨k1, k2, k3⟩ := projP_true2 h2
      rw [k3] at hP
      dsimp only at hP
      have hD := implDualRep_t (projR p (oppQ q) v) (projR_ok k1 k2)
      generalize dualR (projR p (oppQ q) v) = DR at hD ⊢
      generalize projR p (oppQ q) v = PR at hP hD
      generalize oppQ q = O at hO hP
      repeat' first | refine s1 ?_ | (refine kR ?_; first | refine F.c (hO) ?_ | refine F.c (hP) ?_ | refine F.c (hD) ?_) | fail
      (refine kZ ?_; exact F.ret rfl)
theorem specInjectiveRep_a (p : Int) (q : Quiv) (v : Int) : AC Try.prog 17 [.i p, .agg (enc false q), .i v] [.agg (enc true (injP p q v).1), .b (injP p q v).2] := by
  refine AC.go Try.func17 Try.ntmps17 rfl rfl fun w0 hw => ?_; simp [WfL, WfA, E_length, Enc.enc, In64] at hw
  have hO := specOppositeOf_a q
  unfold injP
  unfold oppP at hO
  cases hq : okQ q with
  | false =>
    rw [hq, if_neg (by simp)] at hO
    rw [if_neg (by simp)]
    dsimp only at hO
    have hP := specProjectiveRep_a p ⟨0, [], []⟩ v
    rw [projP_empty] at hP
    generalize (projP p ⟨0, [], []⟩ v).1 = PR at hP
    repeat' first | refine s1 ?_ | (refine kR ?_; first | refine F.c (hO) ?_ | refine F.c (hP) ?_) | fail
    (refine kZ ?_; exact F.ret rfl)
  | true =>
    rw [hq, if_pos rfl] at hO
    dsimp only at hO
    have hP := specProjectiveRep_a p (oppQ q) v
    cases h2 : (projP p (oppQ q) v).2 with
    | false =>
      rw [h2] at hP
      rw [if_neg (by simp)]
      generalize (projP p (oppQ q) v).1 = PR at hP
      generalize oppQ q = O at hO hP
      repeat' first | refine s1 ?_ | (refine kR ?_; first | refine F.c (hO) ?_ | refine F.c (hP) ?_) | fail
      (refine kZ ?_; exact F.ret rfl)
    | true =>
      rw [if_pos ⟨rfl, rfl⟩]
      obtain ⟨k1, k2, k3⟩ := projP_true2 h2
      rw [k3] at hP
      dsimp only at hP
      have hD := specDualRep_t (projR p (oppQ q) v) (projR_ok k1 k2)
      generalize dualR (projR p (oppQ q) v) = DR at hD ⊢
      generalize projR p (oppQ q) v = PR at hP hD
      generalize oppQ q = O at hO hP
      repeat' first | refine s1 ?_ | (refine kR ?_; first | refine F.c (hO) ?_ | refine F.c (hP) ?_ | refine F.c (hD) ?_) | fail
      (refine kZ ?_; exact F.ret rfl)
theorem injP_ct (p : Int) (q : Quiv) (v : Int) : ctR (injP p q v).1 ≤ 1000 := by
  unfold injP
  by_cases h : okQ q = true ∧ (projP p (oppQ q) v).2 = true
  · rw [if_pos h]
    obtain ⟨k1, k2, k3⟩ := projP_true2 h.2
    have hr := projR_ok k1 k2
    obtain ⟨c1, c2, c3, c4⟩ := areDims_spec k2
    have h5 := okQ_spec c1
    have hA : cnt ctM (trL (pjMs (oppQ q) v)) ≤ (trL (pjMs (oppQ q) v)).length * 66 := cnt_bd fun x hx => by
      simp only [trL, List.mem_map] at hx
      obtain ⟨y, hy, rfl⟩ := hx
      obtain ⟨i, hi, rfl⟩ := List.getElem_of_mem hy
      have hm := (arrow_ok hr (i := i) hi).1
      have e : (projR p (oppQ q) v).m.getD i default = (pjMs (oppQ q) v)[i] := by
        show (pjMs (oppQ q) v).getD i default = _
        simp [hi]
      rw [e] at hm
      obtain ⟨_, g1, g2, _, _⟩ := isMat_spec hm
      have := Nat.mul_le_mul (show ((pjMs (oppQ q) v)[i]).c.toNat ≤ 8 by omega) (show ((pjMs (oppQ q) v)[i]).r.toNat ≤ 8 by omega)
      simp only [ctM, trM, tm, tab_len]
      omega
    have e1 := trL_len (pjMs (oppQ q) v)
    have e2 := pjMs_len (oppQ q) v
    show totQ (oppQ (oppQ q)) + (projD (oppQ q) v).length + cnt ctM (trL (pjMs (oppQ q) v)) ≤ 1000
    unfold totQ
    have e3 : (oppQ (oppQ q)).fr.length = (oppQ q).to.length := rfl
    have e4 : (oppQ (oppQ q)).to.length = (oppQ q).fr.length := rfl
    omega
  · rw [if_neg h]; simp [cnt, ctR, totQ]
theorem projP_ct (p : Int) (q : Quiv) (v : Int) : ctR (projP p q v).1 ≤ 1000 := by
  unfold projP
  by_cases h : isF p = true ∧ areDims q (projD q v) = true
  · rw [if_pos h]
    have hr := projR_ok h.1 h.2
    obtain ⟨c1, c2, c3, c4⟩ := areDims_spec h.2
    have h5 := okQ_spec c1
    have hA : cnt ctM (pjMs q v) ≤ (pjMs q v).length * 66 := cnt_bd fun x hx => by
      obtain ⟨i, hi, rfl⟩ := List.getElem_of_mem hx
      have hm := (arrow_ok hr (i := i) hi).1
      have e : (projR p q v).m.getD i default = (pjMs q v)[i] := by
        show (pjMs q v).getD i default = _
        simp [hi]
      rw [e] at hm
      obtain ⟨_, g1, g2, g3, _⟩ := isMat_spec hm
      have e5 : (pjMs q v)[i].m.length = (pjMs q v)[i].r.toNat * (pjMs q v)[i].c.toNat := by
        have a1 := Int.toNat_of_nonneg g1.1
        have a2 := Int.toNat_of_nonneg g2.1
        have : ((pjMs q v)[i].m.length : Int) = (((pjMs q v)[i].r.toNat * (pjMs q v)[i].c.toNat : Nat) : Int) := by push_cast; rw [a1, a2]; exact g3
        exact_mod_cast this
      have := Nat.mul_le_mul (show ((pjMs q v)[i]).r.toNat ≤ 8 by omega) (show ((pjMs q v)[i]).c.toNat ≤ 8 by omega)
      simp only [ctM]
      omega
    have e2 := pjMs_len q v
    show totQ q + (projD q v).length + cnt ctM (pjMs q v) ≤ 1000
    unfold totQ
    omega
  · rw [if_neg h]; simp [cnt, ctR, totQ]
end Go.Proofs.Ytanembgijdkagaa.V
