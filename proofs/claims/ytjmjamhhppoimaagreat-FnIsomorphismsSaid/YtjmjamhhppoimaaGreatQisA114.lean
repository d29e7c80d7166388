/- Texts that the proof needs: A114. -/
import Derived.Test.YtjmjamhhppoimaaGreatQisA109
namespace Go.Proofs.YtjmjamhhppoimaaGreat.V
open V.Enc (enc)
open Go.RowKit G D
set_option linter.unusedVariables false
set_option linter.unusedSimpArgs false
set_option maxHeartbeats 4000000
set_option maxRecDepth 4000
attribute [local irreducible] AW ARg ARA ARet MRet ASil AC AM ARI
theorem take_at{α:Type}[Inhabited α]{l:List α}{k:Nat}(h:k<l.length):l.take (k+1)=l.take k++[l.getD k default]:=by
 have e:l.getD k default=l[k]:=by simp[h]
 rw[List.take_succ_eq_append_getElem h,e]
theorem l8Copy_a (r : Rep) (hr : isRep r = true) : AC Tryz.prog 364 [.agg (enc false r)] [.agg (enc true r)] := by
  refine AC.go Tryz.func364 Tryz.ntmps364 rfl rfl fun w0 hw => ?_; simp [WfL, WfA, E_length, Enc.enc, In64] at hw
  obtain ⟨r1, r2, r3, r4⟩ := isRep_spec hr
  obtain ⟨c1, c2, c3, c4⟩ := areDims_spec r2
  have h5 := okQ_spec c1
  have hC := l6Copy_a r.q (by omega)
  have hL := fun i (hi : i < r.m.length) => l3Copy_a (r.m.getD i default) (by
    have := (arrow_ok hr hi).1
    simp only [isMat, isVec, Bool.and_eq_true, decide_eq_true_eq] at this
    omega)
  have hmt := fun i (hi : i < r.m.length) => take_at (l := r.m) hi
  repeat' first | refine s1 ?_ | fail
  refine AW.freezeP (α := Rep) (oo := false) r 1 rfl rfl ?_
  apply V.tailedT
  · intro tail1
    apply V.tailedT
    · intro tail2
      apply V.tailedT
      · intro tail3
        refine AW.drawI G.mixed (by kernel_rfl) (by rfl) ?_
        intro T w1 MP1 I0
        refine Pz (.p 0 <| .l 1 <| .p 2 <| .l 3 <| .p 6 <| .l 7 <| .a [(4, false, .a [(5, false, .a [(8, false, .a [(9, false, .p 10 <| .o 11 false <| .o 12 false <| .n), (11, false, .o 9 false <| .p 10 <| .o 12 false <| .n)]), (9, false, .a [(8, false, .p 10 <| .o 11 false <| .o 12 false <| .n), (11, false, .o 8 false <| .p 10 <| .o 12 false <| .n)]), (11, false, .a [(8, false, .o 9 false <| .p 10 <| .o 12 false <| .n), (9, false, .o 8 false <| .p 10 <| .o 12 false <| .n)])]), (9, false, .a [(5, false, .a [(8, false, .p 10 <| .o 11 false <| .o 12 false <| .n), (11, false, .o 8 false <| .p 10 <| .o 12 false <| .n)]), (11, false, .o 5 false <| .o 8 false <| .p 10 <| .o 12 false <| .n)]), (11, false, .a [(5, false, .a [(8, false, .o 9 false <| .p 10 <| .o 12 false <| .n), (9, false, .o 8 false <| .p 10 <| .o 12 false <| .n)]), (9, false, .o 5 false <| .o 8 false <| .p 10 <| .o 12 false <| .n)])]), (5, false, .a [(4, false, .a [(8, false, .a [(9, false, .p 10 <| .o 11 false <| .o 12 false <| .n), (11, false, .o 9 false <| .p 10 <| .o 12 false <| .n)]), (9, false, .a [(8, false, .p 10 <| .o 11 false <| .o 12 false <| .n), (11, false, .o 8 false <| .p 10 <| .o 12 false <| .n)]), (11, false, .a [(8, false, .o 9 false <| .p 10 <| .o 12 false <| .n), (9, false, .o 8 false <| .p 10 <| .o 12 false <| .n)])]), (9, false, .a [(4, false, .a [(8, false, .p 10 <| .o 11 false <| .o 12 false <| .n), (11, false, .o 8 false <| .p 10 <| .o 12 false <| .n)]), (11, false, .o 4 false <| .o 8 false <| .p 10 <| .o 12 false <| .n)]), (11, false, .a [(4, false, .a [(8, false, .o 9 false <| .p 10 <| .o 12 false <| .n), (9, false, .o 8 false <| .p 10 <| .o 12 false <| .n)]), (9, false, .o 4 false <| .o 8 false <| .p 10 <| .o 12 false <| .n)])]), (9, false, .a [(4, false, .a [(5, false, .a [(8, false, .p 10 <| .o 11 false <| .o 12 false <| .n), (11, false, .o 8 false <| .p 10 <| .o 12 false <| .n)]), (11, false, .o 5 false <| .o 8 false <| .p 10 <| .o 12 false <| .n)]), (5, false, .a [(4, false, .a [(8, false, .p 10 <| .o 11 false <| .o 12 false <| .n), (11, false, .o 8 false <| .p 10 <| .o 12 false <| .n)]), (11, false, .o 4 false <| .o 8 false <| .p 10 <| .o 12 false <| .n)]), (11, false, .a [(4, false, .o 5 false <| .o 8 false <| .p 10 <| .o 12 false <| .n), (5, false, .o 4 false <| .o 8 false <| .p 10 <| .o 12 false <| .n)])]), (11, false, .a [(4, false, .a [(5, false, .a [(8, false, .o 9 false <| .p 10 <| .o 12 false <| .n), (9, false, .o 8 false <| .p 10 <| .o 12 false <| .n)]), (9, false, .o 5 false <| .o 8 false <| .p 10 <| .o 12 false <| .n)]), (5, false, .a [(4, false, .a [(8, false, .o 9 false <| .p 10 <| .o 12 false <| .n), (9, false, .o 8 false <| .p 10 <| .o 12 false <| .n)]), (9, false, .o 4 false <| .o 8 false <| .p 10 <| .o 12 false <| .n)]), (9, false, .a [(4, false, .o 5 false <| .o 8 false <| .p 10 <| .o 12 false <| .n), (5, false, .o 4 false <| .o 8 false <| .p 10 <| .o 12 false <| .n)])])]) ?_
        repeat' first | refine xS ?_ | refine s1 ?_ | refine xC ?_ ?_ | exact trivial | (refine kR ?_; first | refine F.c (hC) ?_ | refine F.appLN (α := Int) (oo := true) (.inr rfl) rfl .imm rfl rfl (by omega) (by omega) rfl rfl rfl rfl ?_) | fail
        any_goals refine lf ?_
        all_goals
          repeat' first | refine s1 ?_ | fail
          first
            | (refine AW.only [(1, .ip (enc false r)), (2, .pt 1 1 0 0), (3, .pt 2 1 0 0), (4, .i 0)] [(1, .live false 6 [[.i 0, .i 0, .nl, .nl, .nl, .nl]]), (3, .live false 1 (E true r.q.fr)), (4, .live false 1 (E true r.q.to)), (5, .live false 1 (E true r.d)), (2, .live false 6 [[.i r.p, .i r.q.n, .sl 3 r.q.fr.length 0 r.q.fr.length, .sl 4 r.q.to.length 0 r.q.to.length, .sl 5 r.d.length 0 r.d.length, .em]])] 6 ⟨rfl, rfl, rfl, rfl, trivial⟩ ⟨rfl, rfl, rfl, rfl, rfl, trivial⟩ rfl ?_
               exact tail1.t)
            | (refine AW.only [(1, .ip (enc false r)), (2, .pt 1 1 0 0), (3, .pt 4 1 0 0), (4, .i 0)] [(1, .live false 6 [[.i 0, .i 0, .nl, .nl, .nl, .nl]]), (2, .live false 1 (E true r.q.fr)), (3, .live false 1 (E true r.q.to)), (5, .live false 1 (E true r.d)), (4, .live false 6 [[.i r.p, .i r.q.n, .sl 2 r.q.fr.length 0 r.q.fr.length, .sl 3 r.q.to.length 0 r.q.to.length, .sl 5 r.d.length 0 r.d.length, .em]])] 6 ⟨rfl, rfl, rfl, rfl, trivial⟩ ⟨rfl, rfl, rfl, rfl, rfl, trivial⟩ rfl ?_
               exact tail2.t)
            | (refine AW.only [(1, .ip (enc false r)), (2, .pt 1 1 0 0), (3, .pt 5 1 0 0), (4, .i 0)] [(1, .live false 6 [[.i 0, .i 0, .nl, .nl, .nl, .nl]]), (2, .live false 1 (E true r.q.fr)), (3, .live false 1 (E true r.q.to)), (4, .live false 1 (E true r.d)), (5, .live false 6 [[.i r.p, .i r.q.n, .sl 2 r.q.fr.length 0 r.q.fr.length, .sl 3 r.q.to.length 0 r.q.to.length, .sl 4 r.d.length 0 r.d.length, .em]])] 6 ⟨rfl, rfl, rfl, rfl, trivial⟩ ⟨rfl, rfl, rfl, rfl, rfl, trivial⟩ rfl ?_
               exact tail3.t)
      · refine AW.openV (o := 5) (j := 5) 3 rfl rfl (.inr rfl) rfl ?_
        refine F.loop (σ := Nat) [4, 16, 17, 18, 19, 20, 21, 22, 23, 24, 25, 26, 27, 28, 29, 30, 31, 32, 33] (fun k => [(4, .i k)]) (fun k => [(5, .live false 6 [[.i r.p, .i r.q.n, .sl 2 r.q.fr.length 0 r.q.fr.length, .sl 3 r.q.to.length 0 r.q.to.length, .sl 4 r.d.length 0 r.d.length, .sl 6 k 0 k]]), (6, .live false 3 (E true (r.m.take k)))]) (fun k => k ≤ r.m.length) (fun k => r.m.length - k) 0 ⟨rfl, trivial⟩ ⟨rfl, rfl, trivial⟩ (Nat.zero_le _) ?_
        rintro i i1
        have hp4 : (r.m.take i).length = i := by rw [List.length_take]; omega
        by_cases hi : i < r.m.length
        · have hB := hL i hi
          have ht := hmt i hi
          repeat' first | refine s1 ?_ | fail
          refine AW.draw 9 G.mixed (by kernel_rfl) ?_
          refine Pz (.p 0 <| .l 1 <| .p 2 <| .l 3 <| .p 4 <| .p 5 <| .l 6 <| .o 7 true <| .o 8 true <| .o 9 false <| .p 10 <| .o 11 false <| .n) ?_
          repeat' first | refine yS ?_ | refine s1 ?_ | (refine kR ?_; first | refine F.c (hB) ?_ | refine F.a1 Mat (a := r.m.getD i default) ?_) | fail
          any_goals refine lf ?_
          all_goals
            repeat' first | refine s1 ?_ | fail
            exact ⟨i + 1, F.fit ⟨rfl, trivial⟩ ⟨rfl, obE (by rw [ht]), trivial⟩, by omega, by omega⟩
        · obtain rfl : i = r.m.length := by omega
          have e : r.m.take r.m.length = r.m := List.take_of_length_le (by omega)
          rw [e]
          clear hp4 e
          repeat' first | refine s1 ?_ | fail
          (refine kZ ?_; exact F.ret rfl)
    · refine AW.openV (o := 4) (j := 5) 3 rfl rfl (.inr rfl) rfl ?_
      refine F.loop (σ := Nat) [4, 16, 17, 18, 19, 20, 21, 22, 23, 24, 25, 26, 27, 28, 29, 30, 31, 32, 33] (fun k => [(4, .i k)]) (fun k => [(4, .live false 6 [[.i r.p, .i r.q.n, .sl 2 r.q.fr.length 0 r.q.fr.length, .sl 3 r.q.to.length 0 r.q.to.length, .sl 5 r.d.length 0 r.d.length, .sl 6 k 0 k]]), (6, .live false 3 (E true (r.m.take k)))]) (fun k => k ≤ r.m.length) (fun k => r.m.length - k) 0 ⟨rfl, trivial⟩ ⟨rfl, rfl, trivial⟩ (Nat.zero_le _) ?_
      rintro i i1
      have hp4 : (r.m.take i).length = i := by rw [List.length_take]; omega
      by_cases hi : i < r.m.length
      · have hB := hL i hi
        have ht := hmt i hi
        repeat' first | refine s1 ?_ | fail
        refine AW.draw 9 G.mixed (by kernel_rfl) ?_
        refine Pz (.p 0 <| .l 1 <| .p 2 <| .l 3 <| .p 4 <| .p 5 <| .l 6 <| .o 7 true <| .o 8 true <| .o 9 false <| .p 10 <| .o 11 false <| .n) ?_
        repeat' first | refine yS ?_ | refine s1 ?_ | (refine kR ?_; first | refine F.c (hB) ?_ | refine F.a1 Mat (a := r.m.getD i default) ?_) | fail
        any_goals refine lf ?_
        all_goals
          repeat' first | refine s1 ?_ | fail
          exact ⟨i + 1, F.fit ⟨rfl, trivial⟩ ⟨rfl, obE (by rw [ht]), trivial⟩, by omega, by omega⟩
      · obtain rfl : i = r.m.length := by omega
        have e : r.m.take r.m.length = r.m := List.take_of_length_le (by omega)
        rw [e]
        clear hp4 e
        repeat' first | refine s1 ?_ | fail
        (refine kZ ?_; exact F.ret rfl)
  · refine AW.openV (o := 2) (j := 5) 3 rfl rfl (.inr rfl) rfl ?_
    refine F.loop (σ := Nat) [4, 16, 17, 18, 19, 20, 21, 22, 23, 24, 25, 26, 27, 28, 29, 30, 31, 32, 33] (fun k => [(4, .i k)]) (fun k => [(2, .live false 6 [[.i r.p, .i r.q.n, .sl 3 r.q.fr.length 0 r.q.fr.length, .sl 4 r.q.to.length 0 r.q.to.length, .sl 5 r.d.length 0 r.d.length, .sl 6 k 0 k]]), (6, .live false 3 (E true (r.m.take k)))]) (fun k => k ≤ r.m.length) (fun k => r.m.length - k) 0 ⟨rfl, trivial⟩ ⟨rfl, rfl, trivial⟩ (Nat.zero_le _) ?_
    rintro i i1
    have hp4 : (r.m.take i).length = i := by rw [List.length_take]; omega
    by_cases hi : i < r.m.length
    · have hB := hL i hi
      have ht := hmt i hi
      repeat' first | refine s1 ?_ | fail
      refine AW.draw 9 G.mixed (by kernel_rfl) ?_
      refine Pz (.p 0 <| .l 1 <| .p 2 <| .l 3 <| .p 4 <| .p 5 <| .l 6 <| .o 7 true <| .o 8 true <| .o 9 false <| .p 10 <| .o 11 false <| .n) ?_
      repeat' first | refine yS ?_ | refine s1 ?_ | (refine kR ?_; first | refine F.c (hB) ?_ | refine F.a1 Mat (a := r.m.getD i default) ?_) | fail
      any_goals refine lf ?_
      all_goals
        repeat' first | refine s1 ?_ | fail
        exact ⟨i + 1, F.fit ⟨rfl, trivial⟩ ⟨rfl, obE (by rw [ht]), trivial⟩, by omega, by omega⟩
    · obtain rfl : i = r.m.length := by omega
      have e : r.m.take r.m.length = r.m := List.take_of_length_le (by omega)
      rw [e]
      clear hp4 e
      repeat' first | refine s1 ?_ | fail
      (refine kZ ?_; exact F.ret rfl)
end Go.Proofs.YtjmjamhhppoimaaGreat.V
