/- Texts that the proof needs: A95, A42. -/
import Derived.Test.YtjmjamhhppoimaaGreatQstA91
import Derived.Test.YtjmjamhhppoimaaGreatQstC2
namespace Go.Proofs.YtjmjamhhppoimaaGreat.V
open V.Enc (enc)
open Go.RowKit G D
set_option linter.unusedVariables false
set_option linter.unusedSimpArgs false
set_option maxHeartbeats 4000000
set_option maxRecDepth 4000
attribute [local irreducible] AW ARg ARA ARet MRet ASil AC AM ARI
def oppQ(q:Quiv):Quiv:=⟨q.n,q.to,q.fr⟩
theorem okQ_opp{q:Quiv}(h:okQ q=true):okQ (oppQ q)=true:=by
 rw[okQ_iff] at h⊢
 obtain⟨h1,h2,h3,h4,h5⟩:=h
 exact⟨h1,h2,h3.symm,by show q.to.length≤6;omega,fun j hj=>by
  have hj:j<q.to.length:=hj
  have:=h5 j (by omega)
  exact⟨this.2,this.1⟩⟩
def oppP(q:Quiv):Quiv×Bool:=if okQ q=true then(oppQ q,true) else(⟨0,[],[]⟩,false)
theorem implOppositeOf_a(q:Quiv):AC Tryz.prog 158 [.agg (enc false q)] [.agg (enc true (oppP q).1),.b (oppP q).2]:=by
 refine AC.go Tryz.func158 Tryz.ntmps158 rfl rfl fun w0 hw=>?_;simp[WfL,WfA,E_length,Enc.enc,In64] at hw
 have hQ:=implIsQuiver_a q
 unfold oppP
 cases h:okQ q with
 |false=>
  rw[h] at hQ
  rw[if_neg (by simp)]
  repeat' first|refine s1 ?_|(refine kR ?_;first|refine F.c (hQ) ?_)|fail
  (refine kZ ?_;exact F.ret rfl)
 |true=>
  rw[h] at hQ
  rw[if_pos rfl]
  have h5:=okQ_spec h
  have hA:=clone_a q.to (by omega)
  have hB:=clone_a q.fr (by omega)
  unfold oppQ
  dsimp only
  repeat' first|refine s1 ?_|(refine kR ?_;first|refine F.c (hQ) ?_)|fail
  refine AW.draw 9 G.mixed (by kernel_rfl) ?_
  refine Pz (.p 0<|.l 1<|.p 2<|.l 3<|.p 5<|.l 6<|.o 4 true<|.o 7 true<|.p 8<|.o 9 false<|.p 10<|.n) ?_
  repeat' first|refine yS ?_|refine s1 ?_|(refine kR ?_;first|refine F.c (hA) ?_|refine F.c (hB) ?_)|fail
  any_goals refine lf ?_
  all_goals
   repeat' first|refine s1 ?_|fail
   (refine kZ ?_;exact F.ret rfl)
theorem specOppositeOf_a(q:Quiv):AC Tryz.prog 165 [.agg (enc false q)] [.agg (enc true (oppP q).1),.b (oppP q).2]:=by
 refine AC.go Tryz.func165 Tryz.ntmps165 rfl rfl fun w0 hw=>?_;simp[WfL,WfA,E_length,Enc.enc,In64] at hw
 have hQ:=specIsQuiver_a q
 unfold oppP
 cases h:okQ q with
 |false=>
  rw[h] at hQ
  rw[if_neg (by simp)]
  repeat' first|refine s1 ?_|(refine kR ?_;first|refine F.c (hQ) ?_)|fail
  (refine kZ ?_;exact F.ret rfl)
 |true=>
  rw[h] at hQ
  rw[if_pos rfl]
  have h5:=okQ_spec h
  unfold oppQ
  dsimp only
  repeat' first|refine s1 ?_|(refine kR ?_;first|refine F.c (hQ) ?_)|fail
  refine AW.draw 11 G.mixed (by kernel_rfl) ?_
  refine Pz (.p 0<|.l 1<|.p 3<|.l 4<|.p 7<|.l 8<|.a [(2,true,.a [(5,true,.o 6 true<|.o 9 true<|.p 10<|.o 11 false<|.p 12<|.n),(6,true,.o 5 true<|.o 9 true<|.p 10<|.o 11 false<|.p 12<|.n)]),(6,true,.o 2 true<|.o 5 true<|.o 9 true<|.p 10<|.o 11 false<|.p 12<|.n)]) ?_
  repeat' first|refine yS ?_|refine s1 ?_|refine yC ?_ ?_|exact trivial|(refine kR ?_;first|refine F.appLN (α:=Int) (oo:=true) (.inr rfl) rfl .imm rfl rfl (by omega) (by omega) rfl rfl rfl rfl ?_)|fail
  any_goals refine lf ?_
  all_goals
   repeat' first|refine s1 ?_|fail
   (refine kZ ?_;exact F.ret rfl)
def trM(m:Mat):Mat:=tm m.c.toNat m.r.toNat fun i j=>ent m j i
def trL(l:List Mat):List Mat:=l.map trM
theorem trL_len(l:List Mat):(trL l).length=l.length:=by simp[trL]
theorem trL_take{l:List Mat}{k:Nat}(h:k<l.length):(trL l).take (k+1)=(trL l).take k++[trM (l.getD k default)]:=map_take trM h
def dualR(r:Rep):Rep:=⟨r.p,oppQ r.q,r.d,trL r.m⟩
theorem implDualRep_t (r : Rep) (h : isRep r = true) : AC Tryz.prog 159 [.agg (enc false r)] [.agg (enc true (dualR r)), .b true] := by
  refine AC.go Tryz.func159 Tryz.ntmps159 rfl rfl fun w0 hw => ?_; simp [WfL, WfA, E_length, Enc.enc, In64] at hw
  have hF := implIsRep_a r
  rw [h] at hF
  obtain ⟨h1, h2, h3, h4⟩ := isRep_spec h
  obtain ⟨c1, c2, c3, c4⟩ := areDims_spec h2
  have h5 := okQ_spec c1
  have hO := implOppositeOf_a r.q
  rw [show oppP r.q = (oppQ r.q, true) by unfold oppP; rw [if_pos c1]] at hO
  unfold oppQ at hO
  dsimp only at hO
  have hC := clone_a r.d (by omega)
  have hll := trL_len r.m
  have hts := fun k hk => trL_take (l := r.m) (k := k) hk
  have hmt := fun k (hk : k < r.m.length) => (arrow_ok h hk).1
  unfold dualR oppQ
  generalize trL r.m = L at hll hts ⊢
  repeat' first | refine s1 ?_ | (refine kR ?_; first | refine F.c (hF) ?_ | refine F.c (hO) ?_) | fail
  refine AW.draw 8 G.mixed (by kernel_rfl) ?_
  refine Pz (.p 0 <| .l 1 <| .l 2 <| .p 3 <| .l 4 <| .a [(5, true, .p 6 <| .o 7 true <| .o 8 false <| .n), (7, true, .o 5 true <| .p 6 <| .o 8 false <| .n)]) ?_
  repeat' first | refine yS ?_ | refine s1 ?_ | refine yC ?_ ?_ | exact trivial | (refine kR ?_; first | refine F.c (hC) ?_ | refine F.appLN (α := Int) (oo := true) (.inr rfl) rfl .imm rfl rfl (by omega) (by omega) rfl rfl rfl rfl ?_) | fail
  any_goals refine lf ?_
  all_goals try
   (
    repeat' first | refine s1 ?_ | fail
    refine AW.openV (o := 6) (j := 5) 3 rfl rfl (.inl rfl) rfl ?_
    refine F.loop (σ := Nat) [8, 29, 30, 31, 32, 33, 34, 35, 36, 37, 38, 39, 40, 41, 42, 43] (fun k => [(29, .i k)]) (fun k => [(6, .live false 6 [[.i r.p, .i r.q.n, .sl 2 r.q.to.length 0 r.q.to.length, .sl 3 r.q.fr.length 0 r.q.fr.length, .sl 5 r.d.length 0 r.d.length, .sl 7 k 0 k]]), (7, .live false 3 (E true (L.take k)))]) (fun k => k ≤ r.m.length) (fun k => r.m.length - k) 0 ⟨rfl, trivial⟩ ⟨rfl, rfl, trivial⟩ (Nat.zero_le _) ?_
    rintro k k1
    have hp2 : (L.take k).length = k := by rw [List.length_take]; omega
    by_cases hk : k < r.m.length
    · have hm := hmt k hk
      have ht := hts k hk
      obtain ⟨_, g1, g2, _, _⟩ := isMat_spec hm
      have hR := rows_a (r.m.getD k default).r.toNat (r.m.getD k default).c.toNat (ent (r.m.getD k default)) (by omega) (by omega)
      rw [isMat_tm hm] at hR
      have hrl := rowsL_len (r.m.getD k default).r.toNat (r.m.getD k default).c.toNat (ent (r.m.getD k default))
      have hFC := fromColumns_a (r.m.getD k default).c.toNat (rowsL (r.m.getD k default).r.toNat (r.m.getD k default).c.toNat (ent (r.m.getD k default))) (by omega) (by omega) (fun j hj => by rw [hrl] at hj; rw [rowsL_get _ _ hj]; exact rowL_len ..)
      rw [rows_fc, Int.toNat_of_nonneg g2.1] at hFC
      have hFC : AC Tryz.prog 133 [.i (r.m.getD k default).c, ar false (rowsL (r.m.getD k default).r.toNat (r.m.getD k default).c.toNat (ent (r.m.getD k default)))] [.agg (enc true (trM (r.m.getD k default)))] := hFC
      generalize trM (r.m.getD k default) = Y at hFC ht
      generalize rowsL (r.m.getD k default).r.toNat (r.m.getD k default).c.toNat (ent (r.m.getD k default)) = RL at hR hFC
      repeat' first | refine s1 ?_ | fail
      refine AW.draw 8 G.mixed (by kernel_rfl) ?_
      refine Pz (.p 0 <| .l 1 <| .p 2 <| .l 3 <| .l 4 <| .o 5 true <| .o 6 true <| .o 7 true <| .o 8 false <| .p 9 <| .o 10 false <| .n) ?_
      repeat' first | refine yS ?_ | refine s1 ?_ | (refine kR ?_; first | refine F.c (hR) ?_ | refine F.c (hFC) ?_ | refine F.a1 Mat (a := Y) ?_) | fail
      any_goals refine lf ?_
      all_goals
        repeat' first | refine s1 ?_ | fail
        exact ⟨k + 1, F.fit ⟨rfl, trivial⟩ ⟨rfl, obE (by rw [ht]), trivial⟩, by omega, by omega⟩
    · obtain rfl : k = r.m.length := by omega
      have e : L.take r.m.length = L := List.take_of_length_le (by omega)
      rw [e]
      clear hp2 e
      rw [← hll]
      repeat' first | refine s1 ?_ | fail
      (refine kZ ?_; exact F.ret rfl))
  all_goals try
   (
    repeat' first | refine s1 ?_ | fail
    refine AW.openV (o := 5) (j := 5) 3 rfl rfl (.inl rfl) rfl ?_
    refine F.loop (σ := Nat) [8, 29, 30, 31, 32, 33, 34, 35, 36, 37, 38, 39, 40, 41, 42, 43] (fun k => [(29, .i k)]) (fun k => [(5, .live false 6 [[.i r.p, .i r.q.n, .sl 2 r.q.to.length 0 r.q.to.length, .sl 3 r.q.fr.length 0 r.q.fr.length, .sl 6 r.d.length 0 r.d.length, .sl 7 k 0 k]]), (7, .live false 3 (E true (L.take k)))]) (fun k => k ≤ r.m.length) (fun k => r.m.length - k) 0 ⟨rfl, trivial⟩ ⟨rfl, rfl, trivial⟩ (Nat.zero_le _) ?_
    rintro k k1
    have hp2 : (L.take k).length = k := by rw [List.length_take]; omega
    by_cases hk : k < r.m.length
    · have hm := hmt k hk
      have ht := hts k hk
      obtain ⟨_, g1, g2, _, _⟩ := isMat_spec hm
      have hR := rows_a (r.m.getD k default).r.toNat (r.m.getD k default).c.toNat (ent (r.m.getD k default)) (by omega) (by omega)
      rw [isMat_tm hm] at hR
      have hrl := rowsL_len (r.m.getD k default).r.toNat (r.m.getD k default).c.toNat (ent (r.m.getD k default))
      have hFC := fromColumns_a (r.m.getD k default).c.toNat (rowsL (r.m.getD k default).r.toNat (r.m.getD k default).c.toNat (ent (r.m.getD k default))) (by omega) (by omega) (fun j hj => by rw [hrl] at hj; rw [rowsL_get _ _ hj]; exact rowL_len ..)
      rw [rows_fc, Int.toNat_of_nonneg g2.1] at hFC
      have hFC : AC Tryz.prog 133 [.i (r.m.getD k default).c, ar false (rowsL (r.m.getD k default).r.toNat (r.m.getD k default).c.toNat (ent (r.m.getD k default)))] [.agg (enc true (trM (r.m.getD k default)))] := hFC
      generalize trM (r.m.getD k default) = Y at hFC ht
      generalize rowsL (r.m.getD k default).r.toNat (r.m.getD k default).c.toNat (ent (r.m.getD k default)) = RL at hR hFC
      repeat' first | refine s1 ?_ | fail
      refine AW.draw 8 G.mixed (by kernel_rfl) ?_
      refine Pz (.p 0 <| .l 1 <| .p 2 <| .l 3 <| .l 4 <| .o 5 true <| .o 6 true <| .o 7 true <| .o 8 false <| .p 9 <| .o 10 false <| .n) ?_
      repeat' first | refine yS ?_ | refine s1 ?_ | (refine kR ?_; first | refine F.c (hR) ?_ | refine F.c (hFC) ?_ | refine F.a1 Mat (a := Y) ?_) | fail
      any_goals refine lf ?_
      all_goals
        repeat' first | refine s1 ?_ | fail
        exact ⟨k + 1, F.fit ⟨rfl, trivial⟩ ⟨rfl, obE (by rw [ht]), trivial⟩, by omega, by omega⟩
    · obtain rfl : k = r.m.length := by omega
      have e : L.take r.m.length = L := List.take_of_length_le (by omega)
      rw [e]
      clear hp2 e
      rw [← hll]
      repeat' first | refine s1 ?_ | fail
      (refine kZ ?_; exact F.ret rfl))
theorem specDualRep_t (r : Rep) (h : isRep r = true) : AC Tryz.prog 166 [.agg (enc false r)] [.agg (enc true (dualR r)), .b true] := by
  refine AC.go Tryz.func166 Tryz.ntmps166 rfl rfl fun w0 hw => ?_; simp [WfL, WfA, E_length, Enc.enc, In64] at hw
  have hF := specIsRep_a r
  rw [h] at hF
  obtain ⟨h1, h2, h3, h4⟩ := isRep_spec h
  obtain ⟨c1, c2, c3, c4⟩ := areDims_spec h2
  have h5 := okQ_spec c1
  have hO := specOppositeOf_a r.q
  rw [show oppP r.q = (oppQ r.q, true) by unfold oppP; rw [if_pos c1]] at hO
  unfold oppQ at hO
  dsimp only at hO
  have hC := clone_a r.d (by omega)
  have hll := trL_len r.m
  have hts := fun k hk => trL_take (l := r.m) (k := k) hk
  have hmt := fun k (hk : k < r.m.length) => (arrow_ok h hk).1
  unfold dualR oppQ
  generalize trL r.m = L at hll hts ⊢
  repeat' first | refine s1 ?_ | (refine kR ?_; first | refine F.c (hF) ?_ | refine F.c (hO) ?_) | fail
  refine AW.draw 10 G.mixed (by kernel_rfl) ?_
  refine Pz (.p 0 <| .l 1 <| .l 2 <| .p 4 <| .l 5 <| .a [(3, true, .a [(6, true, .a [(7, true, .p 8 <| .o 9 true <| .o 10 false <| .n), (9, true, .o 7 true <| .p 8 <| .o 10 false <| .n)]), (7, true, .a [(6, true, .p 8 <| .o 9 true <| .o 10 false <| .n), (9, true, .o 6 true <| .p 8 <| .o 10 false <| .n)]), (9, true, .a [(6, true, .o 7 true <| .p 8 <| .o 10 false <| .n), (7, true, .o 6 true <| .p 8 <| .o 10 false <| .n)])]), (7, true, .a [(3, true, .a [(6, true, .p 8 <| .o 9 true <| .o 10 false <| .n), (9, true, .o 6 true <| .p 8 <| .o 10 false <| .n)]), (9, true, .o 3 true <| .o 6 true <| .p 8 <| .o 10 false <| .n)]), (9, true, .a [(3, true, .a [(6, true, .o 7 true <| .p 8 <| .o 10 false <| .n), (7, true, .o 6 true <| .p 8 <| .o 10 false <| .n)]), (7, true, .o 3 true <| .o 6 true <| .p 8 <| .o 10 false <| .n)])]) ?_
  repeat' first | refine yS ?_ | refine s1 ?_ | refine yC ?_ ?_ | exact trivial | (refine kR ?_; first | refine F.c (hC) ?_ | refine F.appLN (α := Int) (oo := true) (.inr rfl) rfl .imm rfl rfl (by omega) (by omega) rfl rfl rfl rfl ?_) | fail
  any_goals refine lf ?_
  all_goals try
   (
    repeat' first | refine s1 ?_ | fail
    refine AW.openV (o := 6) (j := 5) 3 rfl rfl (.inr rfl) rfl ?_
    refine F.loop (σ := Nat) [7, 27, 28, 29, 30, 31, 32, 33, 34, 35, 36, 37, 38, 39, 40, 41, 42, 43, 44] (fun k => [(7, .i k)]) (fun k => [(6, .live false 6 [[.i r.p, .i r.q.n, .sl 2 r.q.to.length 0 r.q.to.length, .sl 3 r.q.fr.length 0 r.q.fr.length, .sl 5 r.d.length 0 r.d.length, .sl 7 k 0 k]]), (7, .live false 3 (E true (L.take k)))]) (fun k => k ≤ r.m.length) (fun k => r.m.length - k) 0 ⟨rfl, trivial⟩ ⟨rfl, rfl, trivial⟩ (Nat.zero_le _) ?_
    rintro k k1
    have hp2 : (L.take k).length = k := by rw [List.length_take]; omega
    by_cases hk : k < r.m.length
    · have hm := hmt k hk
      have ht := hts k hk
      obtain ⟨_, g1, g2, _, _⟩ := isMat_spec hm
      have hT := l3Transpose_a (r.m.getD k default).r.toNat (r.m.getD k default).c.toNat (ent (r.m.getD k default)) (by omega) (by omega)
      rw [isMat_tm hm] at hT
      have hT : AC Tryz.prog 217 [.agg (enc false (r.m.getD k default))] [.agg (enc true (trM (r.m.getD k default)))] := hT
      generalize trM (r.m.getD k default) = Y at hT ht
      repeat' first | refine s1 ?_ | fail
      refine AW.draw 9 G.mixed (by kernel_rfl) ?_
      refine Pz (.p 0 <| .l 1 <| .p 2 <| .l 3 <| .p 4 <| .p 5 <| .l 6 <| .o 7 true <| .o 8 true <| .o 9 false <| .p 10 <| .o 11 false <| .n) ?_
      repeat' first | refine yS ?_ | refine s1 ?_ | (refine kR ?_; first | refine F.c (hT) ?_ | refine F.a1 Mat (a := Y) ?_) | fail
      any_goals refine lf ?_
      all_goals
        repeat' first | refine s1 ?_ | fail
        exact ⟨k + 1, F.fit ⟨rfl, trivial⟩ ⟨rfl, obE (by rw [ht]), trivial⟩, by omega, by omega⟩
    · obtain rfl : k = r.m.length := by omega
      have e : L.take r.m.length = L := List.take_of_length_le (by omega)
      rw [e]
      clear hp2 e
      rw [← hll]
      repeat' first | refine s1 ?_ | fail
      (refine kZ ?_; exact F.ret rfl))
  all_goals try
   (
    repeat' first | refine s1 ?_ | fail
    refine AW.openV (o := 5) (j := 5) 3 rfl rfl (.inr rfl) rfl ?_
    refine F.loop (σ := Nat) [7, 27, 28, 29, 30, 31, 32, 33, 34, 35, 36, 37, 38, 39, 40, 41, 42, 43, 44] (fun k => [(7, .i k)]) (fun k => [(5, .live false 6 [[.i r.p, .i r.q.n, .sl 2 r.q.to.length 0 r.q.to.length, .sl 3 r.q.fr.length 0 r.q.fr.length, .sl 6 r.d.length 0 r.d.length, .sl 7 k 0 k]]), (7, .live false 3 (E true (L.take k)))]) (fun k => k ≤ r.m.length) (fun k => r.m.length - k) 0 ⟨rfl, trivial⟩ ⟨rfl, rfl, trivial⟩ (Nat.zero_le _) ?_
    rintro k k1
    have hp2 : (L.take k).length = k := by rw [List.length_take]; omega
    by_cases hk : k < r.m.length
    · have hm := hmt k hk
      have ht := hts k hk
      obtain ⟨_, g1, g2, _, _⟩ := isMat_spec hm
      have hT := l3Transpose_a (r.m.getD k default).r.toNat (r.m.getD k default).c.toNat (ent (r.m.getD k default)) (by omega) (by omega)
      rw [isMat_tm hm] at hT
      have hT : AC Tryz.prog 217 [.agg (enc false (r.m.getD k default))] [.agg (enc true (trM (r.m.getD k default)))] := hT
      generalize trM (r.m.getD k default) = Y at hT ht
      repeat' first | refine s1 ?_ | fail
      refine AW.draw 9 G.mixed (by kernel_rfl) ?_
      refine Pz (.p 0 <| .l 1 <| .p 2 <| .l 3 <| .p 4 <| .p 5 <| .l 6 <| .o 7 true <| .o 8 true <| .o 9 false <| .p 10 <| .o 11 false <| .n) ?_
      repeat' first | refine yS ?_ | refine s1 ?_ | (refine kR ?_; first | refine F.c (hT) ?_ | refine F.a1 Mat (a := Y) ?_) | fail
      any_goals refine lf ?_
      all_goals
        repeat' first | refine s1 ?_ | fail
        exact ⟨k + 1, F.fit ⟨rfl, trivial⟩ ⟨rfl, obE (by rw [ht]), trivial⟩, by omega, by omega⟩
    · obtain rfl : k = r.m.length := by omega
      have e : L.take r.m.length = L := List.take_of_length_le (by omega)
      rw [e]
      clear hp2 e
      rw [← hll]
      repeat' first | refine s1 ?_ | fail
      (refine kZ ?_; exact F.ret rfl))
theorem projR_ok{p:Int}{q:Quiv}{v:Int}(hp:isF p=true)(h:areDims q (projD q v)=true):isRep (projR p q v)=true:=by
 obtain⟨c1,c2,c3,c4⟩:=areDims_spec h
 have h5:=okQ_spec c1
 have hpp:=isF_pos hp
 obtain⟨p1,p2,p3,p4⟩:=projD_yes h
 have hl:=pjMs_len q v
 simp only[isRep,Bool.and_eq_true,decide_eq_true_eq,List.all_eq_true]
 refine⟨⟨⟨hp,h⟩,hl⟩,fun i hi=>?_⟩
 have hi':i<(projR p q v).m.length:=by simpa using hi
 have hi:i<q.fr.length:=by
  have:i<(pjMs q v).length:=hi'
  omega
 obtain⟨b1,b2,b3,b4,b5⟩:=prj_arrow h hi
 have f:0≤q.fr.getD i default∧q.fr.getD i default<q.n:=okQ_fr c1 hi
 have t:0≤q.to.getD i default∧q.to.getD i default<q.n:=okQ_to c1 hi
 have ef:=p4 (q.fr.getD i default).toNat (by omega)
 have et:=p4 (q.to.getD i default).toNat (by omega)
 rw[Int.toNat_of_nonneg f.1] at ef
 rw[Int.toNat_of_nonneg t.1] at et
 simp only[fitM,Bool.and_eq_true,decide_eq_true_eq]
 have e:(projR p q v).m.getD i default=pjM q v i:=pjMs_get q v hi
 rw[e]
 refine⟨⟨isMat_tab hp (by omega) (by omega) fun a ha b hb=>?_,?_⟩,?_⟩
 ·show 0≤pjF q v i _ a b∧pjF q v i _ a b≤p-1
  unfold pjF
  split<;>omega
 ·show((betw q v (q.fr.getD i default)).length:Int)=(projD q v).getD (q.fr.getD i default).toNat default
  rw[ef]
 ·show((betw q v (q.to.getD i default)).length:Int)=(projD q v).getD (q.to.getD i default).toNat default
  rw[et]
def injP(p:Int)(q:Quiv)(v:Int):Rep×Bool:=if okQ q=true∧(projP p (oppQ q) v).2=true then(dualR (projR p (oppQ q) v),true) else(⟨0,⟨0,[],[]⟩,[],[]⟩,false)
theorem projP_empty(p:Int)(v:Int):(projP p ⟨0,[],[]⟩ v).2=false:=by
 unfold projP
 rw[if_neg fun h=>by
  have:=areDims_spec h.2
  have:=okQ_spec this.1
  simp at this]
theorem projP_true2{p:Int}{q:Quiv}{v:Int}(h:(projP p q v).2=true):isF p=true∧areDims q (projD q v)=true∧projP p q v=(projR p q v,true):=by
 unfold projP at h⊢
 by_cases hh:isF p=true∧areDims q (projD q v)=true
 ·exact⟨hh.1,hh.2,if_pos hh⟩
 ·rw[if_neg hh] at h;cases h
theorem implInjectiveRep_a(p:Int)(q:Quiv)(v:Int):AC Tryz.prog 20 [.i p,.agg (enc false q),.i v] [.agg (enc true (injP p q v).1),.b (injP p q v).2]:=by
 refine AC.go Tryz.func20 Tryz.ntmps20 rfl rfl fun w0 hw=>?_;simp[WfL,WfA,E_length,Enc.enc,In64] at hw
 have hO:=implOppositeOf_a q
 unfold injP
 unfold oppP at hO
 cases hq:okQ q with
 |false=>
  rw[hq,if_neg (by simp)] at hO
  rw[if_neg (by simp)]
  dsimp only at hO
  repeat' first|refine s1 ?_|(refine kR ?_;first|refine F.c (hO) ?_)|fail
  (refine kZ ?_;exact F.ret rfl)
 |true=>
  rw[hq,if_pos rfl] at hO
  dsimp only at hO
  have hP:=implProjectiveRep_a p (oppQ q) v
  cases h2:(projP p (oppQ q) v).2 with
  |false=>
   rw[h2] at hP
   rw[if_neg (by simp)]
   generalize (projP p (oppQ q) v).1=PR at hP
   generalize oppQ q=O at hO hP
   repeat' first|refine s1 ?_|(refine kR ?_;first|refine F.c (hO) ?_|refine F.c (hP) ?_)|fail
   (refine kZ ?_;exact F.ret rfl)
  |true=>
   rw[if_pos ⟨rfl,rfl⟩]
   obtain⟨k1,k2,k3⟩:=projP_true2 h2
   rw[k3] at hP
   dsimp only at hP
   have hD:=implDualRep_t (projR p (oppQ q) v) (projR_ok k1 k2)
   generalize dualR (projR p (oppQ q) v)=DR at hD⊢
   generalize projR p (oppQ q) v=PR at hP hD
   generalize oppQ q=O at hO hP
   repeat' first|refine s1 ?_|(refine kR ?_;first|refine F.c (hO) ?_|refine F.c (hP) ?_|refine F.c (hD) ?_)|fail
   (refine kZ ?_;exact F.ret rfl)
theorem specInjectiveRep_a(p:Int)(q:Quiv)(v:Int):AC Tryz.prog 23 [.i p,.agg (enc false q),.i v] [.agg (enc true (injP p q v).1),.b (injP p q v).2]:=by
 refine AC.go Tryz.func23 Tryz.ntmps23 rfl rfl fun w0 hw=>?_;simp[WfL,WfA,E_length,Enc.enc,In64] at hw
 have hO:=specOppositeOf_a q
 unfold injP
 unfold oppP at hO
 cases hq:okQ q with
 |false=>
  rw[hq,if_neg (by simp)] at hO
  rw[if_neg (by simp)]
  dsimp only at hO
  have hP:=specProjectiveRep_a p ⟨0,[],[]⟩ v
  rw[projP_empty] at hP
  generalize (projP p ⟨0,[],[]⟩ v).1=PR at hP
  repeat' first|refine s1 ?_|(refine kR ?_;first|refine F.c (hO) ?_|refine F.c (hP) ?_)|fail
  (refine kZ ?_;exact F.ret rfl)
 |true=>
  rw[hq,if_pos rfl] at hO
  dsimp only at hO
  have hP:=specProjectiveRep_a p (oppQ q) v
  cases h2:(projP p (oppQ q) v).2 with
  |false=>
   rw[h2] at hP
   rw[if_neg (by simp)]
   generalize (projP p (oppQ q) v).1=PR at hP
   generalize oppQ q=O at hO hP
   repeat' first|refine s1 ?_|(refine kR ?_;first|refine F.c (hO) ?_|refine F.c (hP) ?_)|fail
   (refine kZ ?_;exact F.ret rfl)
  |true=>
   rw[if_pos ⟨rfl,rfl⟩]
   obtain⟨k1,k2,k3⟩:=projP_true2 h2
   rw[k3] at hP
   dsimp only at hP
   have hD:=specDualRep_t (projR p (oppQ q) v) (projR_ok k1 k2)
   generalize dualR (projR p (oppQ q) v)=DR at hD⊢
   generalize projR p (oppQ q) v=PR at hP hD
   generalize oppQ q=O at hO hP
   repeat' first|refine s1 ?_|(refine kR ?_;first|refine F.c (hO) ?_|refine F.c (hP) ?_|refine F.c (hD) ?_)|fail
   (refine kZ ?_;exact F.ret rfl)
end Go.Proofs.YtjmjamhhppoimaaGreat.V
namespace Go.Proofs.YtjmjamhhppoimaaGreat.V
open V.Enc (enc)
open Go.RowKit G D
set_option linter.unusedVariables false
set_option linter.unusedSimpArgs false
set_option maxHeartbeats 4000000
set_option maxRecDepth 4000
attribute [local irreducible] AW ARg ARA ARet MRet ASil AC AM
def hkL(a b:Rep):List (List Int):=kerL a.p (szA a b a.q.fr.length) (szT a b a.d.length) (ent (eqM a b))
theorem hkL_len(a b:Rep)(hf:fitR a b=true):(hkL a b).length+rkE a b=szT a b a.d.length:=by
 have h:=Fits.of hf
 have hp:=isF_pos h.f
 exact kerL_len h.f (eqM_bd (by omega))
theorem hkL_get(a b:Rep){k:Nat}(hk:k<(hkL a b).length):((hkL a b).getD k default).length=szT a b a.d.length:=by
 have hm:(hkL a b).getD k default∈hkL a b:=by simp[hk]
 unfold hkL kerL at hm
 rw[List.mem_map] at hm
 obtain⟨j,_,e⟩:=hm
 unfold hkL kerL
 rw[←e]
 exact kerV_len ..
def homL(a b:Rep):List (List Mat):=(hkL a b).map (cutV a b)
theorem homL_len(a b:Rep):(homL a b).length=(hkL a b).length:=by simp[homL]
theorem homL_take(a b:Rep){k:Nat}(h:k<(hkL a b).length):(homL a b).take (k+1)=(homL a b).take k++[cutV a b ((hkL a b).getD k default)]:=by
 rw[homL,List.take_succ_eq_append_getElem (by simpa using h)]
 simp[h]
def homD(a b:Rep):Int:=if fitR a b=true then(szT a b a.d.length:Int)-(rkE a b:Int) else-1
theorem homDim_a(a b:Rep)(hf:fitR a b=true):AC Tryz.prog 155 [.agg (enc false a),.agg (enc false b)] [.i ((szT a b a.d.length:Int)-(rkE a b:Int))]:=by
 refine AC.go Tryz.func155 Tryz.ntmps155 rfl rfl fun w0 hw=>?_;simp[WfL,WfA,E_length,Enc.enc,In64] at hw
 have hB:=boundaries_a a b hf
 have hR:=eq_rank_a a b hf
 have hle:=rkE_le a b hf
 have hEr:(eqM a b).c=(szT a b a.d.length:Nat):=rfl
 rw[←hEr]
 generalize rkE a b=K at hR hle⊢
 generalize eqM a b=EM at hB hR hEr⊢
 repeat' first|refine s1 ?_|refine q1 ?_|(refine kR ?_;first|refine F.c (hB) ?_)|fail
 refine AW.draw 8 G.mixed (by kernel_rfl) ?_
 refine Pz (.p 0<|.l 1<|.p 2<|.l 3<|.l 4<|.o 5 true<|.p 6<|.p 7<|.n) ?_
 repeat' first|refine ySQ ?_|refine s1 ?_|refine q1 ?_|(refine kR ?_;first|refine F.c (hR) ?_)|fail
 any_goals refine lf ?_
 repeat' first|refine s1 ?_|refine q1 ?_|fail
 (refine kZ ?_;exact F.ret rfl)
theorem implHomDim_a(a b:Rep):AC Tryz.prog 17 [.agg (enc false a),.agg (enc false b)] [.i (homD a b)]:=by
 refine AC.go Tryz.func17 Tryz.ntmps17 rfl rfl fun w0 hw=>?_;simp[WfL,WfA,E_length,Enc.enc,In64] at hw
 have hF:=fit_a a b
 unfold homD
 cases hf:fitR a b with
 |false=>
  rw[hf] at hF
  rw[if_neg (by simp)]
  repeat' first|refine s1 ?_|refine q1 ?_|(refine kR ?_;first|refine F.c (hF) ?_)|fail
  (refine kZ ?_;exact F.ret rfl)
 |true=>
  rw[hf] at hF
  rw[if_pos rfl]
  have hE:=homDim_a a b hf
  repeat' first|refine s1 ?_|refine q1 ?_|(refine kR ?_;first|refine F.c (hF) ?_|refine F.c (hE) ?_)|fail
  (refine kZ ?_;exact F.ret rfl)
end Go.Proofs.YtjmjamhhppoimaaGreat.V
