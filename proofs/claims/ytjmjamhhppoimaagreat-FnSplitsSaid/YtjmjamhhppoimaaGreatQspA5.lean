/- Texts that the proof needs: A74, A5. -/
import Derived.Test.YtjmjamhhppoimaaGreatQspB8
namespace Go.Proofs.YtjmjamhhppoimaaGreat.V
open V.Enc (enc)
open Go.RowKit G D
set_option linter.unusedVariables false
set_option linter.unusedSimpArgs false
set_option maxHeartbeats 4000000
set_option maxRecDepth 4000
attribute [local irreducible] AW ARg ARA ARet MRet ASil AC AM
theorem implEqS1_a(x y:List Int):AC Tryz.prog 331 [ar false x,ar false y] [.b (decide (x=y))]:=by
 refine AC.go Tryz.func331 Tryz.ntmps331 rfl rfl fun w0 hw=>?_;simp[WfL,WfA,E_length,Enc.enc,In64] at hw
 have hE:=equal_a x y
 repeat' first|refine s1 ?_|(refine kR ?_;first|refine F.c (hE) ?_)|fail
 (refine kZ ?_;exact F.ret rfl)
theorem equalFuncI_a(f g:List (List Int)):AC Tryz.prog 330 [ar false f,ar false g,.fn 331 []] [.b (decide (f=g))]:=by
 refine AC.go Tryz.func330 Tryz.ntmps330 rfl rfl fun w0 hw=>?_;simp[WfL,WfA,E_length,Enc.enc,In64] at hw
 by_cases hl:f.length=g.length
 ·repeat' first|refine s1 ?_|fail
  refine F.loop (σ:=Nat) [6,7,8,9,17,18,19,20,21,22,23,24,25,26,27,28,29,30,31] (fun k=>[(17,.i k)]) (fun _=>[]) (fun k=>k≤f.length∧∀j,j<k→f.getD j default=g.getD j default) (fun k=>f.length-k) 0 ⟨rfl,trivial⟩ trivial ⟨Nat.zero_le _,fun j hj=>by omega⟩ ?_
  rintro k ⟨g1,g2⟩
  by_cases hlt:k<f.length
  ·have hE:=implEqS1_a (f.getD k default) (g.getD k default)
   by_cases hs:f.getD k default=g.getD k default
   ·rw[decide_eq_true hs] at hE
    repeat' first|refine s1 ?_|(refine kR ?_;first|refine F.cv (hE) ?_)|fail
    exact⟨k+1,F.fit ⟨rfl,trivial⟩ trivial,⟨by omega,snocP g2 hs⟩,by omega⟩
   ·rw[decide_eq_false hs] at hE
    repeat' first|refine s1 ?_|(refine kR ?_;first|refine F.cv (hE) ?_)|fail
    refine F.ret ?_
    rw[decide_eq_false]
    rintro rfl
    exact hs rfl
  ·obtain rfl:k=f.length:=by omega
   repeat' first|refine s1 ?_|fail
   refine F.ret ?_
   rw[decide_eq_true (ext_getD hl fun j hj=>g2 j (by omega))]
 ·repeat' first|refine s1 ?_|fail
  refine F.ret ?_
  rw[decide_eq_false]
  rintro rfl
  exact hl rfl
def sameS(x y:Spc):Bool:=decide (x.n=y.n)&&decide (x.b=y.b)
theorem implEqualSpaces_a(x y:Spc):AC Tryz.prog 223 [.agg (enc false x),.agg (enc false y)] [.b (sameS x y)]:=by
 refine AC.go Tryz.func223 Tryz.ntmps223 rfl rfl fun w0 hw=>?_;simp[WfL,WfA,E_length,Enc.enc,In64] at hw
 have hE:=equalFuncI_a x.b y.b
 unfold sameS
 by_cases h:x.n=y.n
 ·rw[decide_eq_true h]
  repeat' first|refine s1 ?_|(refine kR ?_;first|refine F.c (hE) ?_)|fail
  refine F.ret ?_
  simp
 ·rw[decide_eq_false h]
  repeat' first|refine s1 ?_|(refine kR ?_;first|refine F.c (hE) ?_)|fail
  refine F.ret ?_
  rfl
theorem specEqualSpaces_a(x y:Spc)(hx:∀i,i<x.b.length→(x.b.getD i default).length≤1000000):AC Tryz.prog 201 [.agg (enc false x),.agg (enc false y)] [.b (sameS x y)]:=by
 refine AC.go Tryz.func201 Tryz.ntmps201 rfl rfl fun w0 hw=>?_;simp[WfL,WfA,E_length,Enc.enc,In64] at hw
 have hE:=l5Same_a x.b y.b hx
 unfold sameS
 by_cases h:x.n=y.n
 ·rw[decide_eq_true h]
  repeat' first|refine s1 ?_|(refine kR ?_;first|refine F.c (hE) ?_)|fail
  refine F.ret ?_
  simp
 ·rw[decide_eq_false h]
  repeat' first|refine s1 ?_|(refine kR ?_;first|refine F.c (hE) ?_)|fail
  refine F.ret ?_
  rfl
def sameSL(f g:List Spc):Bool:=decide (f.length=g.length)&&(List.range f.length).all fun v=>sameS (f.getD v default) (g.getD v default)
theorem specEqualSubs_a(f g:List Spc)(hx:∀v,v<f.length→∀i,i<(f.getD v default).b.length→((f.getD v default).b.getD i default).length≤1000000):AC Tryz.prog 47 [ar false f,ar false g] [.b (sameSL f g)]:=by
 refine AC.go Tryz.func47 Tryz.ntmps47 rfl rfl fun w0 hw=>?_;simp[WfL,WfA,E_length,Enc.enc,In64] at hw
 by_cases hl:f.length=g.length
 ·repeat' first|refine s1 ?_|fail
  refine F.loop (σ:=Nat) [4,5,11,12,13,14,15,16,17,18,19,20,21,22,23,24,25,26] (fun k=>[(5,.i k)]) (fun _=>[]) (fun k=>k≤f.length∧∀j,j<k→sameS (f.getD j default) (g.getD j default)=true) (fun k=>f.length-k) 0 ⟨rfl,trivial⟩ trivial ⟨Nat.zero_le _,fun j hj=>by omega⟩ ?_
  rintro k ⟨g1,g2⟩
  by_cases hlt:k<f.length
  ·have hE:=specEqualSpaces_a (f.getD k default) (g.getD k default) (hx k hlt)
   cases hs:sameS (f.getD k default) (g.getD k default) with
   |true=>
    rw[hs] at hE
    repeat' first|refine s1 ?_|fail
    refine AW.draw 10 G.mixed (by kernel_rfl) ?_
    refine Pz (.p 0<|.p 1<|.p 2<|.l 3<|.p 4<|.p 5<|.p 6<|.l 7<|.o 8 true<|.p 9<|.n) ?_
    repeat' first|refine yS ?_|refine s1 ?_|(refine kR ?_;first|refine F.c (hE) ?_)|fail
    any_goals refine lf ?_
    repeat' first|refine s1 ?_|fail
    exact⟨k+1,F.fit ⟨rfl,trivial⟩ trivial,⟨by omega,snocP g2 hs⟩,by omega⟩
   |false=>
    rw[hs] at hE
    repeat' first|refine s1 ?_|fail
    refine AW.draw 10 G.mixed (by kernel_rfl) ?_
    refine Pz (.p 0<|.p 1<|.p 2<|.l 3<|.p 4<|.p 5<|.p 6<|.l 7<|.o 8 true<|.p 9<|.n) ?_
    repeat' first|refine yS ?_|refine s1 ?_|(refine kR ?_;first|refine F.c (hE) ?_)|fail
    any_goals refine lf ?_
    repeat' first|refine s1 ?_|fail
    refine F.ret ?_
    rw[sameSL,all_no hlt hs,Bool.and_false]
  ·obtain rfl:k=f.length:=by omega
   repeat' first|refine s1 ?_|fail
   refine F.ret ?_
   rw[sameSL,decide_eq_true hl,all_yes g2];rfl
 ·repeat' first|refine s1 ?_|fail
  refine F.ret ?_
  rw[sameSL,decide_eq_false hl];rfl
theorem spc_short{p:Int}{s:Spc}(h:isSpc p s=true):∀i,i<s.b.length→(s.b.getD i default).length≤1000000:=fun i hi=>by
 obtain⟨h1,h2,h3,h4⟩:=isSpc_spec h
 have:=(h4 _ (gm (d:=default) hi)).1
 omega
end Go.Proofs.YtjmjamhhppoimaaGreat.V
namespace Go.Proofs.YtjmjamhhppoimaaGreat.V
open Go.RowKit G D
set_option linter.unusedVariables false
set_option linter.unusedSimpArgs false
set_option maxHeartbeats 400000
theorem IndexFunc2_a(xs:List (List Int))(f:Nat)[IsFn Tryz.prog f](cs:List AV)(p:List Int→Bool)(hcs:∀hp,SnapL hp cs cs)(hf:∀x∈xs,AC Tryz.prog f (ar false x::cs) [.b (p x)]):
  AC Tryz.prog 374 [ar false xs,.fn f cs] [.i (idxFrom p xs 0)]:=by
 refine AC.go Tryz.func374 Tryz.ntmps374 rfl rfl fun w0 hw=>?_;simp[WfL,WfA,E_length,Enc.enc,In64] at hw
 repeat' first|refine s1 ?_|(refine s2 ?_ ?_<;>intro hc<;>(try simp only[decide_eq_true_eq,decide_eq_false_iff_not,Bool.not_eq_true',Bool.not_eq_false'] at hc))|fail
 refine F.loop (σ:=Nat) [4,5,8,9,10,11,12,13,14,15,16,17,18] (fun k=>[(8,.i k)]) (fun _=>[]) (fun k=>k≤xs.length∧idxFrom p xs 0=idxFrom p (xs.drop k) k) (fun k=>xs.length-k) 0 ⟨rfl,trivial⟩ trivial ⟨Nat.zero_le _,rfl⟩ ?_
 rintro k ⟨hk,hi⟩
 by_cases hlt:k<xs.length
 ·rw[idxFrom_drop p xs hlt] at hi
  cases hpx:p (xs.getD k default) with
  |true=>
   rw[hpx] at hi
   have h1:=hf (xs.getD k default) (gm hlt)
   rw[hpx] at h1
   repeat' first|refine s1 ?_|(refine kR ?_;first|refine F.cv (h1) ?_)|(refine s2 ?_ ?_<;>intro hc<;>(try simp only[decide_eq_true_eq,decide_eq_false_iff_not,Bool.not_eq_true',Bool.not_eq_false'] at hc))|fail
   refine F.ret ?_
   simp[hi]
  |false=>
   rw[hpx] at hi
   have h1:=hf (xs.getD k default) (gm hlt)
   rw[hpx] at h1
   repeat' first|refine s1 ?_|(refine kR ?_;first|refine F.cv (h1) ?_)|(refine s2 ?_ ?_<;>intro hc<;>(try simp only[decide_eq_true_eq,decide_eq_false_iff_not,Bool.not_eq_true',Bool.not_eq_false'] at hc))|fail
   exact⟨k+1,F.fit ⟨rfl,trivial⟩ trivial,⟨by omega,hi⟩,by omega⟩
 ·have e:k=xs.length:=by omega
  subst e
  repeat' first|refine s1 ?_|(refine s2 ?_ ?_<;>intro hc<;>(try simp only[decide_eq_true_eq,decide_eq_false_iff_not,Bool.not_eq_true',Bool.not_eq_false'] at hc))|fail
  refine F.ret ?_
  simp[hi,idxFrom]
theorem ContainsFunc2_a(xs:List (List Int))(f:Nat)[IsFn Tryz.prog f](cs:List AV)(p:List Int→Bool)(hcs:∀hp,SnapL hp cs cs)(hf:∀x∈xs,AC Tryz.prog f (ar false x::cs) [.b (p x)]):
  AC Tryz.prog 320 [ar false xs,.fn f cs] [.b (xs.any p)]:=by
 refine AC.go Tryz.func320 Tryz.ntmps320 rfl rfl fun w0 hw=>?_;simp[WfL,WfA,E_length,Enc.enc,In64] at hw
 repeat' first|refine s1 ?_|(refine kR ?_;first|refine F.c (IndexFunc2_a xs f cs p hcs hf) ?_)|fail
 exact F.ret (by rw[←idxFrom_any p xs 0])
end Go.Proofs.YtjmjamhhppoimaaGreat.V
