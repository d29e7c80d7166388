/- Texts that the proof needs: A121, Down. -/
import Derived.Test.YtjmjamhhppoimaaGreatQspA116
import Derived.JoinedOf
namespace Go.Proofs.YtjmjamhhppoimaaGreat.V
open V.Enc (enc)
open Go.RowKit G D
set_option linter.unusedVariables false
set_option linter.unusedSimpArgs false
set_option maxHeartbeats 4000000
set_option maxRecDepth 4000
attribute [local irreducible] AW ARg ARA ARet MRet ASil AC AM ARI
theorem IndexFuncR_a(xs:List Rep)(f:Nat)[IsFn Tryz.prog f](cs:List AV)(p:Rep→Bool)(hcs:∀hp,SnapL hp cs cs)(hf:∀x∈xs,AC Tryz.prog f (.agg (enc false x)::cs) [.b (p x)]):
  AC Tryz.prog 363 [ar false xs,.fn f cs] [.i (idxFrom p xs 0)]:=by
 refine AC.go Tryz.func363 Tryz.ntmps363 rfl rfl fun w0 hw=>?_;simp[WfL,WfA,E_length,Enc.enc,In64] at hw
 repeat' first|refine s1 ?_|(refine s2 ?_ ?_<;>intro hc<;>(try simp only[decide_eq_true_eq,decide_eq_false_iff_not,Bool.not_eq_true',Bool.not_eq_false'] at hc))|fail
 refine F.loop (σ:=Nat) [4,5,8,9,10,11,12,13,14,15,16,17,18] (fun k=>[(8,.i k)]) (fun _=>[]) (fun k=>k≤xs.length∧idxFrom p xs 0=idxFrom p (xs.drop k) k) (fun k=>xs.length-k) 0 ⟨rfl,trivial⟩ trivial ⟨Nat.zero_le _,rfl⟩ ?_
 rintro k ⟨hk,hi⟩
 by_cases hlt:k<xs.length
 ·rw[idxFrom_drop p xs hlt] at hi
  have h1:=hf (xs.getD k default) (gm hlt)
  cases hpx:p (xs.getD k default) with
  |true=>
   rw[hpx] at hi h1
   repeat' first|refine s1 ?_|(refine kR ?_;first|refine F.cv (h1) ?_)|(refine s2 ?_ ?_<;>intro hc<;>(try simp only[decide_eq_true_eq,decide_eq_false_iff_not,Bool.not_eq_true',Bool.not_eq_false'] at hc))|fail
   refine F.ret ?_
   simp[hi]
  |false=>
   rw[hpx] at hi h1
   repeat' first|refine s1 ?_|(refine kR ?_;first|refine F.cv (h1) ?_)|(refine s2 ?_ ?_<;>intro hc<;>(try simp only[decide_eq_true_eq,decide_eq_false_iff_not,Bool.not_eq_true',Bool.not_eq_false'] at hc))|fail
   exact⟨k+1,F.fit ⟨rfl,trivial⟩ trivial,⟨by omega,hi⟩,by omega⟩
 ·have e:k=xs.length:=by omega
  subst e
  repeat' first|refine s1 ?_|(refine s2 ?_ ?_<;>intro hc<;>(try simp only[decide_eq_true_eq,decide_eq_false_iff_not,Bool.not_eq_true',Bool.not_eq_false'] at hc))|fail
  refine F.ret ?_
  simp[hi,idxFrom]
theorem ContainsFuncR_a(xs:List Rep)(f:Nat)[IsFn Tryz.prog f](cs:List AV)(p:Rep→Bool)(hcs:∀hp,SnapL hp cs cs)(hf:∀x∈xs,AC Tryz.prog f (.agg (enc false x)::cs) [.b (p x)]):
  AC Tryz.prog 279 [ar false xs,.fn f cs] [.b (xs.any p)]:=by
 refine AC.go Tryz.func279 Tryz.ntmps279 rfl rfl fun w0 hw=>?_;simp[WfL,WfA,E_length,Enc.enc,In64] at hw
 repeat' first|refine s1 ?_|(refine kR ?_;first|refine F.c (IndexFuncR_a xs f cs p hcs hf) ?_)|(refine s2 ?_ ?_<;>intro hc<;>(try simp only[decide_eq_true_eq,decide_eq_false_iff_not,Bool.not_eq_true',Bool.not_eq_false'] at hc))|fail
 exact F.ret (by rw[←idxFrom_any p xs 0])
def indN(x:Rep):Bool:=decide (indI x≠1)
theorem notInd_a(x:Rep):AC Tryz.prog 280 [.agg (enc false x)] [.b (indN x)]:=by
 refine AC.go Tryz.func280 Tryz.ntmps280 rfl rfl fun w0 hw=>?_;simp[WfL,WfA,E_length,Enc.enc,In64] at hw
 have hI:=implIsIndecomposable_a x
 unfold indN
 generalize indI x=k at hI⊢
 repeat' first|refine s1 ?_|(refine kR ?_;first|refine F.c (hI) ?_)|fail
 refine F.ret ?_
 simp
def decP(r:Rep)(l:List Rep)(f:List Mat):Bool:=(sumL l).2&&(isoB (sumL l).1 r f&&!(l.any indN))
theorem implIsDecomposition_a(r:Rep)(l:List Rep)(f:List Mat):AC Tryz.prog 124 [.agg (enc false r),ar false l,ar false f] [.b (decP r l f)]:=by
 refine AC.go Tryz.func124 Tryz.ntmps124 rfl rfl fun w0 hw=>?_;simp[WfL,WfA,E_length,Enc.enc,In64] at hw
 have hS:=implSumOf_a l
 have hI:=implIsIsomorphism_g (sumL l).1 r f
 have hC:=ContainsFuncR_a l 280 [] indN (fun _=>.nil) (fun x _=>notInd_a x)
 unfold decP
 generalize sumL l=S at hS hI⊢
 obtain⟨S1,S2⟩:=S
 dsimp only at hS hI⊢
 generalize l.any indN=y at hC⊢
 generalize isoB S1 r f=x at hI⊢
 cases S2 with
 |false=>
  repeat' first|refine s1 ?_|(refine kR ?_;first|refine F.c (hS) ?_)|fail
  (refine kZ ?_;exact F.ret rfl)
 |true=>
  cases x with
  |false=>
   repeat' first|refine s1 ?_|(refine kR ?_;first|refine F.c (hS) ?_|refine F.c (hI) ?_)|fail
   (refine kZ ?_;exact F.ret rfl)
  |true=>
   repeat' first|refine s1 ?_|(refine kR ?_;first|refine F.c (hS) ?_|refine F.c (hI) ?_|refine F.c (hC) ?_)|fail
   refine F.ret ?_
   simp
theorem specIsDecomposition_a(r:Rep)(l:List Rep)(f:List Mat):AC Tryz.prog 125 [.agg (enc false r),ar false l,ar false f] [.b (decP r l f)]:=by
 refine AC.go Tryz.func125 Tryz.ntmps125 rfl rfl fun w0 hw=>?_;simp[WfL,WfA,E_length,Enc.enc,In64] at hw
 have hS:=specSumOf_a l
 have hI:=specIsIsomorphism_g (sumL l).1 r f
 have hD:=fun k=>specIsIndecomposable_a (l.getD k default)
 unfold decP
 generalize sumL l=S at hS hI⊢
 obtain⟨S1,S2⟩:=S
 dsimp only at hS hI⊢
 generalize isoB S1 r f=x at hI⊢
 cases S2 with
 |false=>
  repeat' first|refine s1 ?_|(refine kR ?_;first|refine F.c (hS) ?_)|fail
  (refine kZ ?_;exact F.ret rfl)
 |true=>
  cases x with
  |false=>
   repeat' first|refine s1 ?_|(refine kR ?_;first|refine F.c (hS) ?_|refine F.c (hI) ?_)|fail
   (refine kZ ?_;exact F.ret rfl)
  |true=>
   repeat' first|refine s1 ?_|(refine kR ?_;first|refine F.c (hS) ?_|refine F.c (hI) ?_)|fail
   refine F.loop (σ:=Nat) [6,9,24,25,26,27,28,29,30,31,32,33,34,35] (fun k=>[(9,.i k)]) (fun _=>[]) (fun k=>k≤l.length∧∀j,j<k→indN (l.getD j default)=false) (fun k=>l.length-k) 0 ⟨rfl,trivial⟩ trivial ⟨Nat.zero_le _,fun j hj=>absurd hj (Nat.not_lt_zero _)⟩ ?_
   rintro k ⟨k1,k2⟩
   by_cases hk:k<l.length
   ·have hDk:=hD k
    have hN:indN (l.getD k default)=decide (indI (l.getD k default)≠1):=rfl
    cases hx:indN (l.getD k default) with
    |true=>
     have hn:l.any indN=true:=List.any_eq_true.2 ⟨_,gm hk,hx⟩
     rw[hx] at hN
     have hne:indI (l.getD k default)≠1:=by simpa using hN.symm
     rw[hn]
     generalize indI (l.getD k default)=z at hDk hne
     repeat' first|refine s1 ?_|(refine kR ?_;first|refine F.c (hDk) ?_)|fail
     (refine kZ ?_;exact F.ret rfl)
    |false=>
     rw[hx] at hN
     have he:indI (l.getD k default)=1:=by simpa using hN.symm
     rw[he] at hDk
     repeat' first|refine s1 ?_|(refine kR ?_;first|refine F.c (hDk) ?_)|fail
     exact⟨k+1,F.fit ⟨rfl,trivial⟩ trivial,⟨by omega,fun j hj=>by rcases Nat.lt_succ_iff_lt_or_eq.1 hj with h|h;exact k2 j h;rw[h];exact hx⟩,by omega⟩
   ·obtain rfl:k=l.length:=by omega
    have hn:l.any indN=false:=by
     rw[List.any_eq_false]
     intro x hx
     obtain⟨i,hi,e⟩:=List.getElem_of_mem hx
     have:=k2 i hi
     simp[hi,e] at this
     simp[this]
    rw[hn]
    repeat' first|refine s1 ?_|fail
    (refine kZ ?_;exact F.ret rfl)
end Go.Proofs.YtjmjamhhppoimaaGreat.V
namespace Go.Proofs.YtjmjamhhppoimaaGreat.V
open Go
set_option linter.unusedVariables false
def leads(P:Program)(g:FuncId):List FuncId:=(P.funcs[g]?).elim [] P.leadsTo
def Closed(P:Program)(T:List FuncId):Prop:=∀g∈T,∀h∈leads P g,h∈T
theorem recurses_at{P:Program}{f:FuncId}(g h:FuncId)(hg:(P.closure f).contains g=true)(hh:(leads P g).contains h=true)(hc:(P.closure h).contains g=true):P.recurses f=true:=by
 unfold Program.recurses
 rw[Bool.or_eq_true]
 refine .inr (List.any_eq_true.2 ⟨g,List.contains_iff_mem.1 hg,List.any_eq_true.2 ⟨h,?_,hc⟩⟩)
 exact List.contains_iff_mem.1 hh
end Go.Proofs.YtjmjamhhppoimaaGreat.V
