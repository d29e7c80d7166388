/- Texts that the proof needs: A212, A115, A116. -/
import Derived.Test.YtjmjamhhppoimaaGreatQspA108
namespace Go.Proofs.YtjmjamhhppoimaaGreat.V
open V.Enc (enc)
open Go.RowKit G D
set_option linter.unusedVariables false
set_option linter.unusedSimpArgs false
set_option maxHeartbeats 4000000
set_option maxRecDepth 4000
attribute [local irreducible] AW ARg ARA ARet MRet ASil AC AM AMx ACx AD ARI
theorem findMorphism_x(a b:Rep):AMx Tryz.prog 275 [.agg (enc false a),.agg (enc false b)] [] (fun _:List Mat×Bool=>True) (fun x=>[.dt false 3 (E false x.1),.b x.2]) (fun _=>[]):=by
 refine AMx.go Tryz.func275 Tryz.ntmps275 rfl rfl fun w0 mp hw=>?_;simp[WfL,WfA,E_length,Enc.enc,In64] at hw
 have hH:=specHomBasis_a a b
 generalize homP a b=L at hH
 obtain⟨L,c⟩:=L
 dsimp only at hH
 repeat' first|refine AW.freezeA (α:=List Mat) (oo:=true) (ls:=L) 6 rfl rfl rfl ?_|refine s1 ?_|(refine kR ?_;first|refine F.c (hH) ?_)|fail
 cases c with
 |false=>
  repeat' first|(refine AW.open 4 3 (.inr rfl) ?_;refine AW.freezeA (α:=Mat) (oo:=true) (ls:=[]) 4 rfl rfl rfl ?_)|refine s1 ?_|fail
  exact F.rx ([],false) trivial (F.retM rfl trivial)
 |true=>
  by_cases h0:(L.length:Int)=0
  ·repeat' first|(refine AW.open 4 3 (.inr rfl) ?_;refine AW.freezeA (α:=Mat) (oo:=true) (ls:=[]) 4 rfl rfl rfl ?_)|refine s1 ?_|fail
   exact F.rx ([],false) trivial (F.retM rfl trivial)
  ·repeat' first|refine s1 ?_|fail
   exact F.rx (L.getD 0 default,true) trivial (F.retM rfl trivial)
theorem morphismNumber_x(a b:Rep)(n:Int)(hn:n≤1000):AMx Tryz.prog 270 [.agg (enc false a),.agg (enc false b),.i n] [] (fun _:List Mat×Bool=>True) (fun x=>[.dt true 3 (E true x.1),.b x.2]) (fun _=>[]):=by
 refine AMx.go Tryz.func270 Tryz.ntmps270 rfl rfl fun w0 mp hw=>?_;simp[WfL,WfA,E_length,Enc.enc,In64] at hw
 have hC:=specCountMorphisms_a a b
 have hcf:0<cntM a b→fitR a b=true:=fun h=>by
  unfold cntM at h
  by_cases hf:fitR a b=true
  ·exact hf
  ·rw[if_neg hf] at h
   omega
 generalize cntM a b=cc at hC hcf
 by_cases h0:n<0
 ·repeat' first|refine s1 ?_|(refine kR ?_;first|refine F.c (hC) ?_)|fail
  exact F.rx ([],false) trivial (F.retM rfl trivial)
 ·by_cases h1:cc≤n
  ·repeat' first|refine s1 ?_|(refine kR ?_;first|refine F.c (hC) ?_)|fail
   exact F.rx ([],false) trivial (F.retM rfl trivial)
  ·have hf:=hcf (by omega)
   have hH:=specHomBasis_a a b
   have hN:=l11Number_a a b n hf (by omega)
   have e:homP a b=(homL a b,true):=by unfold homP;rw[if_pos hf]
   rw[e] at hH
   generalize homL a b=L at hH hN
   repeat' first|refine AW.freezeA (α:=List Mat) (oo:=true) (ls:=L) 9 rfl rfl rfl ?_|refine s1 ?_|(refine kR ?_;first|refine F.c (hC) ?_|refine F.c (hH) ?_|refine F.c (hN) ?_)|fail
   exact F.rx (numL a b n,true) trivial (F.retM rfl trivial)
theorem drawFindSplit_x(b:List UInt8)(hl:b.length≤1048576):AMx Tryz.prog 105 [ar false b] [] (fun _:Rep=>True) (fun x=>[.agg (enc false x)]) (fun _=>[]):=by
 refine AMx.go Tryz.func105 Tryz.ntmps105 rfl rfl fun w0 mp hw=>?_;simp[WfL,WfA,E_length,Enc.enc,In64] at hw
 have hN:=l1New_p b hl
 have hA:=l16Rep_x b hl
 have hi0:okI b 0:=⟨Int.le_refl _,by omega⟩
 repeat' first|refine s1 ?_|(refine kR ?_;first|refine F.p (hN) ?_|(refine F.dr 1 (hA) (by assumption) ?_;intro r i1 k1 hr hi1;refine F.xk ?_))|fail
 exact F.rx r trivial (F.retM rfl trivial)
abbrev morV(x:Rep×List Mat):List AV:=[.agg (enc false x.1),.dt false 3 (E false x.2)]
abbrev decV(x:Rep×List Rep×List Mat):List AV:=[.agg (enc false x.1),.dt false 6 (E false x.2.1),.dt false 3 (E false x.2.2)]
theorem drawSplitBy_x(b:List UInt8)(hl:b.length≤1048576):AMx Tryz.prog 114 [ar false b] [] (fun _:Rep×List Mat=>True) morV (fun _=>[]):=by
 refine AMx.go Tryz.func114 Tryz.ntmps114 rfl rfl fun w0 mp hw=>?_;simp[WfL,WfA,E_length,Enc.enc,In64] at hw
 have hN:=l1New_p b hl
 have hA:=l16Rep_x b hl
 have hB:=fun n=>l1Below_x b hl n
 have hM:=fun r n hn=>morphismNumber_x r r n hn
 have hi0:okI b 0:=⟨Int.le_refl _,by omega⟩
 repeat' first|refine AW.freezeP (α:=Rep) (oo:=false) r 5 rfl rfl ?_|refine s1 ?_|(refine kR ?_;first|refine F.p (hN) ?_|(refine F.dr 1 (hA) (by assumption) ?_;intro r i1 k1 hr hi1;refine F.xk ?_))|fail
 have hId:=identityMor_a r hr
 refine AW.drawI G.mixed (by kernel_rfl) (by rfl) ?_
 intro T w1 MP1 I0
 refine Pz (.l 0<|.l 1<|.p 2<|.o 3 false<|.o 4 false<|.p 5<|.p 6<|.h 6<|.p 7<|.p 8<|.p 9<|.n) ?_
 repeat' first|(refine yU (i:=3) ?_;first|refine s1 ?_|(refine F.dr 1 ((hB 12)) (by assumption) ?_;intro v i2 k2 hv hi2;refine F.xk ?_))|(refine yU (i:=4) ?_;first|refine s1 ?_|(refine F.x [] ((hM r v (by have:=hv.1 (by omega);omega))) ?_;rintro⟨f,c⟩ hf;refine F.xk ?_))|(refine yH (i:=6) ?_ (fun h=>(iz (α:=Mat) (oo:=true) (ls:=f) 20 rfl rfl rfl h)))|refine xS ?_|refine s1 ?_|fail
 any_goals refine lf ?_
 all_goals
  cases c with
  |true=>
   repeat' first|refine s1 ?_|fail
   exact F.rx (r,f) trivial (F.retM rfl trivial)
  |false=>
   generalize idL r.d=IL at hId
   repeat' first|refine AW.freezeA (α:=Mat) (oo:=true) (ls:=IL) 8 rfl rfl rfl ?_|refine s1 ?_|(refine kR ?_;first|refine F.c (hId) ?_)|fail
   exact F.rx (r,IL) trivial (F.retM rfl trivial)
theorem l16Two_x(b:List UInt8)(hl:b.length≤1048576):AMx Tryz.prog 274 [ar false b] [] (fun _:Rep×List Spc×List Spc=>True) subW (fun _=>[]):=by
 refine AMx.go Tryz.func274 Tryz.ntmps274 rfl rfl fun w0 mp hw=>?_;simp[WfL,WfA,E_length,Enc.enc,In64] at hw
 have hN:=l1New_p b hl
 have hA:=l16Rep_x b hl
 have hO:=fun n=>l1Once_x b hl n
 have hi0:okI b 0:=⟨Int.le_refl _,by omega⟩
 repeat' first|refine AW.freezeP (α:=Rep) (oo:=false) r 6 rfl rfl ?_|refine s1 ?_|(refine kR ?_;first|refine F.p (hN) ?_|(refine F.dr 1 (hA) (by assumption) ?_;intro r i1 k1 hr hi1;refine F.xk ?_))|fail
 have hF:=specFindSplit_a r
 have hU:=l12Sub_x b hl r (.inl hr)
 generalize fssP r=FP at hF
 obtain⟨s,t,c⟩:=FP
 dsimp only at hF
 repeat' first|refine AW.freezeA (α:=Spc) (oo:=true) (ls:=s) 7 rfl rfl rfl ?_|refine AW.freezeA (α:=Spc) (oo:=true) (ls:=t) 8 rfl rfl rfl ?_|(refine AW.only [(2,.pt 0 1 0 0),(3,.nl),(4,.nl),(5,.pt 1 1 0 0),(6,.ip (enc false r)),(7,.dt false 2 (E false s)),(8,.dt false 2 (E false t)),(9,.b c),(19,.b c)] [(0,.live false 6 cellR),(1,.live false 3 (curO b i1 k1))] _ ⟨rfl,rfl,rfl,rfl,rfl,rfl,rfl,rfl,rfl,trivial⟩ ⟨rfl,rfl,trivial⟩ rfl ?_;refine AW.only [(2,.pt 0 1 0 0),(3,.nl),(4,.nl),(5,.pt 1 1 0 0),(6,.ip (enc false r)),(7,.dt false 2 (E false s)),(8,.dt false 2 (E false t)),(9,.b c)] [(0,.live false 6 cellR),(1,.live false 3 (curO b i1 k1))] _ ⟨rfl,rfl,rfl,rfl,rfl,rfl,rfl,rfl,trivial⟩ ⟨rfl,rfl,trivial⟩ rfl ?_)|refine s1 ?_|(refine kR ?_;first|refine F.c (hF) ?_)|fail
 apply V.tailedC (b:=b)
 ·intro tail
  cases hc:c with
  |false=>
   repeat' first|(refine AW.only [(2,.pt 0 1 0 0),(3,.nl),(4,.nl),(5,.pt 1 1 0 0),(6,.ip (enc false r)),(21,.b false),(25,.b false)] [(0,.live false 6 cellR),(1,.live false 3 (curO b i1 k1))] _ ⟨rfl,rfl,rfl,rfl,rfl,rfl,rfl,trivial⟩ ⟨rfl,rfl,trivial⟩ rfl ?_;refine AW.only [(2,.pt 0 1 0 0),(3,.nl),(4,.nl),(5,.pt 1 1 0 0),(6,.ip (enc false r)),(25,.b false)] [(0,.live false 6 cellR),(1,.live false 3 (curO b i1 k1))] _ ⟨rfl,rfl,rfl,rfl,rfl,rfl,trivial⟩ ⟨rfl,rfl,trivial⟩ rfl ?_)|refine s1 ?_|fail
   have hi3:=hi1;generalize i1=i3 at hi3⊢;generalize k1=h3;exact(tail i3 h3 hi3).t
  |true=>
   repeat' first|refine s1 ?_|(refine kR ?_;first|(refine F.dr 1 ((hO _)) (by assumption) ?_;intro c4 i4 k4 hc4 hi4;refine F.xk ?_))|fail
   cases c4 with
   |true=>
    refine AW.only [(2,.pt 0 1 0 0),(3,.nl),(4,.nl),(5,.pt 1 1 0 0),(6,.ip (enc false r)),(25,.b false)] [(0,.live false 6 cellR),(1,.live false 3 (curO b i4 k4))] _ ⟨rfl,rfl,rfl,rfl,rfl,rfl,trivial⟩ ⟨rfl,rfl,trivial⟩ rfl ?_
    repeat' first|refine s1 ?_|fail
    exact(tail i4 k4 hi4).t
   |false=>
    repeat' first|refine s1 ?_|fail
    exact F.rx (r,s,t) trivial (F.retM rfl trivial)
 ·intro i5 h5 hi5
  repeat' first|refine s1 ?_|(refine kR ?_;first|(refine F.dr 1 (hU) (by assumption) ?_;intro s2 i6 k6 hs2 hi6;refine F.xk ?_))|fail
  refine AW.drawI G.mixed (by kernel_rfl) (by rfl) ?_
  intro T w1 MP1 I0
  refine Pz (.l 0<|.p 1<|.p 2<|.l 3<|.o 4 false<|.o 5 false<|.p 6<|.p 7<|.n) ?_
  repeat' first|(refine yU (i:=4) ?_;first|refine s1 ?_|(refine F.dr 1 (hU) (by assumption) ?_;intro t2 i7 k7 ht2 hi7;refine F.xk ?_))|refine xS ?_|refine s1 ?_|fail
  any_goals refine lf ?_
  all_goals
   repeat' first|refine s1 ?_|fail
   exact F.rx (r,s2,t2) trivial (F.retM rfl trivial)
theorem drawIsComplementPair_x(b:List UInt8)(hl:b.length≤1048576):AMx Tryz.prog 117 [ar false b] [] (fun _:Rep×List Spc×List Spc=>True) subW (fun _=>[]):=by
 refine AMx.go Tryz.func117 Tryz.ntmps117 rfl rfl fun w0 mp hw=>?_;simp[WfL,WfA,E_length,Enc.enc,In64] at hw
 have hB:=l16Two_x b hl
 repeat' first|refine s1 ?_|(refine kR ?_;first|(refine F.x [] (hB) ?_;rintro⟨r,s,t⟩ hs;refine F.xk ?_))|fail
 exact F.rx (r,s,t) trivial (F.retM rfl trivial)
theorem drawIdempotentOf_x(b:List UInt8)(hl:b.length≤1048576):AMx Tryz.prog 119 [ar false b] [] (fun _:Rep×List Spc×List Spc=>True) subW (fun _=>[]):=by
 refine AMx.go Tryz.func119 Tryz.ntmps119 rfl rfl fun w0 mp hw=>?_;simp[WfL,WfA,E_length,Enc.enc,In64] at hw
 have hB:=l16Two_x b hl
 repeat' first|refine s1 ?_|(refine kR ?_;first|(refine F.x [] (hB) ?_;rintro⟨r,s,t⟩ hs;refine F.xk ?_))|fail
 exact F.rx (r,s,t) trivial (F.retM rfl trivial)
theorem drawIsIdempotent_x(b:List UInt8)(hl:b.length≤1048576):AMx Tryz.prog 118 [ar false b] [] (fun _:Rep×List Mat=>True) morV (fun _=>[]):=by
 refine AMx.go Tryz.func118 Tryz.ntmps118 rfl rfl fun w0 mp hw=>?_;simp[WfL,WfA,E_length,Enc.enc,In64] at hw
 have hB:=l16Two_x b hl
 repeat' first|refine AW.freezeP (α:=Rep) (oo:=false) r 4 rfl rfl ?_|refine s1 ?_|(refine kR ?_;first|(refine F.x [] (hB) ?_;rintro⟨r,s,t⟩ hs;refine F.xk ?_))|fail
 have hI:=specIdempotentOf_a r s t
 have hF:=findMorphism_x r r
 generalize idmP r s t=IP at hI
 obtain⟨f,c⟩:=IP
 dsimp only at hI
 cases c with
 |false=>
  repeat' first|refine AW.freezeA (α:=Mat) (oo:=true) (ls:=f) 7 rfl rfl rfl ?_|refine s1 ?_|(refine kR ?_;first|refine F.c (hI) ?_|(refine F.x [] (hF) ?_;rintro⟨g,c2⟩ hg;refine F.xk ?_))|fail
  exact F.rx (r,g) trivial (F.retM rfl trivial)
 |true=>
  by_cases hp:0<(b.length:Int)%3
  ·repeat' first|refine AW.freezeA (α:=Mat) (oo:=true) (ls:=f) 7 rfl rfl rfl ?_|refine s1 ?_|(refine kR ?_;first|refine F.c (hI) ?_)|fail
   exact F.rx (r,f) trivial (F.retM rfl trivial)
  ·repeat' first|refine AW.freezeA (α:=Mat) (oo:=true) (ls:=f) 7 rfl rfl rfl ?_|refine s1 ?_|(refine kR ?_;first|refine F.c (hI) ?_|(refine F.x [] (hF) ?_;rintro⟨g,c2⟩ hg;refine F.xk ?_))|fail
   exact F.rx (r,g) trivial (F.retM rfl trivial)
theorem drawIsDecomposition_x(b:List UInt8)(hl:b.length≤1048576):AMx Tryz.prog 121 [ar false b] [] (fun _:Rep×List Rep×List Mat=>True) decV (fun _=>[]):=by
 refine AMx.go Tryz.func121 Tryz.ntmps121 rfl rfl fun w0 mp hw=>?_;simp[WfL,WfA,E_length,Enc.enc,In64] at hw
 have hN:=l1New_p b hl
 have hA:=l16Rep_x b hl
 have hO:=fun n=>l1Once_x b hl n
 have hi0:okI b 0:=⟨Int.le_refl _,by omega⟩
 repeat' first|refine AW.freezeP (α:=Rep) (oo:=false) r 6 rfl rfl ?_|refine s1 ?_|(refine kR ?_;first|refine F.p (hN) ?_|(refine F.dr 1 (hA) (by assumption) ?_;intro r i1 k1 hr hi1;refine F.xk ?_))|fail
 have hPm:=specPartsOf_m r
 have hpp:=@psP_pos r
 have hId:=identityMor_a r hr
 generalize psP r=PP at hPm hpp
 obtain⟨l,f,c⟩:=PP
 dsimp only at hPm hpp
 cases c with
 |true=>
  have hp:=(hpp rfl).1
  repeat' first|refine AW.freezeA (α:=Rep) (oo:=false) (ls:=l) 7 rfl rfl rfl ?_|refine AW.freezeA (α:=Mat) (oo:=true) (ls:=f) 8 rfl rfl rfl ?_|refine s1 ?_|(refine kR ?_;first|refine F.w (hPm) ?_|(refine F.dr 1 ((hO _)) (by assumption) ?_;intro c4 i4 k4 hc4 hi4;refine F.xk ?_))|fail
  cases c4 with
  |true=>
   repeat' first|refine s1 ?_|fail
   refine AW.drawI G.mixed (by kernel_rfl) (by rfl) ?_
   intro T w1 MP1 I0
   refine Pz (.l 0<|.p 1<|.p 2<|.p 3<|.o 4 false<|.p 5<|.p 6<|.n) ?_
   repeat' first|refine xP (i:=2) ?_ (hs:=by exact(A.slcD1 rfl rfl (by rw[E_length];exact hp)))|refine xS ?_|refine s1 ?_|fail
   any_goals refine lf ?_
   all_goals
    repeat' first|refine s1 ?_|fail
    refine F.rx (r,l.drop 1,f) trivial ?_
    show MRet _ _ _ [_,.dt false 6 (E false (l.drop 1)),_] _ _ _
    rw[E_drop]
    exact F.retM rfl trivial
  |false=>
   repeat' first|refine s1 ?_|fail
   exact F.rx (r,l,f) trivial (F.retM rfl trivial)
 |false=>
  generalize idL r.d=IL at hId
  repeat' first|refine AW.freezeA (α:=Rep) (oo:=false) (ls:=l) 7 rfl rfl rfl ?_|refine AW.freezeA (α:=Mat) (oo:=true) (ls:=f) 8 rfl rfl rfl ?_|refine AW.freezeA (α:=Mat) (oo:=true) (ls:=IL) 10 rfl rfl rfl ?_|refine s1 ?_|(refine kR ?_;first|refine F.w (hPm) ?_|refine F.c (hId) ?_)|fail
  refine AW.drawI G.mixed (by kernel_rfl) (by rfl) ?_
  intro T w1 MP1 I0
  refine Pz (.l 0<|.l 1<|.p 3<|.a [(2,false,.o 4 false<|.p 5<|.p 6<|.n),(4,false,.o 2 false<|.p 5<|.p 6<|.n)]) ?_
  repeat' first|refine xS ?_|refine s1 ?_|refine xC ?_ ?_|exact trivial|fail
  any_goals refine lf ?_
  all_goals
   refine AW.freezeA (α:=Rep) (oo:=false) (ls:=[r]) 3 rfl rfl rfl ?_
   repeat' first|refine s1 ?_|fail
   exact F.rx (r,[r],IL) trivial (F.retM rfl trivial)
end Go.Proofs.YtjmjamhhppoimaaGreat.V
namespace Go.Proofs.YtjmjamhhppoimaaGreat.V
open V.Enc (enc)
open Go.RowKit G D
set_option linter.unusedVariables false
set_option linter.unusedSimpArgs false
set_option maxHeartbeats 4000000
set_option maxRecDepth 4000
attribute [local irreducible] AW ARg ARA ARet MRet ASil AC AM ARI
def sumK(l:List Rep):Nat→Rep
 |0=>l.getD 0 default
 |k+1=>(sumP (sumK l k) (l.getD (k+1) default)).1
def sumB(l:List Rep)(k:Nat):Bool:=(sumP (sumK l k) (l.getD (k+1) default)).2
def sumOk(l:List Rep):Bool:=decide (1≤(l.length:Int)∧(l.length:Int)≤8)&&(isRep (l.getD 0 default)&&(List.range (l.length-1)).all (sumB l))
def sumL(l:List Rep):Rep×Bool:=if sumOk l=true then(sumK l (l.length-1),true) else(noR,false)
theorem sumL_len{l:List Rep}(h:¬(1≤(l.length:Int)∧(l.length:Int)≤8)):sumL l=(noR,false):=by
 unfold sumL sumOk
 rw[decide_eq_false h,Bool.false_and,if_neg (by simp)]
theorem sumL_rep{l:List Rep}(h:isRep (l.getD 0 default)=false):sumL l=(noR,false):=by
 unfold sumL sumOk
 rw[h,Bool.false_and,Bool.and_false,if_neg (by simp)]
theorem sumL_no{l:List Rep}{k:Nat}(hk:k<l.length-1)(h:sumB l k=false):sumL l=(noR,false):=by
 unfold sumL sumOk
 have:(List.range (l.length-1)).all (sumB l)=false:=by
  rw[List.all_eq_false]
  exact⟨k,by simpa using hk,by simp[h]⟩
 rw[this,Bool.and_false,Bool.and_false,if_neg (by simp)]
theorem sumL_yes{l:List Rep}(h1:1≤(l.length:Int)∧(l.length:Int)≤8)(h2:isRep (l.getD 0 default)=true)(h3:∀k,k<l.length-1→sumB l k=true):sumL l=(sumK l (l.length-1),true):=by
 unfold sumL sumOk
 have:(List.range (l.length-1)).all (sumB l)=true:=by
  rw[List.all_eq_true]
  exact fun k hk=>h3 k (by simpa using hk)
 rw[this,h2,decide_eq_true h1]
 rfl
theorem implSumOf_a(l:List Rep):AC Tryz.prog 278 [ar false l] [.agg (enc true (sumL l).1),.b (sumL l).2]:=by
 refine AC.go Tryz.func278 Tryz.ntmps278 rfl rfl fun w0 hw=>?_;simp[WfL,WfA,E_length,Enc.enc,In64] at hw
 have hW:=within_a (l.length:Int) 1 8
 have hR:=implIsRep_a (l.getD 0 default)
 by_cases h1:1≤(l.length:Int)∧(l.length:Int)≤8
 ·rw[decide_eq_true h1] at hW
  cases h2:isRep (l.getD 0 default) with
  |false=>
   rw[h2] at hR
   rw[sumL_rep h2]
   repeat' first|refine s1 ?_|(refine kR ?_;first|refine F.c (hW) ?_|refine F.c (hR) ?_)|fail
   (refine kZ ?_;exact F.ret rfl)
  |true=>
   rw[h2] at hR
   have hC:=repClone_a (l.getD 0 default) h2
   have hD:=fun k=>implDirectSum_a (sumK l k) (l.getD (k+1) default)
   have hno:=fun k (hk:k<l.length-1) (hb:sumB l k=false)=>sumL_no hk hb
   have hyes:=fun h3=>sumL_yes h1 h2 h3
   rw[show l.getD 0 default=sumK l 0 from rfl] at hC
   have hstep:∀k,(sumP (sumK l k) (l.getD (k+1) default))=(sumK l (k+1),sumB l k):=fun k=>rfl
   repeat' first|refine s1 ?_|(refine kR ?_;first|refine F.c (hW) ?_|refine F.c (hR) ?_|refine F.c (hC) ?_|refine F.sil (A.slcD (α:=Rep) (lo:=1) rfl rfl rfl (by omega) (by omega)) rfl rfl ?_)|fail
   refine AW.putV 4 2 rfl rfl rfl rfl (E_length _ _) (E_pure _ _) rfl ?_
   refine AW.putV 4 3 rfl rfl rfl rfl (E_length _ _) (E_pure _ _) rfl ?_
   refine AW.putV 4 4 rfl rfl rfl rfl (E_length _ _) (E_pure _ _) rfl ?_
   refine AW.putV 4 5 rfl rfl rfl rfl (E_length _ _) (E_pure _ _) rfl ?_
   have hdt:(l.take l.length).drop 1=l.drop 1:=by rw[List.take_length]
   have hdl:(l.drop 1).length=l.length-1:=List.length_drop
   have hel:∀k,(l.drop 1).getD k default=l.getD (k+1) default:=fun k=>by simp[Nat.add_comm]
   rw[hdt]
   generalize l.drop 1=TL at hdl hel⊢
   refine F.loop (σ:=Nat) [3,5,7,27,28,29,30,31,32,33,34,35,36,37,38,39,40] (fun k=>[(5,.b true),(27,.i k)]) (fun k=>[(5,.live false 6 (E true [sumK l k]))]) (fun k=>k≤l.length-1∧∀j,j<k→sumB l j=true) (fun k=>l.length-1-k) 0 ⟨rfl,rfl,trivial⟩ ⟨rfl,trivial⟩ ⟨Nat.zero_le _,fun j hj=>absurd hj (Nat.not_lt_zero _)⟩ ?_
   rintro k ⟨k1,k2⟩
   have hDk:=hD k
   rw[hstep] at hDk
   rw[←hel k] at hDk
   by_cases hk:k<l.length-1
   ·cases hb:sumB l k with
    |false=>
     rw[hb] at hDk
     rw[hno k hk hb]
     refine AW.takeV 5 2 rfl rfl (E_length _ _) rfl ?_
     refine AW.takeV 5 3 rfl rfl (E_length _ _) rfl ?_
     refine AW.takeV 5 4 rfl rfl (E_length _ _) rfl ?_
     refine AW.takeV 5 5 rfl rfl (E_length _ _) rfl ?_
     generalize sumK l (k+1)=Y at hDk
     repeat' first|refine s1 ?_|(refine kR ?_;first|refine F.c (hDk) ?_)|fail
     (refine kZ ?_;exact F.ret rfl)
    |true=>
     rw[hb] at hDk
     refine AW.takeV 5 2 rfl rfl (E_length _ _) rfl ?_
     refine AW.takeV 5 3 rfl rfl (E_length _ _) rfl ?_
     refine AW.takeV 5 4 rfl rfl (E_length _ _) rfl ?_
     refine AW.takeV 5 5 rfl rfl (E_length _ _) rfl ?_
     generalize hY:sumK l (k+1)=Y at hDk
     repeat' first|refine AW.putV (o2:=11) 4 2 rfl rfl rfl rfl (E_length _ _) (E_pure _ _) rfl ?_|refine AW.putV (o2:=12) 4 3 rfl rfl rfl rfl (E_length _ _) (E_pure _ _) rfl ?_|refine AW.putV (o2:=13) 4 4 rfl rfl rfl rfl (E_length _ _) (E_pure _ _) rfl ?_|refine AW.putV (o2:=14) 4 5 rfl rfl rfl rfl (E_length _ _) (E_pure _ _) rfl ?_|refine s1 ?_|(refine kR ?_;first|refine F.c (hDk) ?_)|fail
     exact⟨k+1,F.fit ⟨rfl,rfl,trivial⟩ ⟨obE (by rw[hY];rfl),trivial⟩,⟨by omega,fun j hj=>by rcases Nat.lt_succ_iff_lt_or_eq.1 hj with h|h;exact k2 j h;rw[h];exact hb⟩,by omega⟩
   ·obtain rfl:k=l.length-1:=by omega
    rw[hyes k2]
    refine AW.takeV 5 2 rfl rfl (E_length _ _) rfl ?_
    refine AW.takeV 5 3 rfl rfl (E_length _ _) rfl ?_
    refine AW.takeV 5 4 rfl rfl (E_length _ _) rfl ?_
    refine AW.takeV 5 5 rfl rfl (E_length _ _) rfl ?_
    repeat' first|refine s1 ?_|fail
    (refine kZ ?_;exact F.ret rfl)
 ·rw[decide_eq_false h1] at hW
  rw[sumL_len h1]
  repeat' first|refine s1 ?_|(refine kR ?_;first|refine F.c (hW) ?_)|fail
  (refine kZ ?_;exact F.ret rfl)
theorem specSumOf_a(l:List Rep):AC Tryz.prog 281 [ar false l] [.agg (enc true (sumL l).1),.b (sumL l).2]:=by
 refine AC.go Tryz.func281 Tryz.ntmps281 rfl rfl fun w0 hw=>?_;simp[WfL,WfA,E_length,Enc.enc,In64] at hw
 have hW:=l1In_a (l.length:Int) 1 8
 have hR:=specIsRep_a (l.getD 0 default)
 by_cases h1:1≤(l.length:Int)∧(l.length:Int)≤8
 ·rw[decide_eq_true h1] at hW
  cases h2:isRep (l.getD 0 default) with
  |false=>
   rw[h2] at hR
   rw[sumL_rep h2]
   repeat' first|refine s1 ?_|(refine kR ?_;first|refine F.c (hW) ?_|refine F.c (hR) ?_)|fail
   (refine kZ ?_;exact F.ret rfl)
  |true=>
   rw[h2] at hR
   have hC:=l8Copy_a (l.getD 0 default) h2
   have hD:=fun k=>specDirectSum_a (sumK l k) (l.getD (k+1) default)
   have hno:=fun k (hk:k<l.length-1) (hb:sumB l k=false)=>sumL_no hk hb
   have hyes:=fun h3=>sumL_yes h1 h2 h3
   rw[show l.getD 0 default=sumK l 0 from rfl] at hC
   have hstep:∀k,(sumP (sumK l k) (l.getD (k+1) default))=(sumK l (k+1),sumB l k):=fun k=>rfl
   repeat' first|refine s1 ?_|(refine kR ?_;first|refine F.c (hW) ?_|refine F.c (hR) ?_|refine F.c (hC) ?_)|fail
   refine AW.putV 4 2 rfl rfl rfl rfl (E_length _ _) (E_pure _ _) rfl ?_
   refine AW.putV 4 3 rfl rfl rfl rfl (E_length _ _) (E_pure _ _) rfl ?_
   refine AW.putV 4 4 rfl rfl rfl rfl (E_length _ _) (E_pure _ _) rfl ?_
   refine AW.putV 4 5 rfl rfl rfl rfl (E_length _ _) (E_pure _ _) rfl ?_
   refine F.loop (σ:=Nat) [3,5,6,7,24,25,26,27,28,29,30,31,32,33,34,35,36,37,38,39,40,41,42] (fun k=>[(5,.i ((k+1:Nat):Int))]) (fun k=>[(5,.live false 6 (E true [sumK l k]))]) (fun k=>k≤l.length-1∧∀j,j<k→sumB l j=true) (fun k=>l.length-1-k) 0 ⟨rfl,trivial⟩ ⟨rfl,trivial⟩ ⟨Nat.zero_le _,fun j hj=>absurd hj (Nat.not_lt_zero _)⟩ ?_
   rintro k ⟨k1,k2⟩
   have hDk:=hD k
   rw[hstep] at hDk
   by_cases hk:k<l.length-1
   ·cases hb:sumB l k with
    |false=>
     rw[hb] at hDk
     rw[hno k hk hb]
     refine AW.takeV 5 2 rfl rfl (E_length _ _) rfl ?_
     refine AW.takeV 5 3 rfl rfl (E_length _ _) rfl ?_
     refine AW.takeV 5 4 rfl rfl (E_length _ _) rfl ?_
     refine AW.takeV 5 5 rfl rfl (E_length _ _) rfl ?_
     generalize sumK l (k+1)=Y at hDk
     repeat' first|refine s1 ?_|fail
     refine AW.draw 10 G.mixed (by kernel_rfl) ?_
     refine Pz (.l 0<|.p 1<|.p 2<|.p 3<|.l 4<|.a [(5,true,.p 6<|.p 7<|.p 8<|.o 9 true<|.o 10 false<|.p 11<|.n),(9,true,.o 5 true<|.p 6<|.p 7<|.p 8<|.o 10 false<|.p 11<|.n)]) ?_
     repeat' first|refine yS ?_|refine s1 ?_|refine yC ?_ ?_|exact trivial|(refine kR ?_;first|refine F.c (hDk) ?_)|fail
     any_goals refine lf ?_
     all_goals
      repeat' first|refine s1 ?_|fail
      (refine kZ ?_;exact F.ret rfl)
    |true=>
     rw[hb] at hDk
     refine AW.takeV 5 2 rfl rfl (E_length _ _) rfl ?_
     refine AW.takeV 5 3 rfl rfl (E_length _ _) rfl ?_
     refine AW.takeV 5 4 rfl rfl (E_length _ _) rfl ?_
     refine AW.takeV 5 5 rfl rfl (E_length _ _) rfl ?_
     generalize hY:sumK l (k+1)=Y at hDk
     repeat' first|refine s1 ?_|fail
     refine AW.draw 10 G.mixed (by kernel_rfl) ?_
     refine Pz (.l 0<|.p 1<|.p 2<|.p 3<|.l 4<|.a [(5,true,.p 6<|.p 7<|.p 8<|.o 9 true<|.o 10 false<|.p 11<|.n),(9,true,.o 5 true<|.p 6<|.p 7<|.p 8<|.o 10 false<|.p 11<|.n)]) ?_
     repeat' first|refine yS ?_|refine s1 ?_|refine yC ?_ ?_|exact trivial|(refine kR ?_;first|refine F.c (hDk) ?_)|fail
     any_goals refine lf ?_
     all_goals
      repeat' first|refine AW.putV (o2:=11) 4 2 rfl rfl rfl rfl (E_length _ _) (E_pure _ _) rfl ?_|refine AW.putV (o2:=12) 4 3 rfl rfl rfl rfl (E_length _ _) (E_pure _ _) rfl ?_|refine AW.putV (o2:=13) 4 4 rfl rfl rfl rfl (E_length _ _) (E_pure _ _) rfl ?_|refine AW.putV (o2:=14) 4 5 rfl rfl rfl rfl (E_length _ _) (E_pure _ _) rfl ?_|refine AW.putV (o2:=10) 4 2 rfl rfl rfl rfl (E_length _ _) (E_pure _ _) rfl ?_|refine AW.putV (o2:=11) 4 3 rfl rfl rfl rfl (E_length _ _) (E_pure _ _) rfl ?_|refine AW.putV (o2:=12) 4 4 rfl rfl rfl rfl (E_length _ _) (E_pure _ _) rfl ?_|refine AW.putV (o2:=13) 4 5 rfl rfl rfl rfl (E_length _ _) (E_pure _ _) rfl ?_|refine s1 ?_|fail
      exact⟨k+1,F.fit ⟨rfl,trivial⟩ ⟨obE (by rw[hY];rfl),trivial⟩,⟨by omega,fun j hj=>by rcases Nat.lt_succ_iff_lt_or_eq.1 hj with h|h;exact k2 j h;rw[h];exact hb⟩,by omega⟩
   ·obtain rfl:k=l.length-1:=by omega
    rw[hyes k2]
    refine AW.takeV 5 2 rfl rfl (E_length _ _) rfl ?_
    refine AW.takeV 5 3 rfl rfl (E_length _ _) rfl ?_
    refine AW.takeV 5 4 rfl rfl (E_length _ _) rfl ?_
    refine AW.takeV 5 5 rfl rfl (E_length _ _) rfl ?_
    repeat' first|refine s1 ?_|fail
    (refine kZ ?_;exact F.ret rfl)
 ·rw[decide_eq_false h1] at hW
  rw[sumL_len h1]
  repeat' first|refine s1 ?_|(refine kR ?_;first|refine F.c (hW) ?_)|fail
  (refine kZ ?_;exact F.ret rfl)
def isoB(a b:Rep)(f:List Mat):Bool:=injB a b f&&surB a b f
theorem implIsIsomorphism_g(a b:Rep)(f:List Mat):AC Tryz.prog 94 [.agg (enc false a),.agg (enc false b),ar false f] [.b (isoB a b f)]:=by
 refine AC.go Tryz.func94 Tryz.ntmps94 rfl rfl fun w0 hw=>?_;simp[WfL,WfA,E_length,Enc.enc,In64] at hw
 have hI:=implIsInjective_a a b f
 have hS:=implIsSurjective_a a b f
 unfold isoB
 generalize injB a b f=x at hI⊢
 generalize surB a b f=y at hS⊢
 cases x<;>
 ·repeat' first|refine s1 ?_|(refine kR ?_;first|refine F.c (hI) ?_|refine F.c (hS) ?_)|fail
  refine F.ret ?_
  simp
theorem specIsIsomorphism_g(a b:Rep)(f:List Mat):AC Tryz.prog 256 [.agg (enc false a),.agg (enc false b),ar false f] [.b (isoB a b f)]:=by
 refine AC.go Tryz.func256 Tryz.ntmps256 rfl rfl fun w0 hw=>?_;simp[WfL,WfA,E_length,Enc.enc,In64] at hw
 have hI:=specIsInjective_a a b f
 have hS:=specIsSurjective_a a b f
 unfold isoB
 generalize injB a b f=x at hI⊢
 generalize surB a b f=y at hS⊢
 cases x<;>
 ·repeat' first|refine s1 ?_|(refine kR ?_;first|refine F.c (hI) ?_|refine F.c (hS) ?_)|fail
  refine F.ret ?_
  simp
end Go.Proofs.YtjmjamhhppoimaaGreat.V
