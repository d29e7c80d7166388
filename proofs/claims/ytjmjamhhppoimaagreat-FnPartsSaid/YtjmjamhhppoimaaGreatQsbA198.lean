/- Texts that the proof needs: A110, A198. -/
import Derived.Test.YtjmjamhhppoimaaGreatQsbA77
import Derived.Test.YtjmjamhhppoimaaGreatQsbA85
import Derived.Test.YtjmjamhhppoimaaGreatQsbUz
namespace Go.Proofs.YtjmjamhhppoimaaGreat.V
open V.Enc (enc)
open Go.RowKit G D
set_option linter.unusedVariables false
set_option linter.unusedSimpArgs false
set_option maxHeartbeats 4000000
set_option maxRecDepth 4000
attribute [local irreducible] AW ARg ARA ARet MRet ASil AC AM ARI
theorem dim_facts{r:Rep}{X:List Spc}(h:isRep r=true)(hX:SpOk r X):X.length≤5∧(∀i,i<X.length→(X.getD i default).b.length≤8)∧(dimS X).length≤5∧∀j,j<(dimS X).length→-1048576≤(dimS X).getD j default∧(dimS X).getD j default≤1048576:=by
 obtain⟨r1,r2,r3,r4⟩:=isRep_spec h
 obtain⟨c1,c2,c3,c4⟩:=areDims_spec r2
 have h5:=okQ_spec c1
 have hl:=hX.1
 have hd:=dimS_len X
 have hb:∀i,i<X.length→(X.getD i default).b.length≤8:=fun i hi=>by
  have h1:=(hX.2 i (by omega)).2
  have h2:=isSpc_le h1
  have h3:=(isSpc_spec h1).2.1
  omega
 refine⟨by omega,hb,by omega,fun j hj=>?_⟩
 rw[dimS_get (by omega)]
 have:=hb j (by omega)
 omega
theorem generated_w(r:Rep)(v:Nat)(x:List Int)(hr:isRep r=true)(hv:v<r.d.length)(hx:x.length=(r.d.getD v default).toNat)(hb:∀j,j<(r.d.getD v default).toNat→0≤x.getD j default∧x.getD j default≤r.p-1):AM Tryz.prog 177 [.agg (enc false r),.i (v:Int),ar false x] [] [.dt true 2 (E false (genA r (begS r v x)))] []:=by
 refine AM.go Tryz.func177 Tryz.ntmps177 rfl rfl fun w0 mp hw=>?_;simp[WfL,WfA,E_length,Enc.enc,In64] at hw
 obtain⟨r1,r2,r3,r4⟩:=isRep_spec hr
 obtain⟨c1,c2,c3,c4⟩:=areDims_spec r2
 have h5:=okQ_spec c1
 have hd:0≤r.d.getD v default∧r.d.getD v default≤4:=allIn_spec c3 hv
 have hZ:=zeroSub_a r (by omega)
 have hl0:=radK_len r 0
 have hvb:VecB r.p (r.d.getD v default).toNat [x]:=fun y hy=>by
  simp only[List.mem_singleton] at hy
  subst hy;exact⟨hx,hb⟩
 have hSp:=span_a r.p (r.d.getD v default).toNat [x] r1 (by simp) (by omega) hvb
 rw[Int.toNat_of_nonneg hd.1] at hSp
 have hB0:begS r v x=(radK r 0).set v ⟨r.d.getD v default,spanL r.p (r.d.getD v default).toNat [x]⟩:=rfl
 have hok:=begS_ok hr hv hx hb
 have hN:=genN_ok hr hok
 have hst:=fun k hj he=>gen_stop hr hok (k:=k) hj he
 have hkk:=fun k hj=>gen_k hr hok (k:=k) hj
 have hbl0:=hok.1
 generalize begS r v x=BG at*
 generalize spanL r.p (r.d.getD v default).toNat [x]=SL at hSp hB0
 generalize radK r 0=R0 at hZ hl0 hB0
 have hg0:genN r BG 0=BG:=rfl
 have hgs:∀k,genN r BG (k+1)=genK r (genN r BG k) r.q.fr.length:=fun _=>rfl
 generalize genA r BG=GA at hst⊢
 generalize genN r BG=GN at*
 repeat' first|refine s1 ?_|(refine kR ?_;first|refine F.c (hZ) ?_)|fail
 refine AW.share (o:=1) (ls:=R0) rfl ?_
 refine AW.draw 13 G.mixed (by kernel_rfl) ?_
 refine Pz (.p 0<|.p 1<|.p 2<|.l 3<|.p 4<|.l 5<|.p 6<|.p 7<|.l 8<|.p 9<|.o 10 true<|.h 10<|.o 11 true<|.h 11<|.p 12<|.o 13 false<|.n) ?_
 repeat' first|(refine yH (i:=10) ?_ (fun h=>(dzA (α:=List Int) (ls:=[x]) 24 rfl rfl rfl h)))|(refine yU (i:=11) ?_;first|refine s1 ?_|refine F.c (hSp) ?_)|(refine yH (i:=11) ?_ (fun h=>(dzG (α:=List Int) (ls:=SL) 25 1 rfl rfl rfl rfl h)))|(refine yU (i:=13) ?_;first|refine s1 ?_|(refine F.stGE (α:=Spc) (oo:=false) (v:=⟨r.d.getD v default,SL⟩) rfl rfl rfl rfl rfl (by omega) (by omega) (.at1 rfl (.at1 rfl .nil)) rfl rfl rfl rfl rfl ?_))|refine yS ?_|refine s1 ?_|fail
 any_goals refine lf ?_
 all_goals
  rw[Nat.zero_add v,←hB0]
  repeat' first|refine s1 ?_|fail
  refine F.loop (σ:=Nat) [6,8,9,10,11,27,28,29,30,31,32,33,34,35,36,37,38,39,40,41,42,43,44,45,46,47,48,49,50,51,52,53,54,55,56,57,58,59,60,61,62,63,64,65,66,67,68,69,70,71,72,73] (fun k=>[]) (fun k=>[(1,.live false 2 (E false (GN k)))]) (fun k=>k≤8∧∀j,j<k→(dimS (GN j)).sum≠(dimS (GN (j+1))).sum) (fun k=>9-k) 0 trivial ⟨obE (by rw[hg0]),trivial⟩ ⟨by omega,fun j hj=>by omega⟩ ?_
  rintro k ⟨k1,k2⟩
  have hNk:=hN k
  have hNs:=hN (k+1)
  obtain⟨f1,f2,f3,f4⟩:=dim_facts hr hNk
  obtain⟨z1,z2,z3,z4⟩:=dim_facts hr hNs
  have hD1:=subDims_a (GN k) (by omega) (fun i hi=>by have:=f2 i hi;omega)
  have hS1:=sumOf_a (dimS (GN k)) (by omega) f4
  have hD2:=subDims_a (GN (k+1)) (by omega) (fun i hi=>by have:=z2 i hi;omega)
  have hS2:=sumOf_a (dimS (GN (k+1))) (by omega) z4
  have hstk:=hst k k2
  have hks:=hkk (k+1)
  have hgk:=hgs k
  have hKo:=fun i hi=>genK_ok hr hNk i hi
  have hl1:=hNk.1
  have hl2:=hNs.1
  generalize hYe:GN (k+1)=Y at*
  generalize hXe:GN k=X at*
  generalize hsx:(dimS X).sum=sx at*
  generalize hsy:(dimS Y).sum=sy at*
  repeat' first|refine s1 ?_|(refine kR ?_;first|refine F.c (hD1) ?_|refine F.c (hS1) ?_)|fail
  refine F.loop (σ:=Nat) [9,10,11,33,34,35,36,37,38,39,40,41,42,43,44,45,46,47,48,49,50,51,52,53,54,55,56,57,58,59,60,61,62,63,64,65,66,67] (fun i=>[(33,.i i)]) (fun i=>[(1,.live false 2 (E false (genK r X i)))]) (fun i=>i≤r.q.fr.length) (fun i=>r.q.fr.length-i) 0 ⟨rfl,trivial⟩ ⟨rfl,trivial⟩ (Nat.zero_le _) ?_
  rintro i i1
  by_cases hi:i<r.q.fr.length
  ·have hKi:=hKo i (by omega)
   obtain⟨a1,a2,a3,a4,a5,a6,a7,a8⟩:=gen_arr hr hKi hi
   have hIm:=imageOf_a a3 a5 a8
   have hAd:=sumSpace_a r.p _ _ a4 a6 a7
   have hgi:genK r X (i+1)=(genK r X i).set (r.q.to.getD i default).toNat (addS r.p ((genK r X i).getD (r.q.to.getD i default).toNat default) (imgSp r.p (r.m.getD i default) ((genK r X i).getD (r.q.fr.getD i default).toNat default))):=rfl
   have f:0≤r.q.fr.getD i default∧r.q.fr.getD i default<r.q.n:=okQ_fr c1 hi
   have g:0≤r.q.to.getD i default∧r.q.to.getD i default<r.q.n:=okQ_to c1 hi
   have hli:=hKi.1
   clear hKi a3 a4 a5 a6 a7 a8
   generalize genK r X i=L at hIm hAd hgi hli⊢
   generalize imgSp r.p (r.m.getD i default) (L.getD (r.q.fr.getD i default).toNat default)=IM at hIm hAd hgi
   generalize addS r.p (L.getD (r.q.to.getD i default).toNat default) IM=AS at hAd hgi
   rw[←Nat.zero_add (r.q.fr.getD i default).toNat] at hIm
   rw[←Nat.zero_add (r.q.to.getD i default).toNat] at hAd
   repeat' first|refine s1 ?_|fail
   refine AW.draw 23 G.mixed (by kernel_rfl) ?_
   refine Pz (.p 0<|.p 1<|.p 2<|.l 3<|.p 4<|.p 5<|.p 6<|.l 7<|.p 8<|.l 9<|.l 10<|.p 11<|.p 12<|.p 13<|.l 14<|.p 15<|.p 16<|.l 17<|.p 18<|.l 19<|.o 20 true<|.h 20<|.o 21 true<|.h 21<|.p 22<|.o 23 false<|.n) ?_
   repeat' first|(refine yU (i:=20) ?_;first|refine s1 ?_|refine F.c (hIm) ?_)|(refine yH (i:=20) ?_ (fun h=>(dzG (α:=List Int) (ls:=IM.b) 64 1 rfl rfl rfl rfl h)))|(refine yU (i:=21) ?_;first|refine s1 ?_|refine F.c (hAd) ?_)|(refine yH (i:=21) ?_ (fun h=>(dzG (α:=List Int) (ls:=AS.b) 65 1 rfl rfl rfl rfl h)))|(refine yU (i:=23) ?_;first|refine s1 ?_|(refine F.stGE (α:=Spc) (oo:=false) (v:=AS) rfl rfl rfl rfl rfl (by omega) (by omega) (.at1 rfl (.at1 rfl .nil)) rfl rfl rfl rfl rfl ?_))|refine yS ?_|refine s1 ?_|fail
   any_goals refine lf ?_
   all_goals
    rw[Nat.zero_add (r.q.to.getD i default).toNat]
    repeat' first|refine s1 ?_|fail
    exact⟨i+1,F.fit ⟨rfl,trivial⟩ ⟨obE (by rw[hgi]),trivial⟩,by omega,by omega⟩
  ·obtain rfl:i=r.q.fr.length:=by omega
   rw[←hgk]
   by_cases he:sx=sy
   ·obtain⟨e1,_⟩:=hstk he
    subst e1
    repeat' first|refine s1 ?_|(refine kR ?_;first|refine F.c (hD2) ?_|refine F.c (hS2) ?_)|fail
    refine kM ?_
    exact F.retM rfl trivial
   ·have hne:(dimS (GN k)).sum≠(dimS (GN (k+1))).sum:=by rw[hXe,hYe,hsx,hsy];exact he
    have hk2:=hks (snocP k2 hne)
    repeat' first|refine s1 ?_|(refine kR ?_;first|refine F.c (hD2) ?_|refine F.c (hS2) ?_)|fail
    exact⟨k+1,F.fit trivial ⟨obE (by rw[hYe]),trivial⟩,⟨hk2,snocP k2 hne⟩,by omega⟩
theorem l12Close_w(r:Rep)(s:List Spc)(hr:isRep r=true)(hs:SpOk r s):AM Tryz.prog 211 [.agg (enc false r),ar false s] [] [.dt true 2 (E false (genA r s))] []:=by
 refine AM.go Tryz.func211 Tryz.ntmps211 rfl rfl fun w0 mp hw=>?_;simp[WfL,WfA,E_length,Enc.enc,In64] at hw
 obtain⟨r1,r2,r3,r4⟩:=isRep_spec hr
 obtain⟨c1,c2,c3,c4⟩:=areDims_spec r2
 have h5:=okQ_spec c1
 have hN:=genN_ok hr hs
 have hsl:=hs.1
 have hg0:genN r s 0=s:=rfl
 have hgs:∀k,genN r s (k+1)=genK r (genN r s k) r.q.fr.length:=fun _=>rfl
 unfold genA
 generalize genN r s=GN at*
 repeat' first|refine s1 ?_|(refine kR ?_;first|refine F.aLN Spc (oo:=false) ?_)|fail
 refine F.loop (σ:=Nat) [6,7,8,9,10,14,15,16,17,18,19,20,21,22,23,24,25,26,27,28,29,30,31,32,33,34,35,36,37,38,39,40,41,42,43,44,45,46,47,48,49,50,51,52,53,54,55,56,57,58,59,60,61,62,63,64] (fun k=>[(6,.i k)]) (fun k=>[(1,.live false 2 (E false (GN k)))]) (fun k=>k≤9) (fun k=>9-k) 0 ⟨rfl,trivial⟩ ⟨obE (by rw[hg0]),trivial⟩ (by omega) ?_
 rintro k k1
 have hNk:=hN k
 have hgk:=hgs k
 have hl1:=hNk.1
 by_cases hk:k<9
 ·have hKo:=fun i hi=>genK_ok hr hNk i hi
  generalize hYe:GN (k+1)=Y at*
  generalize hXe:GN k=X at*
  repeat' first|refine s1 ?_|fail
  refine F.loop (σ:=Nat) [7,8,9,10,18,19,20,21,22,23,24,25,26,27,28,29,30,31,32,33,34,35,36,37,38,39,40,41,42,43,44,45,46,47,48,49,50,51,52,53,54,55,56,57,58,59,60,61,62,63,64] (fun i=>[(7,.i i)]) (fun i=>[(1,.live false 2 (E false (genK r X i)))]) (fun i=>i≤r.q.fr.length) (fun i=>r.q.fr.length-i) 0 ⟨rfl,trivial⟩ ⟨rfl,trivial⟩ (Nat.zero_le _) ?_
  rintro i i1
  by_cases hi:i<r.q.fr.length
  ·have hKi:=hKo i (by omega)
   obtain⟨a1,a2,a3,a4,a5,a6,a7,a8⟩:=gen_arr hr hKi hi
   have hIm:=specImageOf_a a3 a5 a8
   have hAd:=addSpaces_a r.p _ _ a4 a6 a7
   have hgi:genK r X (i+1)=(genK r X i).set (r.q.to.getD i default).toNat (addS r.p ((genK r X i).getD (r.q.to.getD i default).toNat default) (imgSp r.p (r.m.getD i default) ((genK r X i).getD (r.q.fr.getD i default).toNat default))):=rfl
   have f:0≤r.q.fr.getD i default∧r.q.fr.getD i default<r.q.n:=okQ_fr c1 hi
   have g:0≤r.q.to.getD i default∧r.q.to.getD i default<r.q.n:=okQ_to c1 hi
   have hli:=hKi.1
   clear hKi a3 a4 a5 a6 a7 a8
   generalize genK r X i=L at hIm hAd hgi hli⊢
   generalize imgSp r.p (r.m.getD i default) (L.getD (r.q.fr.getD i default).toNat default)=IM at hIm hAd hgi
   generalize addS r.p (L.getD (r.q.to.getD i default).toNat default) IM=AS at hAd hgi
   rw[←Nat.zero_add (r.q.fr.getD i default).toNat] at hIm
   rw[←Nat.zero_add (r.q.to.getD i default).toNat] at hAd
   repeat' first|refine s1 ?_|fail
   refine AW.draw 21 G.mixed (by kernel_rfl) ?_
   refine Pz (.p 0<|.l 1<|.p 2<|.l 3<|.p 4<|.p 5<|.l 6<|.p 7<|.p 8<|.p 9<|.l 10<|.p 11<|.p 12<|.l 13<|.p 14<|.l 15<|.a [(16,true,.p 17<|.p 18<|.p 19<|.o 20 true<|.o 21 false<|.p 22<|.n),(20,true,.o 16 true<|.p 17<|.p 18<|.p 19<|.o 21 false<|.p 22<|.n)]) ?_
   repeat' first|(refine yU (i:=16) ?_;first|refine s1 ?_|refine F.c (hIm) ?_)|refine yS ?_|refine s1 ?_|refine yC ?_ ?_|exact trivial|fail
   any_goals refine lf ?_
   all_goals
    repeat' first|refine s1 ?_|fail
    refine AW.draw 14 G.mixed (by kernel_rfl) ?_
    refine Pz (.p 0<|.p 1<|.p 2<|.l 3<|.p 4<|.p 5<|.p 6<|.l 7<|.l 8<|.o 9 true<|.p 10<|.p 11<|.h 11<|.p 12<|.p 13<|.o 14 false<|.n) ?_
    repeat' first|(refine yU (i:=9) ?_;first|refine s1 ?_|refine F.c (hAd) ?_)|(refine yH (i:=11) ?_ (fun h=>(dzG (α:=List Int) (ls:=AS.b) 62 1 rfl rfl rfl rfl h)))|(refine yU (i:=14) ?_;first|refine s1 ?_|(refine F.stGE (α:=Spc) (oo:=false) (v:=AS) rfl rfl rfl rfl rfl (by omega) (by omega) (.at1 rfl (.at1 rfl .nil)) rfl rfl rfl rfl rfl ?_))|refine yS ?_|refine s1 ?_|fail
    any_goals refine lf ?_
    all_goals
     rw[Nat.zero_add (r.q.to.getD i default).toNat]
     repeat' first|refine s1 ?_|fail
     exact⟨i+1,F.fit ⟨rfl,trivial⟩ ⟨obE (by rw[hgi]),trivial⟩,by omega,by omega⟩
  ·obtain rfl:i=r.q.fr.length:=by omega
   rw[←hgk]
   repeat' first|refine s1 ?_|fail
   exact⟨k+1,F.fit ⟨rfl,trivial⟩ ⟨obE (by rw[hYe]),trivial⟩,by omega,by omega⟩
 ·obtain rfl:k=9:=by omega
  generalize GN 9=X at*
  repeat' first|refine s1 ?_|fail
  refine kM ?_
  exact F.retM rfl trivial
theorem generatedSub_w(r:Rep)(v:Nat)(x:List Int)(hr:isRep r=true)(hv:v<r.d.length)(hx:x.length=(r.d.getD v default).toNat)(hb:∀j,j<(r.d.getD v default).toNat→0≤x.getD j default∧x.getD j default≤r.p-1):AM Tryz.prog 52 [.agg (enc false r),.i (v:Int),ar false x] [] [.dt true 2 (E false (genA r (begS r v x))),.b true] []:=by
 refine AM.go Tryz.func52 Tryz.ntmps52 rfl rfl fun w0 mp hw=>?_;simp[WfL,WfA,E_length,Enc.enc,In64] at hw
 obtain⟨r1,r2,r3,r4⟩:=isRep_spec hr
 obtain⟨c1,c2,c3,c4⟩:=areDims_spec r2
 have h5:=okQ_spec c1
 have hd:0≤r.d.getD v default∧r.d.getD v default≤4:=allIn_spec c3 hv
 have hF:=specIsRep_a r
 rw[hr] at hF
 have hI:=l1In_a (v:Int) 0 ((r.d.length:Int)-1)
 rw[decide_eq_true (by omega)] at hI
 have hV:=specIsVector_a r.p x
 have hvx:isVec r.p x=true:=by
  simp only[isVec,Bool.and_eq_true,decide_eq_true_eq]
  exact⟨⟨r1,by omega⟩,allIn_all fun j hj=>hb j (by omega)⟩
 rw[hvx] at hV
 have hxl:(x.length:Int)=r.d.getD v default:=by omega
 have hZ:=l12Zero_a r (by omega)
 have hl0:=radK_len r 0
 have hvb:VecB r.p (r.d.getD v default).toNat [x]:=fun y hy=>by
  simp only[List.mem_singleton] at hy
  subst hy;exact⟨hx,hb⟩
 have hSp:=l5Span_a r.p (r.d.getD v default).toNat [x] r1 (by simp) (by omega) hvb
 rw[Int.toNat_of_nonneg hd.1] at hSp
 have hB0:begS r v x=(radK r 0).set v ⟨r.d.getD v default,spanL r.p (r.d.getD v default).toNat [x]⟩:=rfl
 have hok:=begS_ok hr hv hx hb
 have hC:=l12Close_w r (begS r v x) hr hok
 have hbl0:=hok.1
 generalize genA r (begS r v x)=GA at hC⊢
 generalize begS r v x=BG at*
 generalize spanL r.p (r.d.getD v default).toNat [x]=SL at hSp hB0
 generalize radK r 0=R0 at hZ hl0 hB0
 repeat' first|refine s1 ?_|(refine kR ?_;first|refine F.c (hF) ?_|refine F.c (hI) ?_|refine F.c (hV) ?_|refine F.c (hZ) ?_)|fail
 refine AW.share (o:=1) (ls:=R0) rfl ?_
 refine AW.draw 13 G.mixed (by kernel_rfl) ?_
 refine Pz (.p 0<|.p 1<|.p 2<|.l 3<|.p 4<|.l 5<|.p 6<|.p 7<|.l 8<|.p 9<|.o 10 true<|.h 10<|.o 11 true<|.h 11<|.p 12<|.o 13 false<|.n) ?_
 repeat' first|(refine yH (i:=10) ?_ (fun h=>(dzA (α:=List Int) (ls:=[x]) 51 rfl rfl rfl h)))|(refine yU (i:=11) ?_;first|refine s1 ?_|refine F.c (hSp) ?_)|(refine yH (i:=11) ?_ (fun h=>(dzG (α:=List Int) (ls:=SL) 52 1 rfl rfl rfl rfl h)))|(refine yU (i:=13) ?_;first|refine s1 ?_|(refine F.stGE (α:=Spc) (oo:=false) (v:=⟨r.d.getD v default,SL⟩) rfl rfl rfl rfl rfl (by omega) (by omega) (.at1 rfl (.at1 rfl .nil)) rfl rfl rfl rfl rfl ?_))|refine yS ?_|refine s1 ?_|fail
 any_goals refine lf ?_
 all_goals
  rw[Nat.zero_add v,←hB0]
  refine AW.freezeA (α:=Spc) 8 rfl rfl (hbl0.trans hl0.symm) ?_
  repeat' first|refine s1 ?_|(refine kR ?_;first|refine F.w (hC) ?_)|fail
  refine kM ?_
  exact F.retM rfl trivial
end Go.Proofs.YtjmjamhhppoimaaGreat.V
namespace Go.Proofs.YtjmjamhhppoimaaGreat.V
open V.Enc (enc)
open Go.RowKit G D
set_option linter.unusedVariables false
set_option linter.unusedSimpArgs false
set_option maxHeartbeats 4000000
set_option maxRecDepth 4000
attribute [local irreducible] AW ARg ARA ARet MRet ASil AC AM AMx ACx AD ARI
theorem implTotalOf_a(r:Rep):AC Tryz.prog 40 [.agg (enc false r)] [.i (if isRep r=true then r.d.sum else-1)]:=by
 refine AC.go Tryz.func40 Tryz.ntmps40 rfl rfl fun w0 hw=>?_;simp[WfL,WfA,E_length,Enc.enc,In64] at hw
 have hR:=implIsRep_a r
 cases hr:isRep r with
 |false=>
  rw[hr] at hR
  rw[if_neg (by simp)]
  repeat' first|refine s1 ?_|(refine kR ?_;first|refine F.c (hR) ?_)|fail
  (refine kZ ?_;exact F.ret rfl)
 |true=>
  rw[hr] at hR
  rw[if_pos rfl]
  obtain⟨r1,r2,r3,r4⟩:=isRep_spec hr
  obtain⟨c1,c2,c3,c4⟩:=areDims_spec r2
  have h5:=okQ_spec c1
  have hS:=sumOf_a r.d (by omega) (fun j hj=>by have:0≤r.d.getD j default∧r.d.getD j default≤4:=allIn_spec c3 hj;omega)
  generalize r.d.sum=z at hS⊢
  repeat' first|refine s1 ?_|(refine kR ?_;first|refine F.c (hR) ?_|refine F.c (hS) ?_)|fail
  (refine kZ ?_;exact F.ret rfl)
theorem implSubDims_a(r:Rep)(s:List Spc):AC Tryz.prog 41 [.agg (enc false r),ar false s] [.dt true 1 (E true (if isSub r s=true then dimS s else[]))]:=by
 refine AC.go Tryz.func41 Tryz.ntmps41 rfl rfl fun w0 hw=>?_;simp[WfL,WfA,E_length,Enc.enc,In64] at hw
 have hI:=implIsSub_a r s
 cases hs:isSub r s with
 |false=>
  rw[hs] at hI
  rw[if_neg (by simp)]
  repeat' first|refine s1 ?_|(refine kR ?_;first|refine F.c (hI) ?_)|fail
  (refine kZ ?_;exact F.ret rfl)
 |true=>
  rw[hs] at hI
  rw[if_pos rfl]
  obtain⟨u1,u2,u3,u4⟩:=isSub_spec hs
  obtain⟨c1,c2,c3,c4⟩:=areDims_spec (isRep_spec u1).2.1
  have h5:=okQ_spec c1
  have hS:=subDims_a s (by omega) (fun i hi=>by have:=(isSpc_spec (u3 i hi).1).2.2.1;omega)
  generalize dimS s=z at hS⊢
  repeat' first|refine s1 ?_|(refine kR ?_;first|refine F.c (hI) ?_|refine F.c (hS) ?_)|fail
  (refine kZ ?_;exact F.ret rfl)
theorem implZeroSub_a(r:Rep):AC Tryz.prog 57 [.agg (enc false r)] [.dt true 2 (E true (if isRep r=true then radK r 0 else[])),.b (isRep r)]:=by
 refine AC.go Tryz.func57 Tryz.ntmps57 rfl rfl fun w0 hw=>?_;simp[WfL,WfA,E_length,Enc.enc,In64] at hw
 have hR:=implIsRep_a r
 cases hr:isRep r with
 |false=>
  rw[hr] at hR
  rw[if_neg (by simp)]
  repeat' first|refine s1 ?_|(refine kR ?_;first|refine F.c (hR) ?_)|fail
  (refine kZ ?_;exact F.ret rfl)
 |true=>
  rw[hr] at hR
  rw[if_pos rfl]
  obtain⟨c1,c2,c3,c4⟩:=areDims_spec (isRep_spec hr).2.1
  have h5:=okQ_spec c1
  have hZ:=zeroSub_a r (by omega)
  generalize radK r 0=z at hZ⊢
  repeat' first|refine s1 ?_|(refine kR ?_;first|refine F.c (hR) ?_|refine F.c (hZ) ?_)|fail
  (refine kZ ?_;exact F.ret rfl)
theorem specZeroSub_a(r:Rep):AC Tryz.prog 58 [.agg (enc false r)] [.dt true 2 (E true (if isRep r=true then radK r 0 else[])),.b (isRep r)]:=by
 refine AC.go Tryz.func58 Tryz.ntmps58 rfl rfl fun w0 hw=>?_;simp[WfL,WfA,E_length,Enc.enc,In64] at hw
 have hR:=specIsRep_a r
 cases hr:isRep r with
 |false=>
  rw[hr] at hR
  rw[if_neg (by simp)]
  repeat' first|refine s1 ?_|(refine kR ?_;first|refine F.c (hR) ?_)|fail
  (refine kZ ?_;exact F.ret rfl)
 |true=>
  rw[hr] at hR
  rw[if_pos rfl]
  obtain⟨c1,c2,c3,c4⟩:=areDims_spec (isRep_spec hr).2.1
  have h5:=okQ_spec c1
  have hZ:=l12Zero_a r (by omega)
  generalize radK r 0=z at hZ⊢
  repeat' first|refine s1 ?_|(refine kR ?_;first|refine F.c (hR) ?_|refine F.c (hZ) ?_)|fail
  (refine kZ ?_;exact F.ret rfl)
theorem inSpace_a(p:Int)(s:Spc)(v:List Int)(h:isSpc p s=true)(hv:isVec p v=true)(hn:v.length=s.n.toNat):AC Tryz.prog 53 [.i p,.agg (enc false s),ar false v] [.b (hasV p s v)]:=by
 refine AC.go Tryz.func53 Tryz.ntmps53 rfl rfl fun w0 hw=>?_;simp[WfL,WfA,E_length,Enc.enc,In64] at hw
 have hS:=implIsSpace_a p s
 have hV:=implIsVector_a p v
 have hb:∀j,j<s.n.toNat→0≤v.getD j default∧v.getD j default≤p-1:=fun j hj=>by
  simp only[isVec,Bool.and_eq_true] at hv
  exact allIn_spec hv.2 (by omega)
 have hH:=has_a p s v h hn hb
 have hsn:=(isSpc_spec h).2.1
 rw[h] at hS
 rw[hv] at hV
 generalize hasV p s v=z at hH⊢
 repeat' first|refine s1 ?_|(refine kR ?_;first|refine F.c (hS) ?_|refine F.c (hV) ?_|refine F.c (hH) ?_)|fail
 (refine kZ ?_;exact F.ret rfl)
theorem implWholeSub_a(r:Rep):AC Tryz.prog 55 [.agg (enc false r)] [.dt true 2 (E true (if isRep r=true then socK r 0 else[])),.b (isRep r)]:=by
 refine AC.go Tryz.func55 Tryz.ntmps55 rfl rfl fun w0 hw=>?_;simp[WfL,WfA,E_length,Enc.enc,In64] at hw
 have hR:=implIsRep_a r
 cases hr:isRep r with
 |false=>
  rw[hr] at hR
  rw[if_neg (by simp)]
  repeat' first|refine s1 ?_|(refine kR ?_;first|refine F.c (hR) ?_)|fail
  (refine kZ ?_;exact F.ret rfl)
 |true=>
  rw[hr] at hR
  rw[if_pos rfl]
  obtain⟨c1,c2,c3,c4⟩:=areDims_spec (isRep_spec hr).2.1
  have h5:=okQ_spec c1
  repeat' first|refine s1 ?_|(refine kR ?_;first|refine F.c (hR) ?_)|fail
  refine AW.open 4 2 (.inl rfl) ?_
  refine F.loop (σ:=Nat) [4,6,13,14,15,16,17,18,19,20,21,22] (fun k=>[(4,.sl 1 k 0 k),(13,.i k)]) (fun k=>[(1,.live false 2 (E true ((r.d.take k).map fulS)))]) (fun k=>k≤r.d.length) (fun k=>r.d.length-k) 0 ⟨rfl,rfl,trivial⟩ ⟨rfl,trivial⟩ (Nat.zero_le _) ?_
  rintro k k1
  have hp:((r.d.take k).map fulS).length=k:=by simp;omega
  by_cases hk:k<r.d.length
  ·have hd:0≤r.d.getD k default∧r.d.getD k default≤4:=allIn_spec c3 hk
   have hF:=fullSpace_a (r.d.getD k default) (by omega)
   have hts:=fulS_take hk
   generalize (r.d.take k).map fulS=X at hts hp⊢
   generalize fulS (r.d.getD k default)=FSp at hF hts
   repeat' first|refine s1 ?_|(refine kR ?_;first|refine F.c (hF) ?_|refine F.a1 Spc (a:=FSp) ?_)|fail
   exact⟨k+1,F.fit ⟨rfl,rfl,trivial⟩ ⟨obE (by rw[hts]),trivial⟩,by omega,by omega⟩
  ·obtain rfl:k=r.d.length:=by omega
   clear hp
   rw[List.take_length,show r.d.map fulS=socK r 0 from rfl]
   have hL:=socK_len r 0
   generalize socK r 0=L at hL⊢
   rw[←hL]
   repeat' first|refine s1 ?_|fail
   (refine kZ ?_;exact F.ret rfl)
theorem implGeneratedSub_w(r:Rep)(v:Nat)(x:List Int)(hr:isRep r=true)(hv:v<r.d.length)(hx:x.length=(r.d.getD v default).toNat)(hb:∀j,j<(r.d.getD v default).toNat→0≤x.getD j default∧x.getD j default≤r.p-1):AM Tryz.prog 51 [.agg (enc false r),.i (v:Int),ar false x] [] [.dt true 2 (E false (genA r (begS r v x))),.b true] []:=by
 refine AM.go Tryz.func51 Tryz.ntmps51 rfl rfl fun w0 mp hw=>?_;simp[WfL,WfA,E_length,Enc.enc,In64] at hw
 obtain⟨r1,r2,r3,r4⟩:=isRep_spec hr
 obtain⟨c1,c2,c3,c4⟩:=areDims_spec r2
 have h5:=okQ_spec c1
 have hd:0≤r.d.getD v default∧r.d.getD v default≤4:=allIn_spec c3 hv
 have hF:=implIsRep_a r
 rw[hr] at hF
 have hH:=hasVertex_a r.q (v:Int) c1
 rw[decide_eq_true (by omega)] at hH
 have hV:=implIsVector_a r.p x
 have hvx:isVec r.p x=true:=by
  simp only[isVec,Bool.and_eq_true,decide_eq_true_eq]
  exact⟨⟨r1,by omega⟩,allIn_all fun j hj=>hb j (by omega)⟩
 rw[hvx] at hV
 have hxl:(x.length:Int)=r.d.getD v default:=by omega
 have hG:=generated_w r v x hr hv hx hb
 generalize genA r (begS r v x)=GA at hG⊢
 repeat' first|refine s1 ?_|(refine kR ?_;first|refine F.c (hF) ?_|refine F.c (hH) ?_|refine F.c (hV) ?_|refine F.w (hG) ?_)|fail
 refine kM ?_
 exact F.retM rfl trivial
end Go.Proofs.YtjmjamhhppoimaaGreat.V
