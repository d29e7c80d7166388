/- Texts that the proof needs: A110, Down. -/
import Derived.Test.YtjmjamhhppoimaaGreatQstA197
import Derived.JoinedOf
namespace Go.Proofs.YtjmjamhhppoimaaGreat.V
open V.Enc (enc)
open Go.RowKit G D
set_option linter.unusedVariables false
set_option linter.unusedSimpArgs false
set_option maxHeartbeats 4000000
set_option maxRecDepth 4000
attribute [local irreducible] AW ARg ARA ARet MRet ASil AC AM ARI
theorem power_a(p:Int)(n:Nat)(hp:2≤p∧p≤5)(hn:n≤8):AC Tryz.prog 174 [.i p,.i (n:Int)] [.i (powI p n)]:=by
 refine AC.go Tryz.func174 Tryz.ntmps174 rfl rfl fun w0 hw=>?_;simp[WfL,WfA,E_length,Enc.enc,In64] at hw
 repeat' first|refine s1 ?_|fail
 refine F.loop (σ:=Nat) [5,7,8,9,10,11,12] (fun k=>[(5,.i (powI p k)),(7,.i k)]) (fun _=>[]) (fun k=>k≤n) (fun k=>n-k) 0 ⟨rfl,rfl,trivial⟩ trivial (Nat.zero_le _) ?_
 rintro k k1
 have hb:=powI_bd hp k (by omega)
 by_cases hk:k<n
 ·have hst:powI p (k+1)=powI p k*p:=rfl
  have h8:(5:Int)^k≤390625:=by
   have:k≤8:=by omega
   have h:∀k:Nat,k≤8→(5:Int)^k≤390625:=by decide
   exact h k this
  generalize powI p k=X at hb hst⊢
  have m1:0≤X*p:=Int.mul_nonneg (by omega) (by omega)
  have m2:X*p≤390625*5:=Int.mul_le_mul (by omega) hp.2 (by omega) (by omega)
  have hi:In64 (X*p):=by unfold In64;omega
  repeat' first|refine s1 ?_|fail
  exact⟨k+1,F.fit ⟨iE hst.symm,rfl,trivial⟩ trivial,by omega,by omega⟩
 ·obtain rfl:k=n:=by omega
  generalize powI p k=X at hb⊢
  repeat' first|refine s1 ?_|fail
  (refine kZ ?_;exact F.ret rfl)
theorem dim_facts{r:Rep}{X:List Spc}(h:isRep r=true)(hX:SpOk r X):X.length≤5∧(∀i,i<X.length→(X.getD i default).b.length≤8)∧(dimS X).length≤5∧∀j,j<(dimS X).length→-1048576≤(dimS X).getD j default∧(dimS X).getD j default≤1048576:=by
 obtain⟨r1,r2,r3,r4⟩:=isRep_spec h
 obtain⟨c1,c2,c3,c4⟩:=areDims_spec r2
 have h5:=okQ_spec c1
 have hl:=hX.1
 have hd:=dimS_len X
 have hb:∀i,i<X.length→(X.getD i default).b.length≤8:=fun i hi=>by
  have h1:=(hX.2 i (by omega)).2
  have h2:=isSpc_le h1
  have h3:=(isSpc_spec h1).2.1
  omega
 refine⟨by omega,hb,by omega,fun j hj=>?_⟩
 rw[dimS_get (by omega)]
 have:=hb j (by omega)
 omega
theorem generated_w(r:Rep)(v:Nat)(x:List Int)(hr:isRep r=true)(hv:v<r.d.length)(hx:x.length=(r.d.getD v default).toNat)(hb:∀j,j<(r.d.getD v default).toNat→0≤x.getD j default∧x.getD j default≤r.p-1):AM Tryz.prog 177 [.agg (enc false r),.i (v:Int),ar false x] [] [.dt true 2 (E false (genA r (begS r v x)))] []:=by
 refine AM.go Tryz.func177 Tryz.ntmps177 rfl rfl fun w0 mp hw=>?_;simp[WfL,WfA,E_length,Enc.enc,In64] at hw
 obtain⟨r1,r2,r3,r4⟩:=isRep_spec hr
 obtain⟨c1,c2,c3,c4⟩:=areDims_spec r2
 have h5:=okQ_spec c1
 have hd:0≤r.d.getD v default∧r.d.getD v default≤4:=allIn_spec c3 hv
 have hZ:=zeroSub_a r (by omega)
 have hl0:=radK_len r 0
 have hvb:VecB r.p (r.d.getD v default).toNat [x]:=fun y hy=>by
  simp only[List.mem_singleton] at hy
  subst hy;exact⟨hx,hb⟩
 have hSp:=span_a r.p (r.d.getD v default).toNat [x] r1 (by simp) (by omega) hvb
 rw[Int.toNat_of_nonneg hd.1] at hSp
 have hB0:begS r v x=(radK r 0).set v ⟨r.d.getD v default,spanL r.p (r.d.getD v default).toNat [x]⟩:=rfl
 have hok:=begS_ok hr hv hx hb
 have hN:=genN_ok hr hok
 have hst:=fun k hj he=>gen_stop hr hok (k:=k) hj he
 have hkk:=fun k hj=>gen_k hr hok (k:=k) hj
 have hbl0:=hok.1
 generalize begS r v x=BG at*
 generalize spanL r.p (r.d.getD v default).toNat [x]=SL at hSp hB0
 generalize radK r 0=R0 at hZ hl0 hB0
 have hg0:genN r BG 0=BG:=rfl
 have hgs:∀k,genN r BG (k+1)=genK r (genN r BG k) r.q.fr.length:=fun _=>rfl
 generalize genA r BG=GA at hst⊢
 generalize genN r BG=GN at*
 repeat' first|refine s1 ?_|(refine kR ?_;first|refine F.c (hZ) ?_)|fail
 refine AW.share (o:=1) (ls:=R0) rfl ?_
 refine AW.draw 13 G.mixed (by kernel_rfl) ?_
 refine Pz (.p 0<|.p 1<|.p 2<|.l 3<|.p 4<|.l 5<|.p 6<|.p 7<|.l 8<|.p 9<|.o 10 true<|.h 10<|.o 11 true<|.h 11<|.p 12<|.o 13 false<|.n) ?_
 repeat' first|(refine yH (i:=10) ?_ (fun h=>(dzA (α:=List Int) (ls:=[x]) 24 rfl rfl rfl h)))|(refine yU (i:=11) ?_;first|refine s1 ?_|refine F.c (hSp) ?_)|(refine yH (i:=11) ?_ (fun h=>(dzG (α:=List Int) (ls:=SL) 25 1 rfl rfl rfl rfl h)))|(refine yU (i:=13) ?_;first|refine s1 ?_|(refine F.stGE (α:=Spc) (oo:=false) (v:=⟨r.d.getD v default,SL⟩) rfl rfl rfl rfl rfl (by omega) (by omega) (.at1 rfl (.at1 rfl .nil)) rfl rfl rfl rfl rfl ?_))|refine yS ?_|refine s1 ?_|fail
 any_goals refine lf ?_
 all_goals
  rw[Nat.zero_add v,←hB0]
  repeat' first|refine s1 ?_|fail
  refine F.loop (σ:=Nat) [6,8,9,10,11,27,28,29,30,31,32,33,34,35,36,37,38,39,40,41,42,43,44,45,46,47,48,49,50,51,52,53,54,55,56,57,58,59,60,61,62,63,64,65,66,67,68,69,70,71,72,73] (fun k=>[]) (fun k=>[(1,.live false 2 (E false (GN k)))]) (fun k=>k≤8∧∀j,j<k→(dimS (GN j)).sum≠(dimS (GN (j+1))).sum) (fun k=>9-k) 0 trivial ⟨obE (by rw[hg0]),trivial⟩ ⟨by omega,fun j hj=>by omega⟩ ?_
  rintro k ⟨k1,k2⟩
  have hNk:=hN k
  have hNs:=hN (k+1)
  obtain⟨f1,f2,f3,f4⟩:=dim_facts hr hNk
  obtain⟨z1,z2,z3,z4⟩:=dim_facts hr hNs
  have hD1:=subDims_a (GN k) (by omega) (fun i hi=>by have:=f2 i hi;omega)
  have hS1:=sumOf_a (dimS (GN k)) (by omega) f4
  have hD2:=subDims_a (GN (k+1)) (by omega) (fun i hi=>by have:=z2 i hi;omega)
  have hS2:=sumOf_a (dimS (GN (k+1))) (by omega) z4
  have hstk:=hst k k2
  have hks:=hkk (k+1)
  have hgk:=hgs k
  have hKo:=fun i hi=>genK_ok hr hNk i hi
  have hl1:=hNk.1
  have hl2:=hNs.1
  generalize hYe:GN (k+1)=Y at*
  generalize hXe:GN k=X at*
  generalize hsx:(dimS X).sum=sx at*
  generalize hsy:(dimS Y).sum=sy at*
  repeat' first|refine s1 ?_|(refine kR ?_;first|refine F.c (hD1) ?_|refine F.c (hS1) ?_)|fail
  refine F.loop (σ:=Nat) [9,10,11,33,34,35,36,37,38,39,40,41,42,43,44,45,46,47,48,49,50,51,52,53,54,55,56,57,58,59,60,61,62,63,64,65,66,67] (fun i=>[(33,.i i)]) (fun i=>[(1,.live false 2 (E false (genK r X i)))]) (fun i=>i≤r.q.fr.length) (fun i=>r.q.fr.length-i) 0 ⟨rfl,trivial⟩ ⟨rfl,trivial⟩ (Nat.zero_le _) ?_
  rintro i i1
  by_cases hi:i<r.q.fr.length
  ·have hKi:=hKo i (by omega)
   obtain⟨a1,a2,a3,a4,a5,a6,a7,a8⟩:=gen_arr hr hKi hi
   have hIm:=imageOf_a a3 a5 a8
   have hAd:=sumSpace_a r.p _ _ a4 a6 a7
   have hgi:genK r X (i+1)=(genK r X i).set (r.q.to.getD i default).toNat (addS r.p ((genK r X i).getD (r.q.to.getD i default).toNat default) (imgSp r.p (r.m.getD i default) ((genK r X i).getD (r.q.fr.getD i default).toNat default))):=rfl
   have f:0≤r.q.fr.getD i default∧r.q.fr.getD i default<r.q.n:=okQ_fr c1 hi
   have g:0≤r.q.to.getD i default∧r.q.to.getD i default<r.q.n:=okQ_to c1 hi
   have hli:=hKi.1
   clear hKi a3 a4 a5 a6 a7 a8
   generalize genK r X i=L at hIm hAd hgi hli⊢
   generalize imgSp r.p (r.m.getD i default) (L.getD (r.q.fr.getD i default).toNat default)=IM at hIm hAd hgi
   generalize addS r.p (L.getD (r.q.to.getD i default).toNat default) IM=AS at hAd hgi
   rw[←Nat.zero_add (r.q.fr.getD i default).toNat] at hIm
   rw[←Nat.zero_add (r.q.to.getD i default).toNat] at hAd
   repeat' first|refine s1 ?_|fail
   refine AW.draw 23 G.mixed (by kernel_rfl) ?_
   refine Pz (.p 0<|.p 1<|.p 2<|.l 3<|.p 4<|.p 5<|.p 6<|.l 7<|.p 8<|.l 9<|.l 10<|.p 11<|.p 12<|.p 13<|.l 14<|.p 15<|.p 16<|.l 17<|.p 18<|.l 19<|.o 20 true<|.h 20<|.o 21 true<|.h 21<|.p 22<|.o 23 false<|.n) ?_
   repeat' first|(refine yU (i:=20) ?_;first|refine s1 ?_|refine F.c (hIm) ?_)|(refine yH (i:=20) ?_ (fun h=>(dzG (α:=List Int) (ls:=IM.b) 64 1 rfl rfl rfl rfl h)))|(refine yU (i:=21) ?_;first|refine s1 ?_|refine F.c (hAd) ?_)|(refine yH (i:=21) ?_ (fun h=>(dzG (α:=List Int) (ls:=AS.b) 65 1 rfl rfl rfl rfl h)))|(refine yU (i:=23) ?_;first|refine s1 ?_|(refine F.stGE (α:=Spc) (oo:=false) (v:=AS) rfl rfl rfl rfl rfl (by omega) (by omega) (.at1 rfl (.at1 rfl .nil)) rfl rfl rfl rfl rfl ?_))|refine yS ?_|refine s1 ?_|fail
   any_goals refine lf ?_
   all_goals
    rw[Nat.zero_add (r.q.to.getD i default).toNat]
    repeat' first|refine s1 ?_|fail
    exact⟨i+1,F.fit ⟨rfl,trivial⟩ ⟨obE (by rw[hgi]),trivial⟩,by omega,by omega⟩
  ·obtain rfl:i=r.q.fr.length:=by omega
   rw[←hgk]
   by_cases he:sx=sy
   ·obtain⟨e1,_⟩:=hstk he
    subst e1
    repeat' first|refine s1 ?_|(refine kR ?_;first|refine F.c (hD2) ?_|refine F.c (hS2) ?_)|fail
    refine kM ?_
    exact F.retM rfl trivial
   ·have hne:(dimS (GN k)).sum≠(dimS (GN (k+1))).sum:=by rw[hXe,hYe,hsx,hsy];exact he
    have hk2:=hks (snocP k2 hne)
    repeat' first|refine s1 ?_|(refine kR ?_;first|refine F.c (hD2) ?_|refine F.c (hS2) ?_)|fail
    exact⟨k+1,F.fit trivial ⟨obE (by rw[hYe]),trivial⟩,⟨hk2,snocP k2 hne⟩,by omega⟩
theorem gen_dims{r:Rep}{v:Nat}{x:List Int}(h:isRep r=true)(hv:v<r.d.length)(hx:x.length=(r.d.getD v default).toNat)(hb:∀j,j<(r.d.getD v default).toNat→0≤x.getD j default∧x.getD j default≤r.p-1):isSub r (genA r (begS r v x))=true∧SpOk r (genA r (begS r v x)):=⟨genA_ok h (begS_ok h hv hx hb),genN_ok h (begS_ok h hv hx hb) 9⟩
def simP(r:Rep)(v c:Nat):Bool:=decide (c=0)||simC r v c
theorem simV_yes{r:Rep}{v N:Nat}(hN:(powI r.p (r.d.getD v default).toNat).toNat=N)(h:∀c,c<N→simP r v c=true):simV r v=true:=by
 unfold simV;rw[hN];exact all_yes h
theorem simV_no{r:Rep}{v N c:Nat}(hN:(powI r.p (r.d.getD v default).toNat).toNat=N)(hc:c<N)(h:simP r v c=false):simV r v=false:=by
 unfold simV;rw[hN];exact all_no hc h
theorem implIsSimple_a(r:Rep):AC Tryz.prog 30 [.agg (enc false r)] [.b (simB r)]:=by
 refine AC.go Tryz.func30 Tryz.ntmps30 rfl rfl fun w0 hw=>?_;simp[WfL,WfA,E_length,Enc.enc,In64] at hw
 have hF:=implIsRep_a r
 unfold simB
 cases hr:isRep r with
 |false=>
  rw[hr] at hF
  repeat' first|refine s1 ?_|(refine kR ?_;first|refine F.c (hF) ?_)|fail
  refine F.ret ?_
  rfl
 |true=>
  rw[hr] at hF
  obtain⟨r1,r2,r3,r4⟩:=isRep_spec hr
  obtain⟨c1,c2,c3,c4⟩:=areDims_spec r2
  have h5:=okQ_spec c1
  have hp:=isF_pos r1
  have hS:=sumOf_a r.d (by omega) (fun j hj=>by have:0≤r.d.getD j default∧r.d.getD j default≤4:=allIn_spec c3 hj;omega)
  by_cases h0:r.d.sum=0
  ·rw[decide_eq_false (by omega)]
   rw[h0] at hS
   repeat' first|refine s1 ?_|(refine kR ?_;first|refine F.c (hF) ?_|refine F.c (hS) ?_)|fail
   refine F.ret ?_
   rfl
  ·rw[decide_eq_true h0]
   generalize r.d.sum=sm at hS h0
   repeat' first|refine s1 ?_|(refine kR ?_;first|refine F.c (hF) ?_|refine F.c (hS) ?_)|fail
   refine AW.freezeP (α:=Rep) (oo:=false) r 1 rfl rfl ?_
   refine F.loop (σ:=Nat) [2,3,4,5,18,19,20,21,22,23,24,25,26,27,28,29,30,31,32,33,34,35,36,37,38,39,40,41,42,43,44] (fun v=>[(18,.i v)]) (fun _=>[]) (fun v=>v≤r.d.length∧∀u,u<v→simV r u=true) (fun v=>r.d.length-v) 0 ⟨rfl,trivial⟩ trivial ⟨Nat.zero_le _,fun u hu=>by omega⟩ ?_
   rintro v ⟨v1,v2⟩
   by_cases hv:v<r.d.length
   ·have hd:0≤r.d.getD v default∧r.d.getD v default≤4:=allIn_spec c3 hv
    have hdn:=Int.toNat_of_nonneg hd.1
    generalize hn:(r.d.getD v default).toNat=n at hdn
    have hn4:n≤4:=by omega
    have hPw:=power_a r.p n hp (by omega)
    have hpb:=powI_bd hp n (by omega)
    have h8:(5:Int)^n≤625:=by
     have h:∀k:Nat,k≤4→(5:Int)^k≤625:=by decide
     exact h n hn4
    obtain⟨N,hN⟩:∃N:Nat,powI r.p n=N:=⟨(powI r.p n).toNat,by omega⟩
    have hNn:(powI r.p (r.d.getD v default).toNat).toNat=N:=by rw[hn,hN];rfl
    rw[hN] at hPw
    rw[hdn] at hPw
    have hNb:1≤N∧N≤625:=by omega
    have hyes:=simV_yes hNn
    have hno:=fun c=>simV_no (c:=c) hNn
    repeat' first|refine s1 ?_|fail
    refine F.loop (σ:=Nat) [2,5,23,24,25,26,27,28,29,30,31,32,33,34,35,36,37,38,39,40,41,42,43] (fun c=>[(5,.i c)]) (fun _=>[]) (fun c=>1≤c∧c≤N∧∀j,j<c→simP r v j=true) (fun c=>N-c) 1 ⟨rfl,trivial⟩ trivial ⟨Nat.le_refl _,hNb.1,fun j (hj:j<1)=>by obtain rfl:=Nat.lt_one_iff.mp hj;rfl⟩ ?_
    rintro c ⟨q1',q2',q3'⟩
    by_cases hcN:c<N
    ·have hV:=vectorOf_a r.p c n hp (by omega) (by omega)
     rw[hdn] at hV
     have hxl:(digV r.p c n).length=(r.d.getD v default).toNat:=by rw[digV_len,hn]
     have hxb:∀j,j<(r.d.getD v default).toNat→0≤(digV r.p c n).getD j default∧(digV r.p c n).getD j default≤r.p-1:=fun j hj=>by
      rw[hn] at hj
      rw[digV_get _ _ hj]
      exact digN_bd (by omega) _ _
     have hG:=generated_w r v (digV r.p c n) hr hv hxl hxb
     obtain⟨g1,g2⟩:=gen_dims hr hv hxl hxb
     obtain⟨f1,f2,f3,f4⟩:=dim_facts hr g2
     have hD:=subDims_a (genA r (begS r v (digV r.p c n))) (by omega) (fun i hi=>by have:=f2 i hi;omega)
     have hE:=equal_a (dimS (genA r (begS r v (digV r.p c n)))) r.d
     have hsc:simC r v c=decide (dimS (genA r (begS r v (digV r.p c n)))=r.d):=by unfold simC;rw[hn]
     rw[←hsc] at hE
     have hsp:simP r v c=simC r v c:=by unfold simP;rw[decide_eq_false (by omega),Bool.false_or]
     generalize genA r (begS r v (digV r.p c n))=GA at hG hD hE
     generalize digV r.p c n=X at hV hG
     generalize dimS GA=DG at hD hE
     cases hx:simC r v c with
     |true=>
      rw[hx] at hE hsp
      repeat' first|refine s1 ?_|(refine kR ?_;first|refine F.c (hPw) ?_)|fail
      refine AW.drawI G.mixed (by kernel_rfl) (by rfl) ?_
      intro T w1 MP1 I0
      refine Pz (.l 0<|.p 1<|.p 2<|.l 3<|.p 4<|.p 5<|.p 9<|.l 10<|.o 6 false<|.h 6<|.o 7 false<|.o 8 false<|.o 11 false<|.p 12<|.n) ?_
      repeat' first|(refine yU (i:=6) ?_;first|refine s1 ?_|refine F.c (hV) ?_)|(refine yH (i:=6) ?_ (fun h=>(iz (α:=Int) (ls:=X) 37 rfl rfl rfl h)))|(refine yU (i:=7) ?_;first|refine s1 ?_|refine F.w (hG) ?_)|(refine yU (i:=8) ?_;first|refine s1 ?_|refine F.c (hD) ?_)|(refine yU (i:=11) ?_;first|refine s1 ?_|refine F.c (hE) ?_)|refine xS ?_|refine s1 ?_|fail
      any_goals refine lf ?_
      all_goals
       repeat' first|refine s1 ?_|fail
       exact⟨c+1,F.fit ⟨rfl,trivial⟩ trivial,⟨by omega,by omega,snocP q3' hsp⟩,by omega⟩
     |false=>
      rw[hx] at hE hsp
      repeat' first|refine s1 ?_|(refine kR ?_;first|refine F.c (hPw) ?_)|fail
      refine AW.drawI G.mixed (by kernel_rfl) (by rfl) ?_
      intro T w1 MP1 I0
      refine Pz (.l 0<|.p 1<|.p 2<|.l 3<|.p 4<|.p 5<|.p 9<|.l 10<|.o 6 false<|.h 6<|.o 7 false<|.o 8 false<|.o 11 false<|.p 12<|.n) ?_
      repeat' first|(refine yU (i:=6) ?_;first|refine s1 ?_|refine F.c (hV) ?_)|(refine yH (i:=6) ?_ (fun h=>(iz (α:=Int) (ls:=X) 37 rfl rfl rfl h)))|(refine yU (i:=7) ?_;first|refine s1 ?_|refine F.w (hG) ?_)|(refine yU (i:=8) ?_;first|refine s1 ?_|refine F.c (hD) ?_)|(refine yU (i:=11) ?_;first|refine s1 ?_|refine F.c (hE) ?_)|refine xS ?_|refine s1 ?_|fail
      any_goals refine lf ?_
      all_goals
       repeat' first|refine s1 ?_|fail
       refine F.ret ?_
       rw[all_no hv (hno c hcN hsp)];rfl
    ·obtain rfl:c=N:=by omega
     have hvv:=hyes q3'
     repeat' first|refine s1 ?_|(refine kR ?_;first|refine F.c (hPw) ?_)|fail
     exact⟨v+1,F.fit ⟨rfl,trivial⟩ trivial,⟨by omega,snocP v2 hvv⟩,by omega⟩
   ·obtain rfl:v=r.d.length:=by omega
    repeat' first|refine s1 ?_|fail
    refine F.ret ?_
    rw[all_yes v2];rfl
end Go.Proofs.YtjmjamhhppoimaaGreat.V
namespace Go.Proofs.YtjmjamhhppoimaaGreat.V
open Go
set_option linter.unusedVariables false
def leads(P:Program)(g:FuncId):List FuncId:=(P.funcs[g]?).elim [] P.leadsTo
def Closed(P:Program)(T:List FuncId):Prop:=∀g∈T,∀h∈leads P g,h∈T
theorem recurses_at{P:Program}{f:FuncId}(g h:FuncId)(hg:(P.closure f).contains g=true)(hh:(leads P g).contains h=true)(hc:(P.closure h).contains g=true):P.recurses f=true:=by
 unfold Program.recurses
 rw[Bool.or_eq_true]
 refine .inr (List.any_eq_true.2 ⟨g,List.contains_iff_mem.1 hg,List.any_eq_true.2 ⟨h,?_,hc⟩⟩)
 exact List.contains_iff_mem.1 hh
end Go.Proofs.YtjmjamhhppoimaaGreat.V
