/- Texts that the proof needs: A211, Ut, A108. -/
import Derived.Test.YtjmjamhhppoimaaGreatQspA208
import Derived.Laws.Slices
namespace Go.Proofs.YtjmjamhhppoimaaGreat.V
open Go.RowKit G D
set_option linter.unusedVariables false
set_option linter.unusedSimpArgs false
set_option maxHeartbeats 1000000
set_option maxRecDepth 4000
theorem cmp_subs{r:Rep}{s t:List Spc}(h:cmpB r s t=true):isSub r s=true∧isSub r t=true:=by
 unfold cmpB at h
 simp only[Bool.and_eq_true] at h
 exact⟨h.1,h.2.1⟩
theorem spP_small(r:Rep)(f:List Mat):smallS (spP r f).1∧smallS (spP r f).2.1:=by
 cases h:(spP r f).2.2 with
 |true=>
  have:=cmp_subs (spP_comp h)
  exact⟨sub_small this.1,sub_small this.2⟩
 |false=>
  unfold spP at h⊢
  split at h
  ·cases h
  ·rename_i g
   rw[if_neg g]
   exact⟨nil_small,nil_small⟩
theorem fsP_small(r:Rep):smallS (fsP r).1∧smallS (fsP r).2.1:=by
 cases h:fsO r with
 |none=>rw[fsP_none h];exact⟨nil_small,nil_small⟩
 |some k=>rw[fsP_some h];exact spP_small r _
theorem fssP_facts(r:Rep):(smallS (fssP r).1∧smallS (fssP r).2.1)∧((fssP r).2.2=true→indI r=0∧cmpB r (fssP r).1 (fssP r).2.1=true∧∃f,idmP r (fssP r).1 (fssP r).2.1=(f,true)∧isIdem r f=true∧(kerP r r f).1=(fssP r).1∧(imgP r r f).1=(fssP r).2.1):=by
 unfold fssP
 by_cases hr:isRep r=true
 ·rw[if_pos hr]
  refine⟨fsP_small r,fun h=>?_⟩
  have hc:=fs_comp h
  refine⟨?_,hc,idpL r (fsP r).1 (fsP r).2.1,?_,?_⟩
  ·unfold indI
   rw[if_pos hr]
   by_cases h0:r.d.sum=0
   ·rw[if_pos h0]
   ·rw[if_neg h0,if_pos h]
  ·unfold idmP
   rw[if_pos hc]
  ·obtain⟨i1,i2,i3⟩:=idp_facts hc
   have im:=idp_mor hc
   refine⟨i1,?_,?_⟩
   ·unfold kerP
    rw[if_pos im]
    exact i2
   ·unfold imgP
    rw[if_pos im]
    exact i3
 ·rw[if_neg hr]
  exact⟨⟨nil_small,nil_small⟩,fun h=>by cases h⟩
end Go.Proofs.YtjmjamhhppoimaaGreat.V
namespace Go.Proofs.YtjmjamhhppoimaaGreat.V
open Go.RowKit G
set_option linter.unusedVariables false
set_option linter.unusedSimpArgs false
section
variable {P : Program} {w0 : World} {MP : Fr} {st : St} {d : Option Tmp} {ty : TypeId} {pos : String} {af : Array Edge} {g : Option (Nat × Bool)} {x lo : Operand} {t : Nat}
theorem A.slcD1{e sz bys:Nat}{zz:Value}[hu:HasU P t (.slice e)][hi:HasI P e sz bys zz]{xs:List (List AV)}(hx:evA st x=.dt false sz xs)(hl:evA st lo=.i 1)(h0:0<xs.length):ASil true P w0 MP st ⟨d,.slice t x (some lo) none none,ty,pos,af,g⟩ (.dt false sz (xs.drop 1)):=fun C Im E w hm=>by
 have h:=hm.ev x
 rw[hx] at h
 obtain⟨p,c,h1,h2,h3,h4⟩:=h.2.sl_inv
 have e2:=(hm.evI hl).1
 rcases h4 with rfl|⟨b,q,us,rfl,g1,g2,g3,g4⟩
 ·simp at h0
 match xs,h0,g3,g4,h1,h2 with
 |x0::xr,_,g3,g4,h1,h2=>
 rw[List.flatten_cons] at g3
 obtain⟨v1,v2,rfl,f1,f2⟩:=g3.split
 have l1:=f1.length
 rw[g4 x0 (by simp)] at l1
 have h7:=g2.drop
 rw[l1] at h7
 have hlen:(x0::xr).length=xr.length+1:=rfl
 rw[hlen] at h1 h2
 refine⟨sliced (some ⟨b,q,none⟩) 1 (xr.length+1) c sz,fun w'=>?_,rfl,?_⟩
 ·unfold Sil
  intro w2 _
  have hel:P.elem t=e:=by simp[Program.elem,hu.u]
  have ht:P.underlying t=some (.slice (P.elem t)):=by rw[hel];exact hu.u
  have h5:=run_sliceAt_slice (P:=P) (w:=w2) t (.slice (some ⟨b,q,none⟩) (xr.length+1) c) (some (.int .i64 1)) none none ht
  have h6:=run_slice_l (P:=P) (w:=w2) t (some ⟨b,q,none⟩) (xr.length+1) c ht .i64 1 (by omega) (by omega)
  have h8:=hi.sizeOf w2
  rw[hel,h8] at h6
  simp[execOp,h1,e2]
  rw[h5,h6]
  rfl
 ·unfold sliced
  show Imm Im w [.dt false sz xr] [_]
  cases xr with
  |nil=>
   exact .sl0 (by omega) .nil
  |cons y ys=>
   have hc:¬c=1:=by simp at h2;omega
   rw[if_neg hc]
   have:=Imm.sl (b:=b) (o:=q+sz) (c:=c-1) (sz:=sz) (xs:=y::ys) (us:=v2) (cs:=[]) (vs:=[]) (Im:=Im) (w:=w) (by simp at h2⊢;omega) (by omega) g1 h7 f2 (fun z hz=>g4 z (by simp at hz⊢;exact .inr hz)) .nil
   by_cases hz:sz=0
   ·subst hz
    simpa[Addr.add] using this
   ·simpa[Addr.add,hz] using this
end
end Go.Proofs.YtjmjamhhppoimaaGreat.V
namespace Go.Proofs.YtjmjamhhppoimaaGreat.V
open V.Enc (enc)
open Go.RowKit G D
set_option linter.unusedVariables false
set_option linter.unusedSimpArgs false
set_option maxHeartbeats 4000000
set_option maxRecDepth 4000
attribute [local irreducible] AW ARg ARA ARet MRet ASil AC AM ARI
theorem specIdempotentOf_a(r:Rep)(s t:List Spc):AC Tryz.prog 120 [.agg (enc false r),ar false s,ar false t] [.dt true 3 (E true (idmP r s t).1),.b (idmP r s t).2]:=by
 refine AC.go Tryz.func120 Tryz.ntmps120 rfl rfl fun w0 hw=>?_;simp[WfL,WfA,E_length,Enc.enc,In64] at hw
 have hJ:=specIsComplementPair_a r s t
 unfold idmP
 cases hc':cmpB r s t with
 |false=>
  rw[hc'] at hJ
  rw[if_neg (by simp)]
  repeat' first|refine s1 ?_|refine q1 ?_|(refine kR ?_;first|refine F.c (hJ) ?_)|fail
  (refine kZ ?_;exact F.ret rfl)
 |true=>
  rw[hc'] at hJ
  rw[if_pos rfl]
  obtain⟨h1,h2,h3⟩:=cmpB_spec hc'
  obtain⟨g1,g2,g3,g4⟩:=isSub_spec h1
  obtain⟨t1,t2,t3,t4⟩:=isSub_spec h2
  obtain⟨r1,r2,r3,r4⟩:=isRep_spec g1
  obtain⟨c1,c2,c3,c4⟩:=areDims_spec r2
  have h5:=okQ_spec c1
  have hp:=isF_pos r1
  have hat:=fun v hv=>cmp_at hc' (v:=v) hv
  have hll:=idpL_len r s t
  have hts:=fun k hk=>idpL_take r s t (k:=k) hk
  generalize idpL r s t=L at hll hts⊢
  repeat' first|refine s1 ?_|refine q1 ?_|(refine kR ?_;first|refine F.c (hJ) ?_)|fail
  refine AW.freezeP (α:=Rep) (oo:=false) r 3 rfl rfl ?_
  refine AW.open 8 3 (.inr rfl) ?_
  refine AW.only [(1,ar false s),(2,ar false t),(3,.ip (enc false r)),(8,.sl 1 0 0 0),(9,.i 0)] [(1,.live false 3 [])] 2 ⟨rfl,rfl,rfl,rfl,rfl,trivial⟩ ⟨rfl,trivial⟩ rfl ?_
  refine F.loop (σ:=Nat) [8,9,10,11,12,13,14,22,23,24,25,26,27,28,29,30,31,32,33,34,35,36,37,38,39,40,41,42,43,44,45,46,47,48,49,50,51,52,53,54,55,56,57,58,59,60,61,62,63,64,65,66,67,68,69,70,71,72,73,74,75,76,77,78,79,80,81,82,83,84,85,86,87,88,89,90,91,92,93,94,95,96,97,98,99,100,101,102,103,104] (fun k=>[(8,.sl 1 k 0 k),(9,.i k)]) (fun k=>[(1,.live false 3 (E true (L.take k)))]) (fun k=>k≤r.d.length) (fun k=>r.d.length-k) 0 ⟨rfl,rfl,trivial⟩ ⟨rfl,trivial⟩ (Nat.zero_le _) ?_
  rintro k k1
  have hp2:(L.take k).length=k:=by rw[List.length_take];omega
  by_cases hk:k<r.d.length
  ·obtain⟨z1,z2,z3,z4,z5,z6,z7,z8,z9⟩:=hat k hk
   have ht:=hts k hk
   generalize hS':s.getD k default=S at*
   generalize hT':t.getD k default=T at*
   generalize (r.d.getD k default).toNat=n at z3 z4 z5 z6 z7 z8 z9 ht
   have hlen:(S.b++T.b).length=n:=by rw[List.length_append];exact z3
   have hR:=l5Rows_a n (S.b++T.b) (by omega) (by omega) (z6.app z7).len
   have hTr:=l3Transpose_a (S.b++T.b).length n (vecF (S.b++T.b)) (by omega) (by omega)
   rw[hlen,show tm n n (fun i j=>vecF (S.b++T.b) j i)=botM n S T from rfl] at hTr
   rw[hlen,←z4] at hR
   have hI:=l4Inverse_a r.p n (fcF (S.b++T.b)) r1 (by omega) z8 z9
   rw[show tm n n (fcF (S.b++T.b))=botM n S T from rfl] at hI
   have hbk:BdF r.p n n (kepF S T):=fun i hi j hj=>by
    unfold kepF
    by_cases h:j<S.b.length
    ·rw[if_pos h];omega
    ·rw[if_neg h];exact z8 i hi j hj
   have hZ:=l3ZeroT_a n n (by omega) (by omega)
   rw[←z4,←onesK_start S.b.length] at hZ
   have hM1:=l3MulM_a (isMat_tab r1 (by omega) (by omega) z8) (isMat_tab r1 (by omega) (by omega) (ones_bd hp.1 S.b.length n)) rfl
   rw[show tm n n (fcF (S.b++T.b))=botM n S T from rfl,kep_mul hp.1 z8] at hM1
   have hM2:=l3MulM_a (isMat_tab r1 (by omega) (by omega) hbk) (isMat_tab r1 (by omega) (by omega) (invF_bd r1 z8)) rfl
   rw[show tm n n (kepF S T)=kepM n S T from rfl,show mulM r.p (kepM n S T) (tm n n (invF r.p n (fcF (S.b++T.b))))=idpM r.p n S T from rfl] at hM2
   have hos:=fun i (h:S.b.length≤i)=>onesK_set h
   have hoa:=onesK_all S.b.length n
   generalize idpM r.p n S T=Y at hM2 ht
   generalize hIV:tm n n (invF r.p n (fcF (S.b++T.b)))=IV at hI hM2
   generalize kepM n S T=KM at hM1 hM2
   generalize botM n S T=BM at hTr hI hM1
   generalize hRM:tm n n (vecF (S.b++T.b))=RM at hR hTr
   subst hS' hT'
   have hsl:(s.getD k default).b.length≤n:=by omega
   generalize hOK:onesK (s.getD k default).b.length=OK at hZ hos hoa
   repeat' first|refine s1 ?_|refine q1 ?_|fail
   apply V.tailedT
   ·intro tail
    refine AW.drawI G.mixed (by kernel_rfl) (by rfl) ?_
    intro T w1 MP1 I0
    refine Pz (.p 0<|.l 1<|.p 2<|.p 3<|.l 4<|.p 6<|.p 7<|.p 8<|.p 9<|.l 10<|.p 12<|.p 13<|.p 14<|.p 15<|.l 16<|.a [(5,false,.a [(11,false,.a [(17,false,.a [(18,false,.a [(19,false,.o 20 false<|.o 21 false<|.n),(20,false,.o 19 false<|.o 21 false<|.n)]),(20,false,.o 18 false<|.o 19 false<|.o 21 false<|.n)]),(20,false,.o 17 false<|.o 18 false<|.o 19 false<|.o 21 false<|.n)]),(20,false,.o 11 false<|.o 17 false<|.o 18 false<|.o 19 false<|.o 21 false<|.n)]),(20,false,.o 5 false<|.o 11 false<|.o 17 false<|.o 18 false<|.o 19 false<|.o 21 false<|.n)]) ?_
    repeat' first|(refine yU (i:=11) ?_;first|refine s1 ?_|refine F.aLN (List Int) (oo:=false) ?_)|(refine yU (i:=17) ?_;first|refine s1 ?_|refine F.aL (List Int) (oo:=false) ?_)|refine xSQ ?_|refine s1 ?_|refine q1 ?_|refine xC ?_ ?_|exact trivial|(refine kR ?_;first|refine F.c (hR) ?_|refine F.c (hTr) ?_)|fail
    any_goals refine lf ?_
    all_goals
     refine AW.putV 10 2 rfl rfl rfl rfl (E_length _ _) (E_pure _ _) rfl ?_
     refine AW.freezeP (α:=Mat) (oo:=true) BM 10 rfl rfl ?_
     refine AW.only [(1,ar false s),(2,ar false t),(3,.ip (enc false r)),(8,.sl 1 k 0 k),(9,.i k),(10,.ip (enc false BM))] [(1,.live false 3 (E true (L.take k)))] 6 ⟨rfl,rfl,rfl,rfl,rfl,rfl,trivial⟩ ⟨rfl,trivial⟩ rfl ?_
     exact tail.t
   ·repeat' first|refine s1 ?_|refine q1 ?_|(refine kR ?_;first|refine F.c (hI) ?_)|fail
    refine AW.putV 11 2 rfl rfl rfl rfl (E_length _ _) (E_pure _ _) rfl ?_
    refine AW.freezeP (α:=Mat) (oo:=true) IV 11 rfl rfl ?_
    refine AW.drawI G.mixed (by kernel_rfl) (by rfl) ?_
    intro T w1 MP1 I0
    refine Pz (.p 0<|.l 1<|.p 2<|.p 3<|.l 4<|.p 5<|.l 6<|.p 7<|.p 8<|.l 9<|.a [(10,false,.o 11 false<|.o 12 false<|.n),(11,false,.o 10 false<|.o 12 false<|.n)]) ?_
    repeat' first|refine xSQ ?_|refine s1 ?_|refine q1 ?_|refine xC ?_ ?_|exact trivial|(refine kR ?_;first|refine F.c (hZ) ?_)|fail
    any_goals refine lf ?_
    all_goals
     repeat' first|refine s1 ?_|refine q1 ?_|fail
     first|refine F.loop (σ:=Nat) [14,72,73,74,75,76,77,78,79,80,81,82,83,84,85,86,87,88,89,90,91,92] (fun i=>[(14,.i i)]) (fun i=>[(8,.live false 1 (E true (tab n n (OK i))))]) (fun i=>(s.getD k default).b.length≤i∧i≤n) (fun i=>n-i) (s.getD k default).b.length ⟨rfl,trivial⟩ ⟨rfl,trivial⟩ ⟨Nat.le_refl _,hsl⟩ ?_|refine F.loop (σ:=Nat) [14,72,73,74,75,76,77,78,79,80,81,82,83,84,85,86,87,88,89,90,91,92] (fun i=>[(14,.i i)]) (fun i=>[(9,.live false 1 (E true (tab n n (OK i))))]) (fun i=>(s.getD k default).b.length≤i∧i≤n) (fun i=>n-i) (s.getD k default).b.length ⟨rfl,trivial⟩ ⟨rfl,trivial⟩ ⟨Nat.le_refl _,hsl⟩ ?_
     rintro i ⟨i0,i1⟩
     by_cases hi:i<n
     ·have hsi:=hos i i0
      have hix:(i:Int)*r.d.getD k default+(i:Int)=(i:Int)*(n:Int)+(i:Int):=by rw[z4]
      obtain⟨u1,u2⟩:=tab_in (i:=i) (j:=i) (r:=n) (c:=n) hi hi (by omega) (by omega)
      rw[←z4] at u1 u2
      generalize OK i=G0 at hsi⊢
      repeat' first|refine s1 ?_|refine q1 ?_|fail
      refine AW.draw 12 G.mixed (by kernel_rfl) ?_
      refine Pz (.p 0<|.l 1<|.p 2<|.p 3<|.l 4<|.p 5<|.p 6<|.l 7<|.p 8<|.p 9<|.p 10<|.p 11<|.o 12 false<|.n) ?_
      repeat' first|refine yP (i:=11) ?_ (hs:=by exact(A.idxQ (r:=n) (c:=n) (i:=i) (j:=i) rfl (congrArg AV.i hix) rfl (by omega) (by omega) (by first|rfl|(simp[tab_len];done)) (by first|rfl|(simp[tab_len];done))))|refine ySQ ?_|refine s1 ?_|refine q1 ?_|fail
      any_goals refine lf ?_
      all_goals
       repeat' first|refine s1 ?_|refine q1 ?_|fail
       exact⟨i+1,F.fit ⟨rfl,trivial⟩ ⟨obE (by rw[←hsi]),trivial⟩,⟨by omega,by omega⟩,by omega⟩
     ·obtain rfl:i=n:=by omega
      rw[hoa]
      repeat' first|refine s1 ?_|refine q1 ?_|fail
      refine AW.putV 13 2 rfl rfl rfl rfl (by rw[E_length,tab_len];exact(tab_len _ _ _).symm) (E_pure _ _) rfl ?_
      refine AW.freezeP (α:=Mat) (oo:=true) (tm i i (onesF (s.getD k default).b.length)) 13 rfl rfl ?_
      refine AW.drawI G.mixed (by kernel_rfl) (by rfl) ?_
      intro T w1 MP1 I0
      refine Pz (.p 0<|.p 1<|.l 2<|.p 3<|.l 4<|.l 5<|.l 6<|.l 8<|.o 7 false<|.o 9 false<|.o 10 false<|.o 11 false<|.p 12<|.n) ?_
      repeat' first|(refine yU (i:=7) ?_;first|refine s1 ?_|refine F.c (hM1) ?_)|(refine yU (i:=9) ?_;first|refine s1 ?_|refine F.c (hM2) ?_)|refine xSQ ?_|refine s1 ?_|refine q1 ?_|(refine kR ?_;first|refine F.a1 Mat (a:=Y) ?_)|fail
      any_goals refine lf ?_
      all_goals
       repeat' first|refine s1 ?_|refine q1 ?_|fail
       exact⟨k+1,F.fit ⟨rfl,rfl,trivial⟩ ⟨obE (by rw[ht]),trivial⟩ (ha:=by repeat first|exact AgrA.refl|exact AgrA.lit rfl|refine AgrA.put rfl ?_|refine AgrA.upd rfl ?_|refine AgrA.head rfl rfl ?_) (hh:=by repeat first|exact AgrH.refl|exact AgrH.lit rfl|refine AgrH.upd rfl ?_|refine AgrH.head rfl ?_|refine AgrH.addO (by simp<;>omega) ?_),by omega,by omega⟩
  ·obtain rfl:k=r.d.length:=by omega
   have e:L.take r.d.length=L:=List.take_of_length_le (by omega)
   rw[e]
   clear hp2 e
   have hsn:s.length=r.d.length:=g2
   rw[←hll]
   repeat' first|refine s1 ?_|refine q1 ?_|fail
   (refine kZ ?_;exact F.ret rfl)
end Go.Proofs.YtjmjamhhppoimaaGreat.V
