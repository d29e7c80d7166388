/- Texts that the proof needs: A94, A104. -/
import Derived.Test.YtjmjamhhppoimaaGreatQraA103
namespace Go.Proofs.YtjmjamhhppoimaaGreat.V
open V.Enc (enc)
open Go.RowKit G D
set_option linter.unusedVariables false
set_option linter.unusedSimpArgs false
set_option maxHeartbeats 4000000
set_option maxRecDepth 4000
attribute [local irreducible] AW ARg ARA ARet MRet ASil AC AM ARI
theorem powerOf_a{p:Int}{m:Mat}(h:isMat p m=true)(hs:m.r=m.c)(n:Nat)(hn:n≤100):AC Tryz.prog 358 [.i p,.agg (enc false m),.i (n:Int)] [.agg (enc true (powM p m n))]:=by
 refine AC.go Tryz.func358 Tryz.ntmps358 rfl rfl fun w0 hw=>?_;simp[WfL,WfA,E_length,Enc.enc,In64] at hw
 obtain⟨h0,h1,h2,_,_⟩:=isMat_spec h
 have hI:=identity_a m.r.toNat (by omega)
 rw[Int.toNat_of_nonneg h1.1,show tm m.r.toNat m.r.toNat idF=powM p m 0 from rfl] at hI
 have hT:∀k,AC Tryz.prog 266 [.i p,.agg (enc false (powM p m k)),.agg (enc false m)] [.agg (enc true (powM p m (k+1)))]:=fun k=>by
  obtain⟨a,b,c⟩:=pow_ok h hs k
  exact timesM_a a h c
 generalize powM p m=PM at hI hT⊢
 repeat' first|refine s1 ?_|(refine kR ?_;first|refine F.c (hI) ?_)|fail
 refine AW.putV 7 2 rfl rfl rfl rfl (E_length _ _) (E_pure _ _) rfl ?_
 refine F.loop (σ:=Nat) [12,13,14,15,16,17,18] (fun k=>[(12,.i k)]) (fun k=>[(3,.live false 3 (E true [PM k]))]) (fun k=>k≤n) (fun k=>n-k) 0 ⟨rfl,trivial⟩ ⟨rfl,trivial⟩ (Nat.zero_le _) ?_
 rintro k k1
 by_cases hk:k<n
 ·have hTk:=hT k
  generalize hY:PM (k+1)=Y at hTk
  refine AW.takeE (α:=Mat) (o:=3) (k:=0) (j:=2) (ls:=[PM k]) rfl (by simp) rfl (E_length _ _) ?_
  repeat' first|refine AW.putV (o2:=5) 7 2 rfl rfl rfl rfl (E_length _ _) (E_pure _ _) rfl ?_|refine s1 ?_|(refine kR ?_;first|refine F.c (hTk) ?_)|fail
  exact⟨k+1,F.fit ⟨rfl,trivial⟩ ⟨obE (by rw[hY];rfl),trivial⟩,by omega,by omega⟩
 ·obtain rfl:k=n:=by omega
  refine AW.takeE (α:=Mat) (o:=3) (k:=0) (j:=2) (ls:=[PM k]) rfl (by simp) rfl (E_length _ _) ?_
  repeat' first|refine s1 ?_|fail
  (refine kZ ?_;exact F.ret rfl)
theorem powL_take{p:Int}{f:List Mat}{n k:Nat}(h:k<f.length):(powL p f n).take (k+1)=(powL p f n).take k++[powM p (f.getD k default) n]:=map_take (fun m=>powM p m n) h
theorem pow_facts{r:Rep}{f:List Mat}(h:isMor r r f=true):(powL r.p f 8).length≤5∧r.d.length≤5∧(∀v,v<f.length→isMat r.p (f.getD v default)=true∧(f.getD v default).r=(f.getD v default).c)∧(∀v,v<(powL r.p f 8).length→isMat r.p ((powL r.p f 8).getD v default)=true)∧sameSL (kerLs r.p (powL r.p f 8)) (radK r 0)=decide ((dimS (kerLs r.p (powL r.p f 8))).sum=0)∧sameSL (imgLs r.p (powL r.p f 8)) (radK r 0)=decide ((dimS (imgLs r.p (powL r.p f 8))).sum=0)∧(∀v,v<(powL r.p f 8).length→isSpc r.p ((kerLs r.p (powL r.p f 8)).getD v default)=true∧isSpc r.p ((imgLs r.p (powL r.p f 8)).getD v default)=true):=by
 have h2:=mor_pow h 8
 obtain⟨m1,m2,m3,m4,m5⟩:=mor_ok h2
 obtain⟨n1,n2,n3,n4,n5⟩:=mor_ok h
 have hk:=fun v (hv:v<(powL r.p f 8).length)=>kerLs_ok h2 hv
 have hi:=fun v (hv:v<(powL r.p f 8).length)=>imgLs_ok h2 hv
 have e1:(kerLs r.p (powL r.p f 8)).length=(powL r.p f 8).length:=by simp[kerLs]
 have e2:(imgLs r.p (powL r.p f 8)).length=(powL r.p f 8).length:=by simp[imgLs]
 refine⟨m2,by omega,fun v hv=>?_,fun v hv=>(m5 v hv).1,same_zero (by omega) fun v hv=>?_,same_zero (by omega) fun v hv=>?_,fun v hv=>?_⟩
 ·obtain⟨a,b,c⟩:=n5 v hv
  exact⟨a,by rw[b,c]⟩
 ·have hv:v<(powL r.p f 8).length:=by omega
  rw[(hk v hv).1]
  exact(m5 v hv).2.1
 ·have hv:v<(powL r.p f 8).length:=by omega
  rw[(hi v hv).1]
  exact(m5 v hv).2.2
 ·rw[(hk v hv).1,(hi v hv).1]
  exact⟨(hk v hv).2,(hi v hv).2⟩
theorem implsplitBy_a(r:Rep)(f:List Mat)(h:isMor r r f=true):AC Tryz.prog 272 [.agg (enc false r),ar false f] [.dt true 2 (E true (spP r f).1),.dt true 2 (E true (spP r f).2.1),.b (spP r f).2.2]:=by
 refine AC.go Tryz.func272 Tryz.ntmps272 rfl rfl fun w0 hw=>?_;simp[WfL,WfA,E_length,Enc.enc,In64] at hw
 obtain⟨q1,q2,q3,q4,q5,q6,q7⟩:=pow_facts h
 obtain⟨n1,n2,n3,n4,n5⟩:=mor_ok h
 have hll:=powL_len r.p f 8
 have hP:=fun v hv=>powerOf_a (q3 v hv).1 (q3 v hv).2 8 (by omega)
 have hts:=fun k hk=>powL_take (p:=r.p) (f:=f) (n:=8) (k:=k) hk
 have hK:=kernelSub_a r.p (powL r.p f 8) q4 (by omega)
 have hI:=imageSub_a r.p (powL r.p f 8) q4 (by omega)
 have e1:(kerLs r.p (powL r.p f 8)).length=(powL r.p f 8).length:=by simp[kerLs]
 have e2:(imgLs r.p (powL r.p f 8)).length=(powL r.p f 8).length:=by simp[imgLs]
 have b1:∀i,i<(kerLs r.p (powL r.p f 8)).length→((kerLs r.p (powL r.p f 8)).getD i default).b.length≤8:=fun i hi=>by
  have:=(q7 i (by omega)).1
  have a:=isSpc_le this
  have b:=(isSpc_spec this).2.1
  omega
 have b2:∀i,i<(imgLs r.p (powL r.p f 8)).length→((imgLs r.p (powL r.p f 8)).getD i default).b.length≤8:=fun i hi=>by
  have:=(q7 i (by omega)).2
  have a:=isSpc_le this
  have b:=(isSpc_spec this).2.1
  omega
 have hDK:=subDims_a (kerLs r.p (powL r.p f 8)) (by omega) (fun i hi=>by have:=b1 i hi;omega)
 have hDI:=subDims_a (imgLs r.p (powL r.p f 8)) (by omega) (fun i hi=>by have:=b2 i hi;omega)
 have l1:=dimS_len (kerLs r.p (powL r.p f 8))
 have l2:=dimS_len (imgLs r.p (powL r.p f 8))
 have hSK:=sumOf_a (dimS (kerLs r.p (powL r.p f 8))) (by omega) (fun j hj=>by rw[dimS_get (by omega)];have:=b1 j (by omega);omega)
 have hSI:=sumOf_a (dimS (imgLs r.p (powL r.p f 8))) (by omega) (fun j hj=>by rw[dimS_get (by omega)];have:=b2 j (by omega);omega)
 unfold spP
 generalize kerLs r.p (powL r.p f 8)=K at hK hDK hSK⊢
 generalize imgLs r.p (powL r.p f 8)=I at hI hDI hSI⊢
 clear q4 q5 q6 q7 e1 e2 b1 b2 l1 l2
 generalize powL r.p f 8=L at hll hts hK hI q1
 generalize dimS K=DK at hDK hSK⊢
 generalize dimS I=DI at hDI hSI⊢
 repeat' first|refine s1 ?_|fail
 refine AW.open 7 3 (.inl rfl) ?_
 refine F.loop (σ:=Nat) [7,9,14,15,16,17,18,19,20,21,22,23,24,25] (fun k=>[(7,.sl 1 k 0 k),(14,.i k)]) (fun k=>[(1,.live false 3 (E true (L.take k)))]) (fun k=>k≤f.length) (fun k=>f.length-k) 0 ⟨rfl,rfl,trivial⟩ ⟨rfl,trivial⟩ (Nat.zero_le _) ?_
 rintro k k1
 have hp2:(L.take k).length=k:=by rw[List.length_take];omega
 by_cases hk:k<f.length
 ·have hPk:AC Tryz.prog 358 [.i r.p,.agg (enc false (f.getD k default)),.i 8] [.agg (enc true (powM r.p (f.getD k default) 8))]:=hP k hk
  have ht:=hts k hk
  generalize powM r.p (f.getD k default) 8=Y at hPk ht
  repeat' first|refine s1 ?_|(refine kR ?_;first|refine F.c (hPk) ?_|refine F.a1 Mat (a:=Y) ?_)|fail
  exact⟨k+1,F.fit ⟨rfl,rfl,trivial⟩ ⟨obE (by rw[ht]),trivial⟩,by omega,by omega⟩
 ·obtain rfl:k=f.length:=by omega
  have e:L.take f.length=L:=List.take_of_length_le (by omega)
  rw[e]
  clear hp2 e
  rw[←hll]
  repeat' first|refine s1 ?_|fail
  refine AW.draw 10 G.mixed (by kernel_rfl) ?_
  refine Pz (.p 0<|.l 1<|.p 2<|.p 4<|.l 5<|.p 6<|.o 3 true<|.o 7 true<|.p 8<|.p 9<|.n) ?_
  repeat' first|refine yS ?_|refine s1 ?_|(refine kR ?_;first|refine F.c (hK) ?_|refine F.c (hI) ?_)|fail
  any_goals refine lf ?_
  all_goals
   by_cases z1:DK.sum=0
   ·rw[if_neg fun x=>x.2.1 z1]
    rw[z1] at hSK
    repeat' first|refine s1 ?_|(refine kR ?_;first|refine F.c (hDK) ?_|refine F.c (hSK) ?_)|fail
    (refine kZ ?_;exact F.ret rfl)
   ·by_cases z2:DI.sum=0
    ·rw[if_neg fun x=>x.2.2 z2]
     rw[z2] at hSI
     repeat' first|refine s1 ?_|(refine kR ?_;first|refine F.c (hDK) ?_|refine F.c (hSK) ?_|refine F.c (hDI) ?_|refine F.c (hSI) ?_)|fail
     (refine kZ ?_;exact F.ret rfl)
    ·rw[if_pos ⟨h,z1,z2⟩]
     repeat' first|refine s1 ?_|(refine kR ?_;first|refine F.c (hDK) ?_|refine F.c (hSK) ?_|refine F.c (hDI) ?_|refine F.c (hSI) ?_)|fail
     (refine kZ ?_;exact F.ret rfl)
def fsO(r:Rep):Option Nat:=fstN (fun c=>(spP r (numL r r c)).2.2) (mstH r r-1) 1
def fsP(r:Rep):List Spc×List Spc×Bool:=match fsO r with
 |some k=>spP r (numL r r k)
 |none=>([],[],false)
theorem fsP_some{r:Rep}{k:Nat}(h:fsO r=some k):fsP r=spP r (numL r r k):=by unfold fsP;rw[h]
theorem fsP_none{r:Rep}(h:fsO r=none):fsP r=([],[],false):=by unfold fsP;rw[h]
theorem findSplit_a(r:Rep)(hr:isRep r=true):AC Tryz.prog 261 [.agg (enc false r),ar false (homL r r)] [.dt true 2 (E true (fsP r).1),.dt true 2 (E true (fsP r).2.1),.b (fsP r).2.2]:=by
 refine AC.go Tryz.func261 Tryz.ntmps261 rfl rfl fun w0 hw=>?_;simp[WfL,WfA,E_length,Enc.enc,In64] at hw
 have hf:=fitR_refl hr
 have h:=Fits.of hf
 have hp:=isF_pos h.f
 have hle:=rkE_le r r hf
 have hlen:=hkL_len r r hf
 have hll:=homL_len r r
 have hC:=countHoms_a r.p (hkL r r).length hp (by omega)
 have hN:=fun(k:Nat) (hk:k<3000)=>numbered_a r r k hf (by omega)
 have hI:=fun k:Nat=>implsplitBy_a r (numL r r k) (num_mor hf k)
 obtain⟨hmn,hm1,hm3⟩:=mstH_eq hf
 have hO:fsO r=fstN (fun c=>(spP r (numL r r c)).2.2) (mstH r r-1) 1:=rfl
 have hS:=fun k=>fsP_some (r:=r) (k:=k)
 have hE:=fsP_none (r:=r)
 rw[←hll] at hC hmn
 generalize fsP r=R at hS hE⊢
 generalize fsO r=O at hO hS hE
 generalize homL r r=HL at*
 generalize cntH r.p HL.length=X at*
 generalize mstH r r=n at*
 repeat' first|refine s1 ?_|fail
 refine F.loop (σ:=Nat) [4,5,6,7,8,9,10,11,12,13,14,15,16,17,18,19,20,21,22,23,24,25,26,27,28,29,30,31,32,33,34] (fun k=>[(7,.i k)]) (fun _=>[]) (fun k=>1≤k∧k≤n∧O=fstN (fun c=>(spP r (numL r r c)).2.2) (n-k) k) (fun k=>n-k) 1 ⟨rfl,trivial⟩ trivial ⟨Nat.le_refl _,hm1,hO⟩ ?_
 rintro k ⟨k0,k1,k2⟩
 by_cases hk:k<n
 ·have hNk:=hN k (by omega)
  have hIk:=hI k
  cases hx:(spP r (numL r r k)).2.2 with
  |true=>
   rw[fstN_hit (P:=fun c=>(spP r (numL r r c)).2.2) hk hx] at k2
   have hR:=hS k k2
   subst hR
   rw[hx] at hIk⊢
   generalize spP r (numL r r k)=Z at hIk⊢
   obtain⟨Z1,Z2,Z3⟩:=Z
   dsimp only at hIk⊢
   generalize numL r r k=M at hNk hIk
   repeat' first|refine s1 ?_|(refine kR ?_;first|refine F.c (hC) ?_|refine F.sil (A.min2 rfl rfl) rfl rfl ?_)|fail
   refine AW.draw 14 G.mixed (by kernel_rfl) ?_
   refine Pz (.l 0<|.l 1<|.l 2<|.p 3<|.p 4<|.o 5 true<|.o 6 true<|.p 7<|.p 8<|.p 9<|.p 10<|.p 11<|.p 12<|.p 13<|.n) ?_
   repeat' first|refine yS ?_|refine s1 ?_|(refine kR ?_;first|refine F.c (hNk) ?_|refine F.c (hIk) ?_)|fail
   any_goals refine lf ?_
   all_goals
    repeat' first|refine s1 ?_|fail
    (refine kZ ?_;exact F.ret rfl)
  |false=>
   rw[fstN_miss (P:=fun c=>(spP r (numL r r c)).2.2) hk hx] at k2
   rw[hx] at hIk
   generalize spP r (numL r r k)=Z at hIk
   obtain⟨Z1,Z2,Z3⟩:=Z
   dsimp only at hIk
   generalize numL r r k=M at hNk hIk
   repeat' first|refine s1 ?_|(refine kR ?_;first|refine F.c (hC) ?_|refine F.sil (A.min2 rfl rfl) rfl rfl ?_)|fail
   refine AW.draw 14 G.mixed (by kernel_rfl) ?_
   refine Pz (.l 0<|.l 1<|.l 2<|.p 3<|.p 4<|.o 5 true<|.o 6 true<|.p 7<|.p 8<|.p 9<|.p 10<|.p 11<|.p 12<|.p 13<|.n) ?_
   repeat' first|refine yS ?_|refine s1 ?_|(refine kR ?_;first|refine F.c (hNk) ?_|refine F.c (hIk) ?_)|fail
   any_goals refine lf ?_
   all_goals
    repeat' first|refine s1 ?_|fail
    exact⟨k+1,F.fit ⟨rfl,trivial⟩ trivial,⟨by omega,by omega,k2⟩,by omega⟩
 ·obtain rfl:k=n:=by omega
  rw[Nat.sub_self] at k2
  have hR:=hE k2
  subst hR
  repeat' first|refine s1 ?_|(refine kR ?_;first|refine F.c (hC) ?_|refine F.sil (A.min2 rfl rfl) rfl rfl ?_)|fail
  (refine kZ ?_;exact F.ret rfl)
def indI(r:Rep):Int:=if isRep r=true then(if r.d.sum=0 then 0 else if(fsP r).2.2=true then 0 else if cntH r.p (hkL r r).length≤3000 then 1 else-1) else-1
theorem isIndec_a(r:Rep)(hr:isRep r=true):AC Tryz.prog 157 [.agg (enc false r)] [.i (indI r)]:=by
 refine AC.go Tryz.func157 Tryz.ntmps157 rfl rfl fun w0 hw=>?_;simp[WfL,WfA,E_length,Enc.enc,In64] at hw
 unfold indI
 rw[if_pos hr]
 have hf:=fitR_refl hr
 have hp:=isF_pos (Fits.of hf).f
 have hl:=homD_len r r hf
 have hll:=homL_len r r
 have hB:=homBasis_a r r hf
 have hI:=findSplit_a r hr
 have hC:=countHoms_a r.p (hkL r r).length hp (by omega)
 obtain⟨r1,r2,r3,r4⟩:=isRep_spec hr
 obtain⟨c1,c2,c3,c4⟩:=areDims_spec r2
 have h5:=okQ_spec c1
 have hS:=sumOf_a r.d (by omega) (fun j hj=>by have:0≤r.d.getD j default∧r.d.getD j default≤4:=allIn_spec c3 hj;omega)
 rw[←hll] at hC⊢
 generalize fsP r=R at hI⊢
 obtain⟨R1,R2,R3⟩:=R
 dsimp only at hI⊢
 generalize homL r r=HL at*
 generalize cntH r.p HL.length=X at*
 generalize r.d.sum=sm at*
 by_cases hs:sm=0
 ·rw[if_pos hs]
  repeat' first|refine s1 ?_|(refine kR ?_;first|refine F.c (hB) ?_|refine F.c (hI) ?_|refine F.c (hS) ?_)|fail
  (refine kZ ?_;exact F.ret rfl)
 ·rw[if_neg hs]
  cases R3 with
  |true=>
   rw[if_pos rfl]
   repeat' first|refine s1 ?_|(refine kR ?_;first|refine F.c (hB) ?_|refine F.c (hI) ?_|refine F.c (hS) ?_)|fail
   (refine kZ ?_;exact F.ret rfl)
  |false=>
   rw[if_neg (by simp)]
   by_cases hx:X≤3000
   ·rw[if_pos hx]
    repeat' first|refine s1 ?_|(refine kR ?_;first|refine F.c (hB) ?_|refine F.c (hI) ?_|refine F.c (hS) ?_|refine F.c (hC) ?_)|fail
    (refine kZ ?_;exact F.ret rfl)
   ·rw[if_neg hx]
    repeat' first|refine s1 ?_|(refine kR ?_;first|refine F.c (hB) ?_|refine F.c (hI) ?_|refine F.c (hS) ?_|refine F.c (hC) ?_)|fail
    (refine kZ ?_;exact F.ret rfl)
theorem implIsIndecomposable_a(r:Rep):AC Tryz.prog 19 [.agg (enc false r)] [.i (indI r)]:=by
 refine AC.go Tryz.func19 Tryz.ntmps19 rfl rfl fun w0 hw=>?_;simp[WfL,WfA,E_length,Enc.enc,In64] at hw
 have hF:=implIsRep_a r
 cases hr:isRep r with
 |false=>
  rw[hr] at hF
  unfold indI
  rw[if_neg (by simp[hr])]
  repeat' first|refine s1 ?_|(refine kR ?_;first|refine F.c (hF) ?_)|fail
  (refine kZ ?_;exact F.ret rfl)
 |true=>
  rw[hr] at hF
  have hI:=isIndec_a r hr
  generalize indI r=x at hI⊢
  repeat' first|refine s1 ?_|(refine kR ?_;first|refine F.c (hF) ?_|refine F.c (hI) ?_)|fail
  (refine kZ ?_;exact F.ret rfl)
end Go.Proofs.YtjmjamhhppoimaaGreat.V
