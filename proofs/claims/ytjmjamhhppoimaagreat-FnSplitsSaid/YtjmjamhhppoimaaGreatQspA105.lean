/- Texts that the proof needs: A104, A105. -/
import Derived.Test.YtjmjamhhppoimaaGreatQspA103
import Derived.Test.YtjmjamhhppoimaaGreatQspA94
namespace Go.Proofs.YtjmjamhhppoimaaGreat.V
open V.Enc (enc)
open Go.RowKit G D
set_option linter.unusedVariables false
set_option linter.unusedSimpArgs false
set_option maxHeartbeats 4000000
set_option maxRecDepth 4000
attribute [local irreducible] AW ARg ARA ARet MRet ASil AC AM ARI
def fsO(r:Rep):Option Nat:=fstN (fun c=>(spP r (numL r r c)).2.2) (mstH r r-1) 1
def fsP(r:Rep):List Spc×List Spc×Bool:=match fsO r with
 |some k=>spP r (numL r r k)
 |none=>([],[],false)
theorem fsP_some{r:Rep}{k:Nat}(h:fsO r=some k):fsP r=spP r (numL r r k):=by unfold fsP;rw[h]
theorem fsP_none{r:Rep}(h:fsO r=none):fsP r=([],[],false):=by unfold fsP;rw[h]
theorem findSplit_a(r:Rep)(hr:isRep r=true):AC Tryz.prog 261 [.agg (enc false r),ar false (homL r r)] [.dt true 2 (E true (fsP r).1),.dt true 2 (E true (fsP r).2.1),.b (fsP r).2.2]:=by
 refine AC.go Tryz.func261 Tryz.ntmps261 rfl rfl fun w0 hw=>?_;simp[WfL,WfA,E_length,Enc.enc,In64] at hw
 have hf:=fitR_refl hr
 have h:=Fits.of hf
 have hp:=isF_pos h.f
 have hle:=rkE_le r r hf
 have hlen:=hkL_len r r hf
 have hll:=homL_len r r
 have hC:=countHoms_a r.p (hkL r r).length hp (by omega)
 have hN:=fun(k:Nat) (hk:k<3000)=>numbered_a r r k hf (by omega)
 have hI:=fun k:Nat=>implsplitBy_a r (numL r r k) (num_mor hf k)
 obtain⟨hmn,hm1,hm3⟩:=mstH_eq hf
 have hO:fsO r=fstN (fun c=>(spP r (numL r r c)).2.2) (mstH r r-1) 1:=rfl
 have hS:=fun k=>fsP_some (r:=r) (k:=k)
 have hE:=fsP_none (r:=r)
 rw[←hll] at hC hmn
 generalize fsP r=R at hS hE⊢
 generalize fsO r=O at hO hS hE
 generalize homL r r=HL at*
 generalize cntH r.p HL.length=X at*
 generalize mstH r r=n at*
 repeat' first|refine s1 ?_|fail
 refine F.loop (σ:=Nat) [4,5,6,7,8,9,10,11,12,13,14,15,16,17,18,19,20,21,22,23,24,25,26,27,28,29,30,31,32,33,34] (fun k=>[(7,.i k)]) (fun _=>[]) (fun k=>1≤k∧k≤n∧O=fstN (fun c=>(spP r (numL r r c)).2.2) (n-k) k) (fun k=>n-k) 1 ⟨rfl,trivial⟩ trivial ⟨Nat.le_refl _,hm1,hO⟩ ?_
 rintro k ⟨k0,k1,k2⟩
 by_cases hk:k<n
 ·have hNk:=hN k (by omega)
  have hIk:=hI k
  cases hx:(spP r (numL r r k)).2.2 with
  |true=>
   rw[fstN_hit (P:=fun c=>(spP r (numL r r c)).2.2) hk hx] at k2
   have hR:=hS k k2
   subst hR
   rw[hx] at hIk⊢
   generalize spP r (numL r r k)=Z at hIk⊢
   obtain⟨Z1,Z2,Z3⟩:=Z
   dsimp only at hIk⊢
   generalize numL r r k=M at hNk hIk
   repeat' first|refine s1 ?_|(refine kR ?_;first|refine F.c (hC) ?_|refine F.sil (A.min2 rfl rfl) rfl rfl ?_)|fail
   refine AW.draw 14 G.mixed (by kernel_rfl) ?_
   refine Pz (.l 0<|.l 1<|.l 2<|.p 3<|.p 4<|.o 5 true<|.o 6 true<|.p 7<|.p 8<|.p 9<|.p 10<|.p 11<|.p 12<|.p 13<|.n) ?_
   repeat' first|refine yS ?_|refine s1 ?_|(refine kR ?_;first|refine F.c (hNk) ?_|refine F.c (hIk) ?_)|fail
   any_goals refine lf ?_
   all_goals
    repeat' first|refine s1 ?_|fail
    (refine kZ ?_;exact F.ret rfl)
  |false=>
   rw[fstN_miss (P:=fun c=>(spP r (numL r r c)).2.2) hk hx] at k2
   rw[hx] at hIk
   generalize spP r (numL r r k)=Z at hIk
   obtain⟨Z1,Z2,Z3⟩:=Z
   dsimp only at hIk
   generalize numL r r k=M at hNk hIk
   repeat' first|refine s1 ?_|(refine kR ?_;first|refine F.c (hC) ?_|refine F.sil (A.min2 rfl rfl) rfl rfl ?_)|fail
   refine AW.draw 14 G.mixed (by kernel_rfl) ?_
   refine Pz (.l 0<|.l 1<|.l 2<|.p 3<|.p 4<|.o 5 true<|.o 6 true<|.p 7<|.p 8<|.p 9<|.p 10<|.p 11<|.p 12<|.p 13<|.n) ?_
   repeat' first|refine yS ?_|refine s1 ?_|(refine kR ?_;first|refine F.c (hNk) ?_|refine F.c (hIk) ?_)|fail
   any_goals refine lf ?_
   all_goals
    repeat' first|refine s1 ?_|fail
    exact⟨k+1,F.fit ⟨rfl,trivial⟩ trivial,⟨by omega,by omega,k2⟩,by omega⟩
 ·obtain rfl:k=n:=by omega
  rw[Nat.sub_self] at k2
  have hR:=hE k2
  subst hR
  repeat' first|refine s1 ?_|(refine kR ?_;first|refine F.c (hC) ?_|refine F.sil (A.min2 rfl rfl) rfl rfl ?_)|fail
  (refine kZ ?_;exact F.ret rfl)
def fssP(r:Rep):List Spc×List Spc×Bool:=if isRep r=true then fsP r else([],[],false)
theorem implFindSplit_a(r:Rep):AC Tryz.prog 106 [.agg (enc false r)] [.dt true 2 (E true (fssP r).1),.dt true 2 (E true (fssP r).2.1),.b (fssP r).2.2]:=by
 refine AC.go Tryz.func106 Tryz.ntmps106 rfl rfl fun w0 hw=>?_;simp[WfL,WfA,E_length,Enc.enc,In64] at hw
 have hF:=implIsRep_a r
 unfold fssP
 cases hr:isRep r with
 |false=>
  rw[hr] at hF
  rw[if_neg (by simp)]
  repeat' first|refine s1 ?_|(refine kR ?_;first|refine F.c (hF) ?_)|fail
  (refine kZ ?_;exact F.ret rfl)
 |true=>
  rw[hr] at hF
  rw[if_pos rfl]
  have hB:=homBasis_a r r (fitR_refl hr)
  have hI:=findSplit_a r hr
  generalize fsP r=R at hI⊢
  obtain⟨R1,R2,R3⟩:=R
  dsimp only at hI⊢
  generalize homL r r=HL at hB hI
  repeat' first|refine s1 ?_|(refine kR ?_;first|refine F.c (hF) ?_)|fail
  refine AW.draw 11 G.mixed (by kernel_rfl) ?_
  refine Pz (.l 0<|.l 1<|.l 2<|.o 3 true<|.o 4 true<|.p 5<|.p 6<|.p 7<|.p 8<|.p 9<|.p 10<|.n) ?_
  repeat' first|refine yS ?_|refine s1 ?_|(refine kR ?_;first|refine F.c (hB) ?_|refine F.c (hI) ?_)|fail
  any_goals refine lf ?_
  all_goals
   repeat' first|refine s1 ?_|fail
   (refine kZ ?_;exact F.ret rfl)
def allS(r:Rep):Bool:=(fsP r).2.2||decide (cntH r.p (hkL r r).length≤3000)
theorem l16Find_a(r:Rep)(hr:isRep r=true):AC Tryz.prog 262 [.agg (enc false r)] [.dt true 2 (E true (fsP r).1),.dt true 2 (E true (fsP r).2.1),.b (fsP r).2.2,.b (allS r)]:=by
 refine AC.go Tryz.func262 Tryz.ntmps262 rfl rfl fun w0 hw=>?_;simp[WfL,WfA,E_length,Enc.enc,In64] at hw
 have hf:=fitR_refl hr
 have h:=Fits.of hf
 have hp:=isF_pos h.f
 have hle:=rkE_le r r hf
 have hlen:=hkL_len r r hf
 have hll:=homL_len r r
 have hB:=specHomBasis_a r r
 unfold homP at hB
 rw[if_pos hf] at hB
 dsimp only at hB
 have hM:=specCountMorphisms_a r r
 have hN:=fun(k:Nat) (hk:k<3000)=>l11Number_a r r k hf (by omega)
 have hI:=fun k:Nat=>specSplitBy_a r (numL r r k)
 obtain⟨hmn,hm1,hm3⟩:=mstH_eq hf
 have hO:fsO r=fstN (fun c=>(spP r (numL r r c)).2.2) (mstH r r-1) 1:=rfl
 have hS:=fun k=>fsP_some (r:=r) (k:=k)
 have hE:=fsP_none (r:=r)
 have hcb:=cntH_bd hp (hkL r r).length
 have hcm:cntM r r=if cntH r.p (hkL r r).length≤100000 then cntH r.p (hkL r r).length else-2:=by unfold cntM;rw[if_pos hf]
 unfold allS
 generalize cntM r r=y at hM hcm
 generalize fsP r=R at hS hE⊢
 generalize fsO r=O at hO hS hE
 generalize homL r r=HL at*
 generalize cntH r.p (hkL r r).length=X at*
 generalize mstH r r=n at*
 have h3:(0≤y∧y≤3000∧X=y∧y=(n:Int))∨(y<0∧3000<X∧n=3000∧y≠3000)∨(3000<y∧3000<X∧n=3000∧¬y<0):=by
  by_cases hx:X≤100000
  ·rw[if_pos hx] at hcm;omega
  ·rw[if_neg hx] at hcm;omega
 clear hcm
 rcases h3 with⟨y1,y2,y3,y4⟩|⟨y1,y2,y3,y4⟩|⟨y1,y2,y3,y4⟩
 all_goals
  repeat' first|refine s1 ?_|(refine kR ?_;first|refine F.c (hB) ?_|refine F.c (hM) ?_)|fail
  try rw[show(3000:Int)=(n:Int) by omega]
  refine F.loop (σ:=Nat) [2,3,4,5,10,11,12,13,30,31,32,33,34,35,36,37,38,39,40,41,42,43,44,45,46,47,48] (fun k=>[(10,.i k)]) (fun _=>[]) (fun k=>1≤k∧k≤n∧O=fstN (fun c=>(spP r (numL r r c)).2.2) (n-k) k) (fun k=>n-k) 1 ⟨rfl,trivial⟩ trivial ⟨Nat.le_refl _,hm1,hO⟩ ?_
  rintro k ⟨k0,k1,k2⟩
  by_cases hk:k<n
  ·have hNk:=hN k (by omega)
   have hIk:=hI k
   cases hx:(spP r (numL r r k)).2.2 with
   |true=>
    rw[fstN_hit (P:=fun c=>(spP r (numL r r c)).2.2) hk hx] at k2
    have hR:=hS k k2
    subst hR
    rw[hx] at hIk⊢
    generalize spP r (numL r r k)=Z at hIk⊢
    obtain⟨Z1,Z2,Z3⟩:=Z
    dsimp only at hIk⊢
    generalize numL r r k=M at hNk hIk
    repeat' first|refine s1 ?_|fail
    refine AW.draw 14 G.mixed (by kernel_rfl) ?_
    refine Pz (.l 0<|.l 1<|.l 2<|.p 3<|.p 4<|.o 5 true<|.o 6 true<|.p 7<|.p 8<|.p 9<|.p 10<|.p 11<|.p 12<|.p 13<|.n) ?_
    repeat' first|refine yS ?_|refine s1 ?_|(refine kR ?_;first|refine F.c (hNk) ?_|refine F.c (hIk) ?_)|fail
    any_goals refine lf ?_
    all_goals
     repeat' first|refine s1 ?_|fail
     refine F.ret ?_
     simp
   |false=>
    rw[fstN_miss (P:=fun c=>(spP r (numL r r c)).2.2) hk hx] at k2
    rw[hx] at hIk
    generalize spP r (numL r r k)=Z at hIk
    obtain⟨Z1,Z2,Z3⟩:=Z
    dsimp only at hIk
    generalize numL r r k=M at hNk hIk
    repeat' first|refine s1 ?_|fail
    refine AW.draw 14 G.mixed (by kernel_rfl) ?_
    refine Pz (.l 0<|.l 1<|.l 2<|.p 3<|.p 4<|.o 5 true<|.o 6 true<|.p 7<|.p 8<|.p 9<|.p 10<|.p 11<|.p 12<|.p 13<|.n) ?_
    repeat' first|refine yS ?_|refine s1 ?_|(refine kR ?_;first|refine F.c (hNk) ?_|refine F.c (hIk) ?_)|fail
    any_goals refine lf ?_
    all_goals
     repeat' first|refine s1 ?_|fail
     exact⟨k+1,F.fit ⟨rfl,trivial⟩ trivial,⟨by omega,by omega,k2⟩,by omega⟩
  ·obtain rfl:k=n:=by omega
   rw[Nat.sub_self] at k2
   have hR:=hE k2
   subst hR
   first
    |rw[show((([],[],false):List Spc×List Spc×Bool).2.2||decide (X≤3000))=decide (y=y) by(simp;omega)]
    |rw[show((([],[],false):List Spc×List Spc×Bool).2.2||decide (X≤3000))=decide ((k:Int)=y) by(simp;omega)]
    |rw[show((([],[],false):List Spc×List Spc×Bool).2.2||decide (X≤(k:Int)))=decide ((k:Int)=y) by(simp;omega)]
   repeat' first|refine s1 ?_|fail
   (refine kZ ?_;exact F.ret rfl)
theorem specFindSplit_a(r:Rep):AC Tryz.prog 107 [.agg (enc false r)] [.dt true 2 (E true (fssP r).1),.dt true 2 (E true (fssP r).2.1),.b (fssP r).2.2]:=by
 refine AC.go Tryz.func107 Tryz.ntmps107 rfl rfl fun w0 hw=>?_;simp[WfL,WfA,E_length,Enc.enc,In64] at hw
 have hF:=specIsRep_a r
 unfold fssP
 cases hr:isRep r with
 |false=>
  rw[hr] at hF
  rw[if_neg (by simp)]
  repeat' first|refine s1 ?_|(refine kR ?_;first|refine F.c (hF) ?_)|fail
  (refine kZ ?_;exact F.ret rfl)
 |true=>
  rw[hr] at hF
  rw[if_pos rfl]
  have hI:=l16Find_a r hr
  generalize allS r=z at hI
  generalize fsP r=R at hI⊢
  obtain⟨R1,R2,R3⟩:=R
  dsimp only at hI⊢
  repeat' first|refine s1 ?_|(refine kR ?_;first|refine F.c (hF) ?_|refine F.c (hI) ?_)|fail
  (refine kZ ?_;exact F.ret rfl)
def indI(r:Rep):Int:=if isRep r=true then(if r.d.sum=0 then 0 else if(fsP r).2.2=true then 0 else if cntH r.p (hkL r r).length≤3000 then 1 else-1) else-1
theorem isIndec_a(r:Rep)(hr:isRep r=true):AC Tryz.prog 157 [.agg (enc false r)] [.i (indI r)]:=by
 refine AC.go Tryz.func157 Tryz.ntmps157 rfl rfl fun w0 hw=>?_;simp[WfL,WfA,E_length,Enc.enc,In64] at hw
 unfold indI
 rw[if_pos hr]
 have hf:=fitR_refl hr
 have hp:=isF_pos (Fits.of hf).f
 have hl:=homD_len r r hf
 have hll:=homL_len r r
 have hB:=homBasis_a r r hf
 have hI:=findSplit_a r hr
 have hC:=countHoms_a r.p (hkL r r).length hp (by omega)
 obtain⟨r1,r2,r3,r4⟩:=isRep_spec hr
 obtain⟨c1,c2,c3,c4⟩:=areDims_spec r2
 have h5:=okQ_spec c1
 have hS:=sumOf_a r.d (by omega) (fun j hj=>by have:0≤r.d.getD j default∧r.d.getD j default≤4:=allIn_spec c3 hj;omega)
 rw[←hll] at hC⊢
 generalize fsP r=R at hI⊢
 obtain⟨R1,R2,R3⟩:=R
 dsimp only at hI⊢
 generalize homL r r=HL at*
 generalize cntH r.p HL.length=X at*
 generalize r.d.sum=sm at*
 by_cases hs:sm=0
 ·rw[if_pos hs]
  repeat' first|refine s1 ?_|(refine kR ?_;first|refine F.c (hB) ?_|refine F.c (hI) ?_|refine F.c (hS) ?_)|fail
  (refine kZ ?_;exact F.ret rfl)
 ·rw[if_neg hs]
  cases R3 with
  |true=>
   rw[if_pos rfl]
   repeat' first|refine s1 ?_|(refine kR ?_;first|refine F.c (hB) ?_|refine F.c (hI) ?_|refine F.c (hS) ?_)|fail
   (refine kZ ?_;exact F.ret rfl)
  |false=>
   rw[if_neg (by simp)]
   by_cases hx:X≤3000
   ·rw[if_pos hx]
    repeat' first|refine s1 ?_|(refine kR ?_;first|refine F.c (hB) ?_|refine F.c (hI) ?_|refine F.c (hS) ?_|refine F.c (hC) ?_)|fail
    (refine kZ ?_;exact F.ret rfl)
   ·rw[if_neg hx]
    repeat' first|refine s1 ?_|(refine kR ?_;first|refine F.c (hB) ?_|refine F.c (hI) ?_|refine F.c (hS) ?_|refine F.c (hC) ?_)|fail
    (refine kZ ?_;exact F.ret rfl)
theorem implIsIndecomposable_a(r:Rep):AC Tryz.prog 19 [.agg (enc false r)] [.i (indI r)]:=by
 refine AC.go Tryz.func19 Tryz.ntmps19 rfl rfl fun w0 hw=>?_;simp[WfL,WfA,E_length,Enc.enc,In64] at hw
 have hF:=implIsRep_a r
 cases hr:isRep r with
 |false=>
  rw[hr] at hF
  unfold indI
  rw[if_neg (by simp[hr])]
  repeat' first|refine s1 ?_|(refine kR ?_;first|refine F.c (hF) ?_)|fail
  (refine kZ ?_;exact F.ret rfl)
 |true=>
  rw[hr] at hF
  have hI:=isIndec_a r hr
  generalize indI r=x at hI⊢
  repeat' first|refine s1 ?_|(refine kR ?_;first|refine F.c (hF) ?_|refine F.c (hI) ?_)|fail
  (refine kZ ?_;exact F.ret rfl)
theorem specIsIndecomposable_a(r:Rep):AC Tryz.prog 108 [.agg (enc false r)] [.i (indI r)]:=by
 refine AC.go Tryz.func108 Tryz.ntmps108 rfl rfl fun w0 hw=>?_;simp[WfL,WfA,E_length,Enc.enc,In64] at hw
 have hF:=specIsRep_a r
 unfold indI
 cases hr:isRep r with
 |false=>
  rw[hr] at hF
  rw[if_neg (by simp)]
  repeat' first|refine s1 ?_|(refine kR ?_;first|refine F.c (hF) ?_)|fail
  (refine kZ ?_;exact F.ret rfl)
 |true=>
  rw[hr] at hF
  rw[if_pos rfl]
  have hT:=totalOf_a r hr
  have hI:=l16Find_a r hr
  have hal:allS r=((fsP r).2.2||decide (cntH r.p (hkL r r).length≤3000)):=rfl
  generalize allS r=al at hI hal
  generalize fsP r=R at hI hal⊢
  obtain⟨R1,R2,R3⟩:=R
  dsimp only at hI hal⊢
  generalize cntH r.p (hkL r r).length=X at*
  generalize r.d.sum=sm at*
  by_cases hs:sm=0
  ·rw[if_pos hs]
   repeat' first|refine s1 ?_|(refine kR ?_;first|refine F.c (hF) ?_|refine F.c (hT) ?_)|fail
   (refine kZ ?_;exact F.ret rfl)
  ·rw[if_neg hs]
   cases R3 with
   |true=>
    rw[if_pos rfl]
    repeat' first|refine s1 ?_|(refine kR ?_;first|refine F.c (hF) ?_|refine F.c (hT) ?_|refine F.c (hI) ?_)|fail
    (refine kZ ?_;exact F.ret rfl)
   |false=>
    rw[if_neg (by simp)]
    rw[Bool.false_or] at hal
    by_cases hx:X≤3000
    ·rw[if_pos hx]
     rw[decide_eq_true hx] at hal
     subst hal
     repeat' first|refine s1 ?_|(refine kR ?_;first|refine F.c (hF) ?_|refine F.c (hT) ?_|refine F.c (hI) ?_)|fail
     (refine kZ ?_;exact F.ret rfl)
    ·rw[if_neg hx]
     rw[decide_eq_false hx] at hal
     subst hal
     repeat' first|refine s1 ?_|(refine kR ?_;first|refine F.c (hF) ?_|refine F.c (hT) ?_|refine F.c (hI) ?_)|fail
     (refine kZ ?_;exact F.ret rfl)
def idL(d:List Int):List Mat:=d.map idM
theorem idL_len(d:List Int):(idL d).length=d.length:=by simp[idL]
theorem idL_take{d:List Int}{k:Nat}(h:k<d.length):(idL d).take (k+1)=(idL d).take k++[idM (d.getD k default)]:=map_take idM h
theorem identityMor_a(r:Rep)(hr:isRep r=true):AC Tryz.prog 271 [.agg (enc false r)] [.dt true 3 (E true (idL r.d)),.b true]:=by
 refine AC.go Tryz.func271 Tryz.ntmps271 rfl rfl fun w0 hw=>?_;simp[WfL,WfA,E_length,Enc.enc,In64] at hw
 obtain⟨r1,r2,r3,r4⟩:=isRep_spec hr
 obtain⟨c1,c2,c3,c4⟩:=areDims_spec r2
 have h5:=okQ_spec c1
 have hF:=specIsRep_a r
 rw[hr] at hF
 have hll:=idL_len r.d
 have hts:=fun k hk=>idL_take (d:=r.d) (k:=k) hk
 have hI:∀v,v<r.d.length→AC Tryz.prog 215 [.i (r.d.getD v default)] [.agg (enc true (idM (r.d.getD v default)))]:=fun v hv=>by
  have h1:0≤r.d.getD v default∧r.d.getD v default≤4:=allIn_spec c3 hv
  have:=l3Identity_a (r.d.getD v default).toNat (by omega)
  rw[Int.toNat_of_nonneg h1.1] at this
  exact this
 generalize idL r.d=L at hll hts⊢
 repeat' first|refine s1 ?_|fail
 refine AW.open 4 3 (.inr rfl) ?_
 refine F.loop (σ:=Nat) [4,5,7,8,9,10,11,12,13,14,15,16,17,18,19,20,21,22,23,24,25,26] (fun k=>[(4,.sl 1 k 0 k),(5,.i k)]) (fun k=>[(1,.live false 3 (E true (L.take k)))]) (fun k=>k≤r.d.length) (fun k=>r.d.length-k) 0 ⟨rfl,rfl,trivial⟩ ⟨rfl,trivial⟩ (Nat.zero_le _) ?_
 rintro k k1
 have hp2:(L.take k).length=k:=by rw[List.length_take];omega
 by_cases hk:k<r.d.length
 ·have hIk:=hI k hk
  have ht:=hts k hk
  generalize idM (r.d.getD k default)=Y at hIk ht
  repeat' first|refine s1 ?_|(refine kR ?_;first|refine F.c (hF) ?_|refine F.c (hIk) ?_|refine F.a1 Mat (a:=Y) ?_)|fail
  exact⟨k+1,F.fit ⟨rfl,rfl,trivial⟩ ⟨obE (by rw[ht]),trivial⟩,by omega,by omega⟩
 ·obtain rfl:k=r.d.length:=by omega
  have e:L.take r.d.length=L:=List.take_of_length_le (by omega)
  rw[e]
  clear hp2 e
  rw[←hll]
  repeat' first|refine s1 ?_|(refine kR ?_;first|refine F.c (hF) ?_)|fail
  (refine kZ ?_;exact F.ret rfl)
theorem comp_are{a b c:Rep}{f g:List Mat}(h1:isMor a b f=true)(h2:isMor b c g=true):areM a c (compL a.p f g)=true:=by
 obtain⟨f1,f2,f3,f4,f5⟩:=mor_ok h1
 obtain⟨g1,g2,g3,g4,g5⟩:=mor_ok h2
 have hf1:=(areM_spec (isMor_are h1)).1
 have hf2:=(areM_spec (isMor_are h2)).1
 have hac:fitR a c=true:=fitR_mk (fitR_reps hf1).1 (fitR_reps hf2).2 (f3.trans g3) ((Fits.of hf1).q.trans (Fits.of hf2).q)
 simp only[areM,Bool.and_eq_true,decide_eq_true_eq,List.all_eq_true]
 refine⟨⟨hac,by rw[compL_len];exact f1⟩,fun v hv=>?_⟩
 have hv:v<f.length:=by rw[compL_len] at hv;simpa using hv
 obtain⟨a1,a2,a3⟩:=f5 v hv
 obtain⟨b1,b2,b3⟩:=g5 v (by omega)
 rw[←f3] at b1
 have e:(compL a.p f g).getD v default=mulM a.p (g.getD v default) (f.getD v default):=by simp[compL,hv]
 obtain⟨m1,m2⟩:=mulM_rc b1 a1
 simp only[fitV,e,Bool.and_eq_true,decide_eq_true_eq]
 exact⟨⟨isMat_mul b1 a1,by rw[m2,a2]⟩,by rw[m1,b3]⟩
theorem id_are{a:Rep}(h:isRep a=true):areM a a (idL a.d)=true:=by
 obtain⟨r1,r2,r3,r4⟩:=isRep_spec h
 obtain⟨c1,c2,c3,c4⟩:=areDims_spec r2
 simp only[areM,Bool.and_eq_true,decide_eq_true_eq,List.all_eq_true]
 refine⟨⟨fitR_refl h,idL_len _⟩,fun v hv=>?_⟩
 have hv:v<a.d.length:=by rw[idL_len] at hv;simpa using hv
 have hd:0≤a.d.getD v default∧a.d.getD v default≤4:=allIn_spec c3 hv
 have e:(idL a.d).getD v default=idM (a.d.getD v default):=by simp[idL,hv]
 simp only[fitV,e,Bool.and_eq_true,decide_eq_true_eq]
 exact⟨⟨isMat_id r1 (by omega),Int.toNat_of_nonneg hd.1⟩,Int.toNat_of_nonneg hd.1⟩
end Go.Proofs.YtjmjamhhppoimaaGreat.V
