/- Texts that the proof needs: A104, A113. -/
import Derived.Test.YtjmjamhhppoimaaGreatQstA94
namespace Go.Proofs.YtjmjamhhppoimaaGreat.V
open V.Enc (enc)
open Go.RowKit G D
set_option linter.unusedVariables false
set_option linter.unusedSimpArgs false
set_option maxHeartbeats 4000000
set_option maxRecDepth 4000
attribute [local irreducible] AW ARg ARA ARet MRet ASil AC AM ARI
def fsO(r:Rep):Option Nat:=fstN (fun c=>(spP r (numL r r c)).2.2) (mstH r r-1) 1
def fsP(r:Rep):List Spc×List Spc×Bool:=match fsO r with
 |some k=>spP r (numL r r k)
 |none=>([],[],false)
theorem fsP_some{r:Rep}{k:Nat}(h:fsO r=some k):fsP r=spP r (numL r r k):=by unfold fsP;rw[h]
theorem fsP_none{r:Rep}(h:fsO r=none):fsP r=([],[],false):=by unfold fsP;rw[h]
theorem findSplit_a(r:Rep)(hr:isRep r=true):AC Tryz.prog 261 [.agg (enc false r),ar false (homL r r)] [.dt true 2 (E true (fsP r).1),.dt true 2 (E true (fsP r).2.1),.b (fsP r).2.2]:=by
 refine AC.go Tryz.func261 Tryz.ntmps261 rfl rfl fun w0 hw=>?_;simp[WfL,WfA,E_length,Enc.enc,In64] at hw
 have hf:=fitR_refl hr
 have h:=Fits.of hf
 have hp:=isF_pos h.f
 have hle:=rkE_le r r hf
 have hlen:=hkL_len r r hf
 have hll:=homL_len r r
 have hC:=countHoms_a r.p (hkL r r).length hp (by omega)
 have hN:=fun(k:Nat) (hk:k<3000)=>numbered_a r r k hf (by omega)
 have hI:=fun k:Nat=>implsplitBy_a r (numL r r k) (num_mor hf k)
 obtain⟨hmn,hm1,hm3⟩:=mstH_eq hf
 have hO:fsO r=fstN (fun c=>(spP r (numL r r c)).2.2) (mstH r r-1) 1:=rfl
 have hS:=fun k=>fsP_some (r:=r) (k:=k)
 have hE:=fsP_none (r:=r)
 rw[←hll] at hC hmn
 generalize fsP r=R at hS hE⊢
 generalize fsO r=O at hO hS hE
 generalize homL r r=HL at*
 generalize cntH r.p HL.length=X at*
 generalize mstH r r=n at*
 repeat' first|refine s1 ?_|fail
 refine F.loop (σ:=Nat) [4,5,6,7,8,9,10,11,12,13,14,15,16,17,18,19,20,21,22,23,24,25,26,27,28,29,30,31,32,33,34] (fun k=>[(7,.i k)]) (fun _=>[]) (fun k=>1≤k∧k≤n∧O=fstN (fun c=>(spP r (numL r r c)).2.2) (n-k) k) (fun k=>n-k) 1 ⟨rfl,trivial⟩ trivial ⟨Nat.le_refl _,hm1,hO⟩ ?_
 rintro k ⟨k0,k1,k2⟩
 by_cases hk:k<n
 ·have hNk:=hN k (by omega)
  have hIk:=hI k
  cases hx:(spP r (numL r r k)).2.2 with
  |true=>
   rw[fstN_hit (P:=fun c=>(spP r (numL r r c)).2.2) hk hx] at k2
   have hR:=hS k k2
   subst hR
   rw[hx] at hIk⊢
   generalize spP r (numL r r k)=Z at hIk⊢
   obtain⟨Z1,Z2,Z3⟩:=Z
   dsimp only at hIk⊢
   generalize numL r r k=M at hNk hIk
   repeat' first|refine s1 ?_|(refine kR ?_;first|refine F.c (hC) ?_|refine F.sil (A.min2 rfl rfl) rfl rfl ?_)|fail
   refine AW.draw 14 G.mixed (by kernel_rfl) ?_
   refine Pz (.l 0<|.l 1<|.l 2<|.p 3<|.p 4<|.o 5 true<|.o 6 true<|.p 7<|.p 8<|.p 9<|.p 10<|.p 11<|.p 12<|.p 13<|.n) ?_
   repeat' first|refine yS ?_|refine s1 ?_|(refine kR ?_;first|refine F.c (hNk) ?_|refine F.c (hIk) ?_)|fail
   any_goals refine lf ?_
   all_goals
    repeat' first|refine s1 ?_|fail
    (refine kZ ?_;exact F.ret rfl)
  |false=>
   rw[fstN_miss (P:=fun c=>(spP r (numL r r c)).2.2) hk hx] at k2
   rw[hx] at hIk
   generalize spP r (numL r r k)=Z at hIk
   obtain⟨Z1,Z2,Z3⟩:=Z
   dsimp only at hIk
   generalize numL r r k=M at hNk hIk
   repeat' first|refine s1 ?_|(refine kR ?_;first|refine F.c (hC) ?_|refine F.sil (A.min2 rfl rfl) rfl rfl ?_)|fail
   refine AW.draw 14 G.mixed (by kernel_rfl) ?_
   refine Pz (.l 0<|.l 1<|.l 2<|.p 3<|.p 4<|.o 5 true<|.o 6 true<|.p 7<|.p 8<|.p 9<|.p 10<|.p 11<|.p 12<|.p 13<|.n) ?_
   repeat' first|refine yS ?_|refine s1 ?_|(refine kR ?_;first|refine F.c (hNk) ?_|refine F.c (hIk) ?_)|fail
   any_goals refine lf ?_
   all_goals
    repeat' first|refine s1 ?_|fail
    exact⟨k+1,F.fit ⟨rfl,trivial⟩ trivial,⟨by omega,by omega,k2⟩,by omega⟩
 ·obtain rfl:k=n:=by omega
  rw[Nat.sub_self] at k2
  have hR:=hE k2
  subst hR
  repeat' first|refine s1 ?_|(refine kR ?_;first|refine F.c (hC) ?_|refine F.sil (A.min2 rfl rfl) rfl rfl ?_)|fail
  (refine kZ ?_;exact F.ret rfl)
def indI(r:Rep):Int:=if isRep r=true then(if r.d.sum=0 then 0 else if(fsP r).2.2=true then 0 else if cntH r.p (hkL r r).length≤3000 then 1 else-1) else-1
theorem isIndec_a(r:Rep)(hr:isRep r=true):AC Tryz.prog 157 [.agg (enc false r)] [.i (indI r)]:=by
 refine AC.go Tryz.func157 Tryz.ntmps157 rfl rfl fun w0 hw=>?_;simp[WfL,WfA,E_length,Enc.enc,In64] at hw
 unfold indI
 rw[if_pos hr]
 have hf:=fitR_refl hr
 have hp:=isF_pos (Fits.of hf).f
 have hl:=homD_len r r hf
 have hll:=homL_len r r
 have hB:=homBasis_a r r hf
 have hI:=findSplit_a r hr
 have hC:=countHoms_a r.p (hkL r r).length hp (by omega)
 obtain⟨r1,r2,r3,r4⟩:=isRep_spec hr
 obtain⟨c1,c2,c3,c4⟩:=areDims_spec r2
 have h5:=okQ_spec c1
 have hS:=sumOf_a r.d (by omega) (fun j hj=>by have:0≤r.d.getD j default∧r.d.getD j default≤4:=allIn_spec c3 hj;omega)
 rw[←hll] at hC⊢
 generalize fsP r=R at hI⊢
 obtain⟨R1,R2,R3⟩:=R
 dsimp only at hI⊢
 generalize homL r r=HL at*
 generalize cntH r.p HL.length=X at*
 generalize r.d.sum=sm at*
 by_cases hs:sm=0
 ·rw[if_pos hs]
  repeat' first|refine s1 ?_|(refine kR ?_;first|refine F.c (hB) ?_|refine F.c (hI) ?_|refine F.c (hS) ?_)|fail
  (refine kZ ?_;exact F.ret rfl)
 ·rw[if_neg hs]
  cases R3 with
  |true=>
   rw[if_pos rfl]
   repeat' first|refine s1 ?_|(refine kR ?_;first|refine F.c (hB) ?_|refine F.c (hI) ?_|refine F.c (hS) ?_)|fail
   (refine kZ ?_;exact F.ret rfl)
  |false=>
   rw[if_neg (by simp)]
   by_cases hx:X≤3000
   ·rw[if_pos hx]
    repeat' first|refine s1 ?_|(refine kR ?_;first|refine F.c (hB) ?_|refine F.c (hI) ?_|refine F.c (hS) ?_|refine F.c (hC) ?_)|fail
    (refine kZ ?_;exact F.ret rfl)
   ·rw[if_neg hx]
    repeat' first|refine s1 ?_|(refine kR ?_;first|refine F.c (hB) ?_|refine F.c (hI) ?_|refine F.c (hS) ?_|refine F.c (hC) ?_)|fail
    (refine kZ ?_;exact F.ret rfl)
theorem implIsIndecomposable_a(r:Rep):AC Tryz.prog 19 [.agg (enc false r)] [.i (indI r)]:=by
 refine AC.go Tryz.func19 Tryz.ntmps19 rfl rfl fun w0 hw=>?_;simp[WfL,WfA,E_length,Enc.enc,In64] at hw
 have hF:=implIsRep_a r
 cases hr:isRep r with
 |false=>
  rw[hr] at hF
  unfold indI
  rw[if_neg (by simp[hr])]
  repeat' first|refine s1 ?_|(refine kR ?_;first|refine F.c (hF) ?_)|fail
  (refine kZ ?_;exact F.ret rfl)
 |true=>
  rw[hr] at hF
  have hI:=isIndec_a r hr
  generalize indI r=x at hI⊢
  repeat' first|refine s1 ?_|(refine kR ?_;first|refine F.c (hF) ?_|refine F.c (hI) ?_)|fail
  (refine kZ ?_;exact F.ret rfl)
theorem Cg.of_sub{p x y:Int}(h:Cg p (x-y) 0):Cg p x y:=by
 have:=h.add (Cg.refl y)
 rwa [Int.sub_add_cancel,Int.zero_add] at this
theorem Cg.sub0{p x y:Int}(h:Cg p x y):Cg p (x-y) 0:=by
 have:=h.add (Cg.refl (-y))
 rwa [←Int.sub_eq_add_neg,←Int.sub_eq_add_neg,Int.sub_self] at this
theorem sumN_cg0{p:Int}{h:Nat→Int}(n:Nat)(hz:∀i,i<n→Cg p (h i) 0):Cg p (sumN h n) 0:=by
 have:=sumN_cg (g:=fun _=>0) n hz
 rwa [sumN_zero (h:=fun _=>0) n fun _ _=>rfl] at this
theorem ech_det{p:Int}{r c:Nat}{g:Nat→Nat→Int}{piv:List Nat}(h:Ech r c g piv){x z:Nat→Int}(hx:∀i,i<piv.length→Cg p (sumN (fun j=>g i j*x j) c) 0)(hz:∀i,i<piv.length→Cg p (sumN (fun j=>g i j*z j) c) 0)(hf:∀j,j<c→j∉piv→Cg p (x j) (z j)):∀j,j<c→Cg p (x j) (z j):=by
 intro j hj
 by_cases hp:j∈piv
 ·obtain⟨i,hi,e⟩:=List.getElem_of_mem hp
  have e2:piv.getD i 0=j:=by simp[hi,e]
  have h1:Cg p (sumN (fun t=>g i t*(x t-z t)) c) 0:=by
   rw[sumN_eq (g:=fun t=>g i t*x t+(-1)*(g i t*z t)) _ fun t _=>by rw[Int.mul_sub];omega,sumN_add,sumN_mul]
   have:=(hx i hi).add ((Cg.refl (-1)).mul (hz i hi))
   simpa using this
  have h3:Cg p (sumN (fun t=>g i t*(x t-z t)) c) (sumN (fun t=>(if t=j then 1 else 0)*(x t-z t)) c):=sumN_cg _ fun t ht=>by
   by_cases ht2:t∈piv
   ·obtain⟨i',hi',e'⟩:=List.getElem_of_mem ht2
    have e'':piv.getD i' 0=t:=by simp[hi',e']
    have h5:=h.one i hi i' hi'
    rw[e''] at h5
    rw[h5]
    by_cases ei:i=i'
    ·subst ei
     rw[if_pos rfl,if_pos (e''.symm.trans e2)]
     exact .refl _
    ·have hne:t≠j:=fun et=>by
      rcases Nat.lt_or_gt_of_ne ei with hlt|hgt
      ·have:=h.inc i i' hlt hi';omega
      ·have:=h.inc i' i hgt hi;omega
     rw[if_neg ei,if_neg hne]
     exact .refl _
   ·have h6:=(hf t ht ht2).sub0
    have h7:=(Cg.refl (g i t)).mul h6
    have h8:=(Cg.refl (if t=j then(1:Int) else 0)).mul h6
    rw[Int.mul_zero] at h7 h8
    exact h7.trans h8.symm
  rw[sumN_one,if_pos hj] at h3
  exact Cg.of_sub (h3.symm.trans h1)
 ·exact hf j hj hp
theorem kerL_full{p:Int}{r c:Nat}{f:Nat→Nat→Int}(hF:isF p=true)(hb:BdF p r c f){x:List Int}(h0:∀i,i<r→Cg p (dotV (f i) x c) 0):Sp p (kerL p r c f).length c (vecF (kerL p r c f)) (fun j=>x.getD j default):=by
 obtain⟨h1,h2⟩:=redK_ech hF hb c (Nat.le_refl _)
 have hl:(kerL p r c f).length=(freeL c (redK p r f c).2).length:=by simp[kerL]
 have hg:∀k,k<(kerL p r c f).length→(kerL p r c f).getD k default=kerV p c (redK p r f c).1 (redK p r f c).2 ((freeL c (redK p r f c).2).getD k 0) (redK p r f c).2.length:=fun k hk=>by
  have hk2:k<(freeL c (redK p r f c).2).length:=by omega
  simp[kerL,hk2]
 have hfr:∀k,k<(kerL p r c f).length→(freeL c (redK p r f c).2).getD k 0<c∧(freeL c (redK p r f c).2).getD k 0∉(redK p r f c).2:=fun k hk=>by
  have hk2:k<(freeL c (redK p r f c).2).length:=by omega
  refine freeL_lt _ ?_
  simp[hk2]
 refine⟨fun k=>x.getD ((freeL c (redK p r f c).2).getD k 0) default,?_⟩
 apply ech_det (p:=p) h1
 ·intro i hi
  obtain⟨co,e⟩:=h2.2 i (by have:=h1.le;omega)
  show Cg p (dotV ((redK p r f c).1 i) x c) 0
  refine(dotV_cg e).trans ?_
  rw[dotV_comb]
  refine sumN_cg0 _ fun t ht=>?_
  have:=(Cg.refl (co t)).mul (h0 t ht)
  rwa [Int.mul_zero] at this
 ·intro i hi
  rw[sumN_eq (g:=fun j=>sumN (fun k=>(redK p r f c).1 i j*(x.getD ((freeL c (redK p r f c).2).getD k 0) default*vecF (kerL p r c f) k j)) (kerL p r c f).length) _ fun j _=>by rw[sumN_mul],sumN_swap]
  refine sumN_cg0 _ fun k hk=>?_
  have e:sumN (fun j=>(redK p r f c).1 i j*(x.getD ((freeL c (redK p r f c).2).getD k 0) default*vecF (kerL p r c f) k j)) c=x.getD ((freeL c (redK p r f c).2).getD k 0) default*dotV ((redK p r f c).1 i) ((kerL p r c f).getD k default) c:=by
   unfold dotV
   rw[←sumN_mul]
   exact sumN_eq _ fun j _=>by unfold vecF;rw[Int.mul_left_comm]
  rw[e,hg k hk]
  have h9:=ker_dot (p:=p) h1 (hfr k hk).1 (hfr k hk).2 hi _ (Nat.le_refl _)
  rw[if_pos hi] at h9
  have:=(Cg.refl (x.getD ((freeL c (redK p r f c).2).getD k 0) default)).mul h9
  rwa [Int.mul_zero] at this
 ·intro j hj hjp
  have hm:j∈freeL c (redK p r f c).2:=by
   unfold freeL
   rw[List.mem_filter]
   exact⟨by simpa using hj,by simpa using hjp⟩
  obtain⟨k0,hk0,e0⟩:=List.getElem_of_mem hm
  have e0':(freeL c (redK p r f c).2).getD k0 0=j:=by simp[hk0,e0]
  have hpw:(freeL c (redK p r f c).2).Pairwise (·<·):=List.Pairwise.filter _ List.pairwise_lt_range
  rw[sumN_eq (g:=fun k=>(if k=k0 then 1 else 0)*x.getD ((freeL c (redK p r f c).2).getD k 0) default) _ fun k hk=>by
   have hk2:k<(freeL c (redK p r f c).2).length:=by omega
   show x.getD ((freeL c (redK p r f c).2).getD k 0) default*((kerL p r c f).getD k default).getD j default=_
   rw[hg k hk,kerV_free hj _ fun i hi e=>hjp (by rw[←e];simp[hi]),Int.mul_comm]
   congr 1
   by_cases ek:k=k0
   ·subst ek;rw[if_pos e0'.symm,if_pos rfl]
   ·have hne:j≠(freeL c (redK p r f c).2).getD k 0:=fun e=>by
     have e1:(freeL c (redK p r f c).2)[k]=j:=by
      have:(freeL c (redK p r f c).2).getD k 0=(freeL c (redK p r f c).2)[k]:=by simp[hk2]
      omega
     rw[List.pairwise_iff_getElem] at hpw
     rcases Nat.lt_or_gt_of_ne ek with hlt|hgt
     ·have:=hpw k k0 hk2 hk0 hlt;omega
     ·have:=hpw k0 k hk0 hk2 hgt;omega
    rw[if_neg hne,if_neg ek],sumN_one,if_pos (by omega),e0']
  exact .refl _
theorem kerS_mem{p:Int}{m:Mat}(h:isMat p m=true){x:List Int}(h0:∀i,i<m.r.toNat→Cg p (dotV (ent m i) x m.c.toNat) 0):Sp p (kerS p m).b.length m.c.toNat (vecF (kerS p m).b) (fun j=>x.getD j default):=by
 have hF:=(isMat_spec h).1
 have hv:=kerL_vec (r:=m.r.toNat) (c:=m.c.toNat) (f:=ent m) (isF_pos hF).1
 have hs:=span_ss hF hv.bd
 exact(kerL_full hF (ent_bd h) h0).sub hs.2
theorem kerS_dot{p:Int}{m:Mat}(h:isMat p m=true){t:Nat}(ht:t<(kerS p m).b.length){i:Nat}(hi:i<m.r.toNat):Cg p (dotV (ent m i) ((kerS p m).b.getD t default) m.c.toNat) 0:=by
 have hF:=(isMat_spec h).1
 have hv:=kerL_vec (r:=m.r.toNat) (c:=m.c.toNat) (f:=ent m) (isF_pos hF).1
 have hs:=span_ss hF hv.bd
 obtain⟨co,e⟩:=hs.1 t ht
 have e1:Cg p (dotV (ent m i) ((kerS p m).b.getD t default) m.c.toNat) (sumN (fun j=>ent m i j*sumN (fun k=>co k*vecF (kerL p m.r.toNat m.c.toNat (ent m)) k j) (kerL p m.r.toNat m.c.toNat (ent m)).length) m.c.toNat):=sumN_cg _ fun j hj=>(Cg.refl _).mul (e j hj)
 refine e1.trans ?_
 rw[sumN_eq (g:=fun j=>sumN (fun k=>ent m i j*(co k*vecF (kerL p m.r.toNat m.c.toNat (ent m)) k j)) (kerL p m.r.toNat m.c.toNat (ent m)).length) _ fun j _=>by rw[sumN_mul],sumN_swap]
 refine sumN_cg0 _ fun k hk=>?_
 have e2:sumN (fun j=>ent m i j*(co k*vecF (kerL p m.r.toNat m.c.toNat (ent m)) k j)) m.c.toNat=co k*dotV (ent m i) ((kerL p m.r.toNat m.c.toNat (ent m)).getD k default) m.c.toNat:=by
  unfold dotV
  rw[←sumN_mul]
  exact sumN_eq _ fun j _=>by unfold vecF;rw[Int.mul_left_comm]
 rw[e2]
 have hx:(kerL p m.r.toNat m.c.toNat (ent m)).getD k default∈kerL p m.r.toNat m.c.toNat (ent m):=gm hk
 have:=(Cg.refl (co k)).mul ((kerL_spec hF (ent_bd h) hx).1 i hi)
 rwa [Int.mul_zero] at this
theorem mul_dot{p:Int}{x y:Mat}(hx:isMat p x=true)(hy:isMat p y=true)(hxy:x.c=y.r)(v:List Int){i:Nat}(hi:i<x.r.toNat):Cg p (dotV (ent (mulM p x y) i) v y.c.toNat) (dotV (ent x i) (appV p y v) x.c.toNat):=by
 have e1:Cg p (dotV (ent (mulM p x y) i) v y.c.toNat) (sumN (fun j=>sumN (fun k=>ent x i k*ent y k j) x.c.toNat*v.getD j default) y.c.toNat):=sumN_cg _ fun j hj=>by
  rw[mul_get hi hj]
  exact(Cg.mod ..).mul (.refl _)
 have e2:Cg p (dotV (ent x i) (appV p y v) x.c.toNat) (sumN (fun k=>ent x i k*sumN (fun j=>ent y k j*v.getD j default) y.c.toNat) x.c.toNat):=sumN_cg _ fun k hk=>by
  rw[appV_get p y v (by rw[←hxy];exact hk)]
  exact(Cg.refl _).mul (Cg.mod ..)
 refine e1.trans (Cg.trans ?_ e2.symm)
 rw[sumN_eq (g:=fun j=>sumN (fun k=>ent x i k*(ent y k j*v.getD j default)) x.c.toNat) _ fun j _=>by
  rw[Int.mul_comm,←sumN_mul]
  exact sumN_eq _ fun k _=>by rw[Int.mul_comm,Int.mul_assoc],sumN_swap,
  sumN_eq (h:=fun k=>ent x i k*sumN (fun j=>ent y k j*v.getD j default) y.c.toNat) (g:=fun k=>sumN (fun j=>ent x i k*(ent y k j*v.getD j default)) y.c.toNat) _ fun k _=>by rw[sumN_mul]]
 exact .refl _
theorem ker_sub{a b:Rep}{f:List Mat}(h:isMor a b f=true):isSub a (kerLs a.p f)=true:=by
 obtain⟨m1,m2,m3,m4,m5⟩:=mor_ok h
 obtain⟨a1,a2,a3⟩:=areM_spec (isMor_are h)
 have ra:=(fitR_reps a1).1
 have hlen:(kerLs a.p f).length=f.length:=by simp[kerLs]
 refine isSub_mk ra (by omega) (fun v hv=>?_) fun i hi=>?_
 ·obtain⟨k1,k2⟩:=kerLs_ok h (show v<f.length by omega)
  rw[k1]
  exact⟨k2,(m5 v (by omega)).2.1⟩
 ·have hi':i<a.q.fr.length:=by rw[←(isRep_spec ra).2.2.1];exact hi
  have hA:=ArF.of (isMor_are h) hi'
  have hm:=mor_arr h hi'
  obtain⟨k1,k2⟩:=kerLs_ok h hA.fr.2
  obtain⟨k3,k4⟩:=kerLs_ok h hA.to.2
  unfold subAt
  rw[k1,k3]
  rw[imgW_iff hA.ma k4 hA.cy]
  intro t ht
  refine kerS_mem hA.ft fun j hj=>?_
  have h1:=mul_dot hA.ft hA.ma hA.cy ((kerS a.p (f.getD (a.q.fr.getD i default).toNat default)).b.getD t default) hj
  refine h1.symm.trans ?_
  rw[←hm,←hA.cc]
  refine(mul_dot hA.mb hA.ff hA.cx _ (by rw[hA.rr];exact hj)).trans ?_
  refine sumN_cg0 _ fun k hk=>?_
  have hk2:k<(f.getD (a.q.fr.getD i default).toNat default).r.toNat:=by rw[←hA.cx];exact hk
  rw[appV_get _ _ _ hk2]
  have:=(Cg.refl (ent (b.m.getD i default) j k)).mul ((Cg.mod ..).trans (kerS_dot hA.ff ht hk2))
  rwa [Int.mul_zero] at this
theorem img_sub{a b:Rep}{f:List Mat}(h:isMor a b f=true):isSub b (imgLs a.p f)=true:=by
 obtain⟨m1,m2,m3,m4,m5⟩:=mor_ok h
 obtain⟨a1,a2,a3⟩:=areM_spec (isMor_are h)
 have rb:=(fitR_reps a1).2
 have hh:=Fits.of a1
 have hlen:(imgLs a.p f).length=f.length:=by simp[imgLs]
 refine isSub_mk rb (by omega) (fun v hv=>?_) fun i hi=>?_
 ·obtain⟨k1,k2⟩:=imgLs_ok h (show v<f.length by omega)
  rw[k1,←m3]
  exact⟨k2,(m5 v (by omega)).2.2⟩
 ·have hi':i<a.q.fr.length:=by rw[hh.q,←(isRep_spec rb).2.2.1];exact hi
  have hA:=ArF.of (isMor_are h) hi'
  have hm:=mor_arr h hi'
  obtain⟨k1,k2⟩:=imgLs_ok h hA.fr.2
  obtain⟨k3,k4⟩:=imgLs_ok h hA.to.2
  unfold subAt
  rw[←hh.q,←m3,k1,k3]
  have hF:=(isMat_spec hA.ff).1
  have hp:=isF_pos hF
  rw[imgW_iff hA.mb k4 hA.rr.symm]
  intro t ht
  have hcF:VecB a.p (f.getD (a.q.fr.getD i default).toNat default).r.toNat (rowsL (f.getD (a.q.fr.getD i default).toNat default).c.toNat (f.getD (a.q.fr.getD i default).toNat default).r.toNat fun k i'=>ent (f.getD (a.q.fr.getD i default).toNat default) i' k):=VecB.rows fun k hk j hj=>ent_bd hA.ff j hj k hk
  have hcG:VecB a.p (f.getD (a.q.to.getD i default).toNat default).r.toNat (rowsL (f.getD (a.q.to.getD i default).toNat default).c.toNat (f.getD (a.q.to.getD i default).toNat default).r.toNat fun k i'=>ent (f.getD (a.q.to.getD i default).toNat default) i' k):=VecB.rows fun k hk j hj=>ent_bd hA.ft j hj k hk
  have sF:=span_ss hF hcF.bd
  have sG:=span_ss hF hcG.bd
  have h1:=sF.1 t ht
  have h2:=appV_sp (p:=a.p) (m:=b.m.getD i default) (b:=rowsL (f.getD (a.q.fr.getD i default).toNat default).c.toNat (f.getD (a.q.fr.getD i default).toNat default).r.toNat fun k i'=>ent (f.getD (a.q.fr.getD i default).toNat default) i' k) (v:=(imgS a.p (f.getD (a.q.fr.getD i default).toNat default)).b.getD t default) (by rw[hA.cx];exact h1)
  rw[show(imgS a.p (f.getD (a.q.to.getD i default).toNat default)).n.toNat=(f.getD (a.q.to.getD i default).toNat default).r.toNat from rfl]
  rw[hA.rr] at h2
  refine(h2.sub fun k hk=>?_).sub sG.2
  rw[rowsL_len] at hk⊢
  have h3:=appV_cols (p:=a.p) (m:=f.getD (a.q.to.getD i default).toNat default) (rowL (a.m.getD i default).r.toNat fun j=>ent (a.m.getD i default) j k)
  refine h3.cg fun j hj=>?_
  rw[vecF_map (by rw[rowsL_len];exact hk),rowsL_get _ _ hk]
  rw[appV_get _ _ _ (by rw[hA.rr];exact hj),appV_get _ _ _ hj]
  have hkm:k<(a.m.getD i default).c.toNat:=by rw[←hA.cc];exact hk
  have e1:=congrArg (fun m=>ent m j k) hm
  rw[mul_get (by rw[hA.rr];exact hj) hk,mul_get hj hkm] at e1
  have e2:sumN (fun l=>ent (b.m.getD i default) j l*(rowL (f.getD (a.q.fr.getD i default).toNat default).r.toNat fun i'=>ent (f.getD (a.q.fr.getD i default).toNat default) i' k).getD l default) (b.m.getD i default).c.toNat=sumN (fun l=>ent (b.m.getD i default) j l*ent (f.getD (a.q.fr.getD i default).toNat default) l k) (b.m.getD i default).c.toNat:=sumN_eq _ fun l hl=>by rw[rowL_get _ (by rw[←hA.cx];exact hl)]
  have e3:sumN (fun l=>ent (f.getD (a.q.to.getD i default).toNat default) j l*(rowL (a.m.getD i default).r.toNat fun j=>ent (a.m.getD i default) j k).getD l default) (f.getD (a.q.to.getD i default).toNat default).c.toNat=sumN (fun l=>ent (f.getD (a.q.to.getD i default).toNat default) j l*ent (a.m.getD i default) l k) (f.getD (a.q.to.getD i default).toNat default).c.toNat:=sumN_eq _ fun l hl=>by rw[rowL_get _ (by rw[←hA.cy];exact hl)]
  rw[e2,e3,e1]
  exact .refl _
theorem ker_img{p:Int}{m:Mat}(h:isMat p m=true):(kerS p m).b.length+(imgS p m).b.length≤m.c.toNat:=by
 have hF:=(isMat_spec h).1
 have hp:=(isF_pos hF).1
 have hv:=kerL_vec (r:=m.r.toNat) (c:=m.c.toNat) (f:=ent m) hp
 have h1:=(spanB_le (show 0<p by omega) hv.bd).1
 have h2:=kerL_len hF (ent_bd h)
 obtain⟨pv,_⟩:=pivC_vec h
 have h3:=(spanB_le (show 0<p by omega) pv.bd).1
 have h4:(imgS p m).b=spanL p m.r.toNat (pivC m.r.toNat (ent m) (redK p m.r.toNat (ent m) m.c.toNat).2):=(span_cols hF (ent_bd h)).symm
 rw[h4]
 have h5:(spanL p m.r.toNat (pivC m.r.toNat (ent m) (redK p m.r.toNat (ent m) m.c.toNat).2)).length≤(pivC m.r.toNat (ent m) (redK p m.r.toNat (ent m) m.c.toNat).2).length:=h3
 rw[pivC_len] at h5
 have h6:(kerS p m).b.length≤(kerL p m.r.toNat m.c.toNat (ent m)).length:=h1
 omega
theorem sum_add2:∀{z x y:List Int},x.length=z.length→y.length=z.length→(∀v,v<z.length→x.getD v default+y.getD v default≤z.getD v default)→x.sum+y.sum≤z.sum
 |[],x,y,h1,h2,_=>by
  rw[List.length_eq_zero_iff.1 h1,List.length_eq_zero_iff.1 h2];simp
 |c::z,[],y,h1,_,_=>by simp at h1
 |c::z,a::x,[],_,h2,_=>by simp at h2
 |c::z,a::x,b::y,h1,h2,h=>by
  have h3:=h 0 (by simp)
  have h4:=sum_add2 (x:=x) (y:=y) (z:=z) (by simpa using h1) (by simpa using h2) fun v hv=>by simpa using h (v+1) (by simpa using hv)
  simp only[List.getD_cons_zero] at h3
  simp only[List.sum_cons]
  omega
theorem fs_facts{r:Rep}(hr:isRep r=true)(h:(fsP r).2.2=true):isSub r (fsP r).1=true∧isSub r (fsP r).2.1=true∧0<(dimS (fsP r).1).sum∧0<(dimS (fsP r).2.1).sum∧(dimS (fsP r).1).sum+(dimS (fsP r).2.1).sum≤r.d.sum:=by
 cases ho:fsO r with
 |none=>rw[fsP_none ho] at h;cases h
 |some k=>
  rw[fsP_some ho] at h⊢
  have hm:=num_mor (fitR_refl hr) (k:Int)
  generalize numL r r k=f at hm h⊢
  unfold spP at h⊢
  by_cases hc:isMor r r f=true∧(dimS (kerLs r.p (powL r.p f 8))).sum≠0∧(dimS (imgLs r.p (powL r.p f 8))).sum≠0
  ·rw[if_pos hc]
   have hg:=mor_pow hm 8
   generalize powL r.p f 8=g at hg hc
   have s1:=ker_sub hg
   have s2:=img_sub hg
   obtain⟨d1,d2,_,_⟩:=sub_dims s1
   obtain⟨e1,e2,_,_⟩:=sub_dims s2
   obtain⟨m1,m2,m3,m4,m5⟩:=mor_ok hg
   have nn:∀{x:List Int},(∀v,v<x.length→0≤x.getD v default)→0≤x.sum:=by
    intro x
    induction x with
    |nil=>intro _;simp
    |cons a x ih=>
     intro hx
     have h1:=hx 0 (by simp)
     have h2:=ih fun v hv=>by simpa using hx (v+1) (by simpa using hv)
     simp only[List.getD_cons_zero] at h1
     simp only[List.sum_cons]
     omega
   have p1:=nn (x:=dimS (kerLs r.p g)) fun v hv=>(d2 v (by omega)).1
   have p2:=nn (x:=dimS (imgLs r.p g)) fun v hv=>(e2 v (by omega)).1
   refine⟨s1,s2,?_,?_,sum_add2 d1 e1 fun v hv=>?_⟩
   ·have:=hc.2.1
    show 0<(dimS (kerLs r.p g)).sum
    omega
   ·have:=hc.2.2
    show 0<(dimS (imgLs r.p g)).sum
    omega
   ·show(dimS (kerLs r.p g)).getD v default+(dimS (imgLs r.p g)).getD v default≤_
    have hk:(kerLs r.p g).length=g.length:=by simp[kerLs]
    have hi:(imgLs r.p g).length=g.length:=by simp[imgLs]
    rw[dimS_get (by omega),dimS_get (by omega),(kerLs_ok hg (show v<g.length by omega)).1,(imgLs_ok hg (show v<g.length by omega)).1]
    obtain⟨n1,n2,n3⟩:=m5 v (by omega)
    have:=ker_img n1
    have:=(isMat_spec n1).2.2.1
    omega
  ·rw[if_neg hc] at h;cases h
end Go.Proofs.YtjmjamhhppoimaaGreat.V
