/- Texts that the proof needs: A101, A102, A103, A81, A94. -/
import Derived.Test.YtjmjamhhppoimaaGreatQstA100
namespace Go.Proofs.YtjmjamhhppoimaaGreat.V
open V.Enc (enc)
open Go.RowKit G D
set_option linter.unusedVariables false
set_option linter.unusedSimpArgs false
set_option maxHeartbeats 4000000
set_option maxRecDepth 4000
attribute [local irreducible] AW ARg ARA ARet MRet ASil AC AM ARI
theorem combined_a(a b:Rep)(ks:List Int)(hf:fitR a b=true)(hks:ks.length=(hkL a b).length)(hkb:∀j,j<ks.length→0≤ks.getD j default∧ks.getD j default≤a.p-1):AC Tryz.prog 342 [.agg (enc false a),.agg (enc false b),ar false (homL a b),ar false ks] [.dt true 3 (E true (cutV a b (cmbH a b ks)))]:=by
 refine AC.go Tryz.func342 Tryz.ntmps342 rfl rfl fun w0 hw=>?_;simp[WfL,WfA,E_length,Enc.enc,In64] at hw
 have h:=Fits.of hf
 have h5:=okQ_spec h.ok
 have hda:=h.da
 have hdb:=h.db
 have hp:=isF_pos h.f
 have hn:=szT_le h a.d.length (Nat.le_refl _)
 have hZ:=zeros_a a b h
 rw[cut_zero h] at hZ
 have hle:=rkE_le a b hf
 have hlen:=hkL_len a b hf
 have hll:=homL_len a b
 have hvb:=hkL_vec hf
 have hH:∀k,k<(hkL a b).length→(homL a b).getD k default=cutV a b ((hkL a b).getD k default):=fun k hk=>by simp[homL,hk]
 have hcs:∀k,cmbV a.p (szT a b a.d.length) (hkL a b) ks (k+1)=addK a.p (ks.getD k default) 0 ((hkL a b).getD k default) (cmbV a.p (szT a b a.d.length) (hkL a b) ks k) (szT a b a.d.length):=fun _=>rfl
 have hcb:=fun k j hj=>cmbV_bd (p:=a.p) (n:=szT a b a.d.length) (l:=hkL a b) (k:=ks) hp.1 k j hj
 have hcl:=fun k=>cmbV_len a.p (szT a b a.d.length) (hkL a b) ks k
 unfold cmbH
 rw[show List.replicate (szT a b a.d.length) (0:Int)=cmbV a.p (szT a b a.d.length) (hkL a b) ks 0 from rfl] at hZ
 generalize homL a b=HL at hll hH⊢
 have hca:=fun(x y:List Int) hx hy v hv k=>cut_add (a:=a) (b:=b) (p:=a.p) (k:=k) (x:=x) (y:=y) hx hy (v:=v) hv
 have hAM:=fun(x:List Int) (hx:x.length=szT a b a.d.length) (hxb:∀y∈x,0≤y∧y≤a.p-1)=>areM_cutV hf hx hxb
 have hcg:=fun k (hk:k<(hkL a b).length)=>hvb _ (gm (d:=default) hk)
 have hcv:=cutV_len a b
 generalize hkL a b=KL at*
 generalize szT a b a.d.length=N at*
 generalize cmbV a.p N KL ks=CB at*
 have hvn:=hcv (CB 0)
 repeat' first|refine s1 ?_|(refine kR ?_;first|refine F.c (hZ) ?_)|fail
 refine F.loop (σ:=Nat) [10,11,12,13,19,20,21,22,23,24,25,26,27,28,29,30,31,32,33,34,35,36,37,38,39,40,41,42,43,44,45,46] (fun k=>[(19,.i k)]) (fun k=>[(2,.live false 3 (E true (cutV a b (CB k))))]) (fun k=>k≤KL.length) (fun k=>KL.length-k) 0 ⟨rfl,trivial⟩ ⟨rfl,trivial⟩ (Nat.zero_le _) ?_
 rintro k k1
 by_cases hk:k<KL.length
 ·obtain⟨v1,v2⟩:=hcg k hk
  have hHk:=hH k hk
  have hkk:=hkb k (by omega)
  have hc1:=fun v hv=>hca (CB k) (KL.getD k default) (hcl k) v1 v hv (ks.getD k default)
  simp only[←hcs k] at hc1
  have ha1:=hAM (CB k) (hcl k) (vec_mem (hcl k) fun j hj=>hcb k j hj)
  have ha2:=hAM (KL.getD k default) v1 (vec_mem v1 v2)
  have hf1:=fun v hv=>fitV_spec ha1 (v:=v) hv
  have hf2:=fun v hv=>fitV_spec ha2 (v:=v) hv
  have l1:=hcv (CB k)
  have l2:=hcv (KL.getD k default)
  have l3:=hcv (CB (k+1))
  have hmx:=mixL_len (x:=cutV a b (CB (k+1))) (y:=cutV a b (CB k)) (by omega)
  have hms:=fun v hv=>mixL_set (x:=cutV a b (CB (k+1))) (y:=cutV a b (CB k)) (by omega) (k:=v) hv
  have hmg:=fun v hv=>mixL_get (x:=cutV a b (CB (k+1))) (y:=cutV a b (CB k)) (by omega) (k:=v) hv
  have hm0:=mixL_zero (cutV a b (CB (k+1))) (cutV a b (CB k))
  have hma:=mixL_all (x:=cutV a b (CB (k+1))) (y:=cutV a b (CB k)) (by omega)
  have hrc:∀v,v<a.d.length→(cutV a b (CB k)).getD v default=⟨b.d.getD v default,a.d.getD v default,((cutV a b (CB k)).getD v default).m⟩:=fun v hv=>by simp[cutV,hv]
  generalize hY:cutV a b (CB (k+1))=Y at hc1 l3 hmx hms hmg hm0 hma⊢
  generalize cutV a b (CB k)=X at hc1 hf1 l1 hmx hms hmg hm0 hma hrc⊢
  rw[←hHk] at hc1 hf2 l2
  repeat' first|refine s1 ?_|fail
  generalize HL.getD k default=M at hc1 hf2 l2
  refine F.loop (σ:=Nat) [12,13,26,27,28,29,30,31,32,33,34,35,36,37,38,39,40,41,42,43,44,45] (fun v=>[(26,.i v)]) (fun v=>[(2,.live false 3 (E true (mixL Y X v)))]) (fun v=>v≤a.d.length) (fun v=>a.d.length-v) 0 ⟨rfl,trivial⟩ ⟨obE (by rw[hm0]),trivial⟩ (Nat.zero_le _) ?_
  rintro v v0
  have hlv:=hmx v
  by_cases hv:v<a.d.length
  ·have hg:=hmg v (by omega)
   have hs:=hms v (by omega)
   rw[hc1 v hv] at hs
   obtain⟨a1,a2,a3,a4⟩:=hf1 v (by omega)
   obtain⟨b1,b2,b3,b4⟩:=hf2 v (by omega)
   have m1:=isMat_spec a1
   have m2:=isMat_spec b1
   have hrv:=hrc v hv
   have hll':(M.getD v default).m.length=(X.getD v default).m.length:=by omega
   have hA:=addMul_m a.p (ks.getD k default) (X.getD v default).m (M.getD v default).m 0 (X.getD v default).m.length (by omega) (by omega) (fun t ht=>by have:=m1.2.2.2.2 t ht;omega) (fun t ht=>by have:=m2.2.2.2.2 t ht;omega) (by omega) (by omega)
   rw[←hg] at hA hs hrv hll'
   generalize mixL Y X v=Z at hlv hg hs hA hrv hll'⊢
   have hbX:(E true Z).length=(cutV a b (CB 0)).length:=by rw[E_length,hlv];omega
   refine AW.takeE (α:=Mat) (o:=2) (k:=v) (j:=2) (ls:=Z) rfl (by omega) rfl (E_length _ _) ?_
   repeat' first|refine s1 ?_|fail
   refine AW.draw 13 G.mixed (by kernel_rfl) ?_
   refine Pz (.p 0<|.l 1<|.p 2<|.p 3<|.p 4<|.p 5<|.l 6<|.p 7<|.p 8<|.p 9<|.l 10<|.p 11<|.l 12<|.o 13 false<|.n) ?_
   repeat' first|refine yP (i:=4) ?_ (hs:=by exact(A.idxT (k:=v) rfl rfl rfl hbX rfl (by omega)))|refine yL (i:=6) ?_ (hs:=by exact(A.ldS rfl rfl hbX (Nat.zero_add _) (by omega) rfl rfl))|refine yS ?_|refine s1 ?_|(refine kR ?_;first|refine F.m [3] (hA) ?_)|fail
   any_goals refine lf ?_
   refine s1 ?_
   first|refine AW.put (α:=Mat) (o:=2) (o2:=3) (k:=v) (j:=2) (v:=⟨b.d.getD v default,a.d.getD v default,addK a.p (ks.getD k default) 0 (M.getD v default).m (Z.getD v default).m (M.getD v default).m.length⟩) (x:=Z.getD v default) (m:=(Z.getD v default).m.length) (ls:=Z) (sz2:=1) (ys:=E true (addK a.p (ks.getD k default) 0 (M.getD v default).m (Z.getD v default).m (M.getD v default).m.length)) rfl rfl (by rw[E_length,addK_len]) (E_pure _ _) rfl (by omega) rfl (by rw[hrv];rfl) ?_|(refine s1 ?_;refine AW.put (α:=Mat) (o:=2) (o2:=3) (k:=v) (j:=2) (v:=⟨b.d.getD v default,a.d.getD v default,addK a.p (ks.getD k default) 0 (M.getD v default).m (Z.getD v default).m (M.getD v default).m.length⟩) (x:=Z.getD v default) (m:=(Z.getD v default).m.length) (ls:=Z) (sz2:=1) (ys:=E true (addK a.p (ks.getD k default) 0 (M.getD v default).m (Z.getD v default).m (M.getD v default).m.length)) rfl rfl (by rw[E_length,addK_len]) (E_pure _ _) rfl (by omega) rfl (by rw[hrv];rfl) ?_)|refine F.put (α:=Mat) (o:=2) (o2:=3) (k:=v) (j:=2) (v:=⟨b.d.getD v default,a.d.getD v default,addK a.p (ks.getD k default) 0 (M.getD v default).m (Z.getD v default).m (M.getD v default).m.length⟩) (x:=Z.getD v default) (m:=(Z.getD v default).m.length) (ls:=Z) (sz2:=1) (ys:=E true (addK a.p (ks.getD k default) 0 (M.getD v default).m (Z.getD v default).m (M.getD v default).m.length)) rfl rfl (by rw[E_length,addK_len]) (E_pure _ _) rfl (by omega) rfl (by rw[hrv];rfl) ?_|(refine s1 ?_;refine F.put (α:=Mat) (o:=2) (o2:=3) (k:=v) (j:=2) (v:=⟨b.d.getD v default,a.d.getD v default,addK a.p (ks.getD k default) 0 (M.getD v default).m (Z.getD v default).m (M.getD v default).m.length⟩) (x:=Z.getD v default) (m:=(Z.getD v default).m.length) (ls:=Z) (sz2:=1) (ys:=E true (addK a.p (ks.getD k default) 0 (M.getD v default).m (Z.getD v default).m (M.getD v default).m.length)) rfl rfl (by rw[E_length,addK_len]) (E_pure _ _) rfl (by omega) rfl (by rw[hrv];rfl) ?_)
   rw[hs]
   repeat' first|refine s1 ?_|fail
   exact⟨v+1,F.fit ⟨rfl,trivial⟩ ⟨rfl,trivial⟩,by omega,by omega⟩
  ·obtain rfl:v=a.d.length:=by omega
   have e:mixL Y X a.d.length=Y:=by rw[←l3];exact hma
   rw[e]
   repeat' first|refine s1 ?_|fail
   exact⟨k+1,F.fit ⟨rfl,trivial⟩ ⟨obE (by rw[hY]),trivial⟩,by omega,by omega⟩
 ·obtain rfl:k=KL.length:=by omega
  have e:=hcv (CB KL.length)
  generalize cutV a b (CB KL.length)=Y at e⊢
  repeat' first|refine s1 ?_|fail
  (refine kZ ?_;exact F.ret rfl)
theorem numbered_a(a b:Rep)(c:Int)(hf:fitR a b=true)(h0:0≤c∧c≤1000000):AC Tryz.prog 252 [.agg (enc false a),.agg (enc false b),ar false (homL a b),.i c] [.dt true 3 (E true (numL a b c))]:=by
 refine AC.go Tryz.func252 Tryz.ntmps252 rfl rfl fun w0 hw=>?_;simp[WfL,WfA,E_length,Enc.enc,In64] at hw
 have h:=Fits.of hf
 have hp:=isF_pos h.f
 have hle:=rkE_le a b hf
 have hlen:=hkL_len a b hf
 have hll:=homL_len a b
 have hV:=vectorOf_a a.p c (hkL a b).length hp h0 (by omega)
 have hC:=combined_a a b (digV a.p c (hkL a b).length) hf (digV_len ..) (fun j hj=>by
  rw[digV_len] at hj
  rw[digV_get _ _ hj]
  exact digN_bd (by omega) _ _)
 unfold numL
 rw[←hll] at hV hC⊢
 generalize cutV a b (cmbH a b (digV a.p c (homL a b).length))=R at hC⊢
 generalize digV a.p c (homL a b).length=K at hV hC
 generalize homL a b=HL at hV hC
 repeat' first|refine s1 ?_|fail
 refine AW.draw 11 G.mixed (by kernel_rfl) ?_
 refine Pz (.l 0<|.l 1<|.p 2<|.p 3<|.l 4<|.p 5<|.p 6<|.p 7<|.o 8 true<|.o 9 true<|.p 10<|.n) ?_
 repeat' first|refine yS ?_|refine s1 ?_|(refine kR ?_;first|refine F.c (hV) ?_|refine F.c (hC) ?_)|fail
 any_goals refine lf ?_
 repeat' first|refine s1 ?_|fail
 (refine kZ ?_;exact F.ret rfl)
theorem homD_len(a b:Rep)(hf:fitR a b=true):homD a b=((hkL a b).length:Nat)∧(hkL a b).length≤80:=by
 have hle:=rkE_le a b hf
 have hlen:=hkL_len a b hf
 unfold homD
 rw[if_pos hf]
 omega
def mstH(a b:Rep):Nat:=(min (cntH a.p (hkL a b).length) 3000).toNat
theorem mstH_eq{a b:Rep}(hf:fitR a b=true):min (cntH a.p (hkL a b).length) 3000=(mstH a b:Int)∧1≤mstH a b∧mstH a b≤3000:=by
 have:=cntH_bd (isF_pos (Fits.of hf).f) (hkL a b).length
 unfold mstH
 omega
def radR(r:Rep):Rep:=subR r (radL r)
def layR:Nat→Rep→List (List Int)→List (List Int)×Bool
 |0,_,_=>([],false)
 |f+1,x,out=>if x.d.sum=0 then(out,true) else layR f (radR x) (out++[topD x])
theorem zsum:∀n:Nat,(List.replicate n (0:Int)).sum=0
 |0=>rfl
 |n+1=>by rw[List.replicate_succ,List.sum_cons,zsum n];rfl
theorem rep_sum{r:Rep}(h:isRep r=true):0≤r.d.sum∧r.d.sum≤8:=by
 obtain⟨h1,h2,h3,h4⟩:=isRep_spec h
 obtain⟨c1,c2,c3,c4⟩:=areDims_spec h2
 have:(List.replicate r.d.length (0:Int)).sum≤r.d.sum:=sum_le (by simp) fun j hj=>by
  have hj:j<r.d.length:=by simpa using hj
  have hd:0≤r.d.getD j default∧r.d.getD j default≤4:=allIn_spec c3 hj
  have e:(List.replicate r.d.length (0:Int)).getD j default=0:=by simp[hj]
  rw[e];exact hd.1
 rw[zsum] at this
 exact⟨this,c4⟩
structure LayI (r0:Rep) (f:Nat) (x:Rep) (out:List (List Int)):Prop where
 ok:isRep x=true
 lt:x.d.sum+1≤f
 eq:layR 9 r0 []=layR f x out
 le:f≤9
 ln:out.length+f=9
theorem LayI.start{r:Rep}(h:isRep r=true):LayI r 9 r []:=⟨h,by have:=rep_sum h;omega,rfl,by omega,rfl⟩
theorem powerOf_a{p:Int}{m:Mat}(h:isMat p m=true)(hs:m.r=m.c)(n:Nat)(hn:n≤100):AC Tryz.prog 358 [.i p,.agg (enc false m),.i (n:Int)] [.agg (enc true (powM p m n))]:=by
 refine AC.go Tryz.func358 Tryz.ntmps358 rfl rfl fun w0 hw=>?_;simp[WfL,WfA,E_length,Enc.enc,In64] at hw
 obtain⟨h0,h1,h2,_,_⟩:=isMat_spec h
 have hI:=identity_a m.r.toNat (by omega)
 rw[Int.toNat_of_nonneg h1.1,show tm m.r.toNat m.r.toNat idF=powM p m 0 from rfl] at hI
 have hT:∀k,AC Tryz.prog 266 [.i p,.agg (enc false (powM p m k)),.agg (enc false m)] [.agg (enc true (powM p m (k+1)))]:=fun k=>by
  obtain⟨a,b,c⟩:=pow_ok h hs k
  exact timesM_a a h c
 generalize powM p m=PM at hI hT⊢
 repeat' first|refine s1 ?_|(refine kR ?_;first|refine F.c (hI) ?_)|fail
 refine AW.putV 7 2 rfl rfl rfl rfl (E_length _ _) (E_pure _ _) rfl ?_
 refine F.loop (σ:=Nat) [12,13,14,15,16,17,18] (fun k=>[(12,.i k)]) (fun k=>[(3,.live false 3 (E true [PM k]))]) (fun k=>k≤n) (fun k=>n-k) 0 ⟨rfl,trivial⟩ ⟨rfl,trivial⟩ (Nat.zero_le _) ?_
 rintro k k1
 by_cases hk:k<n
 ·have hTk:=hT k
  generalize hY:PM (k+1)=Y at hTk
  refine AW.takeE (α:=Mat) (o:=3) (k:=0) (j:=2) (ls:=[PM k]) rfl (by simp) rfl (E_length _ _) ?_
  repeat' first|refine AW.putV (o2:=5) 7 2 rfl rfl rfl rfl (E_length _ _) (E_pure _ _) rfl ?_|refine s1 ?_|(refine kR ?_;first|refine F.c (hTk) ?_)|fail
  exact⟨k+1,F.fit ⟨rfl,trivial⟩ ⟨obE (by rw[hY];rfl),trivial⟩,by omega,by omega⟩
 ·obtain rfl:k=n:=by omega
  refine AW.takeE (α:=Mat) (o:=3) (k:=0) (j:=2) (ls:=[PM k]) rfl (by simp) rfl (E_length _ _) ?_
  repeat' first|refine s1 ?_|fail
  (refine kZ ?_;exact F.ret rfl)
theorem powL_take{p:Int}{f:List Mat}{n k:Nat}(h:k<f.length):(powL p f n).take (k+1)=(powL p f n).take k++[powM p (f.getD k default) n]:=map_take (fun m=>powM p m n) h
theorem pow_facts{r:Rep}{f:List Mat}(h:isMor r r f=true):(powL r.p f 8).length≤5∧r.d.length≤5∧(∀v,v<f.length→isMat r.p (f.getD v default)=true∧(f.getD v default).r=(f.getD v default).c)∧(∀v,v<(powL r.p f 8).length→isMat r.p ((powL r.p f 8).getD v default)=true)∧sameSL (kerLs r.p (powL r.p f 8)) (radK r 0)=decide ((dimS (kerLs r.p (powL r.p f 8))).sum=0)∧sameSL (imgLs r.p (powL r.p f 8)) (radK r 0)=decide ((dimS (imgLs r.p (powL r.p f 8))).sum=0)∧(∀v,v<(powL r.p f 8).length→isSpc r.p ((kerLs r.p (powL r.p f 8)).getD v default)=true∧isSpc r.p ((imgLs r.p (powL r.p f 8)).getD v default)=true):=by
 have h2:=mor_pow h 8
 obtain⟨m1,m2,m3,m4,m5⟩:=mor_ok h2
 obtain⟨n1,n2,n3,n4,n5⟩:=mor_ok h
 have hk:=fun v (hv:v<(powL r.p f 8).length)=>kerLs_ok h2 hv
 have hi:=fun v (hv:v<(powL r.p f 8).length)=>imgLs_ok h2 hv
 have e1:(kerLs r.p (powL r.p f 8)).length=(powL r.p f 8).length:=by simp[kerLs]
 have e2:(imgLs r.p (powL r.p f 8)).length=(powL r.p f 8).length:=by simp[imgLs]
 refine⟨m2,by omega,fun v hv=>?_,fun v hv=>(m5 v hv).1,same_zero (by omega) fun v hv=>?_,same_zero (by omega) fun v hv=>?_,fun v hv=>?_⟩
 ·obtain⟨a,b,c⟩:=n5 v hv
  exact⟨a,by rw[b,c]⟩
 ·have hv:v<(powL r.p f 8).length:=by omega
  rw[(hk v hv).1]
  exact(m5 v hv).2.1
 ·have hv:v<(powL r.p f 8).length:=by omega
  rw[(hi v hv).1]
  exact(m5 v hv).2.2
 ·rw[(hk v hv).1,(hi v hv).1]
  exact⟨(hk v hv).2,(hi v hv).2⟩
theorem implsplitBy_a(r:Rep)(f:List Mat)(h:isMor r r f=true):AC Tryz.prog 272 [.agg (enc false r),ar false f] [.dt true 2 (E true (spP r f).1),.dt true 2 (E true (spP r f).2.1),.b (spP r f).2.2]:=by
 refine AC.go Tryz.func272 Tryz.ntmps272 rfl rfl fun w0 hw=>?_;simp[WfL,WfA,E_length,Enc.enc,In64] at hw
 obtain⟨q1,q2,q3,q4,q5,q6,q7⟩:=pow_facts h
 obtain⟨n1,n2,n3,n4,n5⟩:=mor_ok h
 have hll:=powL_len r.p f 8
 have hP:=fun v hv=>powerOf_a (q3 v hv).1 (q3 v hv).2 8 (by omega)
 have hts:=fun k hk=>powL_take (p:=r.p) (f:=f) (n:=8) (k:=k) hk
 have hK:=kernelSub_a r.p (powL r.p f 8) q4 (by omega)
 have hI:=imageSub_a r.p (powL r.p f 8) q4 (by omega)
 have e1:(kerLs r.p (powL r.p f 8)).length=(powL r.p f 8).length:=by simp[kerLs]
 have e2:(imgLs r.p (powL r.p f 8)).length=(powL r.p f 8).length:=by simp[imgLs]
 have b1:∀i,i<(kerLs r.p (powL r.p f 8)).length→((kerLs r.p (powL r.p f 8)).getD i default).b.length≤8:=fun i hi=>by
  have:=(q7 i (by omega)).1
  have a:=isSpc_le this
  have b:=(isSpc_spec this).2.1
  omega
 have b2:∀i,i<(imgLs r.p (powL r.p f 8)).length→((imgLs r.p (powL r.p f 8)).getD i default).b.length≤8:=fun i hi=>by
  have:=(q7 i (by omega)).2
  have a:=isSpc_le this
  have b:=(isSpc_spec this).2.1
  omega
 have hDK:=subDims_a (kerLs r.p (powL r.p f 8)) (by omega) (fun i hi=>by have:=b1 i hi;omega)
 have hDI:=subDims_a (imgLs r.p (powL r.p f 8)) (by omega) (fun i hi=>by have:=b2 i hi;omega)
 have l1:=dimS_len (kerLs r.p (powL r.p f 8))
 have l2:=dimS_len (imgLs r.p (powL r.p f 8))
 have hSK:=sumOf_a (dimS (kerLs r.p (powL r.p f 8))) (by omega) (fun j hj=>by rw[dimS_get (by omega)];have:=b1 j (by omega);omega)
 have hSI:=sumOf_a (dimS (imgLs r.p (powL r.p f 8))) (by omega) (fun j hj=>by rw[dimS_get (by omega)];have:=b2 j (by omega);omega)
 unfold spP
 generalize kerLs r.p (powL r.p f 8)=K at hK hDK hSK⊢
 generalize imgLs r.p (powL r.p f 8)=I at hI hDI hSI⊢
 clear q4 q5 q6 q7 e1 e2 b1 b2 l1 l2
 generalize powL r.p f 8=L at hll hts hK hI q1
 generalize dimS K=DK at hDK hSK⊢
 generalize dimS I=DI at hDI hSI⊢
 repeat' first|refine s1 ?_|fail
 refine AW.open 7 3 (.inl rfl) ?_
 refine F.loop (σ:=Nat) [7,9,14,15,16,17,18,19,20,21,22,23,24,25] (fun k=>[(7,.sl 1 k 0 k),(14,.i k)]) (fun k=>[(1,.live false 3 (E true (L.take k)))]) (fun k=>k≤f.length) (fun k=>f.length-k) 0 ⟨rfl,rfl,trivial⟩ ⟨rfl,trivial⟩ (Nat.zero_le _) ?_
 rintro k k1
 have hp2:(L.take k).length=k:=by rw[List.length_take];omega
 by_cases hk:k<f.length
 ·have hPk:AC Tryz.prog 358 [.i r.p,.agg (enc false (f.getD k default)),.i 8] [.agg (enc true (powM r.p (f.getD k default) 8))]:=hP k hk
  have ht:=hts k hk
  generalize powM r.p (f.getD k default) 8=Y at hPk ht
  repeat' first|refine s1 ?_|(refine kR ?_;first|refine F.c (hPk) ?_|refine F.a1 Mat (a:=Y) ?_)|fail
  exact⟨k+1,F.fit ⟨rfl,rfl,trivial⟩ ⟨obE (by rw[ht]),trivial⟩,by omega,by omega⟩
 ·obtain rfl:k=f.length:=by omega
  have e:L.take f.length=L:=List.take_of_length_le (by omega)
  rw[e]
  clear hp2 e
  rw[←hll]
  repeat' first|refine s1 ?_|fail
  refine AW.draw 10 G.mixed (by kernel_rfl) ?_
  refine Pz (.p 0<|.l 1<|.p 2<|.p 4<|.l 5<|.p 6<|.o 3 true<|.o 7 true<|.p 8<|.p 9<|.n) ?_
  repeat' first|refine yS ?_|refine s1 ?_|(refine kR ?_;first|refine F.c (hK) ?_|refine F.c (hI) ?_)|fail
  any_goals refine lf ?_
  all_goals
   by_cases z1:DK.sum=0
   ·rw[if_neg fun x=>x.2.1 z1]
    rw[z1] at hSK
    repeat' first|refine s1 ?_|(refine kR ?_;first|refine F.c (hDK) ?_|refine F.c (hSK) ?_)|fail
    (refine kZ ?_;exact F.ret rfl)
   ·by_cases z2:DI.sum=0
    ·rw[if_neg fun x=>x.2.2 z2]
     rw[z2] at hSI
     repeat' first|refine s1 ?_|(refine kR ?_;first|refine F.c (hDK) ?_|refine F.c (hSK) ?_|refine F.c (hDI) ?_|refine F.c (hSI) ?_)|fail
     (refine kZ ?_;exact F.ret rfl)
    ·rw[if_pos ⟨h,z1,z2⟩]
     repeat' first|refine s1 ?_|(refine kR ?_;first|refine F.c (hDK) ?_|refine F.c (hSK) ?_|refine F.c (hDI) ?_|refine F.c (hSI) ?_)|fail
     (refine kZ ?_;exact F.ret rfl)
end Go.Proofs.YtjmjamhhppoimaaGreat.V
