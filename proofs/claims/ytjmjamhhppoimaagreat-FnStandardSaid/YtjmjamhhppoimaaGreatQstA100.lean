/- Texts that the proof needs: A194, A100. -/
import Derived.Test.YtjmjamhhppoimaaGreatQstA193
namespace Go.Proofs.YtjmjamhhppoimaaGreat.V
open Go.RowKit G D
set_option linter.unusedVariables false
set_option linter.unusedSimpArgs false
set_option maxHeartbeats 2000000
set_option maxRecDepth 4000
theorem tr_ent{m:Mat}{i j:Nat}(hi:i<m.c.toNat)(hj:j<m.r.toNat):ent (trM m) i j=ent m j i:=ent_tm _ hi hj
theorem isMat_tr{p:Int}{m:Mat}(h:isMat p m=true):isMat p (trM m)=true∧(trM m).r=m.c∧(trM m).c=m.r:=by
 obtain⟨h0,h1,h2,_,_⟩:=isMat_spec h
 exact⟨isMat_tab h0 (by omega) (by omega) fun i hi j hj=>ent_bd h j hj i hi,Int.toNat_of_nonneg h2.1,Int.toNat_of_nonneg h1.1⟩
theorem trL_get{l:List Mat}{k:Nat}(h:k<l.length):(trL l).getD k default=trM (l.getD k default):=by simp[trL,h]
theorem areDims_opp{q:Quiv}{d:List Int}(h:areDims q d=true):areDims (oppQ q) d=true:=by
 simp only[areDims,Bool.and_eq_true,decide_eq_true_eq] at h⊢
 exact⟨⟨⟨okQ_opp h.1.1.1,h.1.1.2⟩,h.1.2⟩,h.2⟩
theorem dual_ok{r:Rep}(h:isRep r=true):isRep (dualR r)=true:=by
 obtain⟨r1,r2,r3,r4⟩:=isRep_spec h
 obtain⟨d1,d2,d3,d4⟩:=areDims_spec r2
 have h5:=okQ_spec d1
 simp only[isRep,Bool.and_eq_true,decide_eq_true_eq,List.all_eq_true]
 refine⟨⟨⟨r1,areDims_opp r2⟩,by show(trL r.m).length=r.q.to.length;rw[trL_len];omega⟩,fun i hi=>?_⟩
 have hi:i<r.m.length:=by
  have:i<(trL r.m).length:=List.mem_range.1 hi
  rwa [trL_len] at this
 obtain⟨a1,a2,a3,a4,a5⟩:=arrow_ok h hi
 obtain⟨t1,t2,t3⟩:=isMat_tr a1
 simp only[fitM,Bool.and_eq_true,decide_eq_true_eq]
 have e:(dualR r).m.getD i default=trM (r.m.getD i default):=trL_get hi
 rw[e]
 exact⟨⟨t1,by rw[t3,a5];rfl⟩,by rw[t2,a4];rfl⟩
def ngT(p:Int)(m:Mat):Mat:=tm m.c.toNat m.r.toNat fun i j=>(-(ent m j i))%p
def ngL(p:Int)(l:List Mat):List Mat:=l.map (ngT p)
theorem isMat_ng{p:Int}{m:Mat}(h:isMat p m=true):isMat p (ngT p m)=true∧(ngT p m).r=m.c∧(ngT p m).c=m.r:=by
 obtain⟨h0,h1,h2,_,_⟩:=isMat_spec h
 have:=isF_pos h0
 exact⟨isMat_tab h0 (by omega) (by omega) fun i hi j hj=>mod_bd (by omega),Int.toNat_of_nonneg h2.1,Int.toNat_of_nonneg h1.1⟩
theorem ngL_get{p:Int}{l:List Mat}{k:Nat}(h:k<l.length):(ngL p l).getD k default=ngT p (l.getD k default):=by simp[ngL,h]
theorem injP_ok{p:Int}{q:Quiv}{v:Int}(h:(injP p q v).2=true):okQ q=true∧(projP p (oppQ q) v).2=true∧(injP p q v).1=dualR (projR p (oppQ q) v):=by
 unfold injP at h⊢
 split at h
 ·rename_i g
  rw[if_pos g]
  exact⟨g.1,g.2,rfl⟩
 ·cases h
theorem mul_tr{p:Int}{x y:Mat}{i j:Nat}(hxy:x.c=y.r)(hi:i<x.r.toNat)(hj:j<y.c.toNat)(hx0:0≤x.c){y' x':Mat}(ey:∀k,k<x.c.toNat→ent y' j k=ent y k j)(ex:∀k,k<x.c.toNat→ent x' k i=ent x i k)(hc:y'.c=x.c)(hj':j<y'.r.toNat)(hi':i<x'.c.toNat):ent (mulM p y' x') j i=ent (mulM p x y) i j:=by
 rw[mul_get hj' hi',mul_get hi hj,hc]
 congr 1
 refine sumN_eq _ fun k hk=>?_
 rw[ey k hk,ex k hk,Int.mul_comm]
theorem ext_inj{r:Rep}{v:Int}(hr:isRep r=true)(hP:(projP r.p (oppQ r.q) v).2=true){c:List Mat}(hc:isCoc r (dualR (projR r.p (oppQ r.q) v)) c=true):∃f,areM r (dualR (projR r.p (oppQ r.q) v)) f=true∧cobL r (dualR (projR r.p (oppQ r.q) v)) f=c:=by
 obtain⟨hF,hA,_⟩:=projP_true2 hP
 have hPr:=projR_ok hF hA
 have hRr:=dual_ok hr
 have hp:=isF_pos hF
 have hP':(projP (dualR r).p (dualR r).q v).2=true:=hP
 generalize hPP:projR r.p (oppQ r.q) v=PP at hc hPr⊢
 have hPp:PP.p=r.p:=by rw[←hPP];rfl
 have hPq:PP.q=oppQ r.q:=by rw[←hPP];rfl
 have hfit:fitR PP (dualR r)=true:=fitR_mk hPr hRr hPp hPq
 obtain⟨k1,k2,k3⟩:=isCoc_spec hc
 obtain⟨r1,r2,r3,r4⟩:=isRep_spec hr
 obtain⟨d1,d2,d3,d4⟩:=areDims_spec r2
 have h5:=okQ_spec d1
 obtain⟨s1,s2,s3,s4⟩:=isRep_spec hPr
 have hPm:PP.m.length=r.q.to.length:=by rw[s3,hPq];rfl
 have hcl:c.length=r.q.fr.length:=by rw[k2,r3]
 have hnl:(ngL r.p c).length=r.q.fr.length:=by simp[ngL,hcl]
 have hc':isCoc PP (dualR r) (ngL r.p c)=true:=by
  simp only[isCoc,fitC,Bool.and_eq_true,decide_eq_true_eq,List.all_eq_true]
  refine⟨⟨hfit,by omega⟩,fun i hi=>?_⟩
  have hi:i<c.length:=by
   have:i<(ngL r.p c).length:=by simpa using hi
   omega
  obtain⟨m1,m2,m3⟩:=k3 i hi
  obtain⟨n1,n2,n3⟩:=isMat_ng m1
  rw[ngL_get hi,hPp,hPq]
  exact⟨⟨n1,by rw[n3,m3];rfl⟩,by rw[n2,m2];rfl⟩
 have hsol:=ext_proj hRr hP' (c:=ngL r.p c) (by
  have:projR (dualR r).p (dualR r).q v=PP:=hPP
  rw[this];exact hc')
 rw[show projR (dualR r).p (dualR r).q v=PP from hPP] at hsol
 generalize exL (dualR r) v (ngL r.p c)=f at hsol
 obtain⟨hare,hcob⟩:=hsol
 obtain⟨u1,u2,u3⟩:=areM_spec hare
 have hPd:PP.d.length=r.d.length:=by
  have h1:=(areDims_spec s2).2.1
  rw[hPq] at h1
  have h2:(oppQ r.q).n=r.q.n:=rfl
  omega
 have hfl:f.length=r.d.length:=by omega
 have hfv:∀w,w<f.length→isMat r.p (f.getD w default)=true∧(f.getD w default).c=PP.d.getD w default∧(f.getD w default).r=r.d.getD w default:=fun w hw=>by
  have:=u3 w hw
  simp only[fitV,Bool.and_eq_true,decide_eq_true_eq] at this
  rw[hPp] at this
  exact⟨this.1.1,this.1.2,this.2⟩
 have hare2:areM r (dualR PP) (trL f)=true:=by
  simp only[areM,Bool.and_eq_true,decide_eq_true_eq,List.all_eq_true]
  refine⟨⟨k1,by rw[trL_len];exact hfl⟩,fun w hw=>?_⟩
  have hw:w<f.length:=by
   have:w<(trL f).length:=by simpa using hw
   rwa [trL_len] at this
  obtain⟨m1,m2,m3⟩:=hfv w hw
  obtain⟨n1,n2,n3⟩:=isMat_tr m1
  simp only[fitV,Bool.and_eq_true,decide_eq_true_eq]
  rw[trL_get hw]
  exact⟨⟨n1,by rw[n3,m3]⟩,by rw[n2,m2];rfl⟩
 refine⟨trL f,hare2,?_⟩
 have hcoc:isCoc r (dualR PP) (cobL r (dualR PP) (trL f))=true:=by
  have hcob:=cob_cob hare2
  unfold isCob at hcob
  rw[Bool.and_eq_true] at hcob
  exact hcob.1
 obtain⟨_,g2,g3⟩:=isCoc_spec hcoc
 have hcl2:(cobL r (dualR PP) (trL f)).length=r.q.fr.length:=cobL_len ..
 refine List.ext_getElem (by omega) fun i hi hi2=>?_
 have hiq:i<r.q.fr.length:=by omega
 have hiq':i<PP.q.fr.length:=by rw[hPq];show i<r.q.to.length;omega
 have e1:(cobL r (dualR PP) (trL f))[i]=(cobL r (dualR PP) (trL f)).getD i default:=by simp[hi]
 have e2:c[i]=c.getD i default:=by simp[hi2]
 rw[e1,e2]
 obtain⟨m1,m2,m3⟩:=g3 i hi
 obtain⟨n1,n2,n3⟩:=k3 i hi2
 refine mat_ext m1 n1 (by rw[m3,n3]) (by rw[m2,n2]) fun t ht k hk=>?_
 have A1:=ArF.of hare2 hiq
 have A2:=ArF.of hare hiq'
 obtain⟨x1,x2,x3,x4⟩:=A1.xy
 obtain⟨y1,y2,y3,y4⟩:=A2.xy
 have eA:(cobL r (dualR PP) (trL f)).getD i default=plusM r.p (arX r (dualR PP) (trL f) i) (r.p-1) (arY r (dualR PP) (trL f) i):=cob_at hare2 hiq
 have eB:(cobL PP (dualR r) f).getD i default=plusM PP.p (arX PP (dualR r) f i) (PP.p-1) (arY PP (dualR r) f i):=cob_at hare hiq'
 rw[hcob,ngL_get hi2,hPp] at eB
 rw[hPp] at y1 y2
 rw[eA] at m2 m3 ht hk⊢
 have ht':t<(arX r (dualR PP) (trL f) i).r.toNat:=ht
 have hk':k<(arX r (dualR PP) (trL f) i).c.toNat:=hk
 have hl1:(arX r (dualR PP) (trL f) i).m.length=(arY r (dualR PP) (trL f) i).m.length:=by
  have h1:=(isMat_spec x1).2.2.2.1
  have h2:=(isMat_spec x2).2.2.2.1
  rw[x3,x4] at h1
  omega
 have hl2:(arX PP (dualR r) f i).m.length=(arY PP (dualR r) f i).m.length:=by
  have h1:=(isMat_spec y1).2.2.2.1
  have h2:=(isMat_spec y2).2.2.2.1
  rw[y3,y4] at h1
  omega
 have hr3:(arX r (dualR PP) (trL f) i).r=(c.getD i default).r:=by rw[n3];exact m3
 have hc3:(arX r (dualR PP) (trL f) i).c=(c.getD i default).c:=by rw[n2];exact m2
 obtain⟨z1,z2,z3⟩:=isMat_ng n1
 have hyr:(arX PP (dualR r) f i).r=(c.getD i default).c:=by
  have:(plusM r.p (arX PP (dualR r) f i) (r.p-1) (arY PP (dualR r) f i)).r=(c.getD i default).c:=by rw[←eB];exact z2
  exact this
 have hyc:(arX PP (dualR r) f i).c=(c.getD i default).r:=by
  have:(plusM r.p (arX PP (dualR r) f i) (r.p-1) (arY PP (dualR r) f i)).c=(c.getD i default).r:=by rw[←eB];exact z3
  exact this
 have hB:(-(ent (c.getD i default) t k))%r.p=(ent (arX PP (dualR r) f i) k t+(r.p-1)*ent (arY PP (dualR r) f i) k t)%r.p:=by
  rw[←plus_get hl2 y4 (ent_lt y1 (by rw[hyr,←hc3];exact hk') (by rw[hyc,←hr3];exact ht')),←eB]
  exact(ent_tm (r:=(c.getD i default).c.toNat) (c:=(c.getD i default).r.toNat) (fun i' j'=>(-(ent (c.getD i default) j' i'))%r.p) (by rw[←hc3];exact hk') (by rw[←hr3];exact ht')).symm
 have hmi:i<PP.m.length:=by omega
 have hmi2:i<r.m.length:=by omega
 obtain⟨b1,⟨b2,b3⟩,⟨b4,b5⟩,b6,b7⟩:=arrow_ok hPr hmi
 obtain⟨a1,⟨a2,a3⟩,⟨a4,a5⟩,a6,a7⟩:=arrow_ok hr hmi2
 rw[hPp] at b1
 have w1:(r.q.fr.getD i default).toNat<f.length:=by omega
 have w2:(r.q.to.getD i default).toNat<f.length:=by omega
 obtain⟨f1,f2,f3⟩:=hfv _ w1
 obtain⟨g1',g2',g3'⟩:=hfv _ w2
 have hPfr:PP.q.fr.getD i default=r.q.to.getD i default:=by rw[hPq];rfl
 have hPto:PP.q.to.getD i default=r.q.fr.getD i default:=by rw[hPq];rfl
 rw[hPfr] at b6
 rw[hPto] at b7
 have hX:ent (arX r (dualR PP) (trL f) i) t k=ent (arY PP (dualR r) f i) k t:=by
  have eX:arX r (dualR PP) (trL f) i=mulM r.p (trM (PP.m.getD i default)) (trM (f.getD (r.q.fr.getD i default).toNat default)):=by
   unfold arX
   rw[show(dualR PP).m.getD i default=trM (PP.m.getD i default) from trL_get hmi,trL_get w1]
  have eY:arY PP (dualR r) f i=mulM r.p (f.getD (r.q.fr.getD i default).toNat default) (PP.m.getD i default):=by
   unfold arY
   rw[hPp,hPto]
  obtain⟨t1,t2,t3⟩:=isMat_tr b1
  obtain⟨s1',s2',s3'⟩:=isMat_tr f1
  have q1:=mulM_rc t1 s1'
  rw[eX] at ht' hk'
  rw[q1.1,t2] at ht'
  rw[q1.2,s3'] at hk'
  rw[eX,eY]
  have hcc:(f.getD (r.q.fr.getD i default).toNat default).c=(PP.m.getD i default).r:=by rw[f2,b7]
  exact mul_tr (x:=f.getD (r.q.fr.getD i default).toNat default) (y:=PP.m.getD i default) hcc hk' ht' (by rw[hcc];exact(isMat_spec b1).2.1.1) (fun u hu=>tr_ent ht' (by rw[←hcc];exact hu)) (fun u hu=>tr_ent hu hk') (by rw[t3,hcc]) (by rw[t2];exact ht') (by rw[s3'];exact hk')
 have hY:ent (arY r (dualR PP) (trL f) i) t k=ent (arX PP (dualR r) f i) k t:=by
  have eY:arY r (dualR PP) (trL f) i=mulM r.p (trM (f.getD (r.q.to.getD i default).toNat default)) (r.m.getD i default):=by
   unfold arY
   rw[trL_get w2]
  have eX:arX PP (dualR r) f i=mulM r.p (trM (r.m.getD i default)) (f.getD (r.q.to.getD i default).toNat default):=by
   unfold arX
   rw[hPp,hPfr,show(dualR r).m.getD i default=trM (r.m.getD i default) from trL_get hmi2]
  obtain⟨t1,t2,t3⟩:=isMat_tr a1
  obtain⟨s1',s2',s3'⟩:=isMat_tr g1'
  have q1:=mulM_rc s1' a1
  rw[x3,eY,q1.1,s2'] at ht'
  rw[x4,eY,q1.2] at hk'
  rw[eX,eY]
  have hcc:(f.getD (r.q.to.getD i default).toNat default).r=(r.m.getD i default).r:=by rw[g3',a7]
  exact mul_tr (x:=trM (r.m.getD i default)) (y:=f.getD (r.q.to.getD i default).toNat default) (by rw[t3,hcc]) (by rw[t2];exact hk') ht' (by rw[t3];exact(isMat_spec a1).2.1.1) (fun u hu=>tr_ent ht' (by rw[hcc,←t3];exact hu)) (fun u hu=>(tr_ent hk' (by rw[←t3];exact hu)).symm) (by rw[s3',t3,hcc]) (by rw[s2'];exact ht') hk'
 rw[plus_get hl1 x4 (ent_lt x1 ht' hk'),hX,hY]
 have hC:=ent_bd n1 t (by rw[←hr3];exact ht') k (by rw[←hc3];exact hk')
 generalize ent (c.getD i default) t k=C at hC hB
 generalize ent (arX PP (dualR r) f i) k t=X at hB
 generalize ent (arY PP (dualR r) f i) k t=Y at hB
 have h1:Cg r.p (-C) (X+(r.p-1)*Y):=Cg.iff.2 hB
 obtain⟨z,hz⟩:=h1
 have hcg:Cg r.p ((Y+(r.p-1)*X)%r.p) C:=(Cg.mod ..).trans ⟨X+Y+z,by
  have e:(r.p-1)*Y=r.p*Y-Y:=by rw[Int.sub_mul,Int.one_mul]
  have e2:(r.p-1)*X=r.p*X-X:=by rw[Int.sub_mul,Int.one_mul]
  rw[e] at hz
  rw[e2,Int.mul_add,Int.mul_add]
  omega⟩
 exact hcg.eq (mod_bd (by omega)) hC
theorem inj_fit{r:Rep}{v:Int}(hr:isRep r=true)(hP:(projP r.p (oppQ r.q) v).2=true):fitR r (dualR (projR r.p (oppQ r.q) v))=true:=by
 obtain⟨hF,hA,_⟩:=projP_true2 hP
 exact fitR_mk hr (dual_ok (projR_ok hF hA)) rfl rfl
theorem ext_inj0{r:Rep}{v:Int}(hr:isRep r=true)(hP:(projP r.p (oppQ r.q) v).2=true):extD r (dualR (projR r.p (oppQ r.q) v))=0:=ext_zero (inj_fit hr hP) fun c hc=>by
 obtain⟨f,h1,h2⟩:=ext_inj hr hP hc
 have:=cob_cob h1
 rw[h2] at this
 exact this
theorem hom_inj{r:Rep}{v:Int}(hr:isRep r=true)(hP:(projP r.p (oppQ r.q) v).2=true):homD r (dualR (projR r.p (oppQ r.q) v))=r.d.getD v.toNat default:=by
 have hf:=inj_fit hr hP
 have h0:=ext_inj0 hr hP
 have he:=euler_proj (r:=dualR r) (dual_ok hr) hP
 have hq:=(okQ_spec (Fits.of hf).ok).2.2.1
 have e1:(szT (projR (dualR r).p (dualR r).q v) (dualR r) (dualR r).d.length:Int)=szT r (dualR (projR r.p (oppQ r.q) v)) r.d.length:=by
  rw[szT_sum,szT_sum]
  exact sumN_eq _ fun w _=>Int.mul_comm ..
 have e2:(szA (projR (dualR r).p (dualR r).q v) (dualR r) (dualR r).q.fr.length:Int)=szA r (dualR (projR r.p (oppQ r.q) v)) r.q.fr.length:=by
  have e:(dualR r).q.fr.length=r.q.fr.length:=hq.symm
  rw[e,szA_sum,szA_sum]
  exact sumN_eq _ fun i _=>Int.mul_comm ..
 rw[e1,e2] at he
 have e3:(dualR r).d=r.d:=rfl
 rw[e3] at he
 unfold extD at h0
 unfold homD
 rw[if_pos hf] at h0⊢
 rw[he]
 omega
end Go.Proofs.YtjmjamhhppoimaaGreat.V
namespace Go.Proofs.YtjmjamhhppoimaaGreat.V
open V.Enc (enc)
open Go.RowKit G D
set_option linter.unusedVariables false
set_option linter.unusedSimpArgs false
set_option maxHeartbeats 4000000
set_option maxRecDepth 4000
attribute [local irreducible] AW ARg ARA ARet MRet ASil AC AM ARI
theorem vectorOf_a(p c:Int)(n:Nat)(hp:2≤p∧p≤5)(h0:0≤c∧c≤1000000)(hn:n≤1000):AC Tryz.prog 178 [.i p,.i (n:Int),.i c] [.dt true 1 (E true (digV p c n))]:=by
 refine AC.go Tryz.func178 Tryz.ntmps178 rfl rfl fun w0 hw=>?_;simp[WfL,WfA,E_length,Enc.enc,In64] at hw
 repeat' first|refine s1 ?_|(refine kR ?_;first|refine F.mk (m:=n) Int rfl rfl rfl (mkB (by omega)) (by omega) rfl rfl ?_)|fail
 rw[←digK_all p c n]
 refine F.loop (σ:=Nat) [2,8,13,14,15,16,17,18,19,20,21,22,23,24,25] (fun m=>[(2,.i (quoN p c (n-m))),(8,.i ((m:Int)-1))]) (fun m=>[(0,.live false 1 (E true (digK p c n m)))]) (fun m=>m≤n) (fun m=>m) n ⟨iE (by rw[Nat.sub_self];rfl),rfl,trivial⟩ ⟨rfl,trivial⟩ (Nat.le_refl _) ?_
 rintro m m1
 have hlen:=digK_len p c n m
 by_cases hm:0<m
 ·obtain⟨i,rfl⟩:∃i,m=i+1:=⟨m-1,by omega⟩
  have hs:=digK_set p c (n:=n) (m:=i) (by omega)
  have hq:=quoN_bd (p:=p) (c:=c) (by omega) h0.1 (n-(i+1))
  have hqs:quoN p c (n-i)=quoN p c (n-(i+1))/p:=by rw[show n-i=(n-(i+1))+1 by omega];rfl
  rw[show n-1-i=n-(i+1) by omega] at hs
  generalize quoN p c (n-(i+1))=Q at hs hq hqs⊢
  generalize digK p c n (i+1)=X at hs hlen⊢
  rw[show(((i+1:Nat)):Int)-1=(i:Int) by omega]
  repeat' first|refine s1 ?_|fail
  exact⟨i,F.fit ⟨iE hqs.symm,rfl,trivial⟩ ⟨obE (by rw[Nat.zero_add,hs]),trivial⟩,by omega,by omega⟩
 ·obtain rfl:m=0:=by omega
  rw[digK_zero] at hlen⊢
  generalize digV p c n=X at hlen⊢
  repeat' first|refine s1 ?_|fail
  (refine kZ ?_;exact F.ret rfl)
theorem countHoms_a(p:Int)(n:Nat)(hp:2≤p∧p≤5)(hn:n≤1000):AC Tryz.prog 246 [.i p,.i (n:Int)] [.i (cntH p n)]:=by
 refine AC.go Tryz.func246 Tryz.ntmps246 rfl rfl fun w0 hw=>?_;simp[WfL,WfA,E_length,Enc.enc,In64] at hw
 repeat' first|refine s1 ?_|fail
 refine F.loop (σ:=Nat) [5,6,7,8,9,10,11,12,13,14,15,16,17,18] (fun k=>[(5,.i (cntH p k)),(6,.i k)]) (fun _=>[]) (fun k=>k≤n) (fun k=>n-k) 0 ⟨rfl,rfl,trivial⟩ trivial (Nat.zero_le _) ?_
 rintro k k1
 have hb:=cntH_bd hp k
 by_cases hk:k<n
 ·by_cases hq:cntH p k≤100000
  ·have hst:=cntH_step hq
   generalize cntH p k=X at hb hq hst⊢
   have m1:0≤X*p:=Int.mul_nonneg (by omega) (by omega)
   have m2:X*p≤100000*5:=Int.mul_le_mul hq hp.2 (by omega) (by omega)
   have hi:In64 (X*p):=by unfold In64;omega
   repeat' first|refine s1 ?_|fail
   exact⟨k+1,F.fit ⟨iE hst.symm,rfl,trivial⟩ trivial,by omega,by omega⟩
  ·have hst:=cntH_stay (p:=p) (n:=k) (by omega) (n-k)
   rw[show k+(n-k)=n by omega] at hst
   rw[hst]
   generalize cntH p k=X at hb hq⊢
   repeat' first|refine s1 ?_|fail
   (refine kZ ?_;exact F.ret rfl)
 ·obtain rfl:k=n:=by omega
  generalize cntH p k=X at hb⊢
  repeat' first|refine s1 ?_|fail
  (refine kZ ?_;exact F.ret rfl)
theorem homBasis_a(a b:Rep)(hf:fitR a b=true):AC Tryz.prog 244 [.agg (enc false a),.agg (enc false b)] [.dt true 1 (E true (homL a b))]:=by
 refine AC.go Tryz.func244 Tryz.ntmps244 rfl rfl fun w0 hw=>?_;simp[WfL,WfA,E_length,Enc.enc,In64] at hw
 have h:=Fits.of hf
 have h5:=okQ_spec h.ok
 have hda:=h.da
 have hp:=isF_pos h.f
 have hn:=szT_le h a.d.length (Nat.le_refl _)
 have hN:=szA_le h a.q.fr.length (Nat.le_refl _)
 have hB:=boundaries_a a b hf
 have hK:=kernel_a a.p (szA a b a.q.fr.length) (szT a b a.d.length) (ent (eqM a b)) h.f (by omega) (by omega) (eqM_bd (by omega))
 rw[eqM_tm (by omega),show kerL a.p (szA a b a.q.fr.length) (szT a b a.d.length) (ent (eqM a b))=hkL a b from rfl] at hK
 have hZ:=zeros_a a b h
 have hzl:=zerL_len a b
 have hzc:=zerL_cat h a.d.length (Nat.le_refl _)
 rw[←hzl,List.take_length,hzl] at hzc
 have hle:=rkE_le a b hf
 have hlen:=hkL_len a b hf
 have hll:=homL_len a b
 have hsh:=fun k (hk:k<(hkL a b).length)=>shaped_a (zerL a b) ((hkL a b).getD k default) (by omega) (by rw[hkL_get a b hk];omega) (by rw[hkL_get a b hk];omega)
 simp only[zerL_shp h] at hsh
 have hts:=fun k (hk:k<(hkL a b).length)=>homL_take a b hk
 generalize homL a b=HL at hll hts⊢
 generalize hkL a b=KL at hK hlen hll hsh hts⊢
 generalize eqM a b=EM at hB hK
 generalize zerL a b=ZL at hZ hsh
 repeat' first|refine s1 ?_|fail
 refine AW.draw 8 G.mixed (by kernel_rfl) ?_
 refine Pz (.p 0<|.l 1<|.l 2<|.l 3<|.p 7<|.o 4 true<|.o 5 true<|.p 6<|.n) ?_
 repeat' first|refine yS ?_|refine s1 ?_|(refine kR ?_;first|refine F.c (hB) ?_|refine F.c (hK) ?_)|fail
 any_goals refine lf ?_
 all_goals
  repeat' first|refine s1 ?_|fail
  refine AW.freezeA (α:=List Int) 13 rfl rfl rfl ?_
  refine AW.open 5 1 (.inl rfl) ?_
  refine F.loop (σ:=Nat) [5,7,15,16,17,18,19,20,21,22,23,24,25,26,27] (fun k=>[(5,.sl 4 k 0 k),(15,.i k)]) (fun k=>[(4,.live false 1 (E true (HL.take k)))]) (fun k=>k≤KL.length) (fun k=>KL.length-k) 0 ⟨rfl,rfl,trivial⟩ ⟨rfl,trivial⟩ (Nat.zero_le _) ?_
  rintro k k1
  by_cases hk:k<KL.length
  ·have hCk:=hsh k hk
   have ht:=hts k hk
   have hp2:(HL.take k).length=k:=by rw[List.length_take];omega
   generalize cutV a b (KL.getD k default)=V' at hCk ht
   repeat' first|refine s1 ?_|(refine kR ?_;first|refine F.c (hZ) ?_|refine F.c (hCk) ?_|refine F.a1 (List Mat) (a:=V') ?_)|fail
   exact⟨k+1,F.fit ⟨rfl,rfl,trivial⟩ ⟨obE (by rw[ht]),trivial⟩,by omega,by omega⟩
  ·obtain rfl:k=KL.length:=by omega
   rw[←hll,List.take_length]
   repeat' first|refine s1 ?_|fail
   (refine kZ ?_;exact F.ret rfl)
end Go.Proofs.YtjmjamhhppoimaaGreat.V
