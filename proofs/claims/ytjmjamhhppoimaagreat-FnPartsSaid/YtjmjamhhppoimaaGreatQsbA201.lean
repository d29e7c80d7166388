/- Texts that the proof needs: A201. -/
import Derived.Test.YtjmjamhhppoimaaGreatQsbA200
import Derived.Test.YtjmjamhhppoimaaGreatQsbA90
namespace Go.Proofs.YtjmjamhhppoimaaGreat.V
open Go.RowKit G D
set_option linter.unusedVariables false
set_option linter.unusedSimpArgs false
set_option maxHeartbeats 1000000
set_option maxRecDepth 4000
abbrev freN(s:Spc):List Nat:=freeL s.n.toNat (leadN s)
theorem prj_val{p:Int}{s:Spc}(h:isSpc p s=true){a k:Nat}(ha:a<(freN s).length)(hk:k<s.n.toNat):Cg p (prjF p s a k) ((if k=(freN s).getD a default then 1 else 0)+sumN (fun t=>-(vecF s.b t ((freN s).getD a default))*(if k=(leadN s).getD t 0 then 1 else 0)) s.b.length):=by
 obtain⟨h1,h2,h3,h4⟩:=isSpc_spec h
 have hp:=isF_pos h1
 obtain⟨he,hl⟩:=leadN_ech h
 obtain⟨f1,f2⟩:=free_mem ha
 unfold prjF
 rw[rst_val (by omega) he (leadN_len s) h4 (unitL_len _ _) (unit_bd (by omega) _ _) f1,unitL_get f1]
 refine(Cg.mod ..).trans ?_
 have e1:sumN (fun i=>(unitL s.n.toNat k).getD ((leadN s).getD i 0) default*vecF s.b i ((freN s).getD a default)) s.b.length=(-1)*sumN (fun t=>-(vecF s.b t ((freN s).getD a default))*(if k=(leadN s).getD t 0 then 1 else 0)) s.b.length:=by
  rw[←sumN_mul]
  refine sumN_eq _ fun i hi=>?_
  rw[unitL_get (he.lt i (by rw[leadN_len];exact hi))]
  by_cases e:(leadN s).getD i 0=k
  ·rw[if_pos e,if_pos e.symm];omega
  ·rw[if_neg e,if_neg (fun x=>e x.symm)];omega
 rw[e1]
 have e2:(if(freN s).getD a default=k then(1:Int) else 0)=if k=(freN s).getD a default then 1 else 0:=by
  by_cases e:(freN s).getD a default=k
  ·rw[if_pos e,if_pos e.symm]
  ·rw[if_neg e,if_neg (fun x=>e x.symm)]
 rw[e2]
 exact⟨0,by omega⟩
theorem prj_dot{p:Int}{s:Spc}(h:isSpc p s=true){a:Nat}(ha:a<(freN s).length)(v:Nat→Int):Cg p (sumN (fun k=>prjF p s a k*v k) s.n.toNat) (v ((freN s).getD a default)+sumN (fun t=>-(vecF s.b t ((freN s).getD a default))*v ((leadN s).getD t 0)) s.b.length):=by
 obtain⟨he,hl⟩:=leadN_ech h
 obtain⟨f1,f2⟩:=free_mem ha
 refine(sumN_cg _ fun k hk=>(prj_val h ha hk).mul (Cg.refl (v k))).trans ?_
 rw[sumN_eq (g:=fun k=>(if k=(freN s).getD a default then 1 else 0)*v k+sumN (fun t=>-(vecF s.b t ((freN s).getD a default))*((if k=(leadN s).getD t 0 then 1 else 0)*v k)) s.b.length) _ fun k _=>by
  rw[Int.add_mul]
  congr 1
  rw[Int.mul_comm,←sumN_mul]
  exact sumN_eq _ fun t _=>by rw[Int.mul_comm,Int.mul_assoc],sumN_add,sumN_one,if_pos f1,sumN_swap]
 refine(Cg.refl _).add ?_
 rw[sumN_eq (g:=fun t=>-(vecF s.b t ((freN s).getD a default))*v ((leadN s).getD t 0)) _ fun t ht=>by
  rw[sumN_mul,sumN_one,if_pos (he.lt t (by rw[leadN_len];exact ht))]]
 exact .refl _
theorem prj_in{p:Int}{s:Spc}(h:isSpc p s=true){v:Nat→Int}(hv:Me p s v){a:Nat}(ha:a<(freN s).length):Cg p (sumN (fun k=>prjF p s a k*v k) s.n.toNat) 0:=by
 obtain⟨he,hl⟩:=leadN_ech h
 obtain⟨f1,f2⟩:=free_mem ha
 refine(prj_dot h ha v).trans ?_
 have h1:=he.comb hv _ f1
 rw[leadN_len] at h1
 have h2:=h1.sub0
 rw[show v ((freN s).getD a default)+sumN (fun t=>-(vecF s.b t ((freN s).getD a default))*v ((leadN s).getD t 0)) s.b.length=v ((freN s).getD a default)-sumN (fun t=>v ((leadN s).getD t 0)*vecF s.b t ((freN s).getD a default)) s.b.length by
  rw[sumN_eq (h:=fun t=>-(vecF s.b t ((freN s).getD a default))*v ((leadN s).getD t 0)) (g:=fun t=>(-1)*(v ((leadN s).getD t 0)*vecF s.b t ((freN s).getD a default))) _ fun t _=>by rw[Int.neg_mul,Int.mul_comm];omega,sumN_mul]
  omega]
 exact h2
theorem prj_me{p:Int}{s:Spc}(h:isSpc p s=true){v:Nat→Int}(h0:∀a,a<(freN s).length→Cg p (sumN (fun k=>prjF p s a k*v k) s.n.toNat) 0):Me p s v:=by
 obtain⟨he,hl⟩:=leadN_ech h
 refine⟨fun t=>v ((leadN s).getD t 0),fun j hj=>?_⟩
 by_cases hm:j∈leadN s
 ·obtain⟨t,ht,e⟩:=List.getElem_of_mem hm
  have ht2:t<s.b.length:=by rw[leadN_len] at ht;exact ht
  have e2:(leadN s).getD t 0=j:=by simp[ht,e]
  rw[sumN_eq (g:=fun i=>(if i=t then 1 else 0)*v ((leadN s).getD i 0)) _ fun i hi=>by
   rw[←e2,he.one i (by rw[leadN_len];exact hi) t ht,Int.mul_comm],sumN_one,if_pos ht2,e2]
  exact .refl _
 ·have hf:j∈freN s:=by
   unfold freN freeL
   rw[List.mem_filter]
   exact⟨by simpa using hj,by simpa using hm⟩
  obtain⟨a,ha,e⟩:=List.getElem_of_mem hf
  have e2:(freN s).getD a default=j:=by simp[ha,e]
  have h1:=(prj_dot h ha v).symm.trans (h0 a ha)
  rw[e2] at h1
  refine Cg.of_sub ?_
  rw[show v j-sumN (fun t=>v ((leadN s).getD t 0)*vecF s.b t j) s.b.length=v j+sumN (fun t=>-(vecF s.b t j)*v ((leadN s).getD t 0)) s.b.length by
   rw[sumN_eq (h:=fun t=>-(vecF s.b t j)*v ((leadN s).getD t 0)) (g:=fun t=>(-1)*(v ((leadN s).getD t 0)*vecF s.b t j)) _ fun t _=>by rw[Int.neg_mul,Int.mul_comm];omega,sumN_mul]
   omega]
  exact h1
theorem prj_unit{p:Int}{s:Spc}(h:isSpc p s=true){a j:Nat}(ha:a<(freN s).length)(hj:j<(freN s).length):prjF p s a ((freN s).getD j default)=if j=a then 1 else 0:=by
 obtain⟨f1,f2⟩:=free_mem hj
 rw[prj_free h ha f1 f2]
 by_cases e:j=a
 ·subst e;rw[if_pos rfl,if_pos rfl]
 ·have hpw:(freN s).Pairwise (·<·):=List.Pairwise.filter _ List.pairwise_lt_range
  have g1:(freN s).getD j default=(freN s)[j]:=by simp[hj]
  have g2:(freN s).getD a default=(freN s)[a]:=by simp[ha]
  rw[List.pairwise_iff_getElem] at hpw
  have hne:(freN s).getD j default≠(freN s).getD a default:=by
   rw[g1,g2]
   rcases Nat.lt_or_gt_of_ne e with hlt|hgt
   ·have:=hpw j a hj ha hlt;omega
   ·have:=hpw a j ha hj hgt;omega
  rw[if_neg hne,if_neg e]
theorem kerS_prj{p:Int}{s:Spc}(h:isSpc p s=true):kerS p (prjM p s)=s:=by
 obtain⟨h1,h2,h3,h4⟩:=isSpc_spec h
 have hm:=isMat_prj h
 have hn:(kerS p (prjM p s)).n=s.n:=Int.toNat_of_nonneg h2.1
 have hc:(prjM p s).c.toNat=s.n.toNat:=rfl
 have hr:(prjM p s).r.toNat=(freN s).length:=rfl
 refine spc_ext (kerS_ok hm) h hn (fun i hi=>prj_me h fun a ha=>?_) fun i hi=>?_
 ·have h5:=kerS_dot hm hi (i:=a) (by rw[hr];exact ha)
  unfold dotV at h5
  rw[hc,sumN_eq (g:=fun k=>prjF p s a k*vecF (kerS p (prjM p s)).b i k) _ fun k hk=>by rw[show ent (prjM p s) a k=prjF p s a k from ent_tm _ ha hk];rfl] at h5
  exact h5
 ·unfold Me
  rw[hn]
  exact kerS_mem hm (x:=s.b.getD i default) fun a ha=>by
   rw[hr] at ha
   unfold dotV
   rw[hc,sumN_eq (g:=fun k=>prjF p s a k*vecF s.b i k) _ fun k hk=>by rw[show ent (prjM p s) a k=prjF p s a k from ent_tm _ ha hk];rfl]
   exact prj_in h (Sp.row hi) ha
theorem rank_prj{p:Int}{s:Spc}(h:isSpc p s=true):rankM p (prjM p s)=((freN s).length:Nat):=by
 have hm:=isMat_prj h
 have h1:=kerS_len hm
 rw[kerS_prj h] at h1
 rw[rankM_eq hm]
 have hc:(prjM p s).c.toNat=s.n.toNat:=rfl
 rw[hc] at h1⊢
 have:=free_len h
 have e:(freN s).length=(redK p (prjM p s).r.toNat (ent (prjM p s)) s.n.toNat).2.length:=by
  have:(freN s).length=(freeL s.n.toNat (leadN s)).length:=rfl
  omega
 rw[e]
theorem imgS_inc{p:Int}{s:Spc}(h:isSpc p s=true):imgS p (incM s)=s:=by
 obtain⟨h1,h2,h3,h4⟩:=isSpc_spec h
 have e:(rowsL s.b.length s.n.toNat fun k i=>ent (incM s) i k)=s.b:=by
  have e0:∀i,i<s.b.length→∀j,j<s.n.toNat→ent (incM s) j i=fcF s.b j i:=fun i hi j hj=>ent_tm (r:=s.n.toNat) (c:=s.b.length) (fcF s.b) hj hi
  rw[rowsL_ext (f:=fun k i=>ent (incM s) i k) (g:=fun k i=>fcF s.b i k) e0]
  exact rowsL_fc h4
 have e2:imgS p (incM s)=⟨((s.n.toNat:Nat):Int),spanL p s.n.toNat (rowsL s.b.length s.n.toNat fun k i=>ent (incM s) i k)⟩:=rfl
 rw[e2,e,isSpc_idem h,Int.toNat_of_nonneg h2.1]
theorem rank_inc{p:Int}{s:Spc}(h:isSpc p s=true):rankM p (incM s)=(s.b.length:Nat):=by
 obtain⟨h1,h2,h3,h4⟩:=isSpc_spec h
 have hm:=isMat_inc h
 rw[rankM_eq hm,←imgS_len hm,imgS_inc h]
theorem sum_zero2{a b c:List Int}(h1:b.length=a.length)(h2:c.length=a.length)(h:∀v,v<a.length→a.getD v default+b.getD v default=c.getD v default):a.sum+b.sum=c.sum:=by
 have:=dimS_sum2 (a:=a) (b:=b) (c:=c) (d:=List.replicate a.length 0) h1 h2 (by simp) fun v hv=>by
  rw[h v hv];simp[hv]
 rw[zsum] at this
 omega
theorem quo_get{r:Rep}{s:List Spc}(h:isSub r s=true){v:Nat}(hv:v<r.d.length):(dimS s).getD v default+(quoD s).getD v default=r.d.getD v default∧0≤(quoD s).getD v default∧(quoD s).getD v default≤4:=by
 obtain⟨h1,h2,h3,h4⟩:=isSub_spec h
 have a:=h3 v (by omega)
 have h5:=free_len a.1
 have h6:=(isSpc_spec a.1).2.1
 have h7:=quoD_bd h v (by omega)
 rw[dimS_get (by omega),quoD_get (by omega)]
 omega
theorem quo_sum{r:Rep}{s:List Spc}(h:isSub r s=true):(dimS s).sum+(quoD s).sum=r.d.sum:=by
 obtain⟨h1,h2,h3,h4⟩:=isSub_spec h
 exact sum_zero2 (by rw[quoD_len,dimS_len]) (by rw[dimS_len];omega) fun v hv=>(quo_get h (by rw[dimS_len] at hv;omega)).1
theorem quoA_ok{r:Rep}{s:List Spc}(h:isSub r s=true){i:Nat}(hi:i<r.m.length):isMat r.p (quoA r s i)=true:=by
 obtain⟨h1,h2,h3,h4⟩:=isSub_spec h
 obtain⟨m1,m2,m3,m4,m5⟩:=arrow_ok h1 hi
 have q1:=quoD_bd h (r.q.fr.getD i default).toNat (by omega)
 have q2:=quoD_bd h (r.q.to.getD i default).toNat (by omega)
 have hp:=isF_pos (isRep_spec h1).1
 exact isMat_tab (isRep_spec h1).1 (by omega) (by omega) fun _ _ _ _=>mod_bd (by omega)
theorem quoR_ok{r:Rep}{s:List Spc}(h:isSub r s=true):isRep (quoR r s)=true:=by
 obtain⟨h1,h2,h3,h4⟩:=isSub_spec h
 obtain⟨r1,r2,r3,r4⟩:=isRep_spec h1
 obtain⟨c1,c2,c3,c4⟩:=areDims_spec r2
 obtain⟨d1,d2,d3,d4⟩:=sub_dims h
 have hl:=quoD_len s
 have hsum:=quo_sum h
 have hA:areDims (quoR r s).q (quoR r s).d=true:=by
  simp only[areDims,Bool.and_eq_true,decide_eq_true_eq]
  refine⟨⟨⟨c1,?_⟩,allIn_all fun j hj=>?_⟩,?_⟩
  ·show((quoD s).length:Int)=r.q.n
   omega
  ·have hj:j<(quoD s).length:=hj
   exact(quo_get h (by omega)).2
  ·show(quoD s).sum≤8
   have h0:(List.replicate (dimS s).length (0:Int)).sum≤(dimS s).sum:=sum_le (by simp) fun j hj=>by
    have hj2:j<(dimS s).length:=by simpa using hj
    have:=(d2 j (by omega)).1
    simpa[hj2] using this
   rw[zsum] at h0
   omega
 have hml:(quoR r s).m.length=r.m.length:=quoMs_len r s
 simp only[isRep,Bool.and_eq_true,decide_eq_true_eq,List.all_eq_true]
 refine⟨⟨⟨r1,hA⟩,by show(quoR r s).m.length=r.q.fr.length;omega⟩,fun i hi=>?_⟩
 have hi:i<r.m.length:=by rw[List.mem_range] at hi;omega
 obtain⟨m1,m2,m3,m4,m5⟩:=arrow_ok h1 hi
 simp only[fitM,Bool.and_eq_true,decide_eq_true_eq]
 have e:(quoR r s).m.getD i default=quoA r s i:=quoMs_get r s hi
 rw[e]
 refine⟨⟨quoA_ok h hi,?_⟩,?_⟩
 ·show(((freeL (s.getD (r.q.fr.getD i default).toNat default).n.toNat (leadN (s.getD (r.q.fr.getD i default).toNat default))).length:Nat):Int)=(quoD s).getD (r.q.fr.getD i default).toNat default
  rw[quoD_get (by omega)]
 ·show(((freeL (s.getD (r.q.to.getD i default).toNat default).n.toNat (leadN (s.getD (r.q.to.getD i default).toNat default))).length:Nat):Int)=(quoD s).getD (r.q.to.getD i default).toNat default
  rw[quoD_get (by omega)]
theorem quo_arr{p:Int}{M:Mat}{S T:Spc}(hM:isMat p M=true)(hS:isSpc p S=true)(hT:isSpc p T=true)(nS:S.n=M.c)(nT:T.n=M.r)(hi:inS p (imgSp p M S) T=true){i k:Nat}(hi2:i<(freN T).length)(hk:k<S.n.toNat):Cg p (sumN (fun j=>quoF p M S T i j*prjF p S j k) (freN S).length) (sumN (fun l=>prjF p T i l*ent M l k) M.r.toNat):=by
 have hu:∀c,Cg p (mulF p (ent (prjM p T)) (ent M) M.r.toNat i c) (sumN (fun l=>prjF p T i l*ent M l c) M.r.toNat):=fun c=>by
  unfold mulF
  refine(Cg.mod ..).trans ?_
  rw[dotK_sum]
  exact sumN_cg _ fun l hl=>by
   rw[show ent (prjM p T) i l=prjF p T i l from ent_tm _ hi2 (by rw[nT];exact hl)]
   exact .refl _
 have hw:=fun c=>(rfl:(fun c=>(if c=k then(1:Int) else 0)+sumN (fun j=>-(prjF p S j k)*(if c=(freN S).getD j default then 1 else 0)) (freN S).length) c=_)
 have hme:Me p S (fun c=>(if c=k then(1:Int) else 0)+sumN (fun j=>-(prjF p S j k)*(if c=(freN S).getD j default then 1 else 0)) (freN S).length):=by
  refine prj_me hS fun a ha=>?_
  rw[sumN_eq (g:=fun c=>(if c=k then 1 else 0)*prjF p S a c+sumN (fun j=>-(prjF p S j k)*((if c=(freN S).getD j default then 1 else 0)*prjF p S a c)) (freN S).length) _ fun c _=>by
   rw[Int.mul_add,Int.mul_comm (prjF p S a c)]
   congr 1
   rw[←sumN_mul]
   exact sumN_eq _ fun j _=>by rw[Int.mul_left_comm,Int.mul_comm (prjF p S a c)],sumN_add,sumN_one,if_pos hk,sumN_swap]
  rw[sumN_eq (h:=fun j=>sumN (fun c=>-(prjF p S j k)*((if c=(freN S).getD j default then 1 else 0)*prjF p S a c)) S.n.toNat) (g:=fun j=>(if j=a then 1 else 0)*-(prjF p S j k)) _ fun j hj=>by
   rw[sumN_mul,sumN_one,if_pos (free_mem hj).1,prj_unit hS ha hj,Int.mul_comm],sumN_one,if_pos ha]
  exact⟨0,by omega⟩
 generalize hwd:(fun c=>(if c=k then(1:Int) else 0)+sumN (fun j=>-(prjF p S j k)*(if c=(freN S).getD j default then 1 else 0)) (freN S).length)=w at hme
 have hxg:∀c,c<M.c.toNat→(rowL M.c.toNat w).getD c default=w c:=fun c hc=>rowL_get _ hc
 have him:=img_span hM hT nT hi (x:=rowL M.c.toNat w) (by
  unfold Me at hme
  rw[nS] at hme
  exact hme.cg fun j hj=>by rw[hxg j hj];exact .refl _)
 have hz:=prj_in hT him hi2
 have hz2:Cg p (sumN (fun l=>prjF p T i l*sumN (fun c=>ent M l c*w c) M.c.toNat) M.r.toNat) 0:=by
  rw[nT] at hz
  refine Cg.trans ?_ hz
  refine sumN_cg _ fun l hl=>(Cg.refl _).mul ?_
  rw[appV_get _ _ _ hl]
  refine Cg.trans ?_ (Cg.mod ..).symm
  exact sumN_cg _ fun c hc=>by rw[hxg c hc];exact .refl _
 rw[sumN_eq (g:=fun l=>sumN (fun c=>prjF p T i l*ent M l c*w c) M.c.toNat) _ fun l _=>by
  rw[←sumN_mul];exact sumN_eq _ fun c _=>(Int.mul_assoc ..).symm,sumN_swap] at hz2
 rw[sumN_eq (g:=fun c=>(if c=k then 1 else 0)*sumN (fun l=>prjF p T i l*ent M l c) M.r.toNat+sumN (fun j=>-(prjF p S j k)*((if c=(freN S).getD j default then 1 else 0)*sumN (fun l=>prjF p T i l*ent M l c) M.r.toNat)) (freN S).length) _ fun c _=>by
  rw[sumN_eq (g:=fun l=>w c*(prjF p T i l*ent M l c)) _ fun l _=>Int.mul_comm ..,sumN_mul,←hwd]
  dsimp only
  rw[Int.add_mul]
  congr 1
  rw[Int.mul_comm,←sumN_mul]
  exact sumN_eq _ fun j _=>by rw[Int.mul_comm,Int.mul_assoc],sumN_add,sumN_one,if_pos (by rw[←nS];exact hk),sumN_swap] at hz2
 rw[sumN_eq (h:=fun j=>sumN (fun c=>-(prjF p S j k)*((if c=(freN S).getD j default then 1 else 0)*sumN (fun l=>prjF p T i l*ent M l c) M.r.toNat)) M.c.toNat) (g:=fun j=>(-1)*(prjF p S j k*sumN (fun l=>prjF p T i l*ent M l ((freN S).getD j default)) M.r.toNat)) _ fun j hj=>by
  rw[sumN_mul,sumN_one,if_pos (by rw[←nS];exact(free_mem hj).1),Int.neg_mul];omega,sumN_mul] at hz2
 have h9:Cg p (sumN (fun l=>prjF p T i l*ent M l k) M.r.toNat) (sumN (fun j=>prjF p S j k*sumN (fun l=>prjF p T i l*ent M l ((freN S).getD j default)) M.r.toNat) (freN S).length):=by
  refine Cg.of_sub ?_
  have e3:∀x y:Int,x-y=x+(-1)*y:=fun x y=>by omega
  rw[e3]
  exact hz2
 refine Cg.trans ?_ h9.symm
 exact sumN_cg _ fun j hj=>by
  rw[Int.mul_comm]
  exact(Cg.refl _).mul (hu _)
theorem prj_mor{r:Rep}{s:List Spc}(h:isSub r s=true):isMor r (quoR r s) (prjL r.p s)=true:=by
 obtain⟨h1,h2,h3,h4⟩:=isSub_spec h
 obtain⟨r1,r2,r3,r4⟩:=isRep_spec h1
 refine mor_mk (fitR_mk h1 (quoR_ok h) rfl rfl) (by rw[prjL_len];exact h2) (fun v hv=>?_) fun i hi=>?_
 ·rw[prjL_len] at hv
  obtain⟨a1,a2⟩:=h3 v hv
  have:=(isSpc_spec a1).2.1
  rw[prjL_get hv]
  refine⟨isMat_prj a1,?_,?_⟩
  ·show(((s.getD v default).n.toNat:Nat):Int)=r.d.getD v default
   omega
  ·show(((freN (s.getD v default)).length:Nat):Int)=(quoD s).getD v default
   rw[quoD_get hv]
 ·have hi:i<r.m.length:=by rw[r3];exact hi
  obtain⟨m1,m2,m3,m4,m5⟩:=arrow_ok h1 hi
  have e1:(quoR r s).m.getD i default=quoA r s i:=quoMs_get r s hi
  have hqA:=quoA_ok h hi
  have hsb:=h4 i hi
  rw[e1,prjL_get (by omega),prjL_get (by omega)]
  obtain⟨f1,f2⟩:=h3 (r.q.fr.getD i default).toNat (by omega)
  obtain⟨t1,t2⟩:=h3 (r.q.to.getD i default).toNat (by omega)
  have fn:=(isSpc_spec f1).2.1
  have tn:=(isSpc_spec t1).2.1
  unfold subAt at hsb
  unfold quoA at hqA⊢
  generalize s.getD (r.q.fr.getD i default).toNat default=S at*
  generalize s.getD (r.q.to.getD i default).toNat default=T at*
  generalize r.m.getD i default=M at*
  have q0:T.n=M.r:=by rw[m5,t2]
  have q2:S.n=M.c:=by rw[m4,f2]
  have g1:=isMat_prj f1
  have g2:=isMat_prj t1
  obtain⟨c1,c2⟩:=mulM_rc hqA g1
  obtain⟨c3,c4⟩:=mulM_rc g2 m1
  have x1:(quoM r.p M S T).r=((freN T).length:Nat):=rfl
  have x2:(quoM r.p M S T).c.toNat=(freN S).length:=rfl
  have x3:(prjM r.p S).c=((S.n.toNat:Nat):Int):=rfl
  have x4:(prjM r.p T).r=((freN T).length:Nat):=rfl
  have x5:(prjM r.p T).c.toNat=T.n.toNat:=rfl
  refine mat_ext (isMat_mul hqA g1) (isMat_mul g2 m1) (by rw[c1,c3,x1,x4]) (by rw[c2,c4,x3];omega) fun a ha j hj=>?_
  rw[c1,x1] at ha
  rw[c2,x3] at hj
  have ha2:a<(freN T).length:=ha
  have hj2:j<S.n.toNat:=hj
  rw[mul_get (by rw[x1];exact ha) (by rw[x3];exact hj),mul_get (by rw[x4];exact ha) (by rw[←q2];exact hj2),x2,x5]
  refine Cg.iff.1 ?_
  have k1:=quo_arr m1 f1 t1 q2 q0 hsb ha2 hj2
  rw[←q0] at k1
  rw[sumN_eq (g:=fun b=>quoF r.p M S T a b*prjF r.p S b j) _ fun b hb=>by
   rw[show ent (quoM r.p M S T) a b=quoF r.p M S T a b from ent_tm _ ha2 hb,show ent (prjM r.p S) b j=prjF r.p S b j from ent_tm _ hb hj2],
   sumN_eq (h:=fun b=>ent (prjM r.p T) a b*ent M b j) (g:=fun b=>prjF r.p T a b*ent M b j) _ fun b hb=>by
   rw[show ent (prjM r.p T) a b=prjF r.p T a b from ent_tm _ ha2 hb]]
  exact k1
theorem sameSL_refl(s:List Spc):sameSL s s=true:=by simp[sameSL,sameS]
theorem seq_short{r:Rep}{s:List Spc}(h:isSub r s=true):shortB (subR r s) r (quoR r s) (incL s) (prjL r.p s)=true:=by
 obtain⟨h1,h2,h3,h4⟩:=isSub_spec h
 have hx:∀x,x∈s→isSpc r.p x=true:=fun x hx=>by
  obtain⟨i,hi,rfl⟩:=List.getElem_of_mem hx
  have:=(h3 i hi).1
  simpa[hi] using this
 have e1:imgLs r.p (incL s)=s:=by
  unfold imgLs incL
  rw[List.map_map]
  refine(List.map_congr_left fun x hx'=>?_).trans (List.map_id s)
  exact imgS_inc (hx x hx')
 have e2:kerLs r.p (prjL r.p s)=s:=by
  unfold kerLs prjL
  rw[List.map_map]
  refine(List.map_congr_left fun x hx'=>?_).trans (List.map_id s)
  exact kerS_prj (hx x hx')
 have e3:rkL r.p (incL s)=dimS s:=by
  unfold rkL incL dimS
  rw[List.map_map]
  exact List.map_congr_left fun x hx'=>rank_inc (hx x hx')
 have e4:rkL r.p (prjL r.p s)=quoD s:=by
  unfold rkL prjL quoD
  rw[List.map_map]
  exact List.map_congr_left fun x hx'=>rank_prj (hx x hx')
 have m1:=inc_mor h
 have m2:=prj_mor h
 simp only[shortB,exactB,injB,surB,Bool.and_eq_true,decide_eq_true_eq]
 refine⟨⟨⟨⟨m1,m2⟩,?_⟩,m1,e3⟩,m2,e4⟩
 show sameSL (imgLs r.p (incL s)) (kerLs r.p (prjL r.p s))=true
 rw[e1,e2]
 exact sameSL_refl s
theorem genS_me{r:Rep}{X:List Spc}(h:isRep r=true)(hX:SpOk r X){i:Nat}(hi:i<r.q.fr.length){v:Nat}(hv:v<r.d.length){x:Nat→Int}(hx:Me r.p (X.getD v default) x):Me r.p ((genS r X i).getD v default) x:=by
 obtain⟨a1,a2,a3,a4,a5,a6,a7,a8⟩:=gen_arr h hX hi
 rw[genS_at i (by have:=hX.1;omega)]
 by_cases e:(r.q.to.getD i default).toNat=v
 ·rw[if_pos e]
  subst e
  exact Sp.sub hx fun k hk=>addS_l a4 a6 a7 hk
 ·rw[if_neg e];exact hx
theorem genK_me{r:Rep}{s:List Spc}(h:isRep r=true)(hs:SpOk r s){v:Nat}(hv:v<r.d.length){x:Nat→Int}(hx:Me r.p (s.getD v default) x):∀k,k≤r.q.fr.length→Me r.p ((genK r s k).getD v default) x
 |0,_=>hx
 |k+1,hk=>genS_me h (genK_ok h hs k (by omega)) (by omega) hv (genK_me h hs hv hx k (by omega))
theorem genN_me{r:Rep}{s:List Spc}(h:isRep r=true)(hs:SpOk r s){v:Nat}(hv:v<r.d.length){x:Nat→Int}(hx:Me r.p (s.getD v default) x):∀n,Me r.p ((genN r s n).getD v default) x
 |0=>hx
 |n+1=>genK_me h (genN_ok h hs n) hv (genN_me h hs hv hx n) _ (Nat.le_refl _)
theorem gen_has{r:Rep}{v:Nat}{x:List Int}(h:isRep r=true)(hv:v<r.d.length)(hx:x.length=(r.d.getD v default).toNat)(hb:∀j,j<(r.d.getD v default).toNat→0≤x.getD j default∧x.getD j default≤r.p-1):isSub r (genA r (begS r v x))=true∧isSpc r.p ((genA r (begS r v x)).getD v default)=true∧((genA r (begS r v x)).getD v default).n=r.d.getD v default∧hasV r.p ((genA r (begS r v x)).getD v default) x=true:=by
 have hF:=(isRep_spec h).1
 have hok:=begS_ok h hv hx hb
 have hA:=genN_ok h hok 9
 obtain⟨n1,n2⟩:=hA.2 v hv
 have hvx:VecB r.p (r.d.getD v default).toNat [x]:=fun y hy=>by
  rw[List.mem_singleton] at hy
  subst hy
  exact⟨hx,hb⟩
 have e:(begS r v x).getD v default=⟨r.d.getD v default,spanL r.p (r.d.getD v default).toNat [x]⟩:=by
  unfold begS
  rw[set_get (by rw[radK_len];exact hv)]
 have hme:Me r.p ((begS r v x).getD v default) (fun j=>x.getD j default):=by
  rw[e]
  exact(span_ss hF hvx.bd).2 0 (by simp)
 have hg:Me r.p ((genN r (begS r v x) 9).getD v default) (fun j=>x.getD j default):=genN_me h hok hv hme 9
 refine⟨genA_ok h hok,n2,n1,(hasV_iff n2 (by rw[n1];exact hx) (by rw[n1];exact hb)).2 hg⟩
end Go.Proofs.YtjmjamhhppoimaaGreat.V
