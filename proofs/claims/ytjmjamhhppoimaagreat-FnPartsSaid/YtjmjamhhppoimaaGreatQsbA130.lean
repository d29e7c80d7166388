/- Texts that the proof needs: A113, A130. -/
import Derived.Test.YtjmjamhhppoimaaGreatQsbA199
namespace Go.Proofs.YtjmjamhhppoimaaGreat.V
open Go.RowKit G D
set_option linter.unusedVariables false
set_option linter.unusedSimpArgs false
set_option maxHeartbeats 1000000
set_option maxRecDepth 4000
theorem Cg.of_sub{p x y:Int}(h:Cg p (x-y) 0):Cg p x y:=by
 have:=h.add (Cg.refl y)
 rwa [Int.sub_add_cancel,Int.zero_add] at this
theorem Cg.sub0{p x y:Int}(h:Cg p x y):Cg p (x-y) 0:=by
 have:=h.add (Cg.refl (-y))
 rwa [←Int.sub_eq_add_neg,←Int.sub_eq_add_neg,Int.sub_self] at this
theorem sumN_cg0{p:Int}{h:Nat→Int}(n:Nat)(hz:∀i,i<n→Cg p (h i) 0):Cg p (sumN h n) 0:=by
 have:=sumN_cg (g:=fun _=>0) n hz
 rwa [sumN_zero (h:=fun _=>0) n fun _ _=>rfl] at this
theorem ech_det{p:Int}{r c:Nat}{g:Nat→Nat→Int}{piv:List Nat}(h:Ech r c g piv){x z:Nat→Int}(hx:∀i,i<piv.length→Cg p (sumN (fun j=>g i j*x j) c) 0)(hz:∀i,i<piv.length→Cg p (sumN (fun j=>g i j*z j) c) 0)(hf:∀j,j<c→j∉piv→Cg p (x j) (z j)):∀j,j<c→Cg p (x j) (z j):=by
 intro j hj
 by_cases hp:j∈piv
 ·obtain⟨i,hi,e⟩:=List.getElem_of_mem hp
  have e2:piv.getD i 0=j:=by simp[hi,e]
  have h1:Cg p (sumN (fun t=>g i t*(x t-z t)) c) 0:=by
   rw[sumN_eq (g:=fun t=>g i t*x t+(-1)*(g i t*z t)) _ fun t _=>by rw[Int.mul_sub];omega,sumN_add,sumN_mul]
   have:=(hx i hi).add ((Cg.refl (-1)).mul (hz i hi))
   simpa using this
  have h3:Cg p (sumN (fun t=>g i t*(x t-z t)) c) (sumN (fun t=>(if t=j then 1 else 0)*(x t-z t)) c):=sumN_cg _ fun t ht=>by
   by_cases ht2:t∈piv
   ·obtain⟨i',hi',e'⟩:=List.getElem_of_mem ht2
    have e'':piv.getD i' 0=t:=by simp[hi',e']
    have h5:=h.one i hi i' hi'
    rw[e''] at h5
    rw[h5]
    by_cases ei:i=i'
    ·subst ei
     rw[if_pos rfl,if_pos (e''.symm.trans e2)]
     exact .refl _
    ·have hne:t≠j:=fun et=>by
      rcases Nat.lt_or_gt_of_ne ei with hlt|hgt
      ·have:=h.inc i i' hlt hi';omega
      ·have:=h.inc i' i hgt hi;omega
     rw[if_neg ei,if_neg hne]
     exact .refl _
   ·have h6:=(hf t ht ht2).sub0
    have h7:=(Cg.refl (g i t)).mul h6
    have h8:=(Cg.refl (if t=j then(1:Int) else 0)).mul h6
    rw[Int.mul_zero] at h7 h8
    exact h7.trans h8.symm
  rw[sumN_one,if_pos hj] at h3
  exact Cg.of_sub (h3.symm.trans h1)
 ·exact hf j hj hp
theorem kerL_full{p:Int}{r c:Nat}{f:Nat→Nat→Int}(hF:isF p=true)(hb:BdF p r c f){x:List Int}(h0:∀i,i<r→Cg p (dotV (f i) x c) 0):Sp p (kerL p r c f).length c (vecF (kerL p r c f)) (fun j=>x.getD j default):=by
 obtain⟨h1,h2⟩:=redK_ech hF hb c (Nat.le_refl _)
 have hl:(kerL p r c f).length=(freeL c (redK p r f c).2).length:=by simp[kerL]
 have hg:∀k,k<(kerL p r c f).length→(kerL p r c f).getD k default=kerV p c (redK p r f c).1 (redK p r f c).2 ((freeL c (redK p r f c).2).getD k 0) (redK p r f c).2.length:=fun k hk=>by
  have hk2:k<(freeL c (redK p r f c).2).length:=by omega
  simp[kerL,hk2]
 have hfr:∀k,k<(kerL p r c f).length→(freeL c (redK p r f c).2).getD k 0<c∧(freeL c (redK p r f c).2).getD k 0∉(redK p r f c).2:=fun k hk=>by
  have hk2:k<(freeL c (redK p r f c).2).length:=by omega
  refine freeL_lt _ ?_
  simp[hk2]
 refine⟨fun k=>x.getD ((freeL c (redK p r f c).2).getD k 0) default,?_⟩
 apply ech_det (p:=p) h1
 ·intro i hi
  obtain⟨co,e⟩:=h2.2 i (by have:=h1.le;omega)
  show Cg p (dotV ((redK p r f c).1 i) x c) 0
  refine(dotV_cg e).trans ?_
  rw[dotV_comb]
  refine sumN_cg0 _ fun t ht=>?_
  have:=(Cg.refl (co t)).mul (h0 t ht)
  rwa [Int.mul_zero] at this
 ·intro i hi
  rw[sumN_eq (g:=fun j=>sumN (fun k=>(redK p r f c).1 i j*(x.getD ((freeL c (redK p r f c).2).getD k 0) default*vecF (kerL p r c f) k j)) (kerL p r c f).length) _ fun j _=>by rw[sumN_mul],sumN_swap]
  refine sumN_cg0 _ fun k hk=>?_
  have e:sumN (fun j=>(redK p r f c).1 i j*(x.getD ((freeL c (redK p r f c).2).getD k 0) default*vecF (kerL p r c f) k j)) c=x.getD ((freeL c (redK p r f c).2).getD k 0) default*dotV ((redK p r f c).1 i) ((kerL p r c f).getD k default) c:=by
   unfold dotV
   rw[←sumN_mul]
   exact sumN_eq _ fun j _=>by unfold vecF;rw[Int.mul_left_comm]
  rw[e,hg k hk]
  have h9:=ker_dot (p:=p) h1 (hfr k hk).1 (hfr k hk).2 hi _ (Nat.le_refl _)
  rw[if_pos hi] at h9
  have:=(Cg.refl (x.getD ((freeL c (redK p r f c).2).getD k 0) default)).mul h9
  rwa [Int.mul_zero] at this
 ·intro j hj hjp
  have hm:j∈freeL c (redK p r f c).2:=by
   unfold freeL
   rw[List.mem_filter]
   exact⟨by simpa using hj,by simpa using hjp⟩
  obtain⟨k0,hk0,e0⟩:=List.getElem_of_mem hm
  have e0':(freeL c (redK p r f c).2).getD k0 0=j:=by simp[hk0,e0]
  have hpw:(freeL c (redK p r f c).2).Pairwise (·<·):=List.Pairwise.filter _ List.pairwise_lt_range
  rw[sumN_eq (g:=fun k=>(if k=k0 then 1 else 0)*x.getD ((freeL c (redK p r f c).2).getD k 0) default) _ fun k hk=>by
   have hk2:k<(freeL c (redK p r f c).2).length:=by omega
   show x.getD ((freeL c (redK p r f c).2).getD k 0) default*((kerL p r c f).getD k default).getD j default=_
   rw[hg k hk,kerV_free hj _ fun i hi e=>hjp (by rw[←e];simp[hi]),Int.mul_comm]
   congr 1
   by_cases ek:k=k0
   ·subst ek;rw[if_pos e0'.symm,if_pos rfl]
   ·have hne:j≠(freeL c (redK p r f c).2).getD k 0:=fun e=>by
     have e1:(freeL c (redK p r f c).2)[k]=j:=by
      have:(freeL c (redK p r f c).2).getD k 0=(freeL c (redK p r f c).2)[k]:=by simp[hk2]
      omega
     rw[List.pairwise_iff_getElem] at hpw
     rcases Nat.lt_or_gt_of_ne ek with hlt|hgt
     ·have:=hpw k k0 hk2 hk0 hlt;omega
     ·have:=hpw k0 k hk0 hk2 hgt;omega
    rw[if_neg hne,if_neg ek],sumN_one,if_pos (by omega),e0']
  exact .refl _
theorem kerS_mem{p:Int}{m:Mat}(h:isMat p m=true){x:List Int}(h0:∀i,i<m.r.toNat→Cg p (dotV (ent m i) x m.c.toNat) 0):Sp p (kerS p m).b.length m.c.toNat (vecF (kerS p m).b) (fun j=>x.getD j default):=by
 have hF:=(isMat_spec h).1
 have hv:=kerL_vec (r:=m.r.toNat) (c:=m.c.toNat) (f:=ent m) (isF_pos hF).1
 have hs:=span_ss hF hv.bd
 exact(kerL_full hF (ent_bd h) h0).sub hs.2
theorem kerS_dot{p:Int}{m:Mat}(h:isMat p m=true){t:Nat}(ht:t<(kerS p m).b.length){i:Nat}(hi:i<m.r.toNat):Cg p (dotV (ent m i) ((kerS p m).b.getD t default) m.c.toNat) 0:=by
 have hF:=(isMat_spec h).1
 have hv:=kerL_vec (r:=m.r.toNat) (c:=m.c.toNat) (f:=ent m) (isF_pos hF).1
 have hs:=span_ss hF hv.bd
 obtain⟨co,e⟩:=hs.1 t ht
 have e1:Cg p (dotV (ent m i) ((kerS p m).b.getD t default) m.c.toNat) (sumN (fun j=>ent m i j*sumN (fun k=>co k*vecF (kerL p m.r.toNat m.c.toNat (ent m)) k j) (kerL p m.r.toNat m.c.toNat (ent m)).length) m.c.toNat):=sumN_cg _ fun j hj=>(Cg.refl _).mul (e j hj)
 refine e1.trans ?_
 rw[sumN_eq (g:=fun j=>sumN (fun k=>ent m i j*(co k*vecF (kerL p m.r.toNat m.c.toNat (ent m)) k j)) (kerL p m.r.toNat m.c.toNat (ent m)).length) _ fun j _=>by rw[sumN_mul],sumN_swap]
 refine sumN_cg0 _ fun k hk=>?_
 have e2:sumN (fun j=>ent m i j*(co k*vecF (kerL p m.r.toNat m.c.toNat (ent m)) k j)) m.c.toNat=co k*dotV (ent m i) ((kerL p m.r.toNat m.c.toNat (ent m)).getD k default) m.c.toNat:=by
  unfold dotV
  rw[←sumN_mul]
  exact sumN_eq _ fun j _=>by unfold vecF;rw[Int.mul_left_comm]
 rw[e2]
 have hx:(kerL p m.r.toNat m.c.toNat (ent m)).getD k default∈kerL p m.r.toNat m.c.toNat (ent m):=gm hk
 have:=(Cg.refl (co k)).mul ((kerL_spec hF (ent_bd h) hx).1 i hi)
 rwa [Int.mul_zero] at this
theorem inc_mor{r:Rep}{s:List Spc}(h:isSub r s=true):isMor (subR r s) r (incL s)=true:=by
 obtain⟨h1,h2,h3,h4⟩:=isSub_spec h
 obtain⟨r1,r2,r3,r4⟩:=isRep_spec h1
 have hp:=isF_pos r1
 have hk:=subR_ok h
 obtain⟨d1,d2,d3,d4⟩:=sub_dims h
 have ge:∀v,v<s.length→(incL s).getD v default=incM (s.getD v default):=fun v hv=>by simp[incL,hv]
 have gm2:∀v,v<s.length→isMat r.p (incM (s.getD v default))=true:=fun v hv=>by
  obtain⟨a1,a2⟩:=h3 v hv
  obtain⟨_,n1,_,n3⟩:=isSpc_spec a1
  have:=isSpc_le a1
  refine isMat_tab r1 (by omega) (by omega) fun i hi j hj=>?_
  exact n3.bd j hj i hi
 refine mor_mk (fitR_mk hk h1 rfl rfl) (by rw[incL_len];show s.length=(dimS s).length;omega) (fun v hv=>?_) fun i hi=>?_
 ·rw[incL_len] at hv
  obtain⟨a1,a2⟩:=h3 v hv
  have:=(isSpc_spec a1).2.1
  rw[ge v hv]
  refine⟨gm2 v hv,?_,?_⟩
  ·show((s.getD v default).b.length:Int)=(dimS s).getD v default
   rw[dimS_get hv]
  ·show(((s.getD v default).n.toNat:Nat):Int)=_
   omega
 ·have hi:i<r.m.length:=by rw[r3];exact hi
  obtain⟨m1,m2,m3,m4,m5⟩:=arrow_ok h1 hi
  have e1:(subR r s).m.getD i default=subA r s i:=subMs_get r s hi
  show mulM r.p (r.m.getD i default) ((incL s).getD (r.q.fr.getD i default).toNat default)=mulM r.p ((incL s).getD (r.q.to.getD i default).toNat default) ((subR r s).m.getD i default)
  rw[e1,ge _ (by omega),ge _ (by omega)]
  have g1:=gm2 (r.q.fr.getD i default).toNat (by omega)
  have g2:=gm2 (r.q.to.getD i default).toNat (by omega)
  have hsA:=subA_ok h hi
  obtain⟨f1,f2⟩:=h3 (r.q.fr.getD i default).toNat (by omega)
  obtain⟨t1,t2⟩:=h3 (r.q.to.getD i default).toNat (by omega)
  have fn:=(isSpc_spec f1).2.1
  have tn:=(isSpc_spec t1).2.1
  have hsp:=fun j hj=>isSub_img h hi (j:=j) hj
  unfold subA at hsA⊢
  generalize s.getD (r.q.fr.getD i default).toNat default=S at*
  generalize s.getD (r.q.to.getD i default).toNat default=T at*
  generalize r.m.getD i default=M at*
  have q0:(M.r:Int)=T.n:=by rw[m5,t2]
  have q2:(M.c:Int)=S.n:=by rw[m4,f2]
  obtain⟨c1,c2⟩:=mulM_rc m1 g1
  obtain⟨c3,c4⟩:=mulM_rc g2 hsA
  have cr:(incM T).r=T.n:=Int.toNat_of_nonneg tn.1
  have w1:(incM T).r.toNat=T.n.toNat:=by rw[cr]
  have w2:(incM S).c.toNat=S.b.length:=rfl
  have w3:(subM r.p M S T).c.toNat=S.b.length:=rfl
  have w4:(incM T).c.toNat=T.b.length:=rfl
  refine mat_ext (isMat_mul m1 g1) (isMat_mul g2 hsA) (by rw[c1,c3,cr,q0]) (by rw[c2,c4];rfl) fun a ha j hj=>?_
  rw[c1] at ha
  rw[c2,w2] at hj
  have ha2:a<T.n.toNat:=by rw[←q0];exact ha
  rw[mul_get ha (by rw[w2];exact hj),mul_get (by rw[w1];exact ha2) (by rw[w3];exact hj),w4]
  obtain⟨he,hl⟩:=leadN_ech t1
  have h8:=he.comb (by rw[←q0];exact hsp j hj) a ha2
  rw[leadN_len] at h8
  refine Cg.iff.1 ?_
  have l1:sumN (fun k=>ent M a k*ent (incM S) k j) M.c.toNat=sumN (fun k=>ent M a k*(S.b.getD j default).getD k default) M.c.toNat:=sumN_eq _ fun k hk=>by
   have:ent (incM S) k j=(S.b.getD j default).getD k default:=ent_tm (fcF S.b) (by rw[←q2];exact hk) hj
   rw[this]
  rw[l1]
  have l2:=appV_get r.p M (S.b.getD j default) ha
  have l3:Cg r.p ((appV r.p M (S.b.getD j default)).getD a default) (sumN (fun k=>ent M a k*(S.b.getD j default).getD k default) M.c.toNat):=by rw[l2];exact Cg.mod ..
  refine l3.symm.trans (h8.trans ?_)
  have l4:sumN (fun t=>ent (incM T) a t*ent (subM r.p M S T) t j) T.b.length=sumN (fun t=>(appV r.p M (S.b.getD j default)).getD ((leadN T).getD t 0) default*vecF T.b t a) T.b.length:=sumN_eq _ fun t ht=>by
   have x1:ent (incM T) a t=(T.b.getD t default).getD a default:=ent_tm (fcF T.b) ha2 ht
   have x2:ent (subM r.p M S T) t j=subF r.p M S T t j:=ent_tm (subF r.p M S T) ht hj
   rw[x1,x2,Int.mul_comm]
   unfold subF vecF
   rw[hl t ht,Int.toNat_natCast]
  rw[l4]
  exact .refl _
theorem rank_le{p:Int}{r c:Nat}{f:Nat→Nat→Int}(hF:isF p=true)(hb:BdF p r c f):(redK p c (fun j i=>f i j) r).2.length≤(redK p r f c).2.length:=by
 have hp:=isF_pos hF
 have h1:=span_cols hF hb
 have h2:BdF p (pivC r f (redK p r f c).2).length r (vecF (pivC r f (redK p r f c).2)):=fun i hi j hj=>by
  rw[pivC_len] at hi
  have hlt:=(redK_ech hF hb c (Nat.le_refl _)).1.lt i hi
  unfold vecF
  rw[pivC_get r f hi,rowL_get _ hj]
  exact hb j hj _ hlt
 have h3:=(spanB_le (p:=p) (by omega) h2).1
 have h4:(spanL p r (pivC r f (redK p r f c).2)).length=(spanB p (pivC r f (redK p r f c).2).length r (vecF (pivC r f (redK p r f c).2))).length:=rfl
 rw[←h4,h1,pivC_len] at h3
 have h5:(spanL p r (rowsL c r fun k i=>f i k)).length=(redK p (rowsL c r fun k i=>f i k).length (vecF (rowsL c r fun k i=>f i k)) r).2.length:=spanB_len ..
 rw[h5,rowsL_len] at h3
 have h6:BdF p c r (vecF (rowsL c r fun k i=>f i k)):=fun i hi j hj=>by
  unfold vecF
  rw[rowsL_get _ _ hi,rowL_get _ hj]
  exact hb j hj i hi
 have h7:BdF p c r (fun j i=>f i j):=fun i hi j hj=>hb j hj i hi
 have h8:SS p c c r (vecF (rowsL c r fun k i=>f i k)) (fun j i=>f i j):=by
  have e:∀i,i<c→∀j,j<r→vecF (rowsL c r fun k i=>f i k) i j=f j i:=fun i hi j hj=>by
   unfold vecF
   rw[rowsL_get _ _ hi,rowL_get _ hj]
  refine⟨fun i hi=>(Sp.row (f:=fun j i=>f i j) hi).cg fun j hj=>by rw[e i hi j hj];exact .refl _,fun i hi=>(Sp.row (f:=vecF (rowsL c r fun k i=>f i k)) hi).cg fun j hj=>by rw[e i hi j hj];exact .refl _⟩
 have h9:=(redK_uniq hF h6 h7 h8).1
 rw[h9] at h3
 exact h3
theorem rank_tr{p:Int}{r c:Nat}{f:Nat→Nat→Int}(hF:isF p=true)(hb:BdF p r c f):(redK p c (fun j i=>f i j) r).2.length=(redK p r f c).2.length:=by
 have h1:=rank_le hF hb
 have h2:=rank_le hF (r:=c) (c:=r) (f:=fun j i=>f i j) (fun i hi j hj=>hb j hj i hi)
 exact Nat.le_antisymm h1 h2
end Go.Proofs.YtjmjamhhppoimaaGreat.V
