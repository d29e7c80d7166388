/- Texts that the proof needs: A113. -/
import Derived.Test.YtjmjamhhppoimaaGreatQspA105
namespace Go.Proofs.YtjmjamhhppoimaaGreat.V
open Go.RowKit G D
set_option linter.unusedVariables false
set_option linter.unusedSimpArgs false
set_option maxHeartbeats 1000000
set_option maxRecDepth 4000
theorem Cg.of_sub{p x y:Int}(h:Cg p (x-y) 0):Cg p x y:=by
 have:=h.add (Cg.refl y)
 rwa [Int.sub_add_cancel,Int.zero_add] at this
theorem Cg.sub0{p x y:Int}(h:Cg p x y):Cg p (x-y) 0:=by
 have:=h.add (Cg.refl (-y))
 rwa [←Int.sub_eq_add_neg,←Int.sub_eq_add_neg,Int.sub_self] at this
theorem sumN_cg0{p:Int}{h:Nat→Int}(n:Nat)(hz:∀i,i<n→Cg p (h i) 0):Cg p (sumN h n) 0:=by
 have:=sumN_cg (g:=fun _=>0) n hz
 rwa [sumN_zero (h:=fun _=>0) n fun _ _=>rfl] at this
theorem ech_det{p:Int}{r c:Nat}{g:Nat→Nat→Int}{piv:List Nat}(h:Ech r c g piv){x z:Nat→Int}(hx:∀i,i<piv.length→Cg p (sumN (fun j=>g i j*x j) c) 0)(hz:∀i,i<piv.length→Cg p (sumN (fun j=>g i j*z j) c) 0)(hf:∀j,j<c→j∉piv→Cg p (x j) (z j)):∀j,j<c→Cg p (x j) (z j):=by
 intro j hj
 by_cases hp:j∈piv
 ·obtain⟨i,hi,e⟩:=List.getElem_of_mem hp
  have e2:piv.getD i 0=j:=by simp[hi,e]
  have h1:Cg p (sumN (fun t=>g i t*(x t-z t)) c) 0:=by
   rw[sumN_eq (g:=fun t=>g i t*x t+(-1)*(g i t*z t)) _ fun t _=>by rw[Int.mul_sub];omega,sumN_add,sumN_mul]
   have:=(hx i hi).add ((Cg.refl (-1)).mul (hz i hi))
   simpa using this
  have h3:Cg p (sumN (fun t=>g i t*(x t-z t)) c) (sumN (fun t=>(if t=j then 1 else 0)*(x t-z t)) c):=sumN_cg _ fun t ht=>by
   by_cases ht2:t∈piv
   ·obtain⟨i',hi',e'⟩:=List.getElem_of_mem ht2
    have e'':piv.getD i' 0=t:=by simp[hi',e']
    have h5:=h.one i hi i' hi'
    rw[e''] at h5
    rw[h5]
    by_cases ei:i=i'
    ·subst ei
     rw[if_pos rfl,if_pos (e''.symm.trans e2)]
     exact .refl _
    ·have hne:t≠j:=fun et=>by
      rcases Nat.lt_or_gt_of_ne ei with hlt|hgt
      ·have:=h.inc i i' hlt hi';omega
      ·have:=h.inc i' i hgt hi;omega
     rw[if_neg ei,if_neg hne]
     exact .refl _
   ·have h6:=(hf t ht ht2).sub0
    have h7:=(Cg.refl (g i t)).mul h6
    have h8:=(Cg.refl (if t=j then(1:Int) else 0)).mul h6
    rw[Int.mul_zero] at h7 h8
    exact h7.trans h8.symm
  rw[sumN_one,if_pos hj] at h3
  exact Cg.of_sub (h3.symm.trans h1)
 ·exact hf j hj hp
theorem kerL_full{p:Int}{r c:Nat}{f:Nat→Nat→Int}(hF:isF p=true)(hb:BdF p r c f){x:List Int}(h0:∀i,i<r→Cg p (dotV (f i) x c) 0):Sp p (kerL p r c f).length c (vecF (kerL p r c f)) (fun j=>x.getD j default):=by
 obtain⟨h1,h2⟩:=redK_ech hF hb c (Nat.le_refl _)
 have hl:(kerL p r c f).length=(freeL c (redK p r f c).2).length:=by simp[kerL]
 have hg:∀k,k<(kerL p r c f).length→(kerL p r c f).getD k default=kerV p c (redK p r f c).1 (redK p r f c).2 ((freeL c (redK p r f c).2).getD k 0) (redK p r f c).2.length:=fun k hk=>by
  have hk2:k<(freeL c (redK p r f c).2).length:=by omega
  simp[kerL,hk2]
 have hfr:∀k,k<(kerL p r c f).length→(freeL c (redK p r f c).2).getD k 0<c∧(freeL c (redK p r f c).2).getD k 0∉(redK p r f c).2:=fun k hk=>by
  have hk2:k<(freeL c (redK p r f c).2).length:=by omega
  refine freeL_lt _ ?_
  simp[hk2]
 refine⟨fun k=>x.getD ((freeL c (redK p r f c).2).getD k 0) default,?_⟩
 apply ech_det (p:=p) h1
 ·intro i hi
  obtain⟨co,e⟩:=h2.2 i (by have:=h1.le;omega)
  show Cg p (dotV ((redK p r f c).1 i) x c) 0
  refine(dotV_cg e).trans ?_
  rw[dotV_comb]
  refine sumN_cg0 _ fun t ht=>?_
  have:=(Cg.refl (co t)).mul (h0 t ht)
  rwa [Int.mul_zero] at this
 ·intro i hi
  rw[sumN_eq (g:=fun j=>sumN (fun k=>(redK p r f c).1 i j*(x.getD ((freeL c (redK p r f c).2).getD k 0) default*vecF (kerL p r c f) k j)) (kerL p r c f).length) _ fun j _=>by rw[sumN_mul],sumN_swap]
  refine sumN_cg0 _ fun k hk=>?_
  have e:sumN (fun j=>(redK p r f c).1 i j*(x.getD ((freeL c (redK p r f c).2).getD k 0) default*vecF (kerL p r c f) k j)) c=x.getD ((freeL c (redK p r f c).2).getD k 0) default*dotV ((redK p r f c).1 i) ((kerL p r c f).getD k default) c:=by
   unfold dotV
   rw[←sumN_mul]
   exact sumN_eq _ fun j _=>by unfold vecF;rw[Int.mul_left_comm]
  rw[e,hg k hk]
  have h9:=ker_dot (p:=p) h1 (hfr k hk).1 (hfr k hk).2 hi _ (Nat.le_refl _)
  rw[if_pos hi] at h9
  have:=(Cg.refl (x.getD ((freeL c (redK p r f c).2).getD k 0) default)).mul h9
  rwa [Int.mul_zero] at this
 ·intro j hj hjp
  have hm:j∈freeL c (redK p r f c).2:=by
   unfold freeL
   rw[List.mem_filter]
   exact⟨by simpa using hj,by simpa using hjp⟩
  obtain⟨k0,hk0,e0⟩:=List.getElem_of_mem hm
  have e0':(freeL c (redK p r f c).2).getD k0 0=j:=by simp[hk0,e0]
  have hpw:(freeL c (redK p r f c).2).Pairwise (·<·):=List.Pairwise.filter _ List.pairwise_lt_range
  rw[sumN_eq (g:=fun k=>(if k=k0 then 1 else 0)*x.getD ((freeL c (redK p r f c).2).getD k 0) default) _ fun k hk=>by
   have hk2:k<(freeL c (redK p r f c).2).length:=by omega
   show x.getD ((freeL c (redK p r f c).2).getD k 0) default*((kerL p r c f).getD k default).getD j default=_
   rw[hg k hk,kerV_free hj _ fun i hi e=>hjp (by rw[←e];simp[hi]),Int.mul_comm]
   congr 1
   by_cases ek:k=k0
   ·subst ek;rw[if_pos e0'.symm,if_pos rfl]
   ·have hne:j≠(freeL c (redK p r f c).2).getD k 0:=fun e=>by
     have e1:(freeL c (redK p r f c).2)[k]=j:=by
      have:(freeL c (redK p r f c).2).getD k 0=(freeL c (redK p r f c).2)[k]:=by simp[hk2]
      omega
     rw[List.pairwise_iff_getElem] at hpw
     rcases Nat.lt_or_gt_of_ne ek with hlt|hgt
     ·have:=hpw k k0 hk2 hk0 hlt;omega
     ·have:=hpw k0 k hk0 hk2 hgt;omega
    rw[if_neg hne,if_neg ek],sumN_one,if_pos (by omega),e0']
  exact .refl _
theorem kerS_mem{p:Int}{m:Mat}(h:isMat p m=true){x:List Int}(h0:∀i,i<m.r.toNat→Cg p (dotV (ent m i) x m.c.toNat) 0):Sp p (kerS p m).b.length m.c.toNat (vecF (kerS p m).b) (fun j=>x.getD j default):=by
 have hF:=(isMat_spec h).1
 have hv:=kerL_vec (r:=m.r.toNat) (c:=m.c.toNat) (f:=ent m) (isF_pos hF).1
 have hs:=span_ss hF hv.bd
 exact(kerL_full hF (ent_bd h) h0).sub hs.2
theorem kerS_dot{p:Int}{m:Mat}(h:isMat p m=true){t:Nat}(ht:t<(kerS p m).b.length){i:Nat}(hi:i<m.r.toNat):Cg p (dotV (ent m i) ((kerS p m).b.getD t default) m.c.toNat) 0:=by
 have hF:=(isMat_spec h).1
 have hv:=kerL_vec (r:=m.r.toNat) (c:=m.c.toNat) (f:=ent m) (isF_pos hF).1
 have hs:=span_ss hF hv.bd
 obtain⟨co,e⟩:=hs.1 t ht
 have e1:Cg p (dotV (ent m i) ((kerS p m).b.getD t default) m.c.toNat) (sumN (fun j=>ent m i j*sumN (fun k=>co k*vecF (kerL p m.r.toNat m.c.toNat (ent m)) k j) (kerL p m.r.toNat m.c.toNat (ent m)).length) m.c.toNat):=sumN_cg _ fun j hj=>(Cg.refl _).mul (e j hj)
 refine e1.trans ?_
 rw[sumN_eq (g:=fun j=>sumN (fun k=>ent m i j*(co k*vecF (kerL p m.r.toNat m.c.toNat (ent m)) k j)) (kerL p m.r.toNat m.c.toNat (ent m)).length) _ fun j _=>by rw[sumN_mul],sumN_swap]
 refine sumN_cg0 _ fun k hk=>?_
 have e2:sumN (fun j=>ent m i j*(co k*vecF (kerL p m.r.toNat m.c.toNat (ent m)) k j)) m.c.toNat=co k*dotV (ent m i) ((kerL p m.r.toNat m.c.toNat (ent m)).getD k default) m.c.toNat:=by
  unfold dotV
  rw[←sumN_mul]
  exact sumN_eq _ fun j _=>by unfold vecF;rw[Int.mul_left_comm]
 rw[e2]
 have hx:(kerL p m.r.toNat m.c.toNat (ent m)).getD k default∈kerL p m.r.toNat m.c.toNat (ent m):=gm hk
 have:=(Cg.refl (co k)).mul ((kerL_spec hF (ent_bd h) hx).1 i hi)
 rwa [Int.mul_zero] at this
theorem mul_dot{p:Int}{x y:Mat}(hx:isMat p x=true)(hy:isMat p y=true)(hxy:x.c=y.r)(v:List Int){i:Nat}(hi:i<x.r.toNat):Cg p (dotV (ent (mulM p x y) i) v y.c.toNat) (dotV (ent x i) (appV p y v) x.c.toNat):=by
 have e1:Cg p (dotV (ent (mulM p x y) i) v y.c.toNat) (sumN (fun j=>sumN (fun k=>ent x i k*ent y k j) x.c.toNat*v.getD j default) y.c.toNat):=sumN_cg _ fun j hj=>by
  rw[mul_get hi hj]
  exact(Cg.mod ..).mul (.refl _)
 have e2:Cg p (dotV (ent x i) (appV p y v) x.c.toNat) (sumN (fun k=>ent x i k*sumN (fun j=>ent y k j*v.getD j default) y.c.toNat) x.c.toNat):=sumN_cg _ fun k hk=>by
  rw[appV_get p y v (by rw[←hxy];exact hk)]
  exact(Cg.refl _).mul (Cg.mod ..)
 refine e1.trans (Cg.trans ?_ e2.symm)
 rw[sumN_eq (g:=fun j=>sumN (fun k=>ent x i k*(ent y k j*v.getD j default)) x.c.toNat) _ fun j _=>by
  rw[Int.mul_comm,←sumN_mul]
  exact sumN_eq _ fun k _=>by rw[Int.mul_comm,Int.mul_assoc],sumN_swap,
  sumN_eq (h:=fun k=>ent x i k*sumN (fun j=>ent y k j*v.getD j default) y.c.toNat) (g:=fun k=>sumN (fun j=>ent x i k*(ent y k j*v.getD j default)) y.c.toNat) _ fun k _=>by rw[sumN_mul]]
 exact .refl _
theorem ker_sub{a b:Rep}{f:List Mat}(h:isMor a b f=true):isSub a (kerLs a.p f)=true:=by
 obtain⟨m1,m2,m3,m4,m5⟩:=mor_ok h
 obtain⟨a1,a2,a3⟩:=areM_spec (isMor_are h)
 have ra:=(fitR_reps a1).1
 have hlen:(kerLs a.p f).length=f.length:=by simp[kerLs]
 refine isSub_mk ra (by omega) (fun v hv=>?_) fun i hi=>?_
 ·obtain⟨k1,k2⟩:=kerLs_ok h (show v<f.length by omega)
  rw[k1]
  exact⟨k2,(m5 v (by omega)).2.1⟩
 ·have hi':i<a.q.fr.length:=by rw[←(isRep_spec ra).2.2.1];exact hi
  have hA:=ArF.of (isMor_are h) hi'
  have hm:=mor_arr h hi'
  obtain⟨k1,k2⟩:=kerLs_ok h hA.fr.2
  obtain⟨k3,k4⟩:=kerLs_ok h hA.to.2
  unfold subAt
  rw[k1,k3]
  rw[imgW_iff hA.ma k4 hA.cy]
  intro t ht
  refine kerS_mem hA.ft fun j hj=>?_
  have h1:=mul_dot hA.ft hA.ma hA.cy ((kerS a.p (f.getD (a.q.fr.getD i default).toNat default)).b.getD t default) hj
  refine h1.symm.trans ?_
  rw[←hm,←hA.cc]
  refine(mul_dot hA.mb hA.ff hA.cx _ (by rw[hA.rr];exact hj)).trans ?_
  refine sumN_cg0 _ fun k hk=>?_
  have hk2:k<(f.getD (a.q.fr.getD i default).toNat default).r.toNat:=by rw[←hA.cx];exact hk
  rw[appV_get _ _ _ hk2]
  have:=(Cg.refl (ent (b.m.getD i default) j k)).mul ((Cg.mod ..).trans (kerS_dot hA.ff ht hk2))
  rwa [Int.mul_zero] at this
theorem img_sub{a b:Rep}{f:List Mat}(h:isMor a b f=true):isSub b (imgLs a.p f)=true:=by
 obtain⟨m1,m2,m3,m4,m5⟩:=mor_ok h
 obtain⟨a1,a2,a3⟩:=areM_spec (isMor_are h)
 have rb:=(fitR_reps a1).2
 have hh:=Fits.of a1
 have hlen:(imgLs a.p f).length=f.length:=by simp[imgLs]
 refine isSub_mk rb (by omega) (fun v hv=>?_) fun i hi=>?_
 ·obtain⟨k1,k2⟩:=imgLs_ok h (show v<f.length by omega)
  rw[k1,←m3]
  exact⟨k2,(m5 v (by omega)).2.2⟩
 ·have hi':i<a.q.fr.length:=by rw[hh.q,←(isRep_spec rb).2.2.1];exact hi
  have hA:=ArF.of (isMor_are h) hi'
  have hm:=mor_arr h hi'
  obtain⟨k1,k2⟩:=imgLs_ok h hA.fr.2
  obtain⟨k3,k4⟩:=imgLs_ok h hA.to.2
  unfold subAt
  rw[←hh.q,←m3,k1,k3]
  have hF:=(isMat_spec hA.ff).1
  have hp:=isF_pos hF
  rw[imgW_iff hA.mb k4 hA.rr.symm]
  intro t ht
  have hcF:VecB a.p (f.getD (a.q.fr.getD i default).toNat default).r.toNat (rowsL (f.getD (a.q.fr.getD i default).toNat default).c.toNat (f.getD (a.q.fr.getD i default).toNat default).r.toNat fun k i'=>ent (f.getD (a.q.fr.getD i default).toNat default) i' k):=VecB.rows fun k hk j hj=>ent_bd hA.ff j hj k hk
  have hcG:VecB a.p (f.getD (a.q.to.getD i default).toNat default).r.toNat (rowsL (f.getD (a.q.to.getD i default).toNat default).c.toNat (f.getD (a.q.to.getD i default).toNat default).r.toNat fun k i'=>ent (f.getD (a.q.to.getD i default).toNat default) i' k):=VecB.rows fun k hk j hj=>ent_bd hA.ft j hj k hk
  have sF:=span_ss hF hcF.bd
  have sG:=span_ss hF hcG.bd
  have h1:=sF.1 t ht
  have h2:=appV_sp (p:=a.p) (m:=b.m.getD i default) (b:=rowsL (f.getD (a.q.fr.getD i default).toNat default).c.toNat (f.getD (a.q.fr.getD i default).toNat default).r.toNat fun k i'=>ent (f.getD (a.q.fr.getD i default).toNat default) i' k) (v:=(imgS a.p (f.getD (a.q.fr.getD i default).toNat default)).b.getD t default) (by rw[hA.cx];exact h1)
  rw[show(imgS a.p (f.getD (a.q.to.getD i default).toNat default)).n.toNat=(f.getD (a.q.to.getD i default).toNat default).r.toNat from rfl]
  rw[hA.rr] at h2
  refine(h2.sub fun k hk=>?_).sub sG.2
  rw[rowsL_len] at hk⊢
  have h3:=appV_cols (p:=a.p) (m:=f.getD (a.q.to.getD i default).toNat default) (rowL (a.m.getD i default).r.toNat fun j=>ent (a.m.getD i default) j k)
  refine h3.cg fun j hj=>?_
  rw[vecF_map (by rw[rowsL_len];exact hk),rowsL_get _ _ hk]
  rw[appV_get _ _ _ (by rw[hA.rr];exact hj),appV_get _ _ _ hj]
  have hkm:k<(a.m.getD i default).c.toNat:=by rw[←hA.cc];exact hk
  have e1:=congrArg (fun m=>ent m j k) hm
  rw[mul_get (by rw[hA.rr];exact hj) hk,mul_get hj hkm] at e1
  have e2:sumN (fun l=>ent (b.m.getD i default) j l*(rowL (f.getD (a.q.fr.getD i default).toNat default).r.toNat fun i'=>ent (f.getD (a.q.fr.getD i default).toNat default) i' k).getD l default) (b.m.getD i default).c.toNat=sumN (fun l=>ent (b.m.getD i default) j l*ent (f.getD (a.q.fr.getD i default).toNat default) l k) (b.m.getD i default).c.toNat:=sumN_eq _ fun l hl=>by rw[rowL_get _ (by rw[←hA.cx];exact hl)]
  have e3:sumN (fun l=>ent (f.getD (a.q.to.getD i default).toNat default) j l*(rowL (a.m.getD i default).r.toNat fun j=>ent (a.m.getD i default) j k).getD l default) (f.getD (a.q.to.getD i default).toNat default).c.toNat=sumN (fun l=>ent (f.getD (a.q.to.getD i default).toNat default) j l*ent (a.m.getD i default) l k) (f.getD (a.q.to.getD i default).toNat default).c.toNat:=sumN_eq _ fun l hl=>by rw[rowL_get _ (by rw[←hA.cy];exact hl)]
  rw[e2,e3,e1]
  exact .refl _
theorem ker_img{p:Int}{m:Mat}(h:isMat p m=true):(kerS p m).b.length+(imgS p m).b.length≤m.c.toNat:=by
 have hF:=(isMat_spec h).1
 have hp:=(isF_pos hF).1
 have hv:=kerL_vec (r:=m.r.toNat) (c:=m.c.toNat) (f:=ent m) hp
 have h1:=(spanB_le (show 0<p by omega) hv.bd).1
 have h2:=kerL_len hF (ent_bd h)
 obtain⟨pv,_⟩:=pivC_vec h
 have h3:=(spanB_le (show 0<p by omega) pv.bd).1
 have h4:(imgS p m).b=spanL p m.r.toNat (pivC m.r.toNat (ent m) (redK p m.r.toNat (ent m) m.c.toNat).2):=(span_cols hF (ent_bd h)).symm
 rw[h4]
 have h5:(spanL p m.r.toNat (pivC m.r.toNat (ent m) (redK p m.r.toNat (ent m) m.c.toNat).2)).length≤(pivC m.r.toNat (ent m) (redK p m.r.toNat (ent m) m.c.toNat).2).length:=h3
 rw[pivC_len] at h5
 have h6:(kerS p m).b.length≤(kerL p m.r.toNat m.c.toNat (ent m)).length:=h1
 omega
theorem sum_add2:∀{z x y:List Int},x.length=z.length→y.length=z.length→(∀v,v<z.length→x.getD v default+y.getD v default≤z.getD v default)→x.sum+y.sum≤z.sum
 |[],x,y,h1,h2,_=>by
  rw[List.length_eq_zero_iff.1 h1,List.length_eq_zero_iff.1 h2];simp
 |c::z,[],y,h1,_,_=>by simp at h1
 |c::z,a::x,[],_,h2,_=>by simp at h2
 |c::z,a::x,b::y,h1,h2,h=>by
  have h3:=h 0 (by simp)
  have h4:=sum_add2 (x:=x) (y:=y) (z:=z) (by simpa using h1) (by simpa using h2) fun v hv=>by simpa using h (v+1) (by simpa using hv)
  simp only[List.getD_cons_zero] at h3
  simp only[List.sum_cons]
  omega
theorem fs_facts{r:Rep}(hr:isRep r=true)(h:(fsP r).2.2=true):isSub r (fsP r).1=true∧isSub r (fsP r).2.1=true∧0<(dimS (fsP r).1).sum∧0<(dimS (fsP r).2.1).sum∧(dimS (fsP r).1).sum+(dimS (fsP r).2.1).sum≤r.d.sum:=by
 cases ho:fsO r with
 |none=>rw[fsP_none ho] at h;cases h
 |some k=>
  rw[fsP_some ho] at h⊢
  have hm:=num_mor (fitR_refl hr) (k:Int)
  generalize numL r r k=f at hm h⊢
  unfold spP at h⊢
  by_cases hc:isMor r r f=true∧(dimS (kerLs r.p (powL r.p f 8))).sum≠0∧(dimS (imgLs r.p (powL r.p f 8))).sum≠0
  ·rw[if_pos hc]
   have hg:=mor_pow hm 8
   generalize powL r.p f 8=g at hg hc
   have s1:=ker_sub hg
   have s2:=img_sub hg
   obtain⟨d1,d2,_,_⟩:=sub_dims s1
   obtain⟨e1,e2,_,_⟩:=sub_dims s2
   obtain⟨m1,m2,m3,m4,m5⟩:=mor_ok hg
   have nn:∀{x:List Int},(∀v,v<x.length→0≤x.getD v default)→0≤x.sum:=by
    intro x
    induction x with
    |nil=>intro _;simp
    |cons a x ih=>
     intro hx
     have h1:=hx 0 (by simp)
     have h2:=ih fun v hv=>by simpa using hx (v+1) (by simpa using hv)
     simp only[List.getD_cons_zero] at h1
     simp only[List.sum_cons]
     omega
   have p1:=nn (x:=dimS (kerLs r.p g)) fun v hv=>(d2 v (by omega)).1
   have p2:=nn (x:=dimS (imgLs r.p g)) fun v hv=>(e2 v (by omega)).1
   refine⟨s1,s2,?_,?_,sum_add2 d1 e1 fun v hv=>?_⟩
   ·have:=hc.2.1
    show 0<(dimS (kerLs r.p g)).sum
    omega
   ·have:=hc.2.2
    show 0<(dimS (imgLs r.p g)).sum
    omega
   ·show(dimS (kerLs r.p g)).getD v default+(dimS (imgLs r.p g)).getD v default≤_
    have hk:(kerLs r.p g).length=g.length:=by simp[kerLs]
    have hi:(imgLs r.p g).length=g.length:=by simp[imgLs]
    rw[dimS_get (by omega),dimS_get (by omega),(kerLs_ok hg (show v<g.length by omega)).1,(imgLs_ok hg (show v<g.length by omega)).1]
    obtain⟨n1,n2,n3⟩:=m5 v (by omega)
    have:=ker_img n1
    have:=(isMat_spec n1).2.2.1
    omega
  ·rw[if_neg hc] at h;cases h
theorem comp_mor{a b c:Rep}{f g:List Mat}(h1:isMor a b f=true)(h2:isMor b c g=true):isMor a c (compL a.p f g)=true:=by
 obtain⟨f1,f2,f3,f4,f5⟩:=mor_ok h1
 obtain⟨g1,g2,g3,g4,g5⟩:=mor_ok h2
 have hac:=areM_spec (comp_are h1 h2)
 have hA1:=areM_spec (isMor_are h1)
 have hq:=(Fits.of hA1.1).q
 have ge:∀v,v<f.length→(compL a.p f g).getD v default=mulM a.p (g.getD v default) (f.getD v default):=fun v hv=>by simp[compL,hv]
 refine mor_mk hac.1 (by rw[compL_len];exact f1) (fun v hv=>?_) fun i hi=>?_
 ·have:=hac.2.2 v hv
  simp only[fitV,Bool.and_eq_true,decide_eq_true_eq] at this
  exact⟨this.1.1,this.1.2,this.2⟩
 ·have hA:=ArF.of (isMor_are h1) hi
  have hB:=ArF.of (isMor_are h2) (i:=i) (by rw[←hq];exact hi)
  have hm1:=mor_arr h1 hi
  have hm2:=mor_arr h2 (i:=i) (by rw[←hq];exact hi)
  rw[←hq,←f3] at hm2
  obtain⟨b1,b2,b3,b4,b5,b6,b7,b8,b9,b10⟩:=hB
  rw[←hq] at b1 b2 b5 b6 b7 b8 b9 b10
  rw[←f3] at b3 b4 b5 b6
  rw[ge _ hA.fr.2,ge _ hA.to.2]
  have c1:=hA.cx
  have c2:=hA.cy
  have c3:=hA.rr
  have c4:=hA.cc
  have x1:=hA.ff
  have x2:=hA.ft
  have x3:=hA.ma
  rw[←mul_assoc b3 b5 x1 b7 (b10.trans c1),hm2,mul_assoc b6 b4 x1 b8 c1,hm1,←mul_assoc b6 x2 x3 (b8.trans c3) c2]
theorem id_mor{a:Rep}(h:isRep a=true):isMor a a (idL a.d)=true:=by
 obtain⟨r1,r2,r3,r4⟩:=isRep_spec h
 have hA:=areM_spec (id_are h)
 refine mor_mk hA.1 hA.2.1 (fun v hv=>?_) fun i hi=>?_
 ·have:=hA.2.2 v hv
  simp only[fitV,Bool.and_eq_true,decide_eq_true_eq] at this
  exact⟨this.1.1,this.1.2,this.2⟩
 ·obtain⟨m1,m2,m3,m4,m5⟩:=arrow_ok h (i:=i) (by omega)
  have e:∀v,v<a.d.length→(idL a.d).getD v default=idM (a.d.getD v default):=fun v hv=>by simp[idL,hv]
  rw[e _ m2.2,e _ m3.2,←m4,←m5,mul_id m1,id_mul m1]
theorem inc_mor{r:Rep}{s:List Spc}(h:isSub r s=true):isMor (subR r s) r (incL s)=true:=by
 obtain⟨h1,h2,h3,h4⟩:=isSub_spec h
 obtain⟨r1,r2,r3,r4⟩:=isRep_spec h1
 have hp:=isF_pos r1
 have hk:=subR_ok h
 obtain⟨d1,d2,d3,d4⟩:=sub_dims h
 have ge:∀v,v<s.length→(incL s).getD v default=incM (s.getD v default):=fun v hv=>by simp[incL,hv]
 have gm2:∀v,v<s.length→isMat r.p (incM (s.getD v default))=true:=fun v hv=>by
  obtain⟨a1,a2⟩:=h3 v hv
  obtain⟨_,n1,_,n3⟩:=isSpc_spec a1
  have:=isSpc_le a1
  refine isMat_tab r1 (by omega) (by omega) fun i hi j hj=>?_
  exact n3.bd j hj i hi
 refine mor_mk (fitR_mk hk h1 rfl rfl) (by rw[incL_len];show s.length=(dimS s).length;omega) (fun v hv=>?_) fun i hi=>?_
 ·rw[incL_len] at hv
  obtain⟨a1,a2⟩:=h3 v hv
  have:=(isSpc_spec a1).2.1
  rw[ge v hv]
  refine⟨gm2 v hv,?_,?_⟩
  ·show((s.getD v default).b.length:Int)=(dimS s).getD v default
   rw[dimS_get hv]
  ·show(((s.getD v default).n.toNat:Nat):Int)=_
   omega
 ·have hi:i<r.m.length:=by rw[r3];exact hi
  obtain⟨m1,m2,m3,m4,m5⟩:=arrow_ok h1 hi
  have e1:(subR r s).m.getD i default=subA r s i:=subMs_get r s hi
  show mulM r.p (r.m.getD i default) ((incL s).getD (r.q.fr.getD i default).toNat default)=mulM r.p ((incL s).getD (r.q.to.getD i default).toNat default) ((subR r s).m.getD i default)
  rw[e1,ge _ (by omega),ge _ (by omega)]
  have g1:=gm2 (r.q.fr.getD i default).toNat (by omega)
  have g2:=gm2 (r.q.to.getD i default).toNat (by omega)
  have hsA:=subA_ok h hi
  obtain⟨f1,f2⟩:=h3 (r.q.fr.getD i default).toNat (by omega)
  obtain⟨t1,t2⟩:=h3 (r.q.to.getD i default).toNat (by omega)
  have fn:=(isSpc_spec f1).2.1
  have tn:=(isSpc_spec t1).2.1
  have hsp:=fun j hj=>isSub_img h hi (j:=j) hj
  unfold subA at hsA⊢
  generalize s.getD (r.q.fr.getD i default).toNat default=S at*
  generalize s.getD (r.q.to.getD i default).toNat default=T at*
  generalize r.m.getD i default=M at*
  have q0:(M.r:Int)=T.n:=by rw[m5,t2]
  have q2:(M.c:Int)=S.n:=by rw[m4,f2]
  obtain⟨c1,c2⟩:=mulM_rc m1 g1
  obtain⟨c3,c4⟩:=mulM_rc g2 hsA
  have cr:(incM T).r=T.n:=Int.toNat_of_nonneg tn.1
  have w1:(incM T).r.toNat=T.n.toNat:=by rw[cr]
  have w2:(incM S).c.toNat=S.b.length:=rfl
  have w3:(subM r.p M S T).c.toNat=S.b.length:=rfl
  have w4:(incM T).c.toNat=T.b.length:=rfl
  refine mat_ext (isMat_mul m1 g1) (isMat_mul g2 hsA) (by rw[c1,c3,cr,q0]) (by rw[c2,c4];rfl) fun a ha j hj=>?_
  rw[c1] at ha
  rw[c2,w2] at hj
  have ha2:a<T.n.toNat:=by rw[←q0];exact ha
  rw[mul_get ha (by rw[w2];exact hj),mul_get (by rw[w1];exact ha2) (by rw[w3];exact hj),w4]
  obtain⟨he,hl⟩:=leadN_ech t1
  have h8:=he.comb (by rw[←q0];exact hsp j hj) a ha2
  rw[leadN_len] at h8
  refine Cg.iff.1 ?_
  have l1:sumN (fun k=>ent M a k*ent (incM S) k j) M.c.toNat=sumN (fun k=>ent M a k*(S.b.getD j default).getD k default) M.c.toNat:=sumN_eq _ fun k hk=>by
   have:ent (incM S) k j=(S.b.getD j default).getD k default:=ent_tm (fcF S.b) (by rw[←q2];exact hk) hj
   rw[this]
  rw[l1]
  have l2:=appV_get r.p M (S.b.getD j default) ha
  have l3:Cg r.p ((appV r.p M (S.b.getD j default)).getD a default) (sumN (fun k=>ent M a k*(S.b.getD j default).getD k default) M.c.toNat):=by rw[l2];exact Cg.mod ..
  refine l3.symm.trans (h8.trans ?_)
  have l4:sumN (fun t=>ent (incM T) a t*ent (subM r.p M S T) t j) T.b.length=sumN (fun t=>(appV r.p M (S.b.getD j default)).getD ((leadN T).getD t 0) default*vecF T.b t a) T.b.length:=sumN_eq _ fun t ht=>by
   have x1:ent (incM T) a t=(T.b.getD t default).getD a default:=ent_tm (fcF T.b) ha2 ht
   have x2:ent (subM r.p M S T) t j=subF r.p M S T t j:=ent_tm (subF r.p M S T) ht hj
   rw[x1,x2,Int.mul_comm]
   unfold subF vecF
   rw[hl t ht,Int.toNat_natCast]
  rw[l4]
  exact .refl _
end Go.Proofs.YtjmjamhhppoimaaGreat.V
