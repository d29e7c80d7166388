/- Texts that the proof needs: A204. -/
import Derived.Test.YtjmjamhhppoimaaGreatQraA197
namespace Go.Proofs.YtjmjamhhppoimaaGreat.V
open Go.RowKit G D
set_option linter.unusedVariables false
set_option linter.unusedSimpArgs false
set_option maxHeartbeats 1000000
set_option maxRecDepth 4000
theorem ker_same{p:Int}{r s c:Nat}{f g:Nat→Nat→Int}(hF:isF p=true)(hf:BdF p r c f)(hg:BdF p s c g)(h:∀x:List Int,x.length=c→(∀j,j<c→0≤x.getD j default∧x.getD j default≤p-1)→((∀i,i<r→Cg p (dotV (f i) x c) 0)↔∀i,i<s→Cg p (dotV (g i) x c) 0)):(kerL p r c f).length=(kerL p s c g).length:=by
 have hp:=isF_pos hF
 have v1:VecB p c (kerL p r c f):=kerL_vec hp.1
 have v2:VecB p c (kerL p s c g):=kerL_vec hp.1
 have e:spanL p c (kerL p r c f)=spanL p c (kerL p s c g):=spanB_uniq hF v1.bd v2.bd ⟨fun i hi=>by
  have hm:(kerL p r c f).getD i default∈kerL p r c f:=gm hi
  exact kerL_full hF hg ((h _ (v1 _ hm).1 (v1 _ hm).2).1 (kerL_spec hF hf hm).1),fun i hi=>by
  have hm:(kerL p s c g).getD i default∈kerL p s c g:=gm hi
  exact kerL_full hF hf ((h _ (v2 _ hm).1 (v2 _ hm).2).2 (kerL_spec hF hg hm).1)⟩
 rw[←ind_len hF v1 kerL_ind,←ind_len hF v2 kerL_ind,e]
theorem ker_space{p:Int}{r:Nat}{f:Nat→Nat→Int}{s:Spc}(hs:isSpc p s=true)(hf:BdF p r s.n.toNat f)(h:∀x:List Int,x.length=s.n.toNat→(∀j,j<s.n.toNat→0≤x.getD j default∧x.getD j default≤p-1)→((∀i,i<r→Cg p (dotV (f i) x s.n.toNat) 0)↔Me p s fun j=>x.getD j default)):(kerL p r s.n.toNat f).length=s.b.length:=by
 obtain⟨hF,h2,h3,v2⟩:=isSpc_spec hs
 have hp:=isF_pos hF
 have v1:VecB p s.n.toNat (kerL p r s.n.toNat f):=kerL_vec hp.1
 have e:spanL p s.n.toNat (kerL p r s.n.toNat f)=spanL p s.n.toNat s.b:=spanB_uniq hF v1.bd v2.bd ⟨fun i hi=>by
  have hm:(kerL p r s.n.toNat f).getD i default∈kerL p r s.n.toNat f:=gm hi
  exact(h _ (v1 _ hm).1 (v1 _ hm).2).1 (kerL_spec hF hf hm).1,fun i hi=>by
  have hm:s.b.getD i default∈s.b:=gm hi
  exact kerL_full hF hf ((h _ (v2 _ hm).1 (v2 _ hm).2).2 (Sp.row hi))⟩
 rw[←ind_len hF v1 kerL_ind,e,isSpc_idem hs]
theorem dot_sp{p:Int}{r n:Nat}{f:Nat→Nat→Int}{w x:Nat→Int}(hw:Sp p r n f w)(hz:∀i,i<r→Cg p (sumN (fun l=>x l*f i l) n) 0):Cg p (sumN (fun l=>x l*w l) n) 0:=by
 obtain⟨co,e⟩:=hw
 refine(sumN_cg _ fun l hl=>(Cg.refl (x l)).mul (e l hl)).trans ?_
 rw[sumN_eq (g:=fun l=>sumN (fun i=>co i*(x l*f i l)) r) _ fun l _=>by
  rw[←sumN_mul];exact sumN_eq _ fun i _=>Int.mul_left_comm ..,sumN_swap]
 refine sumN_cg0 _ fun i hi=>?_
 rw[sumN_mul]
 have:=(Cg.refl (co i)).mul (hz i hi)
 rwa [Int.mul_zero] at this
structure SimAt (r S:Rep) (v:Nat):Prop where
 p:S.p=r.p
 q:S.q=r.q
 len:S.d.length=r.d.length
 d:∀w,w<r.d.length→S.d.getD w default=if w=v then 1 else 0
 m:∀i,i<r.q.fr.length→S.m.getD i default=zeroM (S.d.getD (r.q.to.getD i default).toNat default) (S.d.getD (r.q.fr.getD i default).toNat default)
 rep:isRep S=true
theorem sim_at{r:Rep}(hr:isRep r=true){v:Nat}(hv:v<r.d.length):(simpleR r.p r.q (v:Int)).2=true∧SimAt r (simpleR r.p r.q (v:Int)).1 v:=by
 obtain⟨r1,r2,r3,r4⟩:=isRep_spec hr
 obtain⟨c1,c2,c3,c4⟩:=areDims_spec r2
 have g:isF r.p=true∧okQ r.q=true∧0≤(v:Int)∧(v:Int)≤r.q.n-1:=⟨r1,c1,by omega,by omega⟩
 have h2:(simpleR r.p r.q (v:Int)).2=true:=by unfold simpleR;rw[if_pos g]
 have hrep:=simple_rep h2
 refine⟨h2,?_⟩
 unfold simpleR at hrep⊢
 rw[if_pos g] at hrep⊢
 have hl:=oneAt_len r.q.n (v:Int)
 refine⟨rfl,rfl,by show(oneAt r.q.n (v:Int)).length=_;omega,fun w hw=>?_,fun i hi=>?_,hrep⟩
 ·show(oneAt r.q.n (v:Int)).getD w default=_
  have hw':w<r.q.n.toNat:=by omega
  unfold oneAt
  rw[Int.toNat_natCast]
  by_cases e:v=w
  ·subst e;simp[hw']
  ·rw[if_neg (fun h=>e h.symm)];simp[hw',e]
 ·show(zeroMs r.q (oneAt r.q.n (v:Int))).getD i default=_
  simp[zeroMs,hi,gI]
theorem ent_zeroM(r c:Int)(i j:Nat):ent (zeroM r c) i j=0:=by
 unfold ent zeroM
 simp only[List.getD_eq_getElem?_getD,List.getElem?_replicate]
 split<;>rfl
theorem SimAt.fit{r S:Rep}{v:Nat}(h:SimAt r S v)(hr:isRep r=true):fitR r S=true:=fitR_mk hr h.rep h.p.symm h.q.symm
theorem SimAt.szR{r S:Rep}{v:Nat}(h:SimAt r S v):∀n,n≤r.d.length→szT r S n=if v<n then(r.d.getD v default).toNat else 0
 |0,_=>rfl
 |n+1,hn=>by
  rw[szT,h.szR n (by omega),h.d n (by omega)]
  by_cases e:n=v
  ·subst e
   rw[if_neg (by omega),if_pos rfl,if_pos (by omega)]
   simp
  ·rw[if_neg e]
   by_cases e2:v<n
   ·rw[if_pos e2,if_pos (by omega)];simp
   ·rw[if_neg e2,if_neg (by omega)];simp
theorem SimAt.szL{r S:Rep}{v:Nat}(h:SimAt r S v):∀n,n≤r.d.length→szT S r n=if v<n then(r.d.getD v default).toNat else 0
 |0,_=>rfl
 |n+1,hn=>by
  rw[szT,h.szL n (by omega),h.d n (by omega)]
  by_cases e:n=v
  ·subst e
   rw[if_neg (by omega),if_pos rfl,if_pos (by omega)]
   simp
  ·rw[if_neg e]
   by_cases e2:v<n
   ·rw[if_pos e2,if_pos (by omega)];simp
   ·rw[if_neg e2,if_neg (by omega)];simp
theorem SimAt.cutR{r S:Rep}{v:Nat}(h:SimAt r S v)(hv:v<r.d.length){x:List Int}(hx:x.length=(r.d.getD v default).toNat):(cutV r S x).getD v default=⟨1,r.d.getD v default,x⟩:=by
 have e:(cutV r S x).getD v default=⟨S.d.getD v default,r.d.getD v default,(x.take (szT r S (v+1))).drop (szT r S v)⟩:=by simp[cutV,hv]
 rw[e,h.d v hv,if_pos rfl,h.szR (v+1) (by omega),if_pos (by omega),h.szR v (by omega),if_neg (by omega),←hx,List.take_length,List.drop_zero]
theorem SimAt.morR{r S:Rep}{v:Nat}(h:SimAt r S v)(hr:isRep r=true)(hv:v<r.d.length){x:List Int}(hx:x.length=(r.d.getD v default).toNat)(hb:∀j,j<(r.d.getD v default).toNat→0≤x.getD j default∧x.getD j default≤r.p-1):isMor r S (cutV r S x)=true↔∀i,i<r.q.fr.length→(r.q.to.getD i default).toNat=v→∀k,k<(r.m.getD i default).c.toNat→Cg r.p (sumN (fun l=>x.getD l default*ent (r.m.getD i default) l k) (r.d.getD v default).toNat) 0:=by
 have hf:=h.fit hr
 have hF:=(isRep_spec hr).1
 have hp:=isF_pos hF
 have hsz:szT r S r.d.length=(r.d.getD v default).toNat:=by rw[h.szR _ (Nat.le_refl _),if_pos hv]
 have hA:=areM_cutV hf (x:=x) (by rw[hsz];exact hx) (vec_mem hx hb)
 have hrm:=(isRep_spec hr).2.2.1
 have hent:∀l,ent (⟨1,r.d.getD v default,x⟩:Mat) 0 l=x.getD l default:=fun l=>by
  show x.getD (0*_+l) default=_
  rw[Nat.zero_mul,Nat.zero_add]
 constructor
 ·intro hm i hi hto k hk
  have hR:=ArF.of hA hi
  have ha:=congrArg (fun m=>ent m 0 k) (mor_arr hm hi)
  try dsimp only at ha
  obtain⟨m1,m2,m3,m4,m5⟩:=arrow_ok hr (i:=i) (by omega)
  have e1:(S.m.getD i default).r=1:=by
   rw[h.m i hi,hto]
   show S.d.getD v default=1
   rw[h.d v hv,if_pos rfl]
  rw[mul_get (by rw[e1];decide) (by rw[hR.cc];exact hk),hto,h.cutR hv hx,mul_get (by show 0<Int.toNat 1;decide) hk] at ha
  rw[sumN_zero _ fun t ht=>by rw[h.m i hi,ent_zeroM,Int.zero_mul]] at ha
  have e2:sumN (fun k_1=>ent (⟨1,r.d.getD v default,x⟩:Mat) 0 k_1*ent (r.m.getD i default) k_1 k) (⟨1,r.d.getD v default,x⟩:Mat).c.toNat=sumN (fun l=>x.getD l default*ent (r.m.getD i default) l k) (r.d.getD v default).toNat:=sumN_eq _ fun l _=>by rw[hent]
  rw[e2] at ha
  exact Cg.iff.2 ha.symm
 ·intro hz
  obtain⟨a1,a2,a3⟩:=areM_spec hA
  refine mor_mk hf a2 (fun w hw=>?_) fun i hi=>?_
  ·have:=a3 w hw
   simp only[fitV,Bool.and_eq_true,decide_eq_true_eq] at this
   exact⟨this.1.1,this.1.2,this.2⟩
  ·have hR:=ArF.of hA hi
   obtain⟨m1,m2,m3,m4,m5⟩:=arrow_ok hr (i:=i) (by omega)
   have hSm:isMat r.p (S.m.getD i default)=true:=hR.mb
   obtain⟨c1,c2⟩:=mulM_rc hSm hR.ff
   obtain⟨c3,c4⟩:=mulM_rc hR.ft m1
   refine mat_ext (isMat_mul hSm hR.ff) (isMat_mul hR.ft m1) (by rw[c1,c3,hR.rr]) (by rw[c2,c4,hR.cc]) fun t ht k hk=>?_
   rw[c1] at ht
   rw[c2] at hk
   rw[mul_get ht hk,mul_get (by rw[←hR.rr];exact ht) (by rw[←hR.cc];exact hk)]
   have e1:(S.m.getD i default).r=if(r.q.to.getD i default).toNat=v then 1 else 0:=by
    rw[h.m i hi]
    show S.d.getD _ default=_
    rw[h.d _ m3.2]
   by_cases hto:(r.q.to.getD i default).toNat=v
   ·rw[if_pos hto] at e1
    rw[e1] at ht
    obtain rfl:t=0:=by
     have:t<1:=ht
     omega
    rw[sumN_zero _ fun t ht=>by rw[h.m i hi,ent_zeroM,Int.zero_mul],hto,h.cutR hv hx]
    have e2:sumN (fun k_1=>ent (⟨1,r.d.getD v default,x⟩:Mat) 0 k_1*ent (r.m.getD i default) k_1 k) (⟨1,r.d.getD v default,x⟩:Mat).c.toNat=sumN (fun l=>x.getD l default*ent (r.m.getD i default) l k) (r.d.getD v default).toNat:=sumN_eq _ fun l _=>by rw[hent]
    rw[e2]
    exact(Cg.iff.1 (hz i hi hto k (by rw[←hR.cc];exact hk))).symm
   ·rw[if_neg hto] at e1
    rw[e1] at ht
    exact absurd ht (by simp)
theorem rad_dot{r:Rep}(hr:isRep r=true){v:Nat}(hv:v<r.d.length){x:Nat→Int}(hz:∀i,i<r.q.fr.length→(r.q.to.getD i default).toNat=v→∀k,k<(r.m.getD i default).c.toNat→Cg r.p (sumN (fun l=>x l*ent (r.m.getD i default) l k) (r.d.getD v default).toNat) 0):∀k,k≤r.q.fr.length→∀t,t<((radK r k).getD v default).b.length→Cg r.p (sumN (fun l=>x l*vecF ((radK r k).getD v default).b t l) (r.d.getD v default).toNat) 0
 |0,_,t,ht=>by simp[radK,hv] at ht
 |k+1,hk,t,ht=>by
  have hrm:=(isRep_spec hr).2.2.1
  obtain⟨m1,m2,m3,m4,m5⟩:=arrow_ok hr (i:=k) (by omega)
  obtain⟨n1,n2⟩:=radK_ok hr k (by omega) _ m3.2
  rw[radK] at ht⊢
  by_cases e:(r.q.to.getD k default).toNat=v
  ·subst e
   rw[set_get (by rw[radK_len];exact hv)] at ht⊢
   have hi:=imgS_ok m1
   have hn:(imgS r.p (r.m.getD k default)).n=((radK r k).getD (r.q.to.getD k default).toNat default).n:=by rw[n1];exact m5
   have hs:=(addS_ss n2 hi hn).1 t ht
   rw[n1] at hs
   refine dot_sp hs fun i hi2=>?_
   by_cases hl:i<((radK r k).getD (r.q.to.getD k default).toNat default).b.length
   ·have e2:∀l,vecF (((radK r k).getD (r.q.to.getD k default).toNat default).b++(imgS r.p (r.m.getD k default)).b) i l=vecF ((radK r k).getD (r.q.to.getD k default).toNat default).b i l:=fun l=>vecF_app_l hl l
    rw[sumN_eq _ fun l _=>by rw[e2 l]]
    exact rad_dot hr hv hz k (by omega) i hl
   ·have e2:∀l,vecF (((radK r k).getD (r.q.to.getD k default).toNat default).b++(imgS r.p (r.m.getD k default)).b) i l=vecF (imgS r.p (r.m.getD k default)).b (i-((radK r k).getD (r.q.to.getD k default).toNat default).b.length) l:=fun l=>by
     have:=vecF_app_r ((radK r k).getD (r.q.to.getD k default).toNat default).b (imgS r.p (r.m.getD k default)).b (i-((radK r k).getD (r.q.to.getD k default).toNat default).b.length) l
     rwa [show((radK r k).getD (r.q.to.getD k default).toNat default).b.length+(i-((radK r k).getD (r.q.to.getD k default).toNat default).b.length)=i by omega] at this
    rw[sumN_eq _ fun l _=>by rw[e2 l]]
    have hbt:BdF r.p (r.m.getD k default).c.toNat (r.m.getD k default).r.toNat (fun k' i=>ent (r.m.getD k default) i k'):=fun a ha b hb=>ent_bd m1 b hb a ha
    have hvb:VecB r.p (r.m.getD k default).r.toNat (rowsL (r.m.getD k default).c.toNat (r.m.getD k default).r.toNat fun k' i=>ent (r.m.getD k default) i k'):=VecB.rows hbt
    have hs2:=(span_ss (isRep_spec hr).1 hvb.bd).1 (i-((radK r k).getD (r.q.to.getD k default).toNat default).b.length) (by
     show _<(imgS r.p (r.m.getD k default)).b.length
     omega)
    have hs3:Sp r.p (r.m.getD k default).c.toNat (r.m.getD k default).r.toNat (fun k' l=>ent (r.m.getD k default) l k') (vecF (imgS r.p (r.m.getD k default)).b (i-((radK r k).getD (r.q.to.getD k default).toNat default).b.length)):=Sp.sub hs2 fun j hj=>by
     rw[rowsL_len] at hj
     exact(Sp.row (f:=fun k' l=>ent (r.m.getD k default) l k') hj).cg fun t ht=>by rw[vecF_rows hj ht];exact .refl _
    rw[m5] at hs3
    exact dot_sp hs3 fun j hj=>hz k (by omega) rfl j hj
  ·rw[set_ne e] at ht⊢
   exact rad_dot hr hv hz k (by omega) t ht
theorem hom_top{r S:Rep}{v:Nat}(h:SimAt r S v)(hr:isRep r=true)(hv:v<r.d.length):homD r S=(topD r).getD v default:=by
 have hf:=h.fit hr
 have hF:=(isRep_spec hr).1
 have hp:=isF_pos hF
 have hrm:=(isRep_spec hr).2.2.1
 obtain⟨n1,n2⟩:=radK_ok hr r.q.fr.length (Nat.le_refl _) v hv
 have hsz:szT r S r.d.length=(r.d.getD v default).toNat:=by rw[h.szR _ (Nat.le_refl _),if_pos hv]
 have hd:0≤r.d.getD v default∧r.d.getD v default≤4:=allIn_spec (areDims_spec (isRep_spec hr).2.1).2.2.1 hv
 have hRv:VecB r.p (r.d.getD v default).toNat ((radL r).getD v default).b:=by
  have:=(isSpc_spec n2).2.2.2
  rw[n1] at this
  exact this
 have hE:=eqM_bd (a:=r) (b:=S) (by omega)
 rw[homD_len r S hf |>.1]
 unfold hkL
 rw[hsz] at hE⊢
 rw[ker_same hF hE hRv.bd fun x hx hb=>?_]
 ·have h1:=kerL_len hF hRv.bd
  have h2:(redK r.p ((radL r).getD v default).b.length (vecF ((radL r).getD v default).b) (r.d.getD v default).toNat).2.length=((radL r).getD v default).b.length:=by
   have:=isSpc_idem n2
   rw[n1] at this
   have h3:spanL r.p (r.d.getD v default).toNat ((radL r).getD v default).b=((radL r).getD v default).b:=this
   conv=>rhs;rw[←h3]
   exact(spanB_len ..).symm
  have h4:(topD r).getD v default=r.d.getD v default-(((radL r).getD v default).b.length:Int):=by
   rw[topD_eq hr]
   unfold topK
   rw[rowL_get _ (by rw[rad_len];exact hv),if_pos hv,dimS_get (by rw[show(radL r).length=r.d.length from radK_len r _];exact hv)]
  rw[h4]
  omega
 ·have hx':x.length=szT r S r.d.length:=by rw[hsz];exact hx
  have k1:(∀i,i<szA r S r.q.fr.length→Cg r.p (dotV (ent (eqM r S) i) x (r.d.getD v default).toNat) 0)↔isMor r S (cutV r S x)=true:=by
   constructor
   ·intro h0
    exact isMor_cut hf hx' (vec_mem hx hb) (by rw[hsz];exact h0)
   ·intro hm i hi
    have:=mor_ker hm hi
    rwa [catM_cutV hx',hsz] at this
  rw[k1,h.morR hr hv hx hb]
  constructor
  ·intro hz t ht
   have:=rad_dot hr hv (x:=fun l=>x.getD l default) hz r.q.fr.length (Nat.le_refl _) t ht
   unfold dotV
   rw[sumN_eq _ fun l _=>Int.mul_comm ..]
   exact this
  ·intro hz i hi hto k hk
   obtain⟨m1,m2,m3,m4,m5⟩:=arrow_ok hr (i:=i) (by omega)
   have hri:=rad_img hr hi (rowL (r.m.getD i default).c.toNat (idF k))
   rw[hto] at hri m5
   rw[m5] at hri
   have:=dot_sp (x:=fun l=>x.getD l default) hri fun t ht=>by
    have:=hz t ht
    unfold dotV at this
    rwa [sumN_eq _ fun l _=>Int.mul_comm ..] at this
   rw[sumN_eq (g:=fun l=>x.getD l default*ent (r.m.getD i default) l k) _ fun l hl=>by rw[appV_unit m1 (by rw[m5];exact hl) hk]] at this
   exact this
theorem SimAt.cutL{r S:Rep}{v:Nat}(h:SimAt r S v)(hv:v<r.d.length){x:List Int}(hx:x.length=(r.d.getD v default).toNat):(cutV S r x).getD v default=⟨r.d.getD v default,1,x⟩:=by
 have hl:=h.len
 have e:(cutV S r x).getD v default=⟨r.d.getD v default,S.d.getD v default,(x.take (szT S r (v+1))).drop (szT S r v)⟩:=by simp[cutV,show v<S.d.length by omega]
 rw[e,h.d v hv,if_pos rfl,h.szL (v+1) (by omega),if_pos (by omega),h.szL v (by omega),if_neg (by omega),←hx,List.take_length,List.drop_zero]
theorem SimAt.morL{r S:Rep}{v:Nat}(h:SimAt r S v)(hr:isRep r=true)(hv:v<r.d.length){x:List Int}(hx:x.length=(r.d.getD v default).toNat)(hb:∀j,j<(r.d.getD v default).toNat→0≤x.getD j default∧x.getD j default≤r.p-1):isMor S r (cutV S r x)=true↔∀i,i<r.q.fr.length→(r.q.fr.getD i default).toNat=v→∀j,j<(r.m.getD i default).r.toNat→Cg r.p (dotV (ent (r.m.getD i default) j) x (r.d.getD v default).toNat) 0:=by
 have hf:=fitR_symm (h.fit hr)
 have hF:=(isRep_spec hr).1
 have hp:=isF_pos hF
 have hl:=h.len
 have hsz:szT S r S.d.length=(r.d.getD v default).toNat:=by rw[hl,h.szL _ (Nat.le_refl _),if_pos hv]
 have hA:=areM_cutV hf (x:=x) (by rw[hsz];exact hx) (vec_mem hx (by rw[h.p];exact hb))
 have hrm:=(isRep_spec hr).2.2.1
 have hent:∀l,ent (⟨r.d.getD v default,1,x⟩:Mat) l 0=x.getD l default:=fun l=>by
  show x.getD (l*1+0) default=_
  rw[Nat.mul_one,Nat.add_zero]
 constructor
 ·intro hm i hi hfr j hj
  have hi':i<S.q.fr.length:=by rw[h.q];exact hi
  have hR:=ArF.of hA hi'
  have ha:=congrArg (fun m=>ent m j 0) (mor_arr hm hi')
  try dsimp only at ha
  obtain⟨m1,m2,m3,m4,m5⟩:=arrow_ok hr (i:=i) (by omega)
  have e1:(S.m.getD i default).c=1:=by
   rw[h.m i hi,hfr]
   show S.d.getD v default=1
   rw[h.d v hv,if_pos rfl]
  have hrr:=hR.rr
  rw[h.q] at ha hrr
  rw[h.p] at ha
  rw[hfr,h.cutL hv hx,mul_get hj (by show 0<Int.toNat 1;decide),mul_get (by rw[←hrr];exact hj) (by rw[e1];decide)] at ha
  rw[sumN_zero (h:=fun k=>_*ent (S.m.getD i default) k 0) _ fun t ht=>by rw[h.m i hi,ent_zeroM,Int.mul_zero]] at ha
  have e2:sumN (fun k=>ent (r.m.getD i default) j k*ent (⟨r.d.getD v default,1,x⟩:Mat) k 0) (r.m.getD i default).c.toNat=dotV (ent (r.m.getD i default) j) x (r.d.getD v default).toNat:=by
   rw[m4,hfr]
   exact sumN_eq _ fun l _=>by rw[hent]
  rw[e2] at ha
  exact Cg.iff.2 ha
 ·intro hz
  obtain⟨a1,a2,a3⟩:=areM_spec hA
  refine mor_mk hf a2 (fun w hw=>?_) fun i hi'=>?_
  ·have:=a3 w hw
   simp only[fitV,Bool.and_eq_true,decide_eq_true_eq] at this
   exact⟨this.1.1,this.1.2,this.2⟩
  ·have hR:=ArF.of hA hi'
   have hi:i<r.q.fr.length:=by rw[←h.q];exact hi'
   obtain⟨m1,m2,m3,m4,m5⟩:=arrow_ok hr (i:=i) (by omega)
   obtain⟨q1,q2,q3,q4,q5,q6,q7,q8,q9,q10⟩:=hR
   rw[h.q] at q5 q6 q7 q8 q9 q10⊢
   obtain⟨c1,c2⟩:=mulM_rc q3 q5
   obtain⟨c3,c4⟩:=mulM_rc q6 q4
   refine mat_ext (isMat_mul q3 q5) (isMat_mul q6 q4) (by rw[c1,c3,q9]) (by rw[c2,c4,q10]) fun t ht k hk=>?_
   rw[c1] at ht
   rw[c2] at hk
   rw[mul_get ht hk,mul_get (by rw[←q9];exact ht) (by rw[←q10];exact hk)]
   have e1:(S.m.getD i default).c=if(r.q.fr.getD i default).toNat=v then 1 else 0:=by
    rw[h.m i hi]
    show S.d.getD _ default=_
    rw[h.d _ m2.2]
   by_cases hfr:(r.q.fr.getD i default).toNat=v
   ·rw[if_pos hfr] at e1
    rw[q10,e1] at hk
    obtain rfl:k=0:=by
     have:k<1:=hk
     omega
    rw[sumN_zero (h:=fun k=>_*ent (S.m.getD i default) k 0) _ fun t ht=>by rw[h.m i hi,ent_zeroM,Int.mul_zero],hfr,h.cutL hv hx]
    have e2:sumN (fun k=>ent (r.m.getD i default) t k*ent (⟨r.d.getD v default,1,x⟩:Mat) k 0) (r.m.getD i default).c.toNat=dotV (ent (r.m.getD i default) t) x (r.d.getD v default).toNat:=by
     rw[m4,hfr]
     exact sumN_eq _ fun l _=>by rw[hent]
    rw[e2,h.p]
    exact Cg.iff.1 (hz i hi hfr t ht)
   ·rw[if_neg hfr] at e1
    rw[q10,e1] at hk
    exact absurd hk (by simp)
theorem soc_mem{r:Rep}(hr:isRep r=true){v:Nat}(hv:v<r.d.length)(x:List Int):∀k,k≤r.q.fr.length→(Me r.p ((socK r k).getD v default) (fun j=>x.getD j default)↔∀i,i<k→(r.q.fr.getD i default).toNat=v→∀j,j<(r.m.getD i default).r.toNat→Cg r.p (dotV (ent (r.m.getD i default) j) x (r.d.getD v default).toNat) 0)
 |0,_=>by
  have e:(socK r 0).getD v default=fulS (r.d.getD v default):=by simp[socK,hv]
  rw[e]
  refine⟨fun _ i hi=>absurd hi (Nat.not_lt_zero i),fun _=>?_⟩
  have h1:Sp r.p (r.d.getD v default).toNat (r.d.getD v default).toNat idF (fun j=>x.getD j default):=sp_idF _
  show Sp r.p (rowsL _ _ idF).length _ _ _
  rw[rowsL_len]
  exact h1.sub fun i hi=>(Sp.row hi).cg fun j hj=>by
   show Cg r.p (idF i j) (vecF (rowsL _ _ idF) i j)
   rw[vecF_rows hi hj]
   exact .refl _
 |k+1,hk=>by
  have hrm:=(isRep_spec hr).2.2.1
  obtain⟨m1,m2,m3,m4,m5⟩:=arrow_ok hr (i:=k) (by omega)
  obtain⟨n1,n2⟩:=socK_ok hr k (by omega) _ m2.2
  have ih:=soc_mem hr hv x k (by omega)
  rw[socK]
  by_cases e:(r.q.fr.getD k default).toNat=v
  ·subst e
   rw[set_get (by rw[socK_len];exact hv)]
   have hks:=kerS_ok m1
   have hn:(kerS r.p (r.m.getD k default)).n=((socK r k).getD (r.q.fr.getD k default).toNat default).n:=by rw[n1];exact m4
   rw[met_sp n2 hks hn,ih]
   constructor
   ·rintro⟨h1,h2⟩ i hi hfr j hj
    by_cases e2:i=k
    ·subst e2
     have h3:Sp r.p (kerS r.p (r.m.getD i default)).b.length (r.m.getD i default).c.toNat (vecF (kerS r.p (r.m.getD i default)).b) (fun j=>x.getD j default):=h2
     rw[m4] at h3
     have:=dot_sp (x:=fun l=>ent (r.m.getD i default) j l) h3 fun t ht=>by
      have:=kerS_dot m1 ht hj
      rwa [m4] at this
     exact this
    ·exact h1 i (by omega) hfr j hj
   ·intro h1
    refine⟨fun i hi=>h1 i (by omega),?_⟩
    show Sp r.p (kerS r.p (r.m.getD k default)).b.length (r.m.getD k default).c.toNat (vecF (kerS r.p (r.m.getD k default)).b) (fun j=>x.getD j default)
    refine kerS_mem m1 fun j hj=>?_
    rw[m4]
    exact h1 k (by omega) rfl j hj
  ·rw[set_ne e,ih]
   constructor
   ·intro h1 i hi hfr j hj
    by_cases e2:i=k
    ·subst e2;exact absurd hfr e
    ·exact h1 i (by omega) hfr j hj
   ·intro h1 i hi
    exact h1 i (by omega)
theorem hom_soc{r S:Rep}{v:Nat}(h:SimAt r S v)(hr:isRep r=true)(hv:v<r.d.length):homD S r=(socD r).getD v default:=by
 have hf:=fitR_symm (h.fit hr)
 have hF:=(isRep_spec hr).1
 have hp:=isF_pos hF
 obtain⟨n1,n2⟩:=socL_ok hr hv
 have hl:=h.len
 have hsz:szT S r S.d.length=(r.d.getD v default).toNat:=by rw[hl,h.szL _ (Nat.le_refl _),if_pos hv]
 have hE:=eqM_bd (a:=S) (b:=r) (by rw[h.p];omega)
 have hk:(hkL S r).length=((socL r).getD v default).b.length:=by
  unfold hkL
  rw[hsz] at hE⊢
  rw[h.p] at hE⊢
  rw[←n1] at hE⊢
  refine ker_space n2 hE fun x hx hb=>?_
  rw[n1] at hx hb⊢
  have hx':x.length=szT S r S.d.length:=by rw[hsz];exact hx
  have k1:(∀i,i<szA S r S.q.fr.length→Cg r.p (dotV (ent (eqM S r) i) x (r.d.getD v default).toNat) 0)↔isMor S r (cutV S r x)=true:=by
   constructor
   ·intro h0
    exact isMor_cut hf hx' (vec_mem hx (by rw[h.p];exact hb)) (by rw[hsz,h.p];exact h0)
   ·intro hm i hi
    have:=mor_ker hm hi
    rwa [catM_cutV hx',hsz,h.p] at this
  rw[k1,h.morL hr hv hx hb]
  exact(soc_mem hr hv x r.q.fr.length (Nat.le_refl _)).symm
 rw[homD_len S r hf |>.1,hk]
 unfold socD
 rw[if_pos hr,dimS_get (by rw[socL_len];exact hv)]
theorem soc_sub{r:Rep}(hr:isRep r=true):isSub r (socL r)=true:=by
 have hrm:=(isRep_spec hr).2.2.1
 refine isSub_mk hr (socL_len r) (fun v hv=>⟨(socL_ok hr (by rw[socL_len] at hv;exact hv)).2,(socL_ok hr (by rw[socL_len] at hv;exact hv)).1⟩) fun i hi=>?_
 obtain⟨m1,m2,m3,m4,m5⟩:=arrow_ok hr hi
 unfold subAt
 obtain⟨t1,t2⟩:=socL_ok hr m3.2
 rw[imgW_iff m1 t2 (by rw[t1,m5])]
 intro k hk
 have hs:=(soc_mem hr m2.2 (((socL r).getD (r.q.fr.getD i default).toNat default).b.getD k default) r.q.fr.length (Nat.le_refl _)).1 (Sp.row hk) i (by omega) rfl
 refine Sp.zero.cg fun j hj=>?_
 have hj2:j<(r.m.getD i default).r.toNat:=by rw[m5,←t1];exact hj
 rw[appV_get _ _ _ hj2]
 refine(Cg.mod ..).trans ?_
 have:=hs j hj2
 rw[←m4] at this
 exact this
theorem lay_sum:∀(f:Nat) (x:Rep) (out:List (List Int)),isRep x=true→(layR f x out).2=true→((layR f x out).1.map List.sum).sum=(out.map List.sum).sum+x.d.sum
 |0,x,out,_,h=>by cases h
 |f+1,x,out,hx,h=>by
  rw[layR] at h⊢
  by_cases e:x.d.sum=0
  ·rw[if_pos e];dsimp only;omega
  ·rw[if_neg e] at h⊢
   rw[lay_sum f (radR x) _ (radR_ok hx) h,List.map_append,List.sum_append,List.map_cons,List.map_nil,List.sum_cons,List.sum_nil,topD_sum hx]
   omega
theorem rad_none{x:Rep}(hx:isRep x=true){v:Nat}(hv:v<x.d.length)(h0:∀i,i<x.q.fr.length→(x.q.to.getD i default).toNat=v→x.d.getD (x.q.fr.getD i default).toNat default=0):∀k,k≤x.q.fr.length→((radK x k).getD v default).b.length=0
 |0,_=>by simp[radK,hv]
 |k+1,hk=>by
  have hrm:=(isRep_spec hx).2.2.1
  have ih:=rad_none hx hv h0 k (by omega)
  obtain⟨m1,m2,m3,m4,m5⟩:=arrow_ok hx (i:=k) (by omega)
  rw[radK]
  by_cases e:(x.q.to.getD k default).toNat=v
  ·have hz:=h0 k (by omega) e
   subst e
   rw[set_get (by rw[radK_len];exact hv)]
   obtain⟨n1,n2⟩:=radK_ok hx k (by omega) _ m3.2
   have hi:=imgS_ok m1
   have hn:(imgS x.p (x.m.getD k default)).n=((radK x k).getD (x.q.to.getD k default).toNat default).n:=by rw[n1];exact m5
   have hp:=isF_pos (isRep_spec hx).1
   have hil:(imgS x.p (x.m.getD k default)).b.length=0:=by
    rw[imgS_len m1,m4,hz];rfl
   obtain⟨_,_,_,v1⟩:=isSpc_spec n2
   obtain⟨_,_,_,v2⟩:=isSpc_spec hi
   rw[hn] at v2
   have h8:(((radK x k).getD (x.q.to.getD k default).toNat default).b++(imgS x.p (x.m.getD k default)).b).length=((radK x k).getD (x.q.to.getD k default).toNat default).b.length+(imgS x.p (x.m.getD k default)).b.length:=List.length_append ..
   have h9:(addS x.p ((radK x k).getD (x.q.to.getD k default).toNat default) (imgS x.p (x.m.getD k default))).b.length≤(((radK x k).getD (x.q.to.getD k default).toNat default).b++(imgS x.p (x.m.getD k default)).b).length:=(spanB_le (show 0<x.p by omega) (v1.app v2).bd).1
   omega
  ·rw[set_ne e];exact ih
theorem top_pos{x:Rep}(hx:isRep x=true)(ha:(orderQ x.q).2=true)(h0:(topD x).sum=0):x.d.sum=0:=by
 obtain⟨rk,hA⟩:=acy_of ha
 obtain⟨x1,x2,x3,x4⟩:=isRep_spec hx
 obtain⟨d1,d2,d3,d4⟩:=sub_dims (rad_sub hx)
 have hs:=topD_sum hx
 have he:dimS (radL x)=x.d:=sum_eq_of d1 (fun j hj=>(d2 j (by omega)).2) (by show(radR x).d.sum=_;omega)
 have hz:∀n,∀v,v<x.d.length→5-rk (v:Int)<n→x.d.getD v default=0:=fun n=>by
  induction n with
  |zero=>intro v _ h;omega
  |succ n ih=>
   intro v hv hn
   have h1:=rad_none hx hv (fun i hi hto=>by
    obtain⟨m1,m2,m3,m4,m5⟩:=arrow_ok hx (i:=i) (by omega)
    have hd:=hA.dec i hi
    have hl:=hA.le (x.q.fr.getD i default)
    have e1:((x.q.to.getD i default).toNat:Int)=x.q.to.getD i default:=Int.toNat_of_nonneg m3.1
    have e2:((x.q.fr.getD i default).toNat:Int)=x.q.fr.getD i default:=Int.toNat_of_nonneg m2.1
    rw[hto] at e1
    refine ih _ m2.2 ?_
    rw[e2]
    rw[e1] at hn
    omega) x.q.fr.length (Nat.le_refl _)
   have h2:=congrArg (fun l=>l.getD v default) he
   try dsimp only at h2
   rw[dimS_get (by rw[show(radL x).length=x.d.length from radK_len x _];exact hv)] at h2
   rw[←h2]
   have h3:((radL x).getD v default).b.length=0:=h1
   rw[h3];rfl
 have:x.d=List.replicate x.d.length 0:=by
  apply List.ext_getElem (by simp)
  intro v g1 g2
  have:=hz 6 v g1 (by omega)
  simp only[List.getElem_replicate]
  have a1:x.d.getD v default=x.d[v]:=by simp[g1]
  rw[←a1];exact this
 rw[this,zsum]
theorem lay_yes:∀(f:Nat) (x:Rep) (out:List (List Int)),isRep x=true→(orderQ x.q).2=true→x.d.sum+1≤f→(layR f x out).2=true
 |0,x,out,hx,_,hf=>by have:=rep_sum hx;omega
 |f+1,x,out,hx,ha,hf=>by
  rw[layR]
  by_cases e:x.d.sum=0
  ·rw[if_pos e]
  ·rw[if_neg e]
   have h1:(topD x).sum≠0:=fun h0=>e (top_pos hx ha h0)
   have h2:=topD_sum hx
   have h3:=topD_sum0 hx
   exact lay_yes f (radR x) _ (radR_ok hx) ha (by omega)
theorem lay_total{r:Rep}(h:(layP r).2=true):isRep r=true∧((layP r).1.map List.sum).sum=r.d.sum:=by
 unfold layP at h⊢
 by_cases hr:isRep r=true
 ·rw[if_pos hr] at h⊢
  have:=lay_sum 9 r [] hr h
  simp only[List.map_nil,List.sum_nil,Int.zero_add] at this
  exact⟨hr,this⟩
 ·rw[if_neg hr] at h;cases h
theorem lay_acyclic{r:Rep}(hr:isRep r=true)(ha:(orderQ r.q).2=true):(layP r).2=true:=by
 unfold layP
 rw[if_pos hr]
 have:=rep_sum hr
 exact lay_yes 9 r [] hr ha (by omega)
theorem gen_in{r:Rep}{s u:List Spc}(hr:isRep r=true)(hu:isSub r u=true)(hs:SpOk r s)(h:∀v,v<r.d.length→∀i,i<(s.getD v default).b.length→Me r.p (u.getD v default) (vecF (s.getD v default).b i)):∀n,∀v,v<r.d.length→∀i,i<((genN r s n).getD v default).b.length→Me r.p (u.getD v default) (vecF ((genN r s n).getD v default).b i):=by
 obtain⟨u1,u2,u3,u4⟩:=isSub_spec hu
 have hrm:=(isRep_spec hr).2.2.1
 have key:∀{X:List Spc},SpOk r X→(∀v,v<r.d.length→∀i,i<(X.getD v default).b.length→Me r.p (u.getD v default) (vecF (X.getD v default).b i))→∀k,k≤r.q.fr.length→∀v,v<r.d.length→∀i,i<((genK r X k).getD v default).b.length→Me r.p (u.getD v default) (vecF ((genK r X k).getD v default).b i):=by
  intro X hX hin k
  induction k with
  |zero=>exact fun _=>hin
  |succ k ih=>
   intro hk v hv i hi
   have hK:=genK_ok hr hX k (by omega)
   obtain⟨a1,a2,a3,a4,a5,a6,a7,a8⟩:=gen_arr hr hK (i:=k) (by omega)
   have ih:=ih (by omega)
   rw[genK] at hi⊢
   rw[genS_at k (by have:=hK.1;omega)] at hi⊢
   by_cases e:(r.q.to.getD k default).toNat=v
   ·rw[if_pos e] at hi⊢
    subst e
    obtain⟨b1,b2⟩:=u3 (r.q.to.getD k default).toNat (by omega)
    obtain⟨b3,b4⟩:=u3 (r.q.fr.getD k default).toNat (by omega)
    have hn:=(hK.2 _ hv).1
    have hss:=(addS_ss a4 a6 a7).1 i hi
    have hnn:(u.getD (r.q.to.getD k default).toNat default).n.toNat=((genK r X k).getD (r.q.to.getD k default).toNat default).n.toNat:=by rw[b2,hn]
    unfold Me
    rw[hnn]
    refine hss.sub fun j hj=>?_
    by_cases hl:j<((genK r X k).getD (r.q.to.getD k default).toNat default).b.length
    ·have:=ih _ hv j hl
     unfold Me at this
     rw[hnn] at this
     exact this.cg fun t _=>by rw[vecF_app_l hl];exact .refl _
    ·obtain⟨m1,m2,m3,m4,m5⟩:=arrow_ok hr (i:=k) (by omega)
     have h5:=u4 k (by omega)
     unfold subAt at h5
     have hjl:j-((genK r X k).getD (r.q.to.getD k default).toNat default).b.length<(imgSp r.p (r.m.getD k default) ((genK r X k).getD (r.q.fr.getD k default).toNat default)).b.length:=by omega
     have hin2:inS r.p (imgSp r.p (r.m.getD k default) ((genK r X k).getD (r.q.fr.getD k default).toNat default)) (u.getD (r.q.to.getD k default).toNat default)=true:=by
      rw[imgW_iff a3 b1 (by rw[b2,m5])]
      intro t ht
      refine img_span a3 b1 (by rw[b2,m5]) h5 ?_
      have:=ih _ a2 t ht
      unfold Me at this
      rw[b4,←m4] at this
      exact this
     have h6:=(inS_iff a6 b1 (by rw[b2,←hn];exact a7.symm)).1 hin2 _ hjl
     rw[hnn] at h6
     refine h6.cg fun t _=>?_
     have:=vecF_app_r ((genK r X k).getD (r.q.to.getD k default).toNat default).b (imgSp r.p (r.m.getD k default) ((genK r X k).getD (r.q.fr.getD k default).toNat default)).b (j-((genK r X k).getD (r.q.to.getD k default).toNat default).b.length) t
     rw[show((genK r X k).getD (r.q.to.getD k default).toNat default).b.length+(j-((genK r X k).getD (r.q.to.getD k default).toNat default).b.length)=j by omega] at this
     rw[this];exact .refl _
   ·rw[if_neg e] at hi⊢
    exact ih v hv i hi
 intro n
 induction n with
 |zero=>exact h
 |succ n ih=>exact key (genN_ok hr hs n) ih _ (Nat.le_refl _)
theorem powI_nat{q:Nat}:∀n,powI (q:Int) n=((q^n:Nat):Int)
 |0=>by simp[powI]
 |n+1=>by rw[powI,powI_nat n,Nat.pow_succ];push_cast;first|rfl|exact Int.mul_comm ..
theorem digV_zero(p:Int):∀n,digV p 0 n=List.replicate n 0
 |0=>rfl
 |n+1=>by
  rw[digV_snoc,Int.zero_ediv,digV_zero p n,Int.zero_emod,List.replicate_succ']
theorem sim_ind{r:Rep}(h:simB r=true):indI r≠0:=by
 simp only[simB,Bool.and_eq_true,decide_eq_true_eq,List.all_eq_true] at h
 obtain⟨⟨hr,hs⟩,hall⟩:=h
 obtain⟨r1,r2,r3,r4⟩:=isRep_spec hr
 have hp:=isF_pos r1
 unfold indI
 rw[if_pos hr,if_neg hs]
 by_cases hsp:(fsP r).2.2=true
 ·exfalso
  obtain⟨s1,s2,s3,s4,s5⟩:=fs_facts hr hsp
  generalize (fsP r).1=u at s1 s3 s5
  obtain⟨u1,u2,u3,u4⟩:=isSub_spec s1
  obtain⟨d1,d2,d3,d4⟩:=sub_dims s1
  have hex:∃v,v<r.d.length∧0<(u.getD v default).b.length:=by
   refine Classical.byContradiction fun hn=>?_
   have:dimS u=List.replicate r.d.length 0:=by
    apply List.ext_getElem (by simpa using d1)
    intro v g1 g2
    have hv:v<r.d.length:=by omega
    have hz:(u.getD v default).b.length=0:=by
     refine Classical.byContradiction fun h0=>hn ⟨v,hv,by omega⟩
    have e1:=dimS_get (s:=u) (v:=v) (by omega)
    have a1:(dimS u).getD v default=(dimS u)[v]:=by simp[g1]
    rw[←a1,e1,hz]
    simp
   rw[this,zsum] at s3
   omega
  obtain⟨v,hv,hb⟩:=hex
  obtain⟨w1,w2⟩:=u3 v (by omega)
  obtain⟨_,_,_,wv⟩:=isSpc_spec w1
  obtain⟨he,hl⟩:=leadN_ech w1
  have hxm:(u.getD v default).b.getD 0 default∈(u.getD v default).b:=gm hb
  obtain⟨x1,x2⟩:=wv _ hxm
  have hx0:((u.getD v default).b.getD 0 default).getD ((leadN (u.getD v default)).getD 0 0) default=1:=by
   have:=he.one 0 (by rw[leadN_len];exact hb) 0 (by rw[leadN_len];exact hb)
   rw[if_pos rfl] at this
   exact this
  have hme:Me r.p (u.getD v default) (fun j=>((u.getD v default).b.getD 0 default).getD j default):=Sp.row hb
  generalize (u.getD v default).b.getD 0 default=x at x1 x2 hx0 hme
  rw[w2] at x1 x2
  have hq:((r.p.toNat:Nat):Int)=r.p:=by omega
  obtain⟨c,hc,hd⟩:=dig_all (q:=r.p.toNat) (by omega) (r.d.getD v default).toNat x x1 fun j hj=>by rw[hq];exact x2 j hj
  rw[hq] at hd
  have hc0:c≠0:=fun e=>by
   subst e
   have:digV r.p ((0:Nat):Int) (r.d.getD v default).toNat=List.replicate (r.d.getD v default).toNat 0:=digV_zero _ _
   rw[hd] at this
   rw[this] at hx0
   rw[List.getD_eq_getElem?_getD,List.getElem?_replicate] at hx0
   split at hx0<;>exact absurd hx0 (by decide)
  have h1:=hall v (by simpa using hv)
  unfold simV at h1
  rw[List.all_eq_true] at h1
  have h2:=h1 c (by
   rw[List.mem_range]
   have:=powI_nat (q:=r.p.toNat) (r.d.getD v default).toNat
   rw[hq] at this
   rw[this,Int.toNat_natCast]
   exact hc)
  rw[decide_eq_false hc0,Bool.false_or] at h2
  unfold simC at h2
  rw[decide_eq_true_eq,hd] at h2
  have hok:=begS_ok hr hv x1 x2
  have hin:=gen_in hr s1 hok (fun w hw i hi=>by
   unfold begS at hi⊢
   by_cases e:v=w
   ·subst e
    rw[set_get (by rw[radK_len];exact hv)] at hi⊢
    have hvx:VecB r.p (r.d.getD v default).toNat [x]:=fun y hy=>by
     rw[List.mem_singleton] at hy
     subst hy
     exact⟨x1,x2⟩
    have:=(span_ss r1 hvx.bd).1 i hi
    unfold Me
    rw[w2]
    refine this.sub fun j hj=>?_
    obtain rfl:j=0:=by simpa using hj
    unfold Me at hme
    rw[w2] at hme
    exact hme
   ·rw[set_ne e] at hi
    simp[radK,hw] at hi) 9
  have hgo:=genN_ok hr hok 9
  have hle:(dimS (genN r (begS r v x) 9)).sum≤(dimS u).sum:=by
   refine sum_le (by rw[dimS_len,dimS_len,hgo.1];omega) fun w hw=>?_
   rw[dimS_len,hgo.1] at hw
   obtain⟨g1,g2⟩:=hgo.2 w hw
   obtain⟨y1,y2⟩:=u3 w (by omega)
   rw[dimS_get (by rw[hgo.1];exact hw),dimS_get (by omega)]
   have:=spc_le g2 y1 (by rw[y2,g1]) (hin w hw)
   omega
  have h3:dimS (genN r (begS r v x) 9)=r.d:=h2
  rw[h3] at hle
  omega
 ·rw[if_neg hsp]
  split<;>omega
end Go.Proofs.YtjmjamhhppoimaaGreat.V
