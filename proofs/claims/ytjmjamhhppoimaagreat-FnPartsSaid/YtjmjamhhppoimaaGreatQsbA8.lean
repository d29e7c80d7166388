/- Texts that the proof needs: A87, A8. -/
import Derived.Test.YtjmjamhhppoimaaGreatQsbA79
namespace Go.Proofs.YtjmjamhhppoimaaGreat.V
open Go.RowKit G D
set_option linter.unusedVariables false
set_option linter.unusedSimpArgs false
set_option maxHeartbeats 1000000
set_option maxRecDepth 4000
theorem rst_val{p:Int}{n:Nat}{b:List (List Int)}{piv:List Nat}(hp:2≤p)(h:Ech b.length n (vecF b) piv)(hl:piv.length=b.length)(hv:VecB p n b){v:List Int}(hn:v.length=n)(hb:∀j,j<n→0≤v.getD j default∧v.getD j default≤p-1){j:Nat}(hj:j<n):(rstK p b v b.length).getD j default=(v.getD j default-sumN (fun i=>v.getD (piv.getD i 0) default*vecF b i j) b.length)%p:=by
 obtain⟨r1,r2,r3⟩:=rstK_spec hp h hl hv hn hb b.length (Nat.le_refl _)
 have h1:=h.comb r3 j hj
 rw[hl] at h1
 try dsimp only at h1
 have h2:sumN (fun i=>(v.getD (piv.getD i 0) default+-1*(rstK p b v b.length).getD (piv.getD i 0) default)*vecF b i j) b.length=sumN (fun i=>v.getD (piv.getD i 0) default*vecF b i j) b.length:=sumN_eq _ fun i hi=>by rw[r2 i hi];simp
 rw[h2] at h1
 generalize sumN (fun i=>v.getD (piv.getD i 0) default*vecF b i j) b.length=S at h1⊢
 have h3:Cg p ((rstK p b v b.length).getD j default) ((v.getD j default-S)%p):=by
  refine Cg.trans ?_ (Cg.mod ..).symm
  have:=(Cg.refl (v.getD j default)).add (Cg.mul (Cg.refl (-1)) h1)
  refine Cg.trans ⟨0,?_⟩ (this.trans ⟨0,?_⟩)
  ·omega
  ·omega
 exact h3.eq (r1 j hj) (mod_bd (by omega))
def leadN(s:Spc):List Nat:=s.b.map fun x=>(leadV x).toNat
theorem leadN_len(s:Spc):(leadN s).length=s.b.length:=by simp[leadN]
theorem leadN_ech{p:Int}{s:Spc}(h:isSpc p s=true):Ech s.b.length s.n.toNat (vecF s.b) (leadN s)∧(∀i,i<s.b.length→leadV (s.b.getD i default)=((leadN s).getD i 0:Nat)):=by
 obtain⟨h1,h2,h3,h4⟩:=isSpc_spec h
 obtain⟨piv,he,hl⟩:=isSpc_ech h
 have e:leadN s=piv:=by
  apply List.ext_getElem (by rw[leadN_len,hl])
  intro i g1 g2
  have hi:i<s.b.length:=by rw[leadN_len] at g1;exact g1
  have:=he.lead_at hl h4 hi
  have e1:s.b.getD i default=s.b[i]:=by simp[hi]
  have e2:piv.getD i 0=piv[i]:=by simp[g2]
  rw[e1,e2] at this
  simp only[leadN,List.getElem_map]
  omega
 rw[e]
 exact⟨he,fun i hi=>he.lead_at hl h4 hi⟩
def prjF(p:Int)(s:Spc):Nat→Nat→Int:=fun a k=>(rstK p s.b (unitL s.n.toNat k) s.b.length).getD ((freeL s.n.toNat (leadN s)).getD a default) default
def prjM(p:Int)(s:Spc):Mat:=tm (freeL s.n.toNat (leadN s)).length s.n.toNat (prjF p s)
theorem free_mem{c:Nat}{piv:List Nat}{a:Nat}(h:a<(freeL c piv).length):(freeL c piv).getD a default<c∧(freeL c piv).getD a default∉piv:=freeL_lt _ (gm h)
theorem free_len{p:Int}{s:Spc}(h:isSpc p s=true):(freeL s.n.toNat (leadN s)).length+s.b.length=s.n.toNat:=by
 obtain⟨he,_⟩:=leadN_ech h
 have:=freeL_len (c:=s.n.toNat) (piv:=leadN s) he.pw fun x hx=>by
  obtain⟨i,hi,e⟩:=List.getElem_of_mem hx
  have:=he.lt i hi
  simp[hi] at this;omega
 rw[leadN_len] at this
 exact this
theorem unit_bd{p:Int}(hp:2≤p)(n k:Nat):∀j,j<n→0≤(unitL n k).getD j default∧(unitL n k).getD j default≤p-1:=fun j hj=>by
 rw[unitL_get hj];split<;>omega
theorem prj_free{p:Int}{s:Spc}(h:isSpc p s=true){a k:Nat}(ha:a<(freeL s.n.toNat (leadN s)).length)(hk:k<s.n.toNat)(hf:k∉leadN s):prjF p s a k=if k=(freeL s.n.toNat (leadN s)).getD a default then 1 else 0:=by
 obtain⟨h1,h2,h3,h4⟩:=isSpc_spec h
 have hp:=isF_pos h1
 obtain⟨he,hl⟩:=leadN_ech h
 obtain⟨f1,f2⟩:=free_mem ha
 unfold prjF
 rw[rst_val (by omega) he (leadN_len s) h4 (unitL_len _ _) (unit_bd (by omega) _ _) f1,unitL_get f1]
 have h0:sumN (fun i=>(unitL s.n.toNat k).getD ((leadN s).getD i 0) default*vecF s.b i ((freeL s.n.toNat (leadN s)).getD a default)) s.b.length=0:=sumN_zero _ fun i hi=>by
  have hi':i<(leadN s).length:=by rw[leadN_len];exact hi
  have hne:(leadN s).getD i 0≠k:=fun e=>hf (by rw[←e];simp[hi'])
  rw[unitL_get (he.lt i hi'),if_neg hne,Int.zero_mul]
 rw[h0,Int.sub_zero]
 by_cases e:(freeL s.n.toNat (leadN s)).getD a default=k
 ·rw[if_pos e,if_pos e.symm];exact Int.emod_eq_of_lt (by omega) (by omega)
 ·rw[if_neg e,if_neg (fun h=>e h.symm)];rfl
theorem prj_lead{p:Int}{s:Spc}(h:isSpc p s=true){a t:Nat}(ha:a<(freeL s.n.toNat (leadN s)).length)(ht:t<s.b.length):prjF p s a ((leadN s).getD t 0)=-(vecF s.b t ((freeL s.n.toNat (leadN s)).getD a default))%p:=by
 obtain⟨h1,h2,h3,h4⟩:=isSpc_spec h
 have hp:=isF_pos h1
 obtain⟨he,hl⟩:=leadN_ech h
 obtain⟨f1,f2⟩:=free_mem ha
 have ht':t<(leadN s).length:=by rw[leadN_len];exact ht
 have hne:(freeL s.n.toNat (leadN s)).getD a default≠(leadN s).getD t 0:=fun e=>f2 (by rw[e];simp[ht'])
 unfold prjF
 rw[rst_val (by omega) he (leadN_len s) h4 (unitL_len _ _) (unit_bd (by omega) _ _) f1,unitL_get f1,if_neg hne]
 have h0:sumN (fun i=>(unitL s.n.toNat ((leadN s).getD t 0)).getD ((leadN s).getD i 0) default*vecF s.b i ((freeL s.n.toNat (leadN s)).getD a default)) s.b.length=vecF s.b t ((freeL s.n.toNat (leadN s)).getD a default):=by
  have h5:=sumN_one (fun i=>vecF s.b i ((freeL s.n.toNat (leadN s)).getD a default)) t s.b.length
  rw[if_pos ht] at h5
  rw[←h5]
  refine sumN_eq _ fun i hi=>?_
  have hi':i<(leadN s).length:=by rw[leadN_len];exact hi
  rw[unitL_get (he.lt i hi')]
  by_cases e:i=t
  ·subst e;rw[if_pos rfl,if_pos rfl]
  ·have hn:(leadN s).getD i 0≠(leadN s).getD t 0:=fun e2=>by
    rcases Nat.lt_or_gt_of_ne e with hlt|hlt
    ·have:=he.inc i t hlt ht';omega
    ·have:=he.inc t i hlt hi';omega
   rw[if_neg e,if_neg hn]
 rw[h0,Int.zero_sub]
theorem prj_bd{p:Int}{s:Spc}(h:isSpc p s=true):BdF p (freeL s.n.toNat (leadN s)).length s.n.toNat (prjF p s):=fun a ha k hk=>by
 obtain⟨h1,h2,h3,h4⟩:=isSpc_spec h
 have hp:=isF_pos h1
 obtain⟨he,hl⟩:=leadN_ech h
 exact(rstK_spec (by omega) he (leadN_len s) h4 (unitL_len _ k) (unit_bd (by omega) _ _) s.b.length (Nat.le_refl _)).1 _ (free_mem ha).1
theorem isMat_prj{p:Int}{s:Spc}(h:isSpc p s=true):isMat p (prjM p s)=true:=by
 obtain⟨h1,h2,h3,h4⟩:=isSpc_spec h
 have:=free_len h
 exact isMat_tab h1 (by omega) (by omega) (prj_bd h)
def quoF(p:Int)(m:Mat)(a b:Spc):Nat→Nat→Int:=fun i j=>mulF p (ent (prjM p b)) (ent m) m.r.toNat i ((freeL a.n.toNat (leadN a)).getD j default)
def quoM(p:Int)(m:Mat)(a b:Spc):Mat:=tm (freeL b.n.toNat (leadN b)).length (freeL a.n.toNat (leadN a)).length (quoF p m a b)
def quoA(r:Rep)(s:List Spc)(i:Nat):Mat:=quoM r.p (r.m.getD i default) (s.getD (r.q.fr.getD i default).toNat default) (s.getD (r.q.to.getD i default).toNat default)
def quoMs(r:Rep)(s:List Spc):List Mat:=(List.range r.m.length).map (quoA r s)
def quoD(s:List Spc):List Int:=s.map fun x=>((freeL x.n.toNat (leadN x)).length:Int)
def quoR(r:Rep)(s:List Spc):Rep:=⟨r.p,r.q,quoD s,quoMs r s⟩
def prjL(p:Int)(s:List Spc):List Mat:=s.map (prjM p)
theorem ent_tm{r c i j:Nat}(f:Nat→Nat→Int)(hi:i<r)(hj:j<c):ent (tm r c f) i j=f i j:=by
 unfold ent tm
 dsimp only
 rw[Int.toNat_natCast,tab_get f hi hj]
theorem mod_mod(x p:Int):x%p%p=x%p:=Int.emod_emod_of_dvd _ (Int.dvd_refl p)
def bakF(l:List Nat):Nat→Nat→Int:=fun k a=>if k=l.getD a default then 1 else 0
def bakM(s:Spc):Mat:=tm s.n.toNat (freeL s.n.toNat (leadN s)).length (bakF (freeL s.n.toNat (leadN s)))
theorem prj_mul(p:Int)(m:Mat)(b:Spc)(nb:b.n=m.r):mulM p (prjM p b) m=tm (freeL b.n.toNat (leadN b)).length m.c.toNat (mulF p (ent (prjM p b)) (ent m) m.r.toNat):=by
 show tm (Int.toNat ((freeL b.n.toNat (leadN b)).length:Int)) m.c.toNat (mulF p (ent (prjM p b)) (ent m) (Int.toNat (b.n.toNat:Int)))=_
 rw[Int.toNat_natCast,Int.toNat_natCast,nb]
theorem quo_eq{p:Int}{m:Mat}{a b:Spc}(na:a.n=m.c)(nb:b.n=m.r):mulM p (mulM p (prjM p b) m) (bakM a)=quoM p m a b:=by
 rw[prj_mul p m b nb]
 generalize hG:mulF p (ent (prjM p b)) (ent m) m.r.toNat=G
 show tm (Int.toNat ((freeL b.n.toNat (leadN b)).length:Int)) (Int.toNat ((freeL a.n.toNat (leadN a)).length:Int)) (mulF p (ent (tm (freeL b.n.toNat (leadN b)).length m.c.toNat G)) (ent (bakM a)) (Int.toNat (m.c.toNat:Int)))=_
 rw[Int.toNat_natCast,Int.toNat_natCast,Int.toNat_natCast]
 unfold quoM tm
 congr 1
 refine tab_ext fun i hi j hj=>?_
 obtain⟨f1,f2⟩:=free_mem hj
 have e:quoF p m a b i j=G i ((freeL a.n.toNat (leadN a)).getD j default):=by rw[←hG];rfl
 rw[e]
 unfold mulF
 rw[dotK_sum]
 rw[sumN_eq (g:=fun k=>(if k=(freeL a.n.toNat (leadN a)).getD j default then 1 else 0)*G i k) _ fun k hk=>by
  have e1:ent (bakM a) k j=bakF (freeL a.n.toNat (leadN a)) k j:=ent_tm _ (by rw[na];exact hk) hj
  have e2:=ent_tm (r:=(freeL b.n.toNat (leadN b)).length) (c:=m.c.toNat) G hi hk
  rw[e1,Int.mul_comm]
  unfold bakF
  rw[←e2],sumN_one,if_pos (by rw[←na];exact f1),←hG]
 exact mod_mod _ _
theorem quo_cols(p:Int)(m:Mat)(a b:Spc):tm (freeL b.n.toNat (leadN b)).length (pivC (freeL b.n.toNat (leadN b)).length (mulF p (ent (prjM p b)) (ent m) m.r.toNat) (freeL a.n.toNat (leadN a))).length (fcF (pivC (freeL b.n.toNat (leadN b)).length (mulF p (ent (prjM p b)) (ent m) m.r.toNat) (freeL a.n.toNat (leadN a))))=quoM p m a b:=by
 unfold quoM tm
 rw[show(pivC (freeL b.n.toNat (leadN b)).length (mulF p (ent (prjM p b)) (ent m) m.r.toNat) (freeL a.n.toNat (leadN a))).length=(freeL a.n.toNat (leadN a)).length by simp[pivC]]
 congr 1
 refine tab_ext fun i hi j hj=>?_
 unfold fcF pivC
 have e:((freeL a.n.toNat (leadN a)).map fun k=>rowL (freeL b.n.toNat (leadN b)).length fun t=>mulF p (ent (prjM p b)) (ent m) m.r.toNat t k).getD j default=rowL (freeL b.n.toNat (leadN b)).length fun t=>mulF p (ent (prjM p b)) (ent m) m.r.toNat t ((freeL a.n.toNat (leadN a)).getD j default):=by simp[hj]
 rw[e,rowL_get _ hi]
 rfl
def pbK(p:Int)(s:Spc)(a:Nat):Nat→Nat→Int:=fun a' c=>if a'<a then prjF p s a' c else 0
def prK(p:Int)(s:Spc)(a:Nat):Nat→Nat→Nat→Int
 |0=>updF (pbK p s a) a ((freeL s.n.toNat (leadN s)).getD a default) 1
 |k+1=>updF (prK p s a k) a ((leadN s).getD k default) (-(vecF s.b k ((freeL s.n.toNat (leadN s)).getD a default))%p)
theorem prK_out(p:Int)(s:Spc)(a:Nat){a':Nat}(h:a'≠a)(c:Nat):∀k,prK p s a k a' c=pbK p s a a' c
 |0=>by rw[prK,updF,if_neg fun x=>h x.1]
 |k+1=>by rw[prK,updF,if_neg fun x=>h x.1,prK_out p s a h c k]
theorem prK_free(p:Int)(s:Spc)(a:Nat){c:Nat}:∀k,(∀t,t<k→(leadN s).getD t default≠c)→prK p s a k a c=if c=(freeL s.n.toNat (leadN s)).getD a default then 1 else 0
 |0,_=>by
  rw[prK,updF]
  by_cases e:c=(freeL s.n.toNat (leadN s)).getD a default
  ·rw[if_pos ⟨rfl,e⟩,if_pos e]
  ·rw[if_neg fun x=>e x.2,if_neg e,pbK,if_neg (by omega)]
 |k+1,h=>by
  rw[prK,updF,if_neg fun x=>h k (by omega) x.2.symm]
  exact prK_free p s a k fun t ht=>h t (by omega)
theorem prK_lead(p:Int)(s:Spc)(a:Nat){t:Nat}:∀k,t<k→(∀u,t<u→u<k→(leadN s).getD u default≠(leadN s).getD t default)→prK p s a k a ((leadN s).getD t default)=-(vecF s.b t ((freeL s.n.toNat (leadN s)).getD a default))%p
 |0,h,_=>by omega
 |k+1,h,hu=>by
  rw[prK,updF]
  by_cases e:t=k
  ·subst e;rw[if_pos ⟨rfl,rfl⟩]
  ·rw[if_neg fun x=>hu k (by omega) (by omega) x.2.symm]
   exact prK_lead p s a k (by omega) fun u h1 h2=>hu u h1 (by omega)
theorem prK_next{p:Int}{s:Spc}(h:isSpc p s=true){a:Nat}(ha:a<(freeL s.n.toNat (leadN s)).length):tab (freeL s.n.toNat (leadN s)).length s.n.toNat (prK p s a s.b.length)=tab (freeL s.n.toNat (leadN s)).length s.n.toNat (pbK p s (a+1)):=by
 obtain⟨he,hl⟩:=leadN_ech h
 have hln:=leadN_len s
 refine tab_ext fun a' ha' c hc=>?_
 by_cases e:a'=a
 ·subst e
  rw[pbK,if_pos (by omega)]
  by_cases hm:c∈leadN s
  ·obtain⟨t,ht,rfl⟩:=List.getElem_of_mem hm
   have e0:(leadN s)[t]=(leadN s).getD t default:=by simp[ht]
   have e1:(leadN s)[t]=(leadN s).getD t 0:=by simp[ht]
   have h1:=prj_lead h ha' (t:=t) (by omega)
   rw[←e1] at h1
   rw[h1,e0]
   refine prK_lead p s a' s.b.length (by omega) fun u h1 h2=>?_
   have:=he.inc t u h1 (by omega)
   have e2:(leadN s).getD u default=(leadN s).getD u 0:=rfl
   have e3:(leadN s).getD t default=(leadN s).getD t 0:=rfl
   omega
  ·rw[prj_free h ha' hc hm]
   refine prK_free p s a' s.b.length fun t ht hx=>hm ?_
   rw[←hx]
   have:t<(leadN s).length:=by omega
   simp[this]
 ·rw[prK_out p s a e]
  unfold pbK
  have:a'<a+1↔a'<a:=by omega
  simp only[this]
theorem pbK_zero(p:Int)(s:Spc):pbK p s 0=fun _ _=>0:=by funext a c;simp[pbK]
theorem pbK_all(p:Int)(s:Spc):tab (freeL s.n.toNat (leadN s)).length s.n.toNat (pbK p s (freeL s.n.toNat (leadN s)).length)=tab (freeL s.n.toNat (leadN s)).length s.n.toNat (prjF p s):=tab_ext fun a ha c hc=>by rw[pbK,if_pos ha]
def bkK(l:List Nat)(n:Nat):Nat→Nat→Int:=fun k a=>if a<n∧k=l.getD a default then 1 else 0
theorem bkK_zero(l:List Nat):bkK l 0=fun _ _=>0:=by funext a c;simp[bkK]
theorem bkK_set(l:List Nat)(n:Nat):updF (bkK l n) (l.getD n default) n 1=bkK l (n+1):=by
 funext k a
 simp only[updF,bkK]
 by_cases e:a=n
 ·subst e
  by_cases e2:k=l.getD a default
  ·rw[if_pos ⟨e2,rfl⟩,if_pos ⟨by omega,e2⟩]
  ·rw[if_neg fun x=>e2 x.1,if_neg fun x=>e2 x.2,if_neg fun x=>e2 x.2]
 ·have:a<n+1↔a<n:=by omega
  rw[if_neg fun x=>e x.2]
  simp only[this]
theorem bkK_all(l:List Nat)(n:Nat):tab n l.length (bkK l l.length)=tab n l.length (bakF l):=tab_ext fun k hk a ha=>by simp[bkK,bakF,ha]
theorem quoD_len(s:List Spc):(quoD s).length=s.length:=by simp[quoD]
theorem quoD_get{s:List Spc}{v:Nat}(h:v<s.length):(quoD s).getD v default=((freeL (s.getD v default).n.toNat (leadN (s.getD v default))).length:Int):=by simp[quoD,h]
theorem quoD_take{s:List Spc}{k:Nat}(h:k<s.length):(quoD s).take (k+1)=(quoD s).take k++[((freeL (s.getD k default).n.toNat (leadN (s.getD k default))).length:Int)]:=map_take (fun(x:Spc)=>((freeL x.n.toNat (leadN x)).length:Int)) h
theorem prjL_len(p:Int)(s:List Spc):(prjL p s).length=s.length:=by simp[prjL]
theorem prjL_get{p:Int}{s:List Spc}{v:Nat}(h:v<s.length):(prjL p s).getD v default=prjM p (s.getD v default):=by simp[prjL,h]
theorem prjL_take{p:Int}{s:List Spc}{k:Nat}(h:k<s.length):(prjL p s).take (k+1)=(prjL p s).take k++[prjM p (s.getD k default)]:=map_take (prjM p) h
def bakL(s:List Spc):List Mat:=s.map bakM
theorem bakL_len(s:List Spc):(bakL s).length=s.length:=by simp[bakL]
theorem bakL_get{s:List Spc}{v:Nat}(h:v<s.length):(bakL s).getD v default=bakM (s.getD v default):=by simp[bakL,h]
theorem bakL_take{s:List Spc}{k:Nat}(h:k<s.length):(bakL s).take (k+1)=(bakL s).take k++[bakM (s.getD k default)]:=map_take bakM h
theorem quoMs_len(r:Rep)(s:List Spc):(quoMs r s).length=r.m.length:=by simp[quoMs]
theorem quoMs_get(r:Rep)(s:List Spc){i:Nat}(hi:i<r.m.length):(quoMs r s).getD i default=quoA r s i:=by simp[quoMs,hi]
def quoP(r:Rep)(s:List Spc):Rep×List Mat×Bool:=if isSub r s=true then(quoR r s,prjL r.p s,true) else(⟨0,⟨0,[],[]⟩,[],[]⟩,[],false)
theorem quoD_bd{r:Rep}{s:List Spc}(h:isSub r s=true):∀v,v<s.length→(freeL (s.getD v default).n.toNat (leadN (s.getD v default))).length≤4∧(s.getD v default).n.toNat≤4:=fun v hv=>by
 obtain⟨h1,h2,h3,h4⟩:=isSub_spec h
 obtain⟨r1,r2,r3,r4⟩:=isRep_spec h1
 obtain⟨c1,c2,c3,_⟩:=areDims_spec r2
 obtain⟨a1,a2⟩:=h3 v hv
 have hd:0≤r.d.getD v default∧r.d.getD v default≤4:=allIn_spec c3 (by omega)
 have:=freeL_le (s.getD v default).n.toNat (leadN (s.getD v default))
 omega
end Go.Proofs.YtjmjamhhppoimaaGreat.V
namespace Go.Proofs.YtjmjamhhppoimaaGreat.V
open V.Enc (enc)
open Go.RowKit G D
set_option linter.unusedVariables false
set_option linter.unusedSimpArgs false
set_option maxHeartbeats 400000
attribute [local irreducible] AW ARg ARA ARet MRet ASil AC AM
theorem l8Zero_a(p:Int)(q:Quiv)(d:List Int)(hq:okQ q=true)(hl:(d.length:Int)=q.n)(hd:∀j,j<d.length→0≤d.getD j default∧d.getD j default≤1024):AC Tryz.prog 163 [.i p,.agg (enc false q),ar false d] [.agg (enc true (zeroR p q d))]:=by
 refine AC.go Tryz.func163 Tryz.ntmps163 rfl rfl fun w0 hw=>?_;simp[WfL,WfA,E_length,Enc.enc,In64] at hw
 have h5:=okQ_spec hq
 have hA:=l6Copy_a q (by omega)
 repeat' first|refine s1 ?_|(refine kR ?_;first|refine F.c (hA) ?_|refine F.aLN (α:=Int) ?_)|fail
 refine AW.openV (o:=5) (j:=5) 3 rfl rfl (.inr rfl) rfl ?_
 refine F.loop (σ:=Nat) [8,17,18,19,20,21,22,23,24,25,26,27,28,29,30,31,32,33,34,35,36,37,38,39,40,41,42,43,44,45] (fun k=>[(8,.i k)]) (fun k=>[(5,.live false 6 [[.i p,.i q.n,.sl 2 q.fr.length 0 q.fr.length,.sl 3 q.to.length 0 q.to.length,.sl 4 d.length 0 d.length,.sl 6 k 0 k]]),(6,.live false 3 (E true ((zeroMs q d).take k)))]) (fun k=>k≤q.fr.length) (fun k=>q.fr.length-k) 0 ⟨rfl,trivial⟩ ⟨rfl,rfl,trivial⟩ (Nat.zero_le _) ?_
 rintro k h1
 have hzl:=zeroMs_len q d
 have hp:((zeroMs q d).take k).length=k:=by rw[List.length_take];omega
 by_cases hlt:k<q.fr.length
 ·have f:=okQ_fr hq hlt
  have t:=okQ_to hq hlt
  have f':0≤q.fr.getD k default∧q.fr.getD k default<q.n:=f
  have t':0≤q.to.getD k default∧q.to.getD k default<q.n:=t
  have df:=hd (q.fr.getD k default).toNat (by omega)
  have dt:=hd (q.to.getD k default).toNat (by omega)
  have hZ:=l3Zero_a _ _ dt df
  repeat' first|refine s1 ?_|fail
  refine AW.draw 20 G.mixed (by kernel_rfl) ?_
  refine Pz (.p 0<|.l 1<|.p 2<|.p 3<|.l 4<|.p 5<|.p 6<|.l 7<|.p 8<|.l 9<|.p 10<|.p 11<|.l 12<|.p 13<|.p 14<|.l 15<|.p 16<|.l 17<|.o 18 true<|.o 19 true<|.o 20 false<|.p 21<|.o 22 false<|.n) ?_
  repeat' first|refine yS ?_|refine s1 ?_|(refine kR ?_;first|refine F.c (hZ) ?_|refine F.a1 Mat ?_)|fail
  any_goals refine lf ?_
  repeat' first|refine s1 ?_|fail
  exact⟨k+1,F.fit ⟨rfl,trivial⟩ ⟨rfl,obE (by rw[zeroMs_take hlt];rfl),trivial⟩,by omega,by omega⟩
 ·obtain rfl:k=q.fr.length:=by omega
  rw[←hzl,List.take_length]
  repeat' first|refine s1 ?_|fail
  refine F.ret rfl
end Go.Proofs.YtjmjamhhppoimaaGreat.V
