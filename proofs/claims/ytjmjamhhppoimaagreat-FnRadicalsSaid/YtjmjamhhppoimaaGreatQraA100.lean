/- Texts that the proof needs: A81, A99, A100. -/
import Derived.Test.YtjmjamhhppoimaaGreatQraA184
namespace Go.Proofs.YtjmjamhhppoimaaGreat.V
open Go.RowKit G D
set_option linter.unusedVariables false
set_option linter.unusedSimpArgs false
set_option maxHeartbeats 1000000
set_option maxRecDepth 4000
def radR(r:Rep):Rep:=subR r (radL r)
theorem radR_ok{r:Rep}(h:isRep r=true):isRep (radR r)=true:=subR_ok (rad_sub h)
def layR:Nat→Rep→List (List Int)→List (List Int)×Bool
 |0,_,_=>([],false)
 |f+1,x,out=>if x.d.sum=0 then(out,true) else layR f (radR x) (out++[topD x])
def layP(r:Rep):List (List Int)×Bool:=if isRep r=true then layR 9 r [] else([],false)
theorem topD_eq{r:Rep}(h:isRep r=true):topD r=topK r.d (dimS (radL r)) r.d.length:=by unfold topD;rw[if_pos h]
theorem sum_sub:∀{a b c:List Int},a.length=b.length→c.length=b.length→(∀j,j<b.length→c.getD j default=a.getD j default-b.getD j default)→c.sum=a.sum-b.sum
 |[],[],[],_,_,_=>by simp
 |x::a,y::b,z::c,h1,h2,h=>by
  have e:=h 0 (by simp)
  have ih:=sum_sub (a:=a) (b:=b) (c:=c) (by simpa using h1) (by simpa using h2) fun j hj=>by simpa using h (j+1) (by simpa using hj)
  simp only[List.getD_cons_zero] at e
  simp only[List.sum_cons]
  omega
theorem rad_len(r:Rep):(dimS (radL r)).length=r.d.length:=by rw[dimS_len];exact radK_len r r.q.fr.length
theorem topD_sum{r:Rep}(h:isRep r=true):(topD r).sum=r.d.sum-(radR r).d.sum:=by
 rw[topD_eq h]
 have hl:=rad_len r
 have e:(radR r).d=dimS (radL r):=rfl
 rw[e]
 refine sum_sub (by rw[hl]) (by rw[topK_len]) fun j hj=>?_
 unfold topK
 rw[rowL_get _ hj,if_pos (by omega)]
theorem topD_bd{r:Rep}(h:isRep r=true):(topD r).length=r.d.length∧∀j,j<(topD r).length→0≤(topD r).getD j default∧(topD r).getD j default≤4:=by
 obtain⟨h1,h2,h3,h4⟩:=isRep_spec h
 obtain⟨c1,c2,c3,_⟩:=areDims_spec h2
 have hl:=rad_len r
 obtain⟨d1,d2,d3,d4⟩:=sub_dims (rad_sub h)
 rw[topD_eq h,topK_len]
 refine⟨hl,fun j hj=>?_⟩
 have hd:0≤r.d.getD j default∧r.d.getD j default≤4:=allIn_spec c3 (by omega)
 have:=d2 j (by omega)
 unfold topK
 rw[rowL_get _ hj,if_pos (by omega)]
 omega
theorem zsum:∀n:Nat,(List.replicate n (0:Int)).sum=0
 |0=>rfl
 |n+1=>by rw[List.replicate_succ,List.sum_cons,zsum n];rfl
theorem rep_sum{r:Rep}(h:isRep r=true):0≤r.d.sum∧r.d.sum≤8:=by
 obtain⟨h1,h2,h3,h4⟩:=isRep_spec h
 obtain⟨c1,c2,c3,c4⟩:=areDims_spec h2
 have:(List.replicate r.d.length (0:Int)).sum≤r.d.sum:=sum_le (by simp) fun j hj=>by
  have hj:j<r.d.length:=by simpa using hj
  have hd:0≤r.d.getD j default∧r.d.getD j default≤4:=allIn_spec c3 hj
  have e:(List.replicate r.d.length (0:Int)).getD j default=0:=by simp[hj]
  rw[e];exact hd.1
 rw[zsum] at this
 exact⟨this,c4⟩
theorem topD_sum0{r:Rep}(h:isRep r=true):0≤(topD r).sum:=by
 rw[topD_sum h]
 have:(radR r).d.sum≤r.d.sum:=(sub_dims (rad_sub h)).2.2.1
 omega
theorem radR_stuck{r:Rep}(h:isRep r=true)(h0:(topD r).sum=0):radR r=r:=by
 have hs:=topD_sum h
 obtain⟨d1,d2,d3,d4⟩:=sub_dims (rad_sub h)
 exact subR_full (rad_sub h) (sum_eq_of d1 (fun j hj=>(d2 j (by omega)).2) (by show(radR r).d.sum=_;omega))
theorem layR_stuck{r:Rep}(h:isRep r=true)(h0:(topD r).sum=0)(hs:r.d.sum≠0):∀f out,layR f r out=([],false)
 |0,_=>rfl
 |f+1,out=>by rw[layR,if_neg hs,radR_stuck h h0];exact layR_stuck h h0 hs f _
structure LayI (r0:Rep) (f:Nat) (x:Rep) (out:List (List Int)):Prop where
 ok:isRep x=true
 lt:x.d.sum+1≤f
 eq:layR 9 r0 []=layR f x out
 le:f≤9
 ln:out.length+f=9
theorem LayI.start{r:Rep}(h:isRep r=true):LayI r 9 r []:=⟨h,by have:=rep_sum h;omega,rfl,by omega,rfl⟩
theorem LayI.fin{r0 x:Rep}{f:Nat}{out:List (List Int)}(h:LayI r0 f x out)(h0:x.d.sum=0):layR 9 r0 []=(out,true):=by
 rw[h.eq]
 have:=h.lt
 obtain⟨f,rfl⟩:∃g,f=g+1:=⟨f-1,by omega⟩
 rw[layR,if_pos h0]
theorem LayI.bad{r0 x:Rep}{f:Nat}{out:List (List Int)}(h:LayI r0 f x out)(hs:x.d.sum≠0)(h0:(topD x).sum=0):layR 9 r0 []=([],false):=by
 rw[h.eq];exact layR_stuck h.ok h0 hs f out
theorem LayI.next{r0 x:Rep}{f:Nat}{out:List (List Int)}(h:LayI r0 f x out)(hs:x.d.sum≠0)(h0:(topD x).sum≠0):LayI r0 (f-1) (radR x) (out++[topD x]):=by
 have h1:=h.lt
 have h2:=topD_sum h.ok
 have h3:=topD_sum0 h.ok
 have h4:=rep_sum h.ok
 have h5:=h.le
 have h6:=h.ln
 refine⟨radR_ok h.ok,by omega,?_,by omega,by simp;omega⟩
 rw[h.eq]
 obtain⟨f,rfl⟩:∃g,f=g+1:=⟨f-1,by omega⟩
 rw[layR,if_neg hs];rfl
theorem pw_sub_len{a b:List Nat}(ha:a.Pairwise (·<·))(hb:b.Pairwise (·<·))(h:∀x∈a,x∈b):a.length≤b.length:=by
 have e:a=b.filter fun k=>decide (k∈a):=inc_ext ha (List.Pairwise.filter _ hb) fun x=>by
  simp only[List.mem_filter,decide_eq_true_eq]
  exact⟨fun hx=>⟨h x hx,hx⟩,fun hx=>hx.2⟩
 have h2:=List.length_filter_le (fun k=>decide (k∈a)) b
 rw[←e] at h2
 exact h2
theorem addS_mono{p:Int}{a b:Spc}(ha:isSpc p a=true)(hb:isSpc p b=true)(hn:b.n=a.n):a.b.length≤(addS p a b).b.length:=by
 have hp:=isF_pos (isSpc_spec ha).1
 obtain⟨pa,ea,la⟩:=isSpc_ech ha
 obtain⟨ps,es,ls⟩:=isSpc_ech (addS_ok ha hb hn)
 have es':Ech (addS p a b).b.length a.n.toNat (vecF (addS p a b).b) ps:=es
 rw[←la,←ls]
 refine pw_sub_len ea.pw es'.pw fun k hk=>?_
 have hkc:k<a.n.toNat:=by
  obtain⟨i,hi,e⟩:=List.getElem_of_mem hk
  have:=ea.lt i hi;simp[hi] at this;omega
 obtain⟨v,h1,h2⟩:=(ea.mem hp.1 hkc).mp hk
 exact(es'.mem hp.1 hkc).mpr ⟨v,h1.sub fun i hi=>addS_l ha hb hn hi,h2⟩
theorem addS_same{p:Int}{a b:Spc}(ha:isSpc p a=true)(hb:isSpc p b=true)(hn:b.n=a.n)(h:(addS p a b).b.length=a.b.length):addS p a b=a:=by
 obtain⟨h1,h2,h3,h4⟩:=isSpc_spec ha
 have hp:=isF_pos h1
 obtain⟨pa,ea,la⟩:=isSpc_ech ha
 have hs:=addS_ok ha hb hn
 obtain⟨ps,es,ls⟩:=isSpc_ech hs
 have es':Ech (addS p a b).b.length a.n.toNat (vecF (addS p a b).b) ps:=es
 have hv:VecB p a.n.toNat (addS p a b).b:=(isSpc_spec hs).2.2.2
 have hsub:∀i,i<a.b.length→Sp p (addS p a b).b.length a.n.toNat (vecF (addS p a b).b) (vecF a.b i):=fun i hi=>addS_l ha hb hn hi
 have hfull:=ea.full hp.1 es' hsub (by omega)
 have e:=spanB_uniq h1 hv.bd h4.bd ⟨hfull,hsub⟩
 have e1:spanL p a.n.toNat (addS p a b).b=(addS p a b).b:=by
  simp only[isSpc,Bool.and_eq_true,decide_eq_true_eq] at hs
  exact hs.2
 have e2:spanL p a.n.toNat a.b=a.b:=by
  simp only[isSpc,Bool.and_eq_true,decide_eq_true_eq] at ha
  exact ha.2
 have e3:(addS p a b).b=a.b:=by rw[←e1,←e2];exact e
 have e4:addS p a b=⟨a.n,(addS p a b).b⟩:=rfl
 rw[e4,e3]
theorem addS_in{p:Int}{a b:Spc}(ha:isSpc p a=true)(hb:isSpc p b=true)(hn:b.n=a.n)(h:addS p a b=a):inS p b a=true:=by
 rw[inS_iff hb ha hn.symm]
 intro i hi
 have:=addS_r ha hb hn hi
 rw[h] at this
 exact this
def genS(r:Rep)(X:List Spc)(i:Nat):List Spc:=X.set (r.q.to.getD i default).toNat (addS r.p (X.getD (r.q.to.getD i default).toNat default) (imgSp r.p (r.m.getD i default) (X.getD (r.q.fr.getD i default).toNat default)))
def genK(r:Rep)(s:List Spc):Nat→List Spc
 |0=>s
 |k+1=>genS r (genK r s k) k
def genR(r:Rep)(s:List Spc):List Spc:=genK r s r.q.fr.length
def genN(r:Rep)(s:List Spc):Nat→List Spc
 |0=>s
 |n+1=>genR r (genN r s n)
def genA(r:Rep)(s:List Spc):List Spc:=genN r s 9
def SpOk(r:Rep)(X:List Spc):Prop:=X.length=r.d.length∧∀v,v<r.d.length→(X.getD v default).n=r.d.getD v default∧isSpc r.p (X.getD v default)=true
theorem gen_arr{r:Rep}{X:List Spc}(h:isRep r=true)(hX:SpOk r X){i:Nat}(hi:i<r.q.fr.length):(r.q.to.getD i default).toNat<r.d.length∧(r.q.fr.getD i default).toNat<r.d.length∧isMat r.p (r.m.getD i default)=true∧isSpc r.p (X.getD (r.q.to.getD i default).toNat default)=true∧isSpc r.p (X.getD (r.q.fr.getD i default).toNat default)=true∧isSpc r.p (imgSp r.p (r.m.getD i default) (X.getD (r.q.fr.getD i default).toNat default))=true∧(imgSp r.p (r.m.getD i default) (X.getD (r.q.fr.getD i default).toNat default)).n=(X.getD (r.q.to.getD i default).toNat default).n∧(X.getD (r.q.fr.getD i default).toNat default).n=(r.m.getD i default).c:=by
 obtain⟨r1,r2,r3,r4⟩:=isRep_spec h
 obtain⟨m1,m2,m3,m4,m5⟩:=arrow_ok h (i:=i) (by omega)
 obtain⟨x1,x2⟩:=hX.2 _ m3.2
 obtain⟨y1,y2⟩:=hX.2 _ m2.2
 exact⟨m3.2,m2.2,m1,x2,y2,imgSp_ok m1 _,by rw[x1];exact m5,by rw[y1,m4]⟩
theorem genS_at{r:Rep}{X:List Spc}(i:Nat){v:Nat}(hX:(r.q.to.getD i default).toNat<X.length):(genS r X i).getD v default=if(r.q.to.getD i default).toNat=v then addS r.p (X.getD (r.q.to.getD i default).toNat default) (imgSp r.p (r.m.getD i default) (X.getD (r.q.fr.getD i default).toNat default)) else X.getD v default:=by
 unfold genS
 by_cases e:(r.q.to.getD i default).toNat=v
 ·subst e;rw[if_pos rfl,set_get hX]
 ·rw[if_neg e,set_ne e]
theorem genS_ok{r:Rep}{X:List Spc}(h:isRep r=true)(hX:SpOk r X){i:Nat}(hi:i<r.q.fr.length):SpOk r (genS r X i)∧∀v,v<r.d.length→(X.getD v default).b.length≤((genS r X i).getD v default).b.length:=by
 obtain⟨a1,a2,a3,a4,a5,a6,a7,a8⟩:=gen_arr h hX hi
 have hl:=hX.1
 refine⟨⟨by unfold genS;rw[List.length_set];exact hl,fun v hv=>?_⟩,fun v hv=>?_⟩
 ·rw[genS_at i (by omega)]
  by_cases e:(r.q.to.getD i default).toNat=v
  ·rw[if_pos e]
   subst e
   exact⟨(hX.2 _ hv).1,addS_ok a4 a6 a7⟩
  ·rw[if_neg e];exact hX.2 v hv
 ·rw[genS_at i (by omega)]
  by_cases e:(r.q.to.getD i default).toNat=v
  ·rw[if_pos e]
   subst e
   exact addS_mono a4 a6 a7
  ·rw[if_neg e];exact Nat.le_refl _
theorem dim_sum_le{r:Rep}{X Y:List Spc}(hX:SpOk r X)(hY:SpOk r Y)(h:∀v,v<r.d.length→(X.getD v default).b.length≤(Y.getD v default).b.length):(dimS X).sum≤(dimS Y).sum:=by
 have h1:=dimS_len X
 have h2:=dimS_len Y
 have a:=hX.1
 have b:=hY.1
 refine sum_le (by omega) fun j hj=>?_
 rw[dimS_get (by omega),dimS_get (by omega)]
 have:=h j (by omega)
 omega
theorem dim_sum_eq{r:Rep}{X Y:List Spc}(hX:SpOk r X)(hY:SpOk r Y)(h:∀v,v<r.d.length→(X.getD v default).b.length≤(Y.getD v default).b.length)(hs:(dimS X).sum=(dimS Y).sum):∀v,v<r.d.length→(X.getD v default).b.length=(Y.getD v default).b.length:=by
 have h1:=dimS_len X
 have h2:=dimS_len Y
 have a:=hX.1
 have b:=hY.1
 have e:=sum_eq_of (a:=dimS X) (b:=dimS Y) (by omega) (fun j hj=>by
  rw[dimS_get (by omega),dimS_get (by omega)]
  have:=h j (by omega)
  omega) hs
 intro v hv
 have e2:(dimS X).getD v default=(dimS Y).getD v default:=by rw[e]
 rw[dimS_get (by omega),dimS_get (by omega)] at e2
 omega
theorem genS_sum{r:Rep}{X:List Spc}(h:isRep r=true)(hX:SpOk r X){i:Nat}(hi:i<r.q.fr.length):(dimS X).sum≤(dimS (genS r X i)).sum:=by
 obtain⟨a,b⟩:=genS_ok h hX hi
 exact dim_sum_le hX a b
theorem genS_fix{r:Rep}{X:List Spc}(h:isRep r=true)(hX:SpOk r X){i:Nat}(hi:i<r.q.fr.length)(hs:(dimS X).sum=(dimS (genS r X i)).sum):genS r X i=X∧subAt r X i=true:=by
 obtain⟨a,b⟩:=genS_ok h hX hi
 obtain⟨a1,a2,a3,a4,a5,a6,a7,a8⟩:=gen_arr h hX hi
 have e:=dim_sum_eq hX a b hs _ a1
 have hl:=hX.1
 rw[genS_at i (by omega),if_pos rfl] at e
 have e2:=addS_same a4 a6 a7 e.symm
 constructor
 ·unfold genS
  rw[e2]
  apply List.ext_getElem (by simp)
  intro j j1 j2
  rw[List.getElem_set]
  by_cases e3:(r.q.to.getD i default).toNat=j
  ·subst e3
   rw[if_pos rfl]
   have g:∀(j:Nat) (h:j<X.length),X.getD j default=X[j]:=fun j h=>by simp[h]
   exact g _ j2
  ·rw[if_neg e3]
 ·exact addS_in a4 a6 a7 e2
theorem genK_ok{r:Rep}{s:List Spc}(h:isRep r=true)(hs:SpOk r s):∀k,k≤r.q.fr.length→SpOk r (genK r s k)
 |0,_=>hs
 |k+1,hk=>(genS_ok h (genK_ok h hs k (by omega)) (i:=k) (by omega)).1
theorem genK_sum{r:Rep}{s:List Spc}(h:isRep r=true)(hs:SpOk r s){k:Nat}:∀n,k+n≤r.q.fr.length→(dimS (genK r s k)).sum≤(dimS (genK r s (k+n))).sum
 |0,_=>Int.le_refl _
 |n+1,hn=>Int.le_trans (genK_sum h hs n (by omega)) (genS_sum h (genK_ok h hs (k+n) (by omega)) (i:=k+n) (by omega))
theorem genR_ok{r:Rep}{s:List Spc}(h:isRep r=true)(hs:SpOk r s):SpOk r (genR r s):=genK_ok h hs _ (Nat.le_refl _)
theorem genR_sum{r:Rep}{s:List Spc}(h:isRep r=true)(hs:SpOk r s):(dimS s).sum≤(dimS (genR r s)).sum:=by
 have:=genK_sum h hs (k:=0) r.q.fr.length (by omega)
 rw[Nat.zero_add] at this
 exact this
theorem genR_fix{r:Rep}{s:List Spc}(h:isRep r=true)(hs:SpOk r s)(he:(dimS s).sum=(dimS (genR r s)).sum):genR r s=s∧isSub r s=true:=by
 have hst:∀k,k<r.q.fr.length→(dimS (genK r s k)).sum=(dimS (genK r s (k+1))).sum:=fun k hk=>by
  have h1:=genK_sum h hs (k:=0) k (by omega)
  rw[Nat.zero_add] at h1
  have h2:=genK_sum h hs (k:=k) 1 (by omega)
  have h3:=genK_sum h hs (k:=k+1) (r.q.fr.length-(k+1)) (by omega)
  rw[show k+1+(r.q.fr.length-(k+1))=r.q.fr.length by omega] at h3
  have h1:(dimS s).sum≤(dimS (genK r s k)).sum:=h1
  have h3:(dimS (genK r s (k+1))).sum≤(dimS (genR r s)).sum:=h3
  omega
 have hall:∀k,k≤r.q.fr.length→genK r s k=s:=fun k=>by
  induction k with
  |zero=>intro _;rfl
  |succ k ih=>
   intro hk
   have e:=ih (by omega)
   have h1:=hst k (by omega)
   rw[genK,e] at h1⊢
   exact(genS_fix h hs (by omega) h1).1
 refine⟨hall _ (Nat.le_refl _),?_⟩
 obtain⟨r1,r2,r3,r4⟩:=isRep_spec h
 refine isSub_mk h hs.1 (fun v hv=>⟨(hs.2 v (by have:=hs.1;omega)).2,(hs.2 v (by have:=hs.1;omega)).1⟩) fun i hi=>?_
 have hi:i<r.q.fr.length:=by omega
 have h1:=hst i hi
 rw[genK,hall i (by omega)] at h1
 exact(genS_fix h hs hi h1).2
theorem genN_ok{r:Rep}{s:List Spc}(h:isRep r=true)(hs:SpOk r s):∀n,SpOk r (genN r s n)
 |0=>hs
 |n+1=>genR_ok h (genN_ok h hs n)
theorem genN_stay{r:Rep}{s:List Spc}(h:isRep r=true)(hs:SpOk r s){k:Nat}(he:(dimS (genN r s k)).sum=(dimS (genN r s (k+1))).sum):∀n,genN r s (k+n)=genN r s k
 |0=>rfl
 |n+1=>by
  rw[←Nat.add_assoc,genN,genN_stay h hs he n]
  exact(genR_fix h (genN_ok h hs k) he).1
theorem spok_sum{r:Rep}{X:List Spc}(h:isRep r=true)(hX:SpOk r X):0≤(dimS X).sum∧(dimS X).sum≤8:=by
 have hr:=rep_sum h
 have hl:=dimS_len X
 have hx:=hX.1
 obtain⟨r1,r2,r3,r4⟩:=isRep_spec h
 obtain⟨c1,c2,c3,c4⟩:=areDims_spec r2
 have h1:=sum_le (a:=dimS X) (b:=r.d) (by omega) fun j hj=>by
  rw[dimS_get (by omega)]
  obtain⟨a,b⟩:=hX.2 j (by omega)
  have h2:=isSpc_le b
  have h3:0≤r.d.getD j default∧r.d.getD j default≤4:=allIn_spec c3 (by omega)
  rw[a] at h2
  omega
 have h0:=sum_le (a:=List.replicate X.length 0) (b:=dimS X) (by simp;omega) fun j hj=>by
  have hj:j<X.length:=by simpa using hj
  rw[dimS_get hj]
  simp[hj]
 rw[zsum] at h0
 omega
theorem genN_up{r:Rep}{s:List Spc}(h:isRep r=true)(hs:SpOk r s):∀k,(∀j,j<k→(dimS (genN r s j)).sum≠(dimS (genN r s (j+1))).sum)→(k:Int)≤(dimS (genN r s k)).sum
 |0,_=>(spok_sum h hs).1
 |k+1,hj=>by
  have h1:=genN_up h hs k fun j h2=>hj j (by omega)
  have h2:=hj k (by omega)
  have h3:(dimS (genN r s k)).sum≤(dimS (genN r s (k+1))).sum:=genR_sum h (genN_ok h hs k)
  push_cast
  omega
theorem gen_stop{r:Rep}{s:List Spc}(h:isRep r=true)(hs:SpOk r s){k:Nat}(hj:∀j,j<k→(dimS (genN r s j)).sum≠(dimS (genN r s (j+1))).sum)(he:(dimS (genN r s k)).sum=(dimS (genN r s (k+1))).sum):genN r s (k+1)=genA r s∧isSub r (genA r s)=true:=by
 have h1:=genN_up h hs k hj
 have h2:=(spok_sum h (genN_ok h hs k)).2
 have a:=genN_stay h hs he 1
 have b:=genN_stay h hs he (9-k)
 rw[show k+(9-k)=9 by omega] at b
 refine⟨a.trans b.symm,?_⟩
 unfold genA
 rw[b]
 exact(genR_fix h (genN_ok h hs k) he).2
theorem gen_k{r:Rep}{s:List Spc}(h:isRep r=true)(hs:SpOk r s){k:Nat}(hj:∀j,j<k→(dimS (genN r s j)).sum≠(dimS (genN r s (j+1))).sum):k≤8:=by
 have h1:=genN_up h hs k hj
 have h2:=(spok_sum h (genN_ok h hs k)).2
 omega
theorem genA_ok{r:Rep}{s:List Spc}(h:isRep r=true)(hs:SpOk r s):isSub r (genA r s)=true:=by
 have hex:∃k,(∀j,j<k→(dimS (genN r s j)).sum≠(dimS (genN r s (j+1))).sum)∧(dimS (genN r s k)).sum=(dimS (genN r s (k+1))).sum:=by
  refine Classical.byContradiction fun hn=>?_
  have hall:∀k,∀j,j<k→(dimS (genN r s j)).sum≠(dimS (genN r s (j+1))).sum:=fun k=>by
   induction k with
   |zero=>intro j hj;omega
   |succ k ih=>
    intro j hj e
    by_cases e2:j=k
    ·subst e2;exact hn ⟨j,ih,e⟩
    ·exact ih j (by omega) e
  have:=gen_k h hs (hall 9)
  omega
 obtain⟨k,h1,h2⟩:=hex
 exact(gen_stop h hs h1 h2).2
def powI(p:Int):Nat→Int
 |0=>1
 |n+1=>powI p n*p
theorem powI_bd{p:Int}(hp:2≤p∧p≤5):∀n,n≤8→1≤powI p n∧powI p n≤5^n
 |0,_=>by simp[powI]
 |n+1,hn=>by
  obtain⟨a,b⟩:=powI_bd hp n (by omega)
  rw[powI,Int.pow_succ]
  have h1:1*1≤powI p n*p:=Int.mul_le_mul a (by omega) (by omega) (by omega)
  have h2:powI p n*p≤5^n*5:=Int.mul_le_mul b hp.2 (by omega) (by omega)
  omega
theorem quoN_swap(p:Int):∀(j:Nat) (c:Int),quoN p c (j+1)=quoN p (c/p) j
 |0,c=>rfl
 |j+1,c=>by rw[quoN,quoN_swap p j c];rfl
theorem quoN_end{p:Int}(hp:0<p):∀(n:Nat) (c:Int),0≤c→c<powI p n→quoN p c n=0
 |0,c,h0,h=>by rw[powI] at h;show c=0;omega
 |n+1,c,h0,h=>by
  rw[quoN_swap]
  exact quoN_end hp n (c/p) (Int.ediv_nonneg h0 (by omega)) (Int.ediv_lt_of_lt_mul hp h)
def begS(r:Rep)(v:Nat)(x:List Int):List Spc:=(radK r 0).set v ⟨r.d.getD v default,spanL r.p (r.d.getD v default).toNat [x]⟩
theorem begS_ok{r:Rep}{v:Nat}{x:List Int}(h:isRep r=true)(hv:v<r.d.length)(hx:x.length=(r.d.getD v default).toNat)(hb:∀j,j<(r.d.getD v default).toNat→0≤x.getD j default∧x.getD j default≤r.p-1):SpOk r (begS r v x):=by
 have hl:=radK_len r 0
 obtain⟨r1,r2,r3,r4⟩:=isRep_spec h
 obtain⟨c1,c2,c3,c4⟩:=areDims_spec r2
 have hd:0≤r.d.getD v default∧r.d.getD v default≤4:=allIn_spec c3 hv
 refine⟨by unfold begS;rw[List.length_set];exact hl,fun u hu=>?_⟩
 unfold begS
 by_cases e:v=u
 ·subst e
  rw[set_get (by omega)]
  refine⟨rfl,?_⟩
  have hvb:VecB r.p (r.d.getD v default).toNat [x]:=fun y hy=>by
   simp only[List.mem_singleton] at hy
   subst hy;exact⟨hx,hb⟩
  have:=isSpc_span r1 (n:=(r.d.getD v default).toNat) (by omega) hvb.bd
  rw[Int.toNat_of_nonneg hd.1] at this
  exact this
 ·rw[set_ne e]
  exact radK_ok h 0 (Nat.zero_le _) u hu
def simC(r:Rep)(v:Nat)(c:Nat):Bool:=decide (dimS (genA r (begS r v (digV r.p c (r.d.getD v default).toNat)))=r.d)
def simV(r:Rep)(v:Nat):Bool:=(List.range (powI r.p (r.d.getD v default).toNat).toNat).all fun c=>decide (c=0)||simC r v c
def simB(r:Rep):Bool:=isRep r&&decide (r.d.sum≠0)&&(List.range r.d.length).all (simV r)
end Go.Proofs.YtjmjamhhppoimaaGreat.V
namespace Go.Proofs.YtjmjamhhppoimaaGreat.V
open V.Enc (enc)
open Go.RowKit G D
set_option linter.unusedVariables false
set_option linter.unusedSimpArgs false
set_option maxHeartbeats 4000000
set_option maxRecDepth 4000
attribute [local irreducible] AW ARg ARA ARet MRet ASil AC AM ARI
theorem vectorOf_a(p c:Int)(n:Nat)(hp:2≤p∧p≤5)(h0:0≤c∧c≤1000000)(hn:n≤1000):AC Tryz.prog 178 [.i p,.i (n:Int),.i c] [.dt true 1 (E true (digV p c n))]:=by
 refine AC.go Tryz.func178 Tryz.ntmps178 rfl rfl fun w0 hw=>?_;simp[WfL,WfA,E_length,Enc.enc,In64] at hw
 repeat' first|refine s1 ?_|(refine kR ?_;first|refine F.mk (m:=n) Int rfl rfl rfl (mkB (by omega)) (by omega) rfl rfl ?_)|fail
 rw[←digK_all p c n]
 refine F.loop (σ:=Nat) [2,8,13,14,15,16,17,18,19,20,21,22,23,24,25] (fun m=>[(2,.i (quoN p c (n-m))),(8,.i ((m:Int)-1))]) (fun m=>[(0,.live false 1 (E true (digK p c n m)))]) (fun m=>m≤n) (fun m=>m) n ⟨iE (by rw[Nat.sub_self];rfl),rfl,trivial⟩ ⟨rfl,trivial⟩ (Nat.le_refl _) ?_
 rintro m m1
 have hlen:=digK_len p c n m
 by_cases hm:0<m
 ·obtain⟨i,rfl⟩:∃i,m=i+1:=⟨m-1,by omega⟩
  have hs:=digK_set p c (n:=n) (m:=i) (by omega)
  have hq:=quoN_bd (p:=p) (c:=c) (by omega) h0.1 (n-(i+1))
  have hqs:quoN p c (n-i)=quoN p c (n-(i+1))/p:=by rw[show n-i=(n-(i+1))+1 by omega];rfl
  rw[show n-1-i=n-(i+1) by omega] at hs
  generalize quoN p c (n-(i+1))=Q at hs hq hqs⊢
  generalize digK p c n (i+1)=X at hs hlen⊢
  rw[show(((i+1:Nat)):Int)-1=(i:Int) by omega]
  repeat' first|refine s1 ?_|fail
  exact⟨i,F.fit ⟨iE hqs.symm,rfl,trivial⟩ ⟨obE (by rw[Nat.zero_add,hs]),trivial⟩,by omega,by omega⟩
 ·obtain rfl:m=0:=by omega
  rw[digK_zero] at hlen⊢
  generalize digV p c n=X at hlen⊢
  repeat' first|refine s1 ?_|fail
  (refine kZ ?_;exact F.ret rfl)
theorem countHoms_a(p:Int)(n:Nat)(hp:2≤p∧p≤5)(hn:n≤1000):AC Tryz.prog 246 [.i p,.i (n:Int)] [.i (cntH p n)]:=by
 refine AC.go Tryz.func246 Tryz.ntmps246 rfl rfl fun w0 hw=>?_;simp[WfL,WfA,E_length,Enc.enc,In64] at hw
 repeat' first|refine s1 ?_|fail
 refine F.loop (σ:=Nat) [5,6,7,8,9,10,11,12,13,14,15,16,17,18] (fun k=>[(5,.i (cntH p k)),(6,.i k)]) (fun _=>[]) (fun k=>k≤n) (fun k=>n-k) 0 ⟨rfl,rfl,trivial⟩ trivial (Nat.zero_le _) ?_
 rintro k k1
 have hb:=cntH_bd hp k
 by_cases hk:k<n
 ·by_cases hq:cntH p k≤100000
  ·have hst:=cntH_step hq
   generalize cntH p k=X at hb hq hst⊢
   have m1:0≤X*p:=Int.mul_nonneg (by omega) (by omega)
   have m2:X*p≤100000*5:=Int.mul_le_mul hq hp.2 (by omega) (by omega)
   have hi:In64 (X*p):=by unfold In64;omega
   repeat' first|refine s1 ?_|fail
   exact⟨k+1,F.fit ⟨iE hst.symm,rfl,trivial⟩ trivial,by omega,by omega⟩
  ·have hst:=cntH_stay (p:=p) (n:=k) (by omega) (n-k)
   rw[show k+(n-k)=n by omega] at hst
   rw[hst]
   generalize cntH p k=X at hb hq⊢
   repeat' first|refine s1 ?_|fail
   (refine kZ ?_;exact F.ret rfl)
 ·obtain rfl:k=n:=by omega
  generalize cntH p k=X at hb⊢
  repeat' first|refine s1 ?_|fail
  (refine kZ ?_;exact F.ret rfl)
theorem homBasis_a(a b:Rep)(hf:fitR a b=true):AC Tryz.prog 244 [.agg (enc false a),.agg (enc false b)] [.dt true 1 (E true (homL a b))]:=by
 refine AC.go Tryz.func244 Tryz.ntmps244 rfl rfl fun w0 hw=>?_;simp[WfL,WfA,E_length,Enc.enc,In64] at hw
 have h:=Fits.of hf
 have h5:=okQ_spec h.ok
 have hda:=h.da
 have hp:=isF_pos h.f
 have hn:=szT_le h a.d.length (Nat.le_refl _)
 have hN:=szA_le h a.q.fr.length (Nat.le_refl _)
 have hB:=boundaries_a a b hf
 have hK:=kernel_a a.p (szA a b a.q.fr.length) (szT a b a.d.length) (ent (eqM a b)) h.f (by omega) (by omega) (eqM_bd (by omega))
 rw[eqM_tm (by omega),show kerL a.p (szA a b a.q.fr.length) (szT a b a.d.length) (ent (eqM a b))=hkL a b from rfl] at hK
 have hZ:=zeros_a a b h
 have hzl:=zerL_len a b
 have hzc:=zerL_cat h a.d.length (Nat.le_refl _)
 rw[←hzl,List.take_length,hzl] at hzc
 have hle:=rkE_le a b hf
 have hlen:=hkL_len a b hf
 have hll:=homL_len a b
 have hsh:=fun k (hk:k<(hkL a b).length)=>shaped_a (zerL a b) ((hkL a b).getD k default) (by omega) (by rw[hkL_get a b hk];omega) (by rw[hkL_get a b hk];omega)
 simp only[zerL_shp h] at hsh
 have hts:=fun k (hk:k<(hkL a b).length)=>homL_take a b hk
 generalize homL a b=HL at hll hts⊢
 generalize hkL a b=KL at hK hlen hll hsh hts⊢
 generalize eqM a b=EM at hB hK
 generalize zerL a b=ZL at hZ hsh
 repeat' first|refine s1 ?_|fail
 refine AW.draw 8 G.mixed (by kernel_rfl) ?_
 refine Pz (.p 0<|.l 1<|.l 2<|.l 3<|.p 7<|.o 4 true<|.o 5 true<|.p 6<|.n) ?_
 repeat' first|refine yS ?_|refine s1 ?_|(refine kR ?_;first|refine F.c (hB) ?_|refine F.c (hK) ?_)|fail
 any_goals refine lf ?_
 all_goals
  repeat' first|refine s1 ?_|fail
  refine AW.freezeA (α:=List Int) 13 rfl rfl rfl ?_
  refine AW.open 5 1 (.inl rfl) ?_
  refine F.loop (σ:=Nat) [5,7,15,16,17,18,19,20,21,22,23,24,25,26,27] (fun k=>[(5,.sl 4 k 0 k),(15,.i k)]) (fun k=>[(4,.live false 1 (E true (HL.take k)))]) (fun k=>k≤KL.length) (fun k=>KL.length-k) 0 ⟨rfl,rfl,trivial⟩ ⟨rfl,trivial⟩ (Nat.zero_le _) ?_
  rintro k k1
  by_cases hk:k<KL.length
  ·have hCk:=hsh k hk
   have ht:=hts k hk
   have hp2:(HL.take k).length=k:=by rw[List.length_take];omega
   generalize cutV a b (KL.getD k default)=V' at hCk ht
   repeat' first|refine s1 ?_|(refine kR ?_;first|refine F.c (hZ) ?_|refine F.c (hCk) ?_|refine F.a1 (List Mat) (a:=V') ?_)|fail
   exact⟨k+1,F.fit ⟨rfl,rfl,trivial⟩ ⟨obE (by rw[ht]),trivial⟩,by omega,by omega⟩
  ·obtain rfl:k=KL.length:=by omega
   rw[←hll,List.take_length]
   repeat' first|refine s1 ?_|fail
   (refine kZ ?_;exact F.ret rfl)
end Go.Proofs.YtjmjamhhppoimaaGreat.V
