/- Texts that the proof needs: A99, A196, A197. -/
import Derived.Test.YtjmjamhhppoimaaGreatQstA195
namespace Go.Proofs.YtjmjamhhppoimaaGreat.V
open Go.RowKit G D
set_option linter.unusedVariables false
set_option linter.unusedSimpArgs false
set_option maxHeartbeats 1000000
set_option maxRecDepth 4000
theorem pw_sub_len{a b:List Nat}(ha:a.Pairwise (·<·))(hb:b.Pairwise (·<·))(h:∀x∈a,x∈b):a.length≤b.length:=by
 have e:a=b.filter fun k=>decide (k∈a):=inc_ext ha (List.Pairwise.filter _ hb) fun x=>by
  simp only[List.mem_filter,decide_eq_true_eq]
  exact⟨fun hx=>⟨h x hx,hx⟩,fun hx=>hx.2⟩
 have h2:=List.length_filter_le (fun k=>decide (k∈a)) b
 rw[←e] at h2
 exact h2
theorem addS_mono{p:Int}{a b:Spc}(ha:isSpc p a=true)(hb:isSpc p b=true)(hn:b.n=a.n):a.b.length≤(addS p a b).b.length:=by
 have hp:=isF_pos (isSpc_spec ha).1
 obtain⟨pa,ea,la⟩:=isSpc_ech ha
 obtain⟨ps,es,ls⟩:=isSpc_ech (addS_ok ha hb hn)
 have es':Ech (addS p a b).b.length a.n.toNat (vecF (addS p a b).b) ps:=es
 rw[←la,←ls]
 refine pw_sub_len ea.pw es'.pw fun k hk=>?_
 have hkc:k<a.n.toNat:=by
  obtain⟨i,hi,e⟩:=List.getElem_of_mem hk
  have:=ea.lt i hi;simp[hi] at this;omega
 obtain⟨v,h1,h2⟩:=(ea.mem hp.1 hkc).mp hk
 exact(es'.mem hp.1 hkc).mpr ⟨v,h1.sub fun i hi=>addS_l ha hb hn hi,h2⟩
theorem addS_same{p:Int}{a b:Spc}(ha:isSpc p a=true)(hb:isSpc p b=true)(hn:b.n=a.n)(h:(addS p a b).b.length=a.b.length):addS p a b=a:=by
 obtain⟨h1,h2,h3,h4⟩:=isSpc_spec ha
 have hp:=isF_pos h1
 obtain⟨pa,ea,la⟩:=isSpc_ech ha
 have hs:=addS_ok ha hb hn
 obtain⟨ps,es,ls⟩:=isSpc_ech hs
 have es':Ech (addS p a b).b.length a.n.toNat (vecF (addS p a b).b) ps:=es
 have hv:VecB p a.n.toNat (addS p a b).b:=(isSpc_spec hs).2.2.2
 have hsub:∀i,i<a.b.length→Sp p (addS p a b).b.length a.n.toNat (vecF (addS p a b).b) (vecF a.b i):=fun i hi=>addS_l ha hb hn hi
 have hfull:=ea.full hp.1 es' hsub (by omega)
 have e:=spanB_uniq h1 hv.bd h4.bd ⟨hfull,hsub⟩
 have e1:spanL p a.n.toNat (addS p a b).b=(addS p a b).b:=by
  simp only[isSpc,Bool.and_eq_true,decide_eq_true_eq] at hs
  exact hs.2
 have e2:spanL p a.n.toNat a.b=a.b:=by
  simp only[isSpc,Bool.and_eq_true,decide_eq_true_eq] at ha
  exact ha.2
 have e3:(addS p a b).b=a.b:=by rw[←e1,←e2];exact e
 have e4:addS p a b=⟨a.n,(addS p a b).b⟩:=rfl
 rw[e4,e3]
theorem addS_in{p:Int}{a b:Spc}(ha:isSpc p a=true)(hb:isSpc p b=true)(hn:b.n=a.n)(h:addS p a b=a):inS p b a=true:=by
 rw[inS_iff hb ha hn.symm]
 intro i hi
 have:=addS_r ha hb hn hi
 rw[h] at this
 exact this
def genS(r:Rep)(X:List Spc)(i:Nat):List Spc:=X.set (r.q.to.getD i default).toNat (addS r.p (X.getD (r.q.to.getD i default).toNat default) (imgSp r.p (r.m.getD i default) (X.getD (r.q.fr.getD i default).toNat default)))
def genK(r:Rep)(s:List Spc):Nat→List Spc
 |0=>s
 |k+1=>genS r (genK r s k) k
def genR(r:Rep)(s:List Spc):List Spc:=genK r s r.q.fr.length
def genN(r:Rep)(s:List Spc):Nat→List Spc
 |0=>s
 |n+1=>genR r (genN r s n)
def genA(r:Rep)(s:List Spc):List Spc:=genN r s 9
def SpOk(r:Rep)(X:List Spc):Prop:=X.length=r.d.length∧∀v,v<r.d.length→(X.getD v default).n=r.d.getD v default∧isSpc r.p (X.getD v default)=true
theorem gen_arr{r:Rep}{X:List Spc}(h:isRep r=true)(hX:SpOk r X){i:Nat}(hi:i<r.q.fr.length):(r.q.to.getD i default).toNat<r.d.length∧(r.q.fr.getD i default).toNat<r.d.length∧isMat r.p (r.m.getD i default)=true∧isSpc r.p (X.getD (r.q.to.getD i default).toNat default)=true∧isSpc r.p (X.getD (r.q.fr.getD i default).toNat default)=true∧isSpc r.p (imgSp r.p (r.m.getD i default) (X.getD (r.q.fr.getD i default).toNat default))=true∧(imgSp r.p (r.m.getD i default) (X.getD (r.q.fr.getD i default).toNat default)).n=(X.getD (r.q.to.getD i default).toNat default).n∧(X.getD (r.q.fr.getD i default).toNat default).n=(r.m.getD i default).c:=by
 obtain⟨r1,r2,r3,r4⟩:=isRep_spec h
 obtain⟨m1,m2,m3,m4,m5⟩:=arrow_ok h (i:=i) (by omega)
 obtain⟨x1,x2⟩:=hX.2 _ m3.2
 obtain⟨y1,y2⟩:=hX.2 _ m2.2
 exact⟨m3.2,m2.2,m1,x2,y2,imgSp_ok m1 _,by rw[x1];exact m5,by rw[y1,m4]⟩
theorem genS_at{r:Rep}{X:List Spc}(i:Nat){v:Nat}(hX:(r.q.to.getD i default).toNat<X.length):(genS r X i).getD v default=if(r.q.to.getD i default).toNat=v then addS r.p (X.getD (r.q.to.getD i default).toNat default) (imgSp r.p (r.m.getD i default) (X.getD (r.q.fr.getD i default).toNat default)) else X.getD v default:=by
 unfold genS
 by_cases e:(r.q.to.getD i default).toNat=v
 ·subst e;rw[if_pos rfl,set_get hX]
 ·rw[if_neg e,set_ne e]
theorem genS_ok{r:Rep}{X:List Spc}(h:isRep r=true)(hX:SpOk r X){i:Nat}(hi:i<r.q.fr.length):SpOk r (genS r X i)∧∀v,v<r.d.length→(X.getD v default).b.length≤((genS r X i).getD v default).b.length:=by
 obtain⟨a1,a2,a3,a4,a5,a6,a7,a8⟩:=gen_arr h hX hi
 have hl:=hX.1
 refine⟨⟨by unfold genS;rw[List.length_set];exact hl,fun v hv=>?_⟩,fun v hv=>?_⟩
 ·rw[genS_at i (by omega)]
  by_cases e:(r.q.to.getD i default).toNat=v
  ·rw[if_pos e]
   subst e
   exact⟨(hX.2 _ hv).1,addS_ok a4 a6 a7⟩
  ·rw[if_neg e];exact hX.2 v hv
 ·rw[genS_at i (by omega)]
  by_cases e:(r.q.to.getD i default).toNat=v
  ·rw[if_pos e]
   subst e
   exact addS_mono a4 a6 a7
  ·rw[if_neg e];exact Nat.le_refl _
theorem dim_sum_le{r:Rep}{X Y:List Spc}(hX:SpOk r X)(hY:SpOk r Y)(h:∀v,v<r.d.length→(X.getD v default).b.length≤(Y.getD v default).b.length):(dimS X).sum≤(dimS Y).sum:=by
 have h1:=dimS_len X
 have h2:=dimS_len Y
 have a:=hX.1
 have b:=hY.1
 refine sum_le (by omega) fun j hj=>?_
 rw[dimS_get (by omega),dimS_get (by omega)]
 have:=h j (by omega)
 omega
theorem dim_sum_eq{r:Rep}{X Y:List Spc}(hX:SpOk r X)(hY:SpOk r Y)(h:∀v,v<r.d.length→(X.getD v default).b.length≤(Y.getD v default).b.length)(hs:(dimS X).sum=(dimS Y).sum):∀v,v<r.d.length→(X.getD v default).b.length=(Y.getD v default).b.length:=by
 have h1:=dimS_len X
 have h2:=dimS_len Y
 have a:=hX.1
 have b:=hY.1
 have e:=sum_eq_of (a:=dimS X) (b:=dimS Y) (by omega) (fun j hj=>by
  rw[dimS_get (by omega),dimS_get (by omega)]
  have:=h j (by omega)
  omega) hs
 intro v hv
 have e2:(dimS X).getD v default=(dimS Y).getD v default:=by rw[e]
 rw[dimS_get (by omega),dimS_get (by omega)] at e2
 omega
theorem genS_sum{r:Rep}{X:List Spc}(h:isRep r=true)(hX:SpOk r X){i:Nat}(hi:i<r.q.fr.length):(dimS X).sum≤(dimS (genS r X i)).sum:=by
 obtain⟨a,b⟩:=genS_ok h hX hi
 exact dim_sum_le hX a b
theorem genS_fix{r:Rep}{X:List Spc}(h:isRep r=true)(hX:SpOk r X){i:Nat}(hi:i<r.q.fr.length)(hs:(dimS X).sum=(dimS (genS r X i)).sum):genS r X i=X∧subAt r X i=true:=by
 obtain⟨a,b⟩:=genS_ok h hX hi
 obtain⟨a1,a2,a3,a4,a5,a6,a7,a8⟩:=gen_arr h hX hi
 have e:=dim_sum_eq hX a b hs _ a1
 have hl:=hX.1
 rw[genS_at i (by omega),if_pos rfl] at e
 have e2:=addS_same a4 a6 a7 e.symm
 constructor
 ·unfold genS
  rw[e2]
  apply List.ext_getElem (by simp)
  intro j j1 j2
  rw[List.getElem_set]
  by_cases e3:(r.q.to.getD i default).toNat=j
  ·subst e3
   rw[if_pos rfl]
   have g:∀(j:Nat) (h:j<X.length),X.getD j default=X[j]:=fun j h=>by simp[h]
   exact g _ j2
  ·rw[if_neg e3]
 ·exact addS_in a4 a6 a7 e2
theorem genK_ok{r:Rep}{s:List Spc}(h:isRep r=true)(hs:SpOk r s):∀k,k≤r.q.fr.length→SpOk r (genK r s k)
 |0,_=>hs
 |k+1,hk=>(genS_ok h (genK_ok h hs k (by omega)) (i:=k) (by omega)).1
theorem genK_sum{r:Rep}{s:List Spc}(h:isRep r=true)(hs:SpOk r s){k:Nat}:∀n,k+n≤r.q.fr.length→(dimS (genK r s k)).sum≤(dimS (genK r s (k+n))).sum
 |0,_=>Int.le_refl _
 |n+1,hn=>Int.le_trans (genK_sum h hs n (by omega)) (genS_sum h (genK_ok h hs (k+n) (by omega)) (i:=k+n) (by omega))
theorem genR_ok{r:Rep}{s:List Spc}(h:isRep r=true)(hs:SpOk r s):SpOk r (genR r s):=genK_ok h hs _ (Nat.le_refl _)
theorem genR_sum{r:Rep}{s:List Spc}(h:isRep r=true)(hs:SpOk r s):(dimS s).sum≤(dimS (genR r s)).sum:=by
 have:=genK_sum h hs (k:=0) r.q.fr.length (by omega)
 rw[Nat.zero_add] at this
 exact this
theorem genR_fix{r:Rep}{s:List Spc}(h:isRep r=true)(hs:SpOk r s)(he:(dimS s).sum=(dimS (genR r s)).sum):genR r s=s∧isSub r s=true:=by
 have hst:∀k,k<r.q.fr.length→(dimS (genK r s k)).sum=(dimS (genK r s (k+1))).sum:=fun k hk=>by
  have h1:=genK_sum h hs (k:=0) k (by omega)
  rw[Nat.zero_add] at h1
  have h2:=genK_sum h hs (k:=k) 1 (by omega)
  have h3:=genK_sum h hs (k:=k+1) (r.q.fr.length-(k+1)) (by omega)
  rw[show k+1+(r.q.fr.length-(k+1))=r.q.fr.length by omega] at h3
  have h1:(dimS s).sum≤(dimS (genK r s k)).sum:=h1
  have h3:(dimS (genK r s (k+1))).sum≤(dimS (genR r s)).sum:=h3
  omega
 have hall:∀k,k≤r.q.fr.length→genK r s k=s:=fun k=>by
  induction k with
  |zero=>intro _;rfl
  |succ k ih=>
   intro hk
   have e:=ih (by omega)
   have h1:=hst k (by omega)
   rw[genK,e] at h1⊢
   exact(genS_fix h hs (by omega) h1).1
 refine⟨hall _ (Nat.le_refl _),?_⟩
 obtain⟨r1,r2,r3,r4⟩:=isRep_spec h
 refine isSub_mk h hs.1 (fun v hv=>⟨(hs.2 v (by have:=hs.1;omega)).2,(hs.2 v (by have:=hs.1;omega)).1⟩) fun i hi=>?_
 have hi:i<r.q.fr.length:=by omega
 have h1:=hst i hi
 rw[genK,hall i (by omega)] at h1
 exact(genS_fix h hs hi h1).2
theorem genN_ok{r:Rep}{s:List Spc}(h:isRep r=true)(hs:SpOk r s):∀n,SpOk r (genN r s n)
 |0=>hs
 |n+1=>genR_ok h (genN_ok h hs n)
theorem genN_stay{r:Rep}{s:List Spc}(h:isRep r=true)(hs:SpOk r s){k:Nat}(he:(dimS (genN r s k)).sum=(dimS (genN r s (k+1))).sum):∀n,genN r s (k+n)=genN r s k
 |0=>rfl
 |n+1=>by
  rw[←Nat.add_assoc,genN,genN_stay h hs he n]
  exact(genR_fix h (genN_ok h hs k) he).1
theorem spok_sum{r:Rep}{X:List Spc}(h:isRep r=true)(hX:SpOk r X):0≤(dimS X).sum∧(dimS X).sum≤8:=by
 have hr:=rep_sum h
 have hl:=dimS_len X
 have hx:=hX.1
 obtain⟨r1,r2,r3,r4⟩:=isRep_spec h
 obtain⟨c1,c2,c3,c4⟩:=areDims_spec r2
 have h1:=sum_le (a:=dimS X) (b:=r.d) (by omega) fun j hj=>by
  rw[dimS_get (by omega)]
  obtain⟨a,b⟩:=hX.2 j (by omega)
  have h2:=isSpc_le b
  have h3:0≤r.d.getD j default∧r.d.getD j default≤4:=allIn_spec c3 (by omega)
  rw[a] at h2
  omega
 have h0:=sum_le (a:=List.replicate X.length 0) (b:=dimS X) (by simp;omega) fun j hj=>by
  have hj:j<X.length:=by simpa using hj
  rw[dimS_get hj]
  simp[hj]
 rw[zsum] at h0
 omega
theorem genN_up{r:Rep}{s:List Spc}(h:isRep r=true)(hs:SpOk r s):∀k,(∀j,j<k→(dimS (genN r s j)).sum≠(dimS (genN r s (j+1))).sum)→(k:Int)≤(dimS (genN r s k)).sum
 |0,_=>(spok_sum h hs).1
 |k+1,hj=>by
  have h1:=genN_up h hs k fun j h2=>hj j (by omega)
  have h2:=hj k (by omega)
  have h3:(dimS (genN r s k)).sum≤(dimS (genN r s (k+1))).sum:=genR_sum h (genN_ok h hs k)
  push_cast
  omega
theorem gen_stop{r:Rep}{s:List Spc}(h:isRep r=true)(hs:SpOk r s){k:Nat}(hj:∀j,j<k→(dimS (genN r s j)).sum≠(dimS (genN r s (j+1))).sum)(he:(dimS (genN r s k)).sum=(dimS (genN r s (k+1))).sum):genN r s (k+1)=genA r s∧isSub r (genA r s)=true:=by
 have h1:=genN_up h hs k hj
 have h2:=(spok_sum h (genN_ok h hs k)).2
 have a:=genN_stay h hs he 1
 have b:=genN_stay h hs he (9-k)
 rw[show k+(9-k)=9 by omega] at b
 refine⟨a.trans b.symm,?_⟩
 unfold genA
 rw[b]
 exact(genR_fix h (genN_ok h hs k) he).2
theorem gen_k{r:Rep}{s:List Spc}(h:isRep r=true)(hs:SpOk r s){k:Nat}(hj:∀j,j<k→(dimS (genN r s j)).sum≠(dimS (genN r s (j+1))).sum):k≤8:=by
 have h1:=genN_up h hs k hj
 have h2:=(spok_sum h (genN_ok h hs k)).2
 omega
theorem genA_ok{r:Rep}{s:List Spc}(h:isRep r=true)(hs:SpOk r s):isSub r (genA r s)=true:=by
 have hex:∃k,(∀j,j<k→(dimS (genN r s j)).sum≠(dimS (genN r s (j+1))).sum)∧(dimS (genN r s k)).sum=(dimS (genN r s (k+1))).sum:=by
  refine Classical.byContradiction fun hn=>?_
  have hall:∀k,∀j,j<k→(dimS (genN r s j)).sum≠(dimS (genN r s (j+1))).sum:=fun k=>by
   induction k with
   |zero=>intro j hj;omega
   |succ k ih=>
    intro j hj e
    by_cases e2:j=k
    ·subst e2;exact hn ⟨j,ih,e⟩
    ·exact ih j (by omega) e
  have:=gen_k h hs (hall 9)
  omega
 obtain⟨k,h1,h2⟩:=hex
 exact(gen_stop h hs h1 h2).2
def powI(p:Int):Nat→Int
 |0=>1
 |n+1=>powI p n*p
theorem powI_bd{p:Int}(hp:2≤p∧p≤5):∀n,n≤8→1≤powI p n∧powI p n≤5^n
 |0,_=>by simp[powI]
 |n+1,hn=>by
  obtain⟨a,b⟩:=powI_bd hp n (by omega)
  rw[powI,Int.pow_succ]
  have h1:1*1≤powI p n*p:=Int.mul_le_mul a (by omega) (by omega) (by omega)
  have h2:powI p n*p≤5^n*5:=Int.mul_le_mul b hp.2 (by omega) (by omega)
  omega
def begS(r:Rep)(v:Nat)(x:List Int):List Spc:=(radK r 0).set v ⟨r.d.getD v default,spanL r.p (r.d.getD v default).toNat [x]⟩
theorem begS_ok{r:Rep}{v:Nat}{x:List Int}(h:isRep r=true)(hv:v<r.d.length)(hx:x.length=(r.d.getD v default).toNat)(hb:∀j,j<(r.d.getD v default).toNat→0≤x.getD j default∧x.getD j default≤r.p-1):SpOk r (begS r v x):=by
 have hl:=radK_len r 0
 obtain⟨r1,r2,r3,r4⟩:=isRep_spec h
 obtain⟨c1,c2,c3,c4⟩:=areDims_spec r2
 have hd:0≤r.d.getD v default∧r.d.getD v default≤4:=allIn_spec c3 hv
 refine⟨by unfold begS;rw[List.length_set];exact hl,fun u hu=>?_⟩
 unfold begS
 by_cases e:v=u
 ·subst e
  rw[set_get (by omega)]
  refine⟨rfl,?_⟩
  have hvb:VecB r.p (r.d.getD v default).toNat [x]:=fun y hy=>by
   simp only[List.mem_singleton] at hy
   subst hy;exact⟨hx,hb⟩
  have:=isSpc_span r1 (n:=(r.d.getD v default).toNat) (by omega) hvb.bd
  rw[Int.toNat_of_nonneg hd.1] at this
  exact this
 ·rw[set_ne e]
  exact radK_ok h 0 (Nat.zero_le _) u hu
def simC(r:Rep)(v:Nat)(c:Nat):Bool:=decide (dimS (genA r (begS r v (digV r.p c (r.d.getD v default).toNat)))=r.d)
def simV(r:Rep)(v:Nat):Bool:=(List.range (powI r.p (r.d.getD v default).toNat).toNat).all fun c=>decide (c=0)||simC r v c
def simB(r:Rep):Bool:=isRep r&&decide (r.d.sum≠0)&&(List.range r.d.length).all (simV r)
end Go.Proofs.YtjmjamhhppoimaaGreat.V
namespace Go.Proofs.YtjmjamhhppoimaaGreat.V
open Go.RowKit G D
set_option linter.unusedVariables false
set_option linter.unusedSimpArgs false
set_option maxHeartbeats 2000000
set_option maxRecDepth 4000
theorem sum_same:∀{z x:List Int},x.length=z.length→(∀v,v<z.length→x.getD v default≤z.getD v default)→z.sum≤x.sum→x=z
 |[],x,h1,_,_=>List.eq_nil_of_length_eq_zero h1
 |c::z,[],h1,_,_=>by simp at h1
 |c::z,a::x,h1,h,hs=>by
  have h3:=h 0 (by simp)
  have h4:∀v,v<z.length→x.getD v default≤z.getD v default:=fun v hv=>by simpa using h (v+1) (by simpa using hv)
  simp only[List.getD_cons_zero] at h3
  simp only[List.sum_cons] at hs
  have hle:∀{z x:List Int},x.length=z.length→(∀v,v<z.length→x.getD v default≤z.getD v default)→x.sum≤z.sum:=by
   intro z
   induction z with
   |nil=>intro x h _;rw[List.eq_nil_of_length_eq_zero h];simp
   |cons c z ih=>
    intro x h hx
    cases x with
    |nil=>simp at h
    |cons a x=>
     have h0:=hx 0 (by simp)
     have:=ih (x:=x) (by simpa using h) fun v hv=>by simpa using hx (v+1) (by simpa using hv)
     simp only[List.getD_cons_zero] at h0
     simp only[List.sum_cons]
     omega
  have h5:=hle (x:=x) (z:=z) (by simpa using h1) h4
  have e:x=z:=sum_same (by simpa using h1) h4 (by omega)
  rw[e] at hs h5⊢
  rw[show a=c by omega]
theorem span_pos{p:Int}{n:Nat}{x:List Int}(hF:isF p=true)(hx:VecB p n [x]){j:Nat}(hj:j<n)(h0:¬Cg p (x.getD j default) 0):1≤(spanL p n [x]).length:=by
 rcases Nat.eq_zero_or_pos (spanL p n [x]).length with e|e
 ·exfalso
  exact h0 (span_zero hF hx (List.eq_nil_of_length_eq_zero e) (by simp) j hj)
 ·exact e
theorem genN_sum{r:Rep}{s:List Spc}(h:isRep r=true)(hs:SpOk r s):∀n,(dimS s).sum≤(dimS (genN r s n)).sum
 |0=>Int.le_refl _
 |n+1=>Int.le_trans (genN_sum h hs n) (genR_sum h (genN_ok h hs n))
theorem simple_ok{p:Int}{q:Quiv}{v:Int}(h:(simpleR p q v).2=true):isRep (simpleR p q v).1=true→simB (simpleR p q v).1=true:=by
 unfold simpleR at h⊢
 split at h
 ·rename_i g
  rw[if_pos g]
  obtain⟨hF,hq,v0,v1⟩:=g
  intro hr
  have hp:=isF_pos hF
  have hd:(zeroR p q (oneAt q.n v)).d=oneAt q.n v:=rfl
  have hl:=oneAt_len q.n v
  have hone:∀w,w<q.n.toNat→(oneAt q.n v).getD w default=if w=v.toNat then 1 else 0:=fun w hw=>by
   unfold oneAt
   by_cases e:v.toNat=w
   ·subst e;simp[hw]
   ·rw[if_neg (fun h=>e h.symm)];simp[hw,e]
  have hvl:v.toNat<q.n.toNat:=by omega
  have hsum:(oneAt q.n v).sum=1:=by
   have key:∀(n k:Nat),k<n→((List.replicate n (0:Int)).set k 1).sum=1:=fun n=>by
    induction n with
    |zero=>intro k hk;omega
    |succ n ih=>
     intro k hk
     cases k with
     |zero=>simp[List.replicate_succ]
     |succ k=>simp only[List.replicate_succ,List.set_cons_succ,List.sum_cons];rw[ih k (by omega)];rfl
   exact key _ _ hvl
  simp only[simB,Bool.and_eq_true,decide_eq_true_eq,List.all_eq_true]
  refine⟨⟨hr,by rw[hsum];decide⟩,fun w hw=>?_⟩
  have hw:w<q.n.toNat:=by
   have:w<(oneAt q.n v).length:=by simpa using hw
   omega
  unfold simV
  rw[List.all_eq_true]
  intro c hc
  have hc:c<(powI p ((oneAt q.n v).getD w default).toNat).toNat:=by simpa using hc
  rw[hone w hw] at hc
  by_cases hc0:c=0
  ·rw[decide_eq_true hc0];rfl
  ·by_cases e:w=v.toNat
   ·subst e
    rw[if_pos rfl] at hc
    have hpc:(c:Int)<p:=by
     have:powI p 1=p:=by simp[powI]
     rw[show Int.toNat 1=1 from rfl,this] at hc
     omega
    rw[Bool.or_eq_true]
    right
    unfold simC
    refine decide_eq_true ?_
    have hdv:(zeroR p q (oneAt q.n v)).d.getD v.toNat default=1:=by rw[hd,hone _ hvl,if_pos rfl]
    have hdig:digV (zeroR p q (oneAt q.n v)).p c 1=[(c:Int)%p]:=by simp[digV,digN,quoN]
    rw[hdv,show Int.toNat 1=1 from rfl,hdig]
    have hcm:(c:Int)%p=c:=Int.emod_eq_of_lt (by omega) hpc
    rw[hcm]
    have hb:∀j,j<1→0≤([(c:Int)]:List Int).getD j default∧([(c:Int)]:List Int).getD j default≤p-1:=fun j hj=>by
     obtain rfl:j=0:=by omega
     show 0≤(c:Int)∧(c:Int)≤p-1
     omega
    have hvd:v.toNat<(zeroR p q (oneAt q.n v)).d.length:=by rw[hd,hl];exact hvl
    have hbeg:=begS_ok (x:=[(c:Int)]) hr hvd (by rw[hdv];rfl) (by rw[hdv];exact hb)
    have hsub:=genA_ok hr hbeg
    obtain⟨d1,d2,d3,d4⟩:=sub_dims hsub
    have hgs:(dimS (begS (zeroR p q (oneAt q.n v)) v.toNat [(c:Int)])).sum≤(dimS (genA (zeroR p q (oneAt q.n v)) (begS (zeroR p q (oneAt q.n v)) v.toNat [(c:Int)]))).sum:=genN_sum hr hbeg 9
    have hb1:1≤(dimS (begS (zeroR p q (oneAt q.n v)) v.toNat [(c:Int)])).sum:=by
     have hnn:∀(l:List Int),(∀j,j<l.length→0≤l.getD j default)→∀k,k<l.length→l.getD k default≤l.sum:=fun l=>by
      induction l with
      |nil=>intro _ k hk;simp at hk
      |cons a l ih=>
       intro h k hk
       have h0:=h 0 (by simp)
       simp only[List.getD_cons_zero] at h0
       have hl:∀j,j<l.length→0≤l.getD j default:=fun j hj=>by have:=h (j+1) (by simp;omega);simpa using this
       have hnn:0≤l.sum:=by
        cases l with
        |nil=>simp
        |cons b l=>have:=ih hl 0 (by simp);have h1:=hl 0 (by simp);omega
       cases k with
       |zero=>simp only[List.getD_cons_zero,List.sum_cons];omega
       |succ k=>
        have:=ih hl k (by simpa using hk)
        simp only[List.getD_cons_succ,List.sum_cons]
        omega
     have hlen:(begS (zeroR p q (oneAt q.n v)) v.toNat [(c:Int)]).length=(zeroR p q (oneAt q.n v)).d.length:=hbeg.1
     have hat:(begS (zeroR p q (oneAt q.n v)) v.toNat [(c:Int)]).getD v.toNat default=⟨1,spanL p 1 [[(c:Int)]]⟩:=by
      have h0:v.toNat<(radK (zeroR p q (oneAt q.n v)) 0).length:=by rw[radK_len];exact hvd
      unfold begS
      rw[hdv]
      simp[h0]
     have:=hnn (dimS (begS (zeroR p q (oneAt q.n v)) v.toNat [(c:Int)])) (fun j hj=>by
      have hj:j<(begS (zeroR p q (oneAt q.n v)) v.toNat [(c:Int)]).length:=by simpa[dimS] using hj
      rw[dimS_get hj];omega) v.toNat (by simp only[dimS,List.length_map];omega)
     rw[dimS_get (by omega),hat] at this
     have hsp:=span_pos (p:=p) (n:=1) (x:=[(c:Int)]) hF (fun y hy=>by
      rw[List.mem_singleton] at hy
      subst hy
      exact⟨rfl,hb⟩) (j:=0) (by omega) (fun⟨z,hz⟩=>by
       have hz:(c:Int)=0+p*z:=hz
       rcases Int.lt_trichotomy z 0 with g|g|g
       ·have:=Int.mul_le_mul_of_nonneg_left (show z≤-1 by omega) (show 0≤p by omega);omega
       ·subst g;omega
       ·have:=Int.mul_le_mul_of_nonneg_left (show 1≤z by omega) (show 0≤p by omega);omega)
     have h2:((⟨1,spanL p 1 [[(c:Int)]]⟩:Spc).b.length:Int)=((spanL p 1 [[(c:Int)]]).length:Int):=rfl
     rw[h2] at this
     omega
    refine sum_same d1 (fun u hu=>(d2 u hu).2) ?_
    rw[hd,hsum]
    omega
   ·exfalso
    rw[if_neg e] at hc
    have:powI p 0=1:=rfl
    rw[show Int.toNat 0=0 from rfl,this] at hc
    have:c<1:=hc
    omega
 ·cases h
theorem std_facts{r:Rep}{v:Int}{x:List Int}(h:(mfpP r v x).2=true):projP r.p r.q v=(projR r.p r.q v,true)∧isMor (projR r.p r.q v) r (mfpP r v x).1=true∧elP r v (mfpP r v x).1=(x,true)∧homD (projR r.p r.q v) r=r.d.getD v.toNat default∧extD (projR r.p r.q v) r=0∧indI (projR r.p r.q v)≠0∧0≤v∧v.toNat<r.d.length:=by
 obtain⟨hr,hx,hl,hP,he⟩:=mfpP_ok h
 obtain⟨hF,hA,hPe⟩:=projP_true2 hP
 obtain⟨ho,v0,v1,hd⟩:=projD_yes hA
 have h1:=(areDims_spec (isRep_spec hr).2.1).2.1
 rw[he]
 exact⟨hPe,mfp_mor h,el_mfp h,hom_proj hr hP,ext_proj0 hr hP,ind_proj hF hA,v0,by omega⟩
theorem inj_facts{r:Rep}{v:Int}{x:List Int}(h:(mfpP r v x).2=true)(hi:(injP r.p r.q v).2=true):homD r (injP r.p r.q v).1=r.d.getD v.toNat default∧extD r (injP r.p r.q v).1=0:=by
 obtain⟨hr,_⟩:=mfpP_ok h
 obtain⟨g1,g2,g3⟩:=injP_ok hi
 rw[g3]
 exact⟨hom_inj hr g2,ext_inj0 hr g2⟩
theorem simple_rep{p:Int}{q:Quiv}{v:Int}(h:(simpleR p q v).2=true):isRep (simpleR p q v).1=true:=by
 unfold simpleR at h⊢
 split at h
 ·rename_i g
  rw[if_pos g]
  obtain⟨hF,hq,v0,v1⟩:=g
  have h5:=okQ_spec hq
  have hl:=oneAt_len q.n v
  have hone:∀w,w<q.n.toNat→(oneAt q.n v).getD w default=if w=v.toNat then 1 else 0:=fun w hw=>by
   unfold oneAt
   by_cases e:v.toNat=w
   ·subst e;simp[hw]
   ·rw[if_neg (fun h=>e h.symm)];simp[hw,e]
  have hb:∀j,j<(oneAt q.n v).length→0≤(oneAt q.n v).getD j default∧(oneAt q.n v).getD j default≤1:=fun j hj=>by
   rw[hone j (by omega)]
   split<;>omega
  have hsum:(oneAt q.n v).sum≤8:=by
   have key:∀(n k:Nat),k<n→((List.replicate n (0:Int)).set k 1).sum=1:=fun n=>by
    induction n with
    |zero=>intro k hk;omega
    |succ n ih=>
     intro k hk
     cases k with
     |zero=>simp[List.replicate_succ]
     |succ k=>simp only[List.replicate_succ,List.set_cons_succ,List.sum_cons];rw[ih k (by omega)];rfl
   have:(oneAt q.n v).sum=1:=key _ _ (by omega)
   omega
  have hs:smallD (oneAt q.n v):=⟨by omega,fun j hj=>by have:=hb j hj;omega⟩
  exact(mapsB_zero p q (oneAt q.n v) hs).rep hF hq (by omega) hs hsum fun j hj=>by have:=hb j hj;omega
 ·cases h
theorem simple_sim{p:Int}{q:Quiv}{v:Int}(h:(simpleR p q v).2=true):simB (simpleR p q v).1=true:=simple_ok h (simple_rep h)
section
variable {P : Program} {w0 : World} {MP : Fr} {d : Option Tmp} {ty : TypeId} {pos : String} {af : Array Edge} {g : Option (Nat × Bool)} {x y : Operand} {t t' : Nat} {a : Bool} {st : St}
theorem A.eqlSame[hu:HasU P t .bool](hx:evA st x=.b a)(hy:evA st y=.b a):ASil true P w0 MP st ⟨d,.binOp .eql t x y t',ty,pos,af,g⟩ (.b true):=by
 have h:=A.eqlBB (P:=P) (t:=t) (w0:=w0) (MP:=MP) (d:=d) (ty:=ty) (pos:=pos) (af:=af) (g:=g) (t':=t') hx hy
 rwa [show(a==a)=true by simp] at h
theorem A.neqSame[hu:HasU P t .bool](hx:evA st x=.b a)(hy:evA st y=.b a):ASil true P w0 MP st ⟨d,.binOp .neq t x y t',ty,pos,af,g⟩ (.b false):=by
 have h:=A.neqBB (P:=P) (t:=t) (w0:=w0) (MP:=MP) (d:=d) (ty:=ty) (pos:=pos) (af:=af) (g:=g) (t':=t') hx hy
 rwa [show(a !=a)=false by simp] at h
end
end Go.Proofs.YtjmjamhhppoimaaGreat.V
