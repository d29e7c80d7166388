/- Texts that the proof needs: B9, A42, A97, A99. -/
import Derived.Test.YtjmjamhhppoimaaGreatQsbA79
namespace Go.Proofs.YtjmjamhhppoimaaGreat.V
open V.Enc (enc)
open Go.RowKit G D
set_option linter.unusedVariables false
set_option linter.unusedSimpArgs false
set_option maxHeartbeats 4000000
set_option maxRecDepth 4000
attribute [local irreducible] AW ARg ARA ARet MRet ASil AC AM
theorem rank_a(p:Int)(r c:Nat)(f:Nat→Nat→Int)(hf:isF p=true)(hr:r≤1024)(hc:c≤1024)(hb:BdF p r c f):
  AC Tryz.prog 300 [.i p,.agg (enc false (tm r c f))] [.i ((redK p r f c).2.length:Nat)]:=by
 refine AC.go Tryz.func300 Tryz.ntmps300 rfl rfl fun w0 hw=>?_;simp[WfL,WfA,E_length,Enc.enc,In64] at hw
 have h5:=isF_pos hf
 have hR:=implReduce_a p r c f hf hr hc hb
 have hl:=ints_len (redK p r f c).2
 repeat' first|refine s1 ?_|refine q1 ?_|(refine kR ?_;first|refine F.c (hR) ?_)|fail
 rw[hl]
 repeat' first|refine s1 ?_|refine q1 ?_|fail
 (refine kZ ?_;exact F.ret rfl)
def kerK(p:Int)(c:Nat)(g:Nat→Nat→Int)(piv:List Nat)(k:Nat):List (List Int):=(freeL k piv).map fun k=>kerV p c g piv k piv.length
theorem kerK_len(p:Int)(c:Nat)(g:Nat→Nat→Int)(piv:List Nat)(k:Nat):(kerK p c g piv k).length≤k:=by
 rw[kerK,List.length_map];exact freeL_le k piv
theorem kerK_yes{p:Int}{c:Nat}{g:Nat→Nat→Int}{piv:List Nat}{k:Nat}(h:k∈piv):kerK p c g piv (k+1)=kerK p c g piv k:=by
 rw[kerK,freeL_succ,if_pos h];rfl
theorem kerK_no{p:Int}{c:Nat}{g:Nat→Nat→Int}{piv:List Nat}{k:Nat}(h:k∉piv):kerK p c g piv (k+1)=kerK p c g piv k++[kerV p c g piv k piv.length]:=by
 rw[kerK,freeL_succ,if_neg h,List.map_append];rfl
theorem l4Kernel_a(p:Int)(r c:Nat)(f:Nat→Nat→Int)(hf:isF p=true)(hr:r≤1024)(hc:c≤1024)(hb:BdF p r c f):
  AC Tryz.prog 229 [.i p,.agg (enc false (tm r c f))] [.dt true 1 (E true (kerL p r c f))]:=by
 refine AC.go Tryz.func229 Tryz.ntmps229 rfl rfl fun w0 hw=>?_;simp[WfL,WfA,E_length,Enc.enc,In64] at hw
 have h5:=isF_pos hf
 have hR:=l4Reduce_a p r c f hf hr hc hb
 obtain⟨b1,b2,b3,b4⟩:=redK_bd (p:=p) (by omega) hb c
 rw[show kerL p r c f=kerK p c (redK p r f c).1 (redK p r f c).2 c from rfl]
 generalize redK p r f c=R at hR b1 b2 b3 b4⊢
 obtain⟨g,piv⟩:=R
 dsimp only at hR b1 b2 b3 b4⊢
 have hpl:=ints_len piv
 repeat' first|refine s1 ?_|refine q1 ?_|(refine kR ?_;first|refine F.c (hR) ?_)|fail
 refine AW.open 7 1 (.inr rfl) ?_
 refine F.loop (σ:=Nat) [7,8,9,10,18,19,20,21,22,23,24,25,26,27,28,29,30,31,32,33,34,35,36,37,38,39,40,41,42,43,44,45,46,47,48,49,50,51,52,53,54,55,56,57,58,59,60,61] (fun k=>[(7,.sl 4 (kerK p c g piv k).length 0 (kerK p c g piv k).length),(8,.i k)]) (fun k=>[(4,.live false 1 (E true (kerK p c g piv k)))]) (fun k=>k≤c) (fun k=>c-k) 0 ⟨rfl,rfl,trivial⟩ ⟨rfl,trivial⟩ (Nat.zero_le _) ?_
 rintro k k1
 have hkl:=kerK_len p c g piv k
 by_cases hk:k<c
 ·have hH:=l4Has_a (ints piv) (k:Int)
  by_cases hm:k∈piv
  ·rw[decide_eq_true ((ints_mem piv k).mpr hm)] at hH
   have hs:=kerK_yes (p:=p) (c:=c) (g:=g) hm
   repeat' first|refine s1 ?_|refine q1 ?_|(refine kR ?_;first|refine F.c (hH) ?_)|fail
   exact⟨k+1,F.fit ⟨slE (by rw[hs]),rfl,trivial⟩ ⟨obE (by rw[hs]),trivial⟩,by omega,by omega⟩
  ·rw[decide_eq_false (fun h=>hm ((ints_mem piv k).mp h))] at hH
   have hs:=kerK_no (p:=p) (c:=c) (g:=g) hm
   generalize kerK p c g piv k=KK at hs hkl⊢
   repeat' first|refine s1 ?_|refine q1 ?_|(refine kR ?_;first|refine F.c (hH) ?_|refine F.mk (m:=c) Int rfl rfl rfl (mkB (by omega)) (by omega) rfl rfl ?_)|fail
   refine F.loop (σ:=Nat) [10,33,34,35,36,37,38,39,40,41,42,43,44,45,46,47,48,49,50,51,52,53,54,55,56,57] (fun i=>[(10,.i i)]) (fun i=>[(5,.live false 1 (E true (kerV p c g piv k i)))]) (fun i=>i≤piv.length) (fun i=>piv.length-i) 0 ⟨rfl,trivial⟩ ⟨obE (by rw[Nat.zero_add];rfl),trivial⟩ (Nat.zero_le _) ?_
   rintro i i1
   by_cases hi:i<piv.length
   ·have hpi:=ints_get piv hi
    have hq:piv.getD i default<c:=b4 _ (by simp[hi])
    rw[←Nat.zero_add i] at hpi
    have hT:((ints piv).getD (0+i) default).toNat=piv.getD i 0:=by rw[hpi,Nat.zero_add];exact Int.toNat_natCast _
    have hpi':(ints piv).getD (0+i) default=(piv.getD i default:Nat):=by rw[hpi,Nat.zero_add]
    clear hpi
    have hir:i<r:=by omega
    obtain⟨i4,i5⟩:=tab_in (i:=i) (j:=k) (r:=r) (c:=c) hir hk hr hc
    have hx:=b1 i hir k hk
    have hL:=l2Mod_a p (-(g i k)) (by omega)
    have hng:In64 (-(g i k)):=by unfold In64;omega
    have hst:kerV p c g piv k (i+1)=(kerV p c g piv k i).set (piv.getD i 0) (-(g i k)%p):=rfl
    have hvl:=kerV_len p c g piv k i
    generalize kerV p c g piv k i=X at hst hvl⊢
    rw[←hT] at hst
    repeat' first|refine s1 ?_|refine q1 ?_|fail
    refine AW.draw 19 G.mixed (by kernel_rfl) ?_
    refine Pz (.p 0<|.p 1<|.p 2<|.p 3<|.l 4<|.p 5<|.p 6<|.l 7<|.p 8<|.p 9<|.l 10<|.p 11<|.p 12<|.p 13<|.p 14<|.l 15<|.p 16<|.o 17 true<|.p 18<|.o 19 false<|.n) ?_
    repeat' first|refine ySQ ?_|refine s1 ?_|refine q1 ?_|(refine kR ?_;first|refine F.c (hL) ?_)|fail
    any_goals refine lf ?_
    repeat' first|refine s1 ?_|refine q1 ?_|fail
    exact⟨i+1,F.fit ⟨rfl,trivial⟩ ⟨obE (by rw[hst,Nat.zero_add ((ints piv).getD (0+i) default).toNat]),trivial⟩,by omega,by omega⟩
   ·obtain rfl:i=piv.length:=by omega
    have hvl:=kerV_len p c g piv k piv.length
    generalize kerV p c g piv k piv.length=X at hs hvl⊢
    repeat' first|refine s1 ?_|refine q1 ?_|(refine kR ?_;first|refine F.a1 (List Int) (a:=X) ?_)|fail
    exact⟨k+1,F.fit ⟨slE (by rw[hs];simp),rfl,trivial⟩ ⟨obE (by rw[hs]),trivial⟩,by omega,by omega⟩
 ·obtain rfl:k=c:=by omega
  repeat' first|refine s1 ?_|refine q1 ?_|fail
  (refine kZ ?_;exact F.ret rfl)
def hkL(a b:Rep):List (List Int):=kerL a.p (szA a b a.q.fr.length) (szT a b a.d.length) (ent (eqM a b))
theorem fitR_mk{a b:Rep}(ha:isRep a=true)(hb:isRep b=true)(hp:a.p=b.p)(hq:a.q=b.q):fitR a b=true:=by
 simp only[fitR,Bool.and_eq_true,decide_eq_true_eq]
 exact⟨⟨⟨ha,hb⟩,hp⟩,by rw[hq];simp[sameQ]⟩
theorem pw_sub_len{a b:List Nat}(ha:a.Pairwise (·<·))(hb:b.Pairwise (·<·))(h:∀x∈a,x∈b):a.length≤b.length:=by
 have e:a=b.filter fun k=>decide (k∈a):=inc_ext ha (List.Pairwise.filter _ hb) fun x=>by
  simp only[List.mem_filter,decide_eq_true_eq]
  exact⟨fun hx=>⟨h x hx,hx⟩,fun hx=>hx.2⟩
 have h2:=List.length_filter_le (fun k=>decide (k∈a)) b
 rw[←e] at h2
 exact h2
theorem addS_mono{p:Int}{a b:Spc}(ha:isSpc p a=true)(hb:isSpc p b=true)(hn:b.n=a.n):a.b.length≤(addS p a b).b.length:=by
 have hp:=isF_pos (isSpc_spec ha).1
 obtain⟨pa,ea,la⟩:=isSpc_ech ha
 obtain⟨ps,es,ls⟩:=isSpc_ech (addS_ok ha hb hn)
 have es':Ech (addS p a b).b.length a.n.toNat (vecF (addS p a b).b) ps:=es
 rw[←la,←ls]
 refine pw_sub_len ea.pw es'.pw fun k hk=>?_
 have hkc:k<a.n.toNat:=by
  obtain⟨i,hi,e⟩:=List.getElem_of_mem hk
  have:=ea.lt i hi;simp[hi] at this;omega
 obtain⟨v,h1,h2⟩:=(ea.mem hp.1 hkc).mp hk
 exact(es'.mem hp.1 hkc).mpr ⟨v,h1.sub fun i hi=>addS_l ha hb hn hi,h2⟩
theorem addS_same{p:Int}{a b:Spc}(ha:isSpc p a=true)(hb:isSpc p b=true)(hn:b.n=a.n)(h:(addS p a b).b.length=a.b.length):addS p a b=a:=by
 obtain⟨h1,h2,h3,h4⟩:=isSpc_spec ha
 have hp:=isF_pos h1
 obtain⟨pa,ea,la⟩:=isSpc_ech ha
 have hs:=addS_ok ha hb hn
 obtain⟨ps,es,ls⟩:=isSpc_ech hs
 have es':Ech (addS p a b).b.length a.n.toNat (vecF (addS p a b).b) ps:=es
 have hv:VecB p a.n.toNat (addS p a b).b:=(isSpc_spec hs).2.2.2
 have hsub:∀i,i<a.b.length→Sp p (addS p a b).b.length a.n.toNat (vecF (addS p a b).b) (vecF a.b i):=fun i hi=>addS_l ha hb hn hi
 have hfull:=ea.full hp.1 es' hsub (by omega)
 have e:=spanB_uniq h1 hv.bd h4.bd ⟨hfull,hsub⟩
 have e1:spanL p a.n.toNat (addS p a b).b=(addS p a b).b:=by
  simp only[isSpc,Bool.and_eq_true,decide_eq_true_eq] at hs
  exact hs.2
 have e2:spanL p a.n.toNat a.b=a.b:=by
  simp only[isSpc,Bool.and_eq_true,decide_eq_true_eq] at ha
  exact ha.2
 have e3:(addS p a b).b=a.b:=by rw[←e1,←e2];exact e
 have e4:addS p a b=⟨a.n,(addS p a b).b⟩:=rfl
 rw[e4,e3]
theorem addS_in{p:Int}{a b:Spc}(ha:isSpc p a=true)(hb:isSpc p b=true)(hn:b.n=a.n)(h:addS p a b=a):inS p b a=true:=by
 rw[inS_iff hb ha hn.symm]
 intro i hi
 have:=addS_r ha hb hn hi
 rw[h] at this
 exact this
def genS(r:Rep)(X:List Spc)(i:Nat):List Spc:=X.set (r.q.to.getD i default).toNat (addS r.p (X.getD (r.q.to.getD i default).toNat default) (imgSp r.p (r.m.getD i default) (X.getD (r.q.fr.getD i default).toNat default)))
def genK(r:Rep)(s:List Spc):Nat→List Spc
 |0=>s
 |k+1=>genS r (genK r s k) k
def genR(r:Rep)(s:List Spc):List Spc:=genK r s r.q.fr.length
def genN(r:Rep)(s:List Spc):Nat→List Spc
 |0=>s
 |n+1=>genR r (genN r s n)
def genA(r:Rep)(s:List Spc):List Spc:=genN r s 9
def SpOk(r:Rep)(X:List Spc):Prop:=X.length=r.d.length∧∀v,v<r.d.length→(X.getD v default).n=r.d.getD v default∧isSpc r.p (X.getD v default)=true
theorem gen_arr{r:Rep}{X:List Spc}(h:isRep r=true)(hX:SpOk r X){i:Nat}(hi:i<r.q.fr.length):(r.q.to.getD i default).toNat<r.d.length∧(r.q.fr.getD i default).toNat<r.d.length∧isMat r.p (r.m.getD i default)=true∧isSpc r.p (X.getD (r.q.to.getD i default).toNat default)=true∧isSpc r.p (X.getD (r.q.fr.getD i default).toNat default)=true∧isSpc r.p (imgSp r.p (r.m.getD i default) (X.getD (r.q.fr.getD i default).toNat default))=true∧(imgSp r.p (r.m.getD i default) (X.getD (r.q.fr.getD i default).toNat default)).n=(X.getD (r.q.to.getD i default).toNat default).n∧(X.getD (r.q.fr.getD i default).toNat default).n=(r.m.getD i default).c:=by
 obtain⟨r1,r2,r3,r4⟩:=isRep_spec h
 obtain⟨m1,m2,m3,m4,m5⟩:=arrow_ok h (i:=i) (by omega)
 obtain⟨x1,x2⟩:=hX.2 _ m3.2
 obtain⟨y1,y2⟩:=hX.2 _ m2.2
 exact⟨m3.2,m2.2,m1,x2,y2,imgSp_ok m1 _,by rw[x1];exact m5,by rw[y1,m4]⟩
theorem genS_at{r:Rep}{X:List Spc}(i:Nat){v:Nat}(hX:(r.q.to.getD i default).toNat<X.length):(genS r X i).getD v default=if(r.q.to.getD i default).toNat=v then addS r.p (X.getD (r.q.to.getD i default).toNat default) (imgSp r.p (r.m.getD i default) (X.getD (r.q.fr.getD i default).toNat default)) else X.getD v default:=by
 unfold genS
 by_cases e:(r.q.to.getD i default).toNat=v
 ·subst e;rw[if_pos rfl,set_get hX]
 ·rw[if_neg e,set_ne e]
theorem genS_ok{r:Rep}{X:List Spc}(h:isRep r=true)(hX:SpOk r X){i:Nat}(hi:i<r.q.fr.length):SpOk r (genS r X i)∧∀v,v<r.d.length→(X.getD v default).b.length≤((genS r X i).getD v default).b.length:=by
 obtain⟨a1,a2,a3,a4,a5,a6,a7,a8⟩:=gen_arr h hX hi
 have hl:=hX.1
 refine⟨⟨by unfold genS;rw[List.length_set];exact hl,fun v hv=>?_⟩,fun v hv=>?_⟩
 ·rw[genS_at i (by omega)]
  by_cases e:(r.q.to.getD i default).toNat=v
  ·rw[if_pos e]
   subst e
   exact⟨(hX.2 _ hv).1,addS_ok a4 a6 a7⟩
  ·rw[if_neg e];exact hX.2 v hv
 ·rw[genS_at i (by omega)]
  by_cases e:(r.q.to.getD i default).toNat=v
  ·rw[if_pos e]
   subst e
   exact addS_mono a4 a6 a7
  ·rw[if_neg e];exact Nat.le_refl _
theorem dim_sum_le{r:Rep}{X Y:List Spc}(hX:SpOk r X)(hY:SpOk r Y)(h:∀v,v<r.d.length→(X.getD v default).b.length≤(Y.getD v default).b.length):(dimS X).sum≤(dimS Y).sum:=by
 have h1:=dimS_len X
 have h2:=dimS_len Y
 have a:=hX.1
 have b:=hY.1
 refine sum_le (by omega) fun j hj=>?_
 rw[dimS_get (by omega),dimS_get (by omega)]
 have:=h j (by omega)
 omega
theorem dim_sum_eq{r:Rep}{X Y:List Spc}(hX:SpOk r X)(hY:SpOk r Y)(h:∀v,v<r.d.length→(X.getD v default).b.length≤(Y.getD v default).b.length)(hs:(dimS X).sum=(dimS Y).sum):∀v,v<r.d.length→(X.getD v default).b.length=(Y.getD v default).b.length:=by
 have h1:=dimS_len X
 have h2:=dimS_len Y
 have a:=hX.1
 have b:=hY.1
 have e:=sum_eq_of (a:=dimS X) (b:=dimS Y) (by omega) (fun j hj=>by
  rw[dimS_get (by omega),dimS_get (by omega)]
  have:=h j (by omega)
  omega) hs
 intro v hv
 have e2:(dimS X).getD v default=(dimS Y).getD v default:=by rw[e]
 rw[dimS_get (by omega),dimS_get (by omega)] at e2
 omega
theorem genS_sum{r:Rep}{X:List Spc}(h:isRep r=true)(hX:SpOk r X){i:Nat}(hi:i<r.q.fr.length):(dimS X).sum≤(dimS (genS r X i)).sum:=by
 obtain⟨a,b⟩:=genS_ok h hX hi
 exact dim_sum_le hX a b
theorem genS_fix{r:Rep}{X:List Spc}(h:isRep r=true)(hX:SpOk r X){i:Nat}(hi:i<r.q.fr.length)(hs:(dimS X).sum=(dimS (genS r X i)).sum):genS r X i=X∧subAt r X i=true:=by
 obtain⟨a,b⟩:=genS_ok h hX hi
 obtain⟨a1,a2,a3,a4,a5,a6,a7,a8⟩:=gen_arr h hX hi
 have e:=dim_sum_eq hX a b hs _ a1
 have hl:=hX.1
 rw[genS_at i (by omega),if_pos rfl] at e
 have e2:=addS_same a4 a6 a7 e.symm
 constructor
 ·unfold genS
  rw[e2]
  apply List.ext_getElem (by simp)
  intro j j1 j2
  rw[List.getElem_set]
  by_cases e3:(r.q.to.getD i default).toNat=j
  ·subst e3
   rw[if_pos rfl]
   have g:∀(j:Nat) (h:j<X.length),X.getD j default=X[j]:=fun j h=>by simp[h]
   exact g _ j2
  ·rw[if_neg e3]
 ·exact addS_in a4 a6 a7 e2
theorem genK_ok{r:Rep}{s:List Spc}(h:isRep r=true)(hs:SpOk r s):∀k,k≤r.q.fr.length→SpOk r (genK r s k)
 |0,_=>hs
 |k+1,hk=>(genS_ok h (genK_ok h hs k (by omega)) (i:=k) (by omega)).1
theorem genK_sum{r:Rep}{s:List Spc}(h:isRep r=true)(hs:SpOk r s){k:Nat}:∀n,k+n≤r.q.fr.length→(dimS (genK r s k)).sum≤(dimS (genK r s (k+n))).sum
 |0,_=>Int.le_refl _
 |n+1,hn=>Int.le_trans (genK_sum h hs n (by omega)) (genS_sum h (genK_ok h hs (k+n) (by omega)) (i:=k+n) (by omega))
theorem genR_ok{r:Rep}{s:List Spc}(h:isRep r=true)(hs:SpOk r s):SpOk r (genR r s):=genK_ok h hs _ (Nat.le_refl _)
theorem genR_sum{r:Rep}{s:List Spc}(h:isRep r=true)(hs:SpOk r s):(dimS s).sum≤(dimS (genR r s)).sum:=by
 have:=genK_sum h hs (k:=0) r.q.fr.length (by omega)
 rw[Nat.zero_add] at this
 exact this
theorem genR_fix{r:Rep}{s:List Spc}(h:isRep r=true)(hs:SpOk r s)(he:(dimS s).sum=(dimS (genR r s)).sum):genR r s=s∧isSub r s=true:=by
 have hst:∀k,k<r.q.fr.length→(dimS (genK r s k)).sum=(dimS (genK r s (k+1))).sum:=fun k hk=>by
  have h1:=genK_sum h hs (k:=0) k (by omega)
  rw[Nat.zero_add] at h1
  have h2:=genK_sum h hs (k:=k) 1 (by omega)
  have h3:=genK_sum h hs (k:=k+1) (r.q.fr.length-(k+1)) (by omega)
  rw[show k+1+(r.q.fr.length-(k+1))=r.q.fr.length by omega] at h3
  have h1:(dimS s).sum≤(dimS (genK r s k)).sum:=h1
  have h3:(dimS (genK r s (k+1))).sum≤(dimS (genR r s)).sum:=h3
  omega
 have hall:∀k,k≤r.q.fr.length→genK r s k=s:=fun k=>by
  induction k with
  |zero=>intro _;rfl
  |succ k ih=>
   intro hk
   have e:=ih (by omega)
   have h1:=hst k (by omega)
   rw[genK,e] at h1⊢
   exact(genS_fix h hs (by omega) h1).1
 refine⟨hall _ (Nat.le_refl _),?_⟩
 obtain⟨r1,r2,r3,r4⟩:=isRep_spec h
 refine isSub_mk h hs.1 (fun v hv=>⟨(hs.2 v (by have:=hs.1;omega)).2,(hs.2 v (by have:=hs.1;omega)).1⟩) fun i hi=>?_
 have hi:i<r.q.fr.length:=by omega
 have h1:=hst i hi
 rw[genK,hall i (by omega)] at h1
 exact(genS_fix h hs hi h1).2
theorem genN_ok{r:Rep}{s:List Spc}(h:isRep r=true)(hs:SpOk r s):∀n,SpOk r (genN r s n)
 |0=>hs
 |n+1=>genR_ok h (genN_ok h hs n)
theorem genN_stay{r:Rep}{s:List Spc}(h:isRep r=true)(hs:SpOk r s){k:Nat}(he:(dimS (genN r s k)).sum=(dimS (genN r s (k+1))).sum):∀n,genN r s (k+n)=genN r s k
 |0=>rfl
 |n+1=>by
  rw[←Nat.add_assoc,genN,genN_stay h hs he n]
  exact(genR_fix h (genN_ok h hs k) he).1
theorem spok_sum{r:Rep}{X:List Spc}(h:isRep r=true)(hX:SpOk r X):0≤(dimS X).sum∧(dimS X).sum≤8:=by
 have hr:=rep_sum h
 have hl:=dimS_len X
 have hx:=hX.1
 obtain⟨r1,r2,r3,r4⟩:=isRep_spec h
 obtain⟨c1,c2,c3,c4⟩:=areDims_spec r2
 have h1:=sum_le (a:=dimS X) (b:=r.d) (by omega) fun j hj=>by
  rw[dimS_get (by omega)]
  obtain⟨a,b⟩:=hX.2 j (by omega)
  have h2:=isSpc_le b
  have h3:0≤r.d.getD j default∧r.d.getD j default≤4:=allIn_spec c3 (by omega)
  rw[a] at h2
  omega
 have h0:=sum_le (a:=List.replicate X.length 0) (b:=dimS X) (by simp;omega) fun j hj=>by
  have hj:j<X.length:=by simpa using hj
  rw[dimS_get hj]
  simp[hj]
 rw[zsum] at h0
 omega
theorem genN_up{r:Rep}{s:List Spc}(h:isRep r=true)(hs:SpOk r s):∀k,(∀j,j<k→(dimS (genN r s j)).sum≠(dimS (genN r s (j+1))).sum)→(k:Int)≤(dimS (genN r s k)).sum
 |0,_=>(spok_sum h hs).1
 |k+1,hj=>by
  have h1:=genN_up h hs k fun j h2=>hj j (by omega)
  have h2:=hj k (by omega)
  have h3:(dimS (genN r s k)).sum≤(dimS (genN r s (k+1))).sum:=genR_sum h (genN_ok h hs k)
  push_cast
  omega
theorem gen_stop{r:Rep}{s:List Spc}(h:isRep r=true)(hs:SpOk r s){k:Nat}(hj:∀j,j<k→(dimS (genN r s j)).sum≠(dimS (genN r s (j+1))).sum)(he:(dimS (genN r s k)).sum=(dimS (genN r s (k+1))).sum):genN r s (k+1)=genA r s∧isSub r (genA r s)=true:=by
 have h1:=genN_up h hs k hj
 have h2:=(spok_sum h (genN_ok h hs k)).2
 have a:=genN_stay h hs he 1
 have b:=genN_stay h hs he (9-k)
 rw[show k+(9-k)=9 by omega] at b
 refine⟨a.trans b.symm,?_⟩
 unfold genA
 rw[b]
 exact(genR_fix h (genN_ok h hs k) he).2
theorem gen_k{r:Rep}{s:List Spc}(h:isRep r=true)(hs:SpOk r s){k:Nat}(hj:∀j,j<k→(dimS (genN r s j)).sum≠(dimS (genN r s (j+1))).sum):k≤8:=by
 have h1:=genN_up h hs k hj
 have h2:=(spok_sum h (genN_ok h hs k)).2
 omega
theorem genA_ok{r:Rep}{s:List Spc}(h:isRep r=true)(hs:SpOk r s):isSub r (genA r s)=true:=by
 have hex:∃k,(∀j,j<k→(dimS (genN r s j)).sum≠(dimS (genN r s (j+1))).sum)∧(dimS (genN r s k)).sum=(dimS (genN r s (k+1))).sum:=by
  refine Classical.byContradiction fun hn=>?_
  have hall:∀k,∀j,j<k→(dimS (genN r s j)).sum≠(dimS (genN r s (j+1))).sum:=fun k=>by
   induction k with
   |zero=>intro j hj;omega
   |succ k ih=>
    intro j hj e
    by_cases e2:j=k
    ·subst e2;exact hn ⟨j,ih,e⟩
    ·exact ih j (by omega) e
  have:=gen_k h hs (hall 9)
  omega
 obtain⟨k,h1,h2⟩:=hex
 exact(gen_stop h hs h1 h2).2
def begS(r:Rep)(v:Nat)(x:List Int):List Spc:=(radK r 0).set v ⟨r.d.getD v default,spanL r.p (r.d.getD v default).toNat [x]⟩
theorem begS_ok{r:Rep}{v:Nat}{x:List Int}(h:isRep r=true)(hv:v<r.d.length)(hx:x.length=(r.d.getD v default).toNat)(hb:∀j,j<(r.d.getD v default).toNat→0≤x.getD j default∧x.getD j default≤r.p-1):SpOk r (begS r v x):=by
 have hl:=radK_len r 0
 obtain⟨r1,r2,r3,r4⟩:=isRep_spec h
 obtain⟨c1,c2,c3,c4⟩:=areDims_spec r2
 have hd:0≤r.d.getD v default∧r.d.getD v default≤4:=allIn_spec c3 hv
 refine⟨by unfold begS;rw[List.length_set];exact hl,fun u hu=>?_⟩
 unfold begS
 by_cases e:v=u
 ·subst e
  rw[set_get (by omega)]
  refine⟨rfl,?_⟩
  have hvb:VecB r.p (r.d.getD v default).toNat [x]:=fun y hy=>by
   simp only[List.mem_singleton] at hy
   subst hy;exact⟨hx,hb⟩
  have:=isSpc_span r1 (n:=(r.d.getD v default).toNat) (by omega) hvb.bd
  rw[Int.toNat_of_nonneg hd.1] at this
  exact this
 ·rw[set_ne e]
  exact radK_ok h 0 (Nat.zero_le _) u hu
end Go.Proofs.YtjmjamhhppoimaaGreat.V
