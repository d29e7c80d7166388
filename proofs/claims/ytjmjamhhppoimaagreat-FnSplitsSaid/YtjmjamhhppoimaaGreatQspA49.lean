/- Texts that the proof needs: A98, A48, A49. -/
import Derived.Test.YtjmjamhhppoimaaGreatQspA84
import Derived.Test.YtjmjamhhppoimaaGreatQspA93
namespace Go.Proofs.YtjmjamhhppoimaaGreat.V
open Go.RowKit G D
set_option linter.unusedVariables false
set_option linter.unusedSimpArgs false
set_option maxHeartbeats 1000000
set_option maxRecDepth 4000
theorem findR_col{f f':Nat→Nat→Int}{k k':Nat}(h:∀i,f i k=f' i k'):∀n a,findR f k n a=findR f' k' n a
 |0,a=>rfl
 |n+1,a=>by rw[findR,findR,h a,findR_col h n (a+1)]
def SameC(C:Nat→Nat→Prop)(s s':(Nat→Nat→Int)×List Nat):Prop:=s.2=s'.2∧∀j j',C j j'→∀i,s.1 i j=s'.1 i j'
theorem SameC.step{C:Nat→Nat→Prop}{p:Int}{r k:Nat}{s s':(Nat→Nat→Int)×List Nat}(h:SameC C s s')(hk:C k k):SameC C (stepE p r s k) (stepE p r s' k):=by
 obtain⟨f,l⟩:=s
 obtain⟨f',l'⟩:=s'
 obtain⟨h1,h2⟩:=h
 dsimp only at h1 h2
 subst h1
 have e:=findR_col (h2 k k hk) (r-l.length) l.length
 unfold stepE
 dsimp only
 rw[e]
 generalize findR f' k (r-l.length) l.length=a
 by_cases ha:a=r
 ·rw[if_pos ha,if_pos ha];exact⟨rfl,h2⟩
 ·rw[if_neg ha,if_neg ha]
  refine⟨rfl,fun j j' hj i=>?_⟩
  have hsw:∀j j',C j j'→∀i,swapF f l.length a i j=swapF f' l.length a i j':=fun j j' hj i=>by
   unfold swapF;rw[h2 j j' hj a,h2 j j' hj l.length,h2 j j' hj i]
  have hsc:∀j j',C j j'→∀i,scaleF p (swapF f l.length a) l.length (invP p (swapF f l.length a l.length k)) i j=scaleF p (swapF f' l.length a) l.length (invP p (swapF f' l.length a l.length k)) i j':=fun j j' hj i=>by
   unfold scaleF;rw[hsw j j' hj i,hsw k k hk l.length]
  show clearF p _ _ k i j=clearF p _ _ k i j'
  unfold clearF
  rw[hsc j j' hj i,hsc k k hk i,hsc j j' hj l.length]
theorem SameC.red{C:Nat→Nat→Prop}{p:Int}{r:Nat}{f f':Nat→Nat→Int}(h:∀j j',C j j'→∀i,f i j=f' i j'):∀k,(∀j,j<k→C j j)→SameC C (redK p r f k) (redK p r f' k)
 |0,_=>⟨rfl,h⟩
 |k+1,hk=>(SameC.red h k fun j hj=>hk j (by omega)).step (hk k (by omega))
def invF(p:Int)(n:Nat)(f:Nat→Nat→Int):Nat→Nat→Int:=fun i j=>(redK p n (besF n f idF) (n+n)).1 i (n+j)
theorem solV_get{n:Nat}{g:Nat→Nat→Int}{piv:List Nat}{j:Nat}(hj:j<n):∀m,(∀i,i<m→piv.getD i 0=i)→(solV n g piv m).getD j default=if j<m then g j n else 0
 |0,_=>by simp[solV,hj]
 |m+1,h=>by
  have ih:=solV_get (g:=g) hj m fun i hi=>h i (by omega)
  have e:=h m (by omega)
  by_cases e2:m=j
  ·subst e2
   rw[solV,e,set_get (by rw[solV_len];exact hj),if_pos (by omega)]
  ·rw[solV,e,set_ne e2,ih]
   by_cases e3:j<m
   ·rw[if_pos e3,if_pos (by omega)]
   ·rw[if_neg e3,if_neg (by omega)]
theorem piv_range{p:Int}{n:Nat}{f:Nat→Nat→Int}(hF:isF p=true)(hb:BdF p n n f)(h:(redK p n f n).2.length=n):(redK p n f n).2=List.range n:=by
 have hp:=isF_pos hF
 have hl:=(redK_bd (show 0<p by omega) hb n).2.2.2
 exact inc_sub (redK_pw hF hb) List.pairwise_lt_range (fun x hx=>List.mem_range.2 (hl x hx)) (by rw[List.length_range];omega)
theorem inv_sol{p:Int}{n k:Nat}{f:Nat→Nat→Int}(hF:isF p=true)(hb:BdF p n n f)(h:(redK p n f n).2.length=n)(hk:k<n):solL p n n f (unitL n k)=(rowL n fun i=>invF p n f i k,true):=by
 have hr:=piv_range hF hb h
 have s1:SameC (fun j j'=>j=j'∧j<n) (redK p n f n) (redK p n (besF n f idF) n):=SameC.red (fun j j' hj i=>by
  obtain⟨rfl,hj⟩:=hj
  unfold besF;rw[if_pos hj]) n fun j hj=>⟨rfl,hj⟩
 have s2:SameC (fun j j'=>(j=j'∧j<n)∨(j=n∧j'=n+k)) (redK p n (augF n f (unitL n k)) n) (redK p n (besF n f idF) n):=SameC.red (fun j j' hj i=>by
  rcases hj with⟨rfl,hj⟩|⟨rfl,rfl⟩
  ·unfold augF besF;rw[if_pos hj,if_pos hj]
  ·unfold augF besF
   rw[if_neg (by omega),if_neg (by omega),Nat.add_sub_cancel_left]
   unfold idF
   by_cases hi:i<j
   ·exact unitL_get hi
   ·rw[if_neg (by omega)]
    have:(unitL j k).length≤i:=by rw[unitL_len];omega
    simp[List.getElem?_eq_none this]) n fun j hj=>.inl ⟨rfl,hj⟩
 have l1:(redK p n (besF n f idF) n).2.length=n:=by rw[←s1.1];exact h
 have l2:(redK p n (augF n f (unitL n k)) n).2.length=n:=by rw[s2.1];exact l1
 have e1:=redK_full l1 n
 have e2:=redK_full l2 1
 have p2:(redK p n (augF n f (unitL n k)) n).2=List.range n:=by rw[s2.1,←s1.1];exact hr
 unfold solL
 rw[e2,p2,if_neg (by simp),List.length_range]
 congr 1
 apply List.ext_getElem (by rw[solV_len,rowL_len])
 intro i h1 h2
 have hi:i<n:=by rwa [solV_len] at h1
 have g1:=solV_get (g:=(redK p n (augF n f (unitL n k)) n).1) (piv:=List.range n) hi n fun t ht=>by simp[ht]
 rw[if_pos hi] at g1
 have a1:∀(L:List Int) (h:i<L.length),L.getD i default=L[i]:=fun L h=>by simp[h]
 rw[←a1 _ h1,g1,←a1 _ h2,rowL_get _ hi]
 unfold invF
 rw[e1]
 exact s2.2 n (n+k) (.inr ⟨rfl,rfl⟩) i
theorem invF_bd{p:Int}{n:Nat}{f:Nat→Nat→Int}(hF:isF p=true)(hb:BdF p n n f):BdF p n n (invF p n f):=fun i hi j hj=>by
 have hp:=isF_pos hF
 have h2:BdF p n (n+n) (besF n f idF):=fun i hi j hj=>by
  unfold besF
  by_cases h:j<n
  ·rw[if_pos h];exact hb i hi j h
  ·rw[if_neg h];exact idF_bd hp.1 n i hi (j-n) (by omega)
 exact(redK_bd (show 0<p by omega) h2 (n+n)).1 i hi (n+j) (by omega)
def botM(n:Nat)(s t:Spc):Mat:=tm n n (fcF (s.b++t.b))
def kepF(s t:Spc):Nat→Nat→Int:=fun i j=>if j<s.b.length then 0 else fcF (s.b++t.b) i j
def kepM(n:Nat)(s t:Spc):Mat:=tm n n (kepF s t)
def idpM(p:Int)(n:Nat)(s t:Spc):Mat:=mulM p (kepM n s t) (tm n n (invF p n (fcF (s.b++t.b))))
def idpL(r:Rep)(s t:List Spc):List Mat:=(List.range r.d.length).map fun v=>idpM r.p (r.d.getD v default).toNat (s.getD v default) (t.getD v default)
theorem idpL_len(r:Rep)(s t:List Spc):(idpL r s t).length=r.d.length:=by simp[idpL]
theorem idpL_take(r:Rep)(s t:List Spc){k:Nat}(h:k<r.d.length):(idpL r s t).take (k+1)=(idpL r s t).take k++[idpM r.p (r.d.getD k default).toNat (s.getD k default) (t.getD k default)]:=by
 simp only[idpL,←List.map_take,range_take h,List.map_append,List.map_cons,List.map_nil]
def onesF(m:Nat):Nat→Nat→Int:=fun i j=>if i=j∧m≤i then 1 else 0
def onesK(m k:Nat):Nat→Nat→Int:=fun i j=>if i=j∧m≤i∧i<k then 1 else 0
theorem onesK_start(m:Nat):onesK m m=fun _ _=>0:=by
 funext i j;unfold onesK;rw[if_neg (by omega)]
theorem onesK_set{m k:Nat}(h:m≤k):updF (onesK m k) k k 1=onesK m (k+1):=by
 funext i j
 unfold updF onesK
 by_cases e:i=k∧j=k
 ·rw[if_pos e,if_pos (by omega)]
 ·rw[if_neg e]
  by_cases e2:i=j∧m≤i∧i<k
  ·rw[if_pos e2,if_pos (by omega)]
  ·rw[if_neg e2,if_neg (by omega)]
theorem onesK_all(m n:Nat):tab n n (onesK m n)=tab n n (onesF m):=tab_ext fun i hi j hj=>by
 unfold onesK onesF
 by_cases e:i=j∧m≤i
 ·rw[if_pos e,if_pos (by omega)]
 ·rw[if_neg e,if_neg (by omega)]
theorem ones_bd{p:Int}(hp:2≤p)(m n:Nat):BdF p n n (onesF m):=fun i _ j _=>by
 unfold onesF;split<;>omega
theorem kep_mul{p:Int}{n:Nat}{s t:Spc}(hp:2≤p)(hb:BdF p n n (fcF (s.b++t.b))):mulM p (botM n s t) (tm n n (onesF s.b.length))=kepM n s t:=by
 unfold botM kepM
 rw[mulM_tm (r:=n) (n:=n) (c:=n) rfl rfl rfl]
 unfold tm
 congr 1
 apply tab_ext
 intro i hi j hj
 show dotK _ _ i j n%p=_
 rw[dotK_sum,sumN_eq (g:=fun k=>(if k=j then 1 else 0)*(if s.b.length≤j then fcF (s.b++t.b) i j else 0)) n fun k hk=>?_,sumN_one,if_pos hj]
 ·unfold kepF
  by_cases h:j<s.b.length
  ·rw[if_neg (by omega),if_pos h,Int.zero_emod]
  ·rw[if_pos (by omega),if_neg h]
   have:=hb i hi j hj
   exact Int.emod_eq_of_lt this.1 (by omega)
 ·have e1:ent (⟨(n:Nat),(n:Nat),tab n n (fcF (s.b++t.b))⟩:Mat) i k=fcF (s.b++t.b) i k:=tab_get _ hi hk
  have e2:ent (⟨(n:Nat),(n:Nat),tab n n (onesF s.b.length)⟩:Mat) k j=onesF s.b.length k j:=tab_get _ hk hj
  rw[e1,e2]
  unfold onesF
  by_cases e:k=j
  ·subst e
   by_cases h:s.b.length≤k
   ·simp[h]
   ·simp[h]
  ·rw[if_neg (by omega),if_neg e];simp
theorem both_rank{p:Int}{a b:Spc}(ha:isSpc p a=true)(hb:isSpc p b=true)(hn:b.n=a.n)(hd:(addS p a b).b.length=a.n.toNat)(hl:a.b.length+b.b.length=a.n.toNat):BdF p a.n.toNat a.n.toNat (fcF (a.b++b.b))∧(redK p a.n.toNat (fcF (a.b++b.b)) a.n.toNat).2.length=a.n.toNat:=by
 obtain⟨h1,h2,h3,h4⟩:=isSpc_spec ha
 obtain⟨_,_,g3,g4⟩:=isSpc_spec hb
 have hp:=isF_pos h1
 rw[hn] at g4
 have hv:=h4.app g4
 have hbd:=fcF_bd hv
 have hlen:(a.b++b.b).length=a.n.toNat:=by rw[List.length_append];omega
 rw[hlen] at hbd
 refine⟨hbd,?_⟩
 obtain⟨b1,b2,b3,b4⟩:=redK_bd (show 0<p by omega) hbd a.n.toNat
 have hsc:=span_cols h1 hbd
 have hrf:=rowsL_fc hv
 rw[hlen] at hrf
 rw[hrf] at hsc
 have hle2:(addS p a b).b.length≤(redK p a.n.toNat (fcF (a.b++b.b)) a.n.toNat).2.length:=by
  show(spanL p a.n.toNat (a.b++b.b)).length≤_
  rw[←hsc]
  have hv1:VecB p a.n.toNat (pivC a.n.toNat (fcF (a.b++b.b)) (redK p a.n.toNat (fcF (a.b++b.b)) a.n.toNat).2):=fun x hx'=>by
   simp only[pivC,List.mem_map] at hx'
   obtain⟨k,hk,rfl⟩:=hx'
   exact⟨rowL_len ..,fun j hj=>by rw[rowL_get _ hj];exact hbd j hj k (b4 k hk)⟩
  have:=(spanB_le (show 0<p by omega) hv1.bd).1
  rw[pivC_len] at this
  unfold spanL
  rw[pivC_len]
  exact this
 omega
theorem cmpB_spec{r:Rep}{s t:List Spc}(h:cmpB r s t=true):isSub r s=true∧isSub r t=true∧∀v,v<r.d.length→((addS r.p (s.getD v default) (t.getD v default)).b.length:Int)=r.d.getD v default∧((s.getD v default).b.length:Int)+((t.getD v default).b.length:Int)=r.d.getD v default:=by
 simp only[cmpB,cmpV,Bool.and_eq_true,decide_eq_true_eq,List.all_eq_true] at h
 exact⟨h.1,h.2.1,fun v hv=>h.2.2 v (by simpa using hv)⟩
end Go.Proofs.YtjmjamhhppoimaaGreat.V
namespace Go.Proofs.YtjmjamhhppoimaaGreat.V
open V.Enc (enc)
open Go.RowKit G D
set_option linter.unusedVariables false
set_option linter.unusedSimpArgs false
set_option maxHeartbeats 4000000
set_option maxRecDepth 4000
attribute [local irreducible] AW ARg ARA ARet MRet ASil AC AM
theorem augF_bd{p:Int}{r c:Nat}{f:Nat→Nat→Int}{v:List Int}(hb:BdF p r c f)(hv:∀i,i<r→0≤v.getD i default∧v.getD i default≤p-1):BdF p r (c+1) (augF c f v):=fun i hi j hj=>by
 unfold augF
 split
 ·exact hb i hi j (by assumption)
 ·exact hv i hi
theorem solL_no{p:Int}{r c:Nat}{f:Nat→Nat→Int}{v:List Int}{g:Nat→Nat→Int}{piv:List Nat}(hR:redK p r (augF c f v) (c+1)=(g,piv))(h:c∈piv):solL p r c f v=([],false):=by
 unfold solL;rw[hR,if_pos h]
theorem solL_yes{p:Int}{r c:Nat}{f:Nat→Nat→Int}{v:List Int}{g:Nat→Nat→Int}{piv:List Nat}(hR:redK p r (augF c f v) (c+1)=(g,piv))(h:c∉piv):solL p r c f v=(solV c g piv piv.length,true):=by
 unfold solL;rw[hR,if_neg h]
def auK(c:Nat)(f:Nat→Nat→Int)(v:List Int)(i k:Nat):Nat→Nat→Int:=fun x y=>if x<i∨(x=i∧y<k) then augF c f v x y else 0
theorem auK_zero(c:Nat)(f:Nat→Nat→Int)(v:List Int):auK c f v 0 0=fun _ _=>0:=by funext x y;simp[auK]
theorem auK_set(c:Nat)(f:Nat→Nat→Int)(v:List Int)(i k:Nat):updF (auK c f v i k) i k (augF c f v i k)=auK c f v i (k+1):=by
 funext x y
 simp only[auK,updF]
 by_cases h1:x=i
 ·subst h1
  by_cases h2:y=k
  ·subst h2;simp
  ·have:y<k+1↔y<k:=by omega
   simp[h2,this]
 ·simp[h1]
theorem auK_next(c:Nat)(f:Nat→Nat→Int)(v:List Int)(i r:Nat):tab r (c+1) (auK c f v i (c+1))=tab r (c+1) (auK c f v (i+1) 0):=tab_ext fun x hx y hy=>by
 have e:(x<i∨x=i∧y<c+1)↔(x<i+1∨x=i+1∧y<0):=by omega
 simp only[auK,e]
theorem auK_all(c:Nat)(f:Nat→Nat→Int)(v:List Int)(r:Nat):tab r (c+1) (auK c f v r 0)=tab r (c+1) (augF c f v):=tab_ext fun x hx y hy=>by simp[auK,hx]
theorem l4Solve_a(p:Int)(r c:Nat)(f:Nat→Nat→Int)(v:List Int)(hf:isF p=true)(hr:r≤1000)(hc:c≤1000)(hb:BdF p r c f)(hvl:v.length=r)(hv:∀i,i<r→0≤v.getD i default∧v.getD i default≤p-1):
  AC Tryz.prog 360 [.i p,.agg (enc false (tm r c f)),ar false v] [.dt true 1 (E true (solL p r c f v).1),.b (solL p r c f v).2]:=by
 refine AC.go Tryz.func360 Tryz.ntmps360 rfl rfl fun w0 hw=>?_;simp[WfL,WfA,E_length,Enc.enc,In64] at hw
 have h5:=isF_pos hf
 have hZ:=l3ZeroT_a r (c+1) (by omega) (by omega)
 have hR:=l4Reduce_a p r (c+1) (augF c f v) hf (by omega) (by omega) (augF_bd hb hv)
 obtain⟨b1,b2,b3,b4⟩:=redK_bd (p:=p) (by omega) (augF_bd hb hv) (c+1)
 have hno0:=fun g piv (hR:redK p r (augF c f v) (c+1)=(g,piv)) (h:c∈piv)=>solL_no hR h
 have hyes0:=fun g piv (hR:redK p r (augF c f v) (c+1)=(g,piv)) (h:c∉piv)=>solL_yes hR h
 generalize redK p r (augF c f v) (c+1)=R at hR b1 b2 b3 b4 hno0 hyes0
 obtain⟨g,piv⟩:=R
 dsimp only at hR b1 b2 b3 b4
 have hno:=hno0 g piv rfl
 have hyes:=hyes0 g piv rfl
 clear hno0 hyes0
 generalize solL p r c f v=S at hno hyes⊢
 have hpl:=ints_len piv
 have hc1:((c+1:Nat):Int)=(c:Int)+1:=by push_cast;rfl
 rw[hc1] at hZ
 have hi64:In64 ((tm r c f).c+1):=by
  show In64 ((c:Int)+1)
  unfold In64;omega
 repeat' first|refine s1 ?_|refine q1 ?_|(refine kR ?_;first|refine F.c (hZ) ?_)|fail
 refine F.loop (σ:=Nat) [9,10,21,22,23,24,25,26,27,28,29,30,31,32,33,34,35,36,37,38,39,40,41,42,43,44,45,46,47,48,49,50,51,52,53,54,55,56,57,58,59,60,61,62,63,64,65] (fun i=>[(9,.i i)]) (fun i=>[(1,.live false 1 (E true (tab r (c+1) (auK c f v i 0))))]) (fun i=>i≤r) (fun i=>r-i) 0 ⟨rfl,trivial⟩ ⟨obE (by rw[auK_zero]),trivial⟩ (Nat.zero_le _) ?_
 rintro i i1
 by_cases hi:i<r
 ·repeat' first|refine s1 ?_|refine q1 ?_|fail
  refine F.loop (σ:=Nat) [10,27,28,29,30,31,32,33,34,35,36,37,38,39,40,41,42,43,44,45,46,47,48,49,50,51] (fun k=>[(10,.i k)]) (fun k=>[(1,.live false 1 (E true (tab r (c+1) (auK c f v i k))))]) (fun k=>k≤c) (fun k=>c-k) 0 ⟨rfl,trivial⟩ ⟨rfl,trivial⟩ (Nat.zero_le _) ?_
  rintro k k1
  by_cases hk:k<c
  ·obtain⟨t1,t2⟩:=tab_in (i:=i) (j:=k) (r:=r) (c:=c) hi hk (by omega) (by omega)
   obtain⟨t3,t4⟩:=tab_in (i:=i) (j:=k) (r:=r) (c:=c+1) hi (by omega) (by omega) (by omega)
   have hv1:f i k=augF c f v i k:=by unfold augF;rw[if_pos hk]
   repeat' first|refine s1 ?_|refine q1 ?_|fail
   refine AW.draw 19 G.mixed (by kernel_rfl) ?_
   refine Pz (.p 0<|.l 1<|.p 2<|.p 3<|.l 4<|.p 5<|.p 6<|.p 7<|.p 8<|.l 9<|.p 10<|.p 11<|.l 12<|.p 13<|.p 14<|.p 15<|.p 16<|.l 17<|.p 18<|.o 19 false<|.n) ?_
   repeat' first|refine ySQ ?_|refine s1 ?_|refine q1 ?_|fail
   any_goals refine lf ?_
   repeat' first|refine s1 ?_|refine q1 ?_|fail
   exact⟨k+1,F.fit ⟨rfl,trivial⟩ ⟨obE (by rw[hv1,auK_set]),trivial⟩,by omega,by omega⟩
  ·obtain rfl:k=c:=by omega
   obtain⟨t3,t4⟩:=tab_in (i:=i) (j:=k) (r:=r) (c:=k+1) hi (by omega) (by omega) (by omega)
   have hv1:v.getD i default=augF k f v i k:=by unfold augF;rw[if_neg (by omega)]
   repeat' first|refine s1 ?_|refine q1 ?_|fail
   refine AW.draw 14 G.mixed (by kernel_rfl) ?_
   refine Pz (.p 0<|.l 1<|.p 2<|.p 3<|.l 4<|.p 5<|.p 6<|.l 7<|.p 8<|.p 9<|.p 10<|.p 11<|.l 12<|.p 13<|.o 14 false<|.n) ?_
   repeat' first|refine ySQ ?_|refine s1 ?_|refine q1 ?_|fail
   any_goals refine lf ?_
   repeat' first|refine s1 ?_|refine q1 ?_|fail
   exact⟨i+1,F.fit ⟨rfl,trivial⟩ ⟨obE (by rw[hv1,auK_set,auK_next]),trivial⟩,by omega,by omega⟩
 ·obtain rfl:i=r:=by omega
  have hH:=l4Has_a (ints piv) (c:Int)
  rw[auK_all]
  by_cases hm:c∈piv
  ·rw[decide_eq_true ((ints_mem piv c).mpr hm)] at hH
   rw[hno hm]
   repeat' first|refine s1 ?_|refine q1 ?_|(refine kR ?_;first|refine F.c (hR) ?_|refine F.c (hH) ?_)|fail
   (refine kZ ?_;exact F.ret rfl)
  ·rw[decide_eq_false (fun h=>hm ((ints_mem piv c).mp h))] at hH
   rw[hyes hm]
   repeat' first|refine s1 ?_|refine q1 ?_|(refine kR ?_;first|refine F.c (hR) ?_|refine F.c (hH) ?_|refine F.mk (m:=c) Int rfl rfl rfl (mkB (by omega)) (by omega) rfl rfl ?_)|fail
   refine F.loop (σ:=Nat) [14,80,81,82,83,84,85,86,87,88,89,90,91,92,93,94,95,96,97,98,99,100,101,102] (fun j=>[(14,.i j)]) (fun j=>[(6,.live false 1 (E true (solV c g piv j)))]) (fun j=>j≤piv.length) (fun j=>piv.length-j) 0 ⟨rfl,trivial⟩ ⟨rfl,trivial⟩ (Nat.zero_le _) ?_
   rintro j j1
   by_cases hj:j<piv.length
   ·have hpi:=ints_get piv hj
    have hq0:piv.getD j default<c+1:=b4 _ (by simp[hj])
    have hq:piv.getD j default<c:=by
     have:piv.getD j default≠c:=fun h=>hm (by rw[←h];simp[hj])
     omega
    have hir:j<i:=by omega
    have hpi':(ints piv).getD (0+j) default=(piv.getD j default:Nat):=by rw[Nat.zero_add];exact hpi
    have hT:((ints piv).getD (0+j) default).toNat=piv.getD j 0:=by rw[hpi'];exact Int.toNat_natCast _
    clear hpi
    obtain⟨t1,t2⟩:=tab_in (i:=j) (j:=c) (r:=i) (c:=c+1) hir (by omega) (by omega) (by omega)
    have hst:solV c g piv (j+1)=(solV c g piv j).set (piv.getD j 0) (g j c):=rfl
    have hsl:=solV_len c g piv j
    generalize solV c g piv j=X at hst hsl⊢
    rw[←hT] at hst
    repeat' first|refine s1 ?_|refine q1 ?_|fail
    refine AW.draw 17 G.mixed (by kernel_rfl) ?_
    refine Pz (.p 0<|.p 1<|.p 2<|.p 3<|.l 4<|.p 5<|.l 6<|.p 7<|.p 8<|.l 9<|.p 10<|.p 11<|.l 12<|.p 13<|.p 14<|.l 15<|.p 16<|.o 17 false<|.n) ?_
    repeat' first|refine ySQ ?_|refine s1 ?_|refine q1 ?_|fail
    any_goals refine lf ?_
    repeat' first|refine s1 ?_|refine q1 ?_|fail
    exact⟨j+1,F.fit ⟨rfl,trivial⟩ ⟨obE (by rw[hst,Nat.zero_add ((ints piv).getD (0+j) default).toNat]),trivial⟩,by omega,by omega⟩
   ·obtain rfl:j=piv.length:=by omega
    have hsl:=solV_len c g piv piv.length
    generalize solV c g piv piv.length=X at hsl⊢
    repeat' first|refine s1 ?_|refine q1 ?_|fail
    (refine kZ ?_;exact F.ret rfl)
end Go.Proofs.YtjmjamhhppoimaaGreat.V
