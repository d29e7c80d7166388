/- Texts that the proof needs: A79, A80. -/
import Derived.Test.YtjmjamhhppoimaaGreatQspB7
import Derived.Test.YtjmjamhhppoimaaGreatQspC1
namespace Go.Proofs.YtjmjamhhppoimaaGreat.V
open Go.RowKit G D
set_option linter.unusedVariables false
set_option linter.unusedSimpArgs false
set_option maxHeartbeats 1000000
set_option maxRecDepth 4000
def dotV(f:Nat→Int)(x:List Int)(c:Nat):Int:=sumN (fun j=>f j*x.getD j default) c
theorem dotV_set(f:Nat→Int)(x:List Int)(a:Nat)(y:Int)(ha:a<x.length):∀c,dotV f (x.set a y) c=dotV f x c+if a<c then f a*(y-x.getD a default) else 0
 |0=>by simp[dotV,sumN]
 |c+1=>by
  have ih:=dotV_set f x a y ha c
  simp only[dotV,sumN] at ih⊢
  rw[ih]
  by_cases e:a=c
  ·subst e
   rw[set_get ha,if_neg (by omega),if_pos (by omega),Int.mul_sub];omega
  ·rw[set_ne e _]
   by_cases e2:a<c
   ·rw[if_pos e2,if_pos (by omega)];omega
   ·rw[if_neg e2,if_neg (by omega)];omega
theorem dotV_unit(f:Nat→Int)(n k:Nat)(hk:k<n):dotV f (unitL n k) n=f k:=by
 have h:=sumN_one f k n
 rw[if_pos hk] at h
 rw[←h]
 exact sumN_eq _ fun j hj=>by rw[unitL_get hj,Int.mul_comm]
theorem kerV_free{p:Int}{c:Nat}{g:Nat→Nat→Int}{piv:List Nat}{k j:Nat}(hj:j<c):∀n,(∀i,i<n→piv.getD i 0≠j)→(kerV p c g piv k n).getD j default=if j=k then 1 else 0
 |0,_=>unitL_get hj
 |n+1,h=>by
  rw[kerV,set_ne (h n (by omega)) _]
  exact kerV_free hj n fun i hi=>h i (by omega)
theorem ker_dot {p : Int} {r c : Nat} {g : Nat → Nat → Int} {piv : List Nat} (h : Ech r c g piv) {k : Nat} (hk : k < c) (hkp : k ∉ piv) {i : Nat} (hi : i < piv.length) : ∀ n, n ≤ piv.length → Cg p (dotV (g i) (kerV p c g piv k n) c) (if i < n then 0 else g i k)
  | 0, _ => by rw [kerV, dotV_unit _ _ _ hk, if_neg (by omega)]; exact .refl _
  | n + 1, hn => by
    have ih := ker_dot (p := p) h hk hkp hi n (by omega)
    have hpn := h.lt n (by omega)
    have hne : piv.getD n 0 ≠ k := fun e => hkp (by rw [← e]; have : n < piv.length := by omega
                                                    simp [this])
    have h0 : (kerV p c g piv k n).getD (piv.getD n 0) default = 0 := by
      rw [kerV_free hpn n fun t ht => by have := h.inc t n ht (by omega); omega, if_neg hne]
    rw [kerV, dotV_set _ _ _ _ (by rw [kerV_len]; exact hpn), if_pos hpn, h0, Int.sub_zero, h.one i hi n (by omega)]
    by_cases e : i = n
    · subst e
      rw [if_pos rfl, if_pos (by omega), Int.one_mul]
      rw [if_neg (by omega)] at ih
      have := ih.add (Cg.mod p (-(g i k)))
      rwa [show g i k + -(g i k) = 0 by omega] at this
    · rw [if_neg e, Int.zero_mul, Int.add_zero]
      by_cases e2 : i < n
      · rw [if_pos e2] at ih; rw [if_pos (by omega)]; exact ih
      · rw [if_neg e2] at ih; rw [if_neg (by omega)]; exact ih
theorem dotV_cg{p:Int}{f g:Nat→Int}{x:List Int}{c:Nat}(h:∀j,j<c→Cg p (f j) (g j)):Cg p (dotV f x c) (dotV g x c):=sumN_cg _ fun j hj=>(h j hj).mul (.refl _)
theorem dotV_comb(co:Nat→Int)(f:Nat→Nat→Int)(x:List Int)(c r:Nat):dotV (fun j=>sumN (fun i=>co i*f i j) r) x c=sumN (fun i=>co i*dotV (f i) x c) r:=by
 unfold dotV
 rw[sumN_eq (g:=fun j=>sumN (fun i=>co i*f i j*x.getD j default) r) _ fun j _=>by
  rw[Int.mul_comm,←sumN_mul]
  exact sumN_eq _ fun i _=>Int.mul_comm ..,sumN_swap]
 refine sumN_eq _ fun i _=>?_
 rw[←sumN_mul]
 exact sumN_eq _ fun j _=>Int.mul_assoc ..
theorem kerL_spec{p:Int}{r c:Nat}{f:Nat→Nat→Int}(hF:isF p=true)(hb:BdF p r c f){x:List Int}(hx:x∈kerL p r c f):(∀i,i<r→Cg p (dotV (f i) x c) 0)∧∃j,j<c∧x.getD j default=1:=by
 obtain⟨h1,h2⟩:=redK_ech hF hb c (Nat.le_refl _)
 simp only[kerL,List.mem_map] at hx
 obtain⟨k,hk,rfl⟩:=hx
 obtain⟨k1,k2⟩:=freeL_lt k hk
 constructor
 ·intro i hi
  obtain⟨co,e⟩:=h2.1 i hi
  refine(dotV_cg e).trans ?_
  rw[dotV_comb]
  refine(sumN_cg (g:=fun _=>0) _ fun t ht=>?_).trans (by rw[sumN_zero (h:=fun _=>0) _ fun _ _=>rfl];exact .refl _)
  have hz:Cg p (dotV ((redK p r f c).1 t) (kerV p c (redK p r f c).1 (redK p r f c).2 k (redK p r f c).2.length) c) 0:=by
   by_cases et:t<(redK p r f c).2.length
   ·have:=ker_dot (p:=p) h1 k1 k2 et _ (Nat.le_refl _)
    rwa [if_pos et] at this
   ·refine(dotV_cg (g:=fun _=>0) fun j hj=>by rw[h1.low t (by omega) ht j hj];exact .refl _).trans ?_
    unfold dotV
    rw[sumN_zero _ fun j _=>Int.zero_mul _];exact .refl _
  have:=(Cg.refl (co t)).mul hz
  rwa [Int.mul_zero] at this
 ·refine⟨k,k1,?_⟩
  rw[kerV_free k1 _ fun i hi e=>k2 (by rw[←e];simp[hi]),if_pos rfl]
theorem cmbV_cg{p:Int}{n:Nat}{l:List (List Int)}{k:List Int}{t:Nat}(ht:t<n):∀m,Cg p ((cmbV p n l k m).getD t default) (sumN (fun i=>k.getD i default*vecF l i t) m)
 |0=>by
  have:(cmbV p n l k 0).getD t default=0:=by simp[cmbV,ht]
  rw[this];exact .refl _
 |m+1=>by
  rw[cmbV,addK_get0 _ _ _ _ (by rw[cmbV_len];exact ht) ht,sumN]
  exact(Cg.mod _ _).trans ((cmbV_cg ht m).add (.refl _))
theorem Ech.indep{p:Int}{n m:Nat}{g:Nat→Nat→Int}{piv:List Nat}(h:Ech m n g piv)(hl:piv.length=m){co:Nat→Int}(h0:∀t,t<n→Cg p (sumN (fun i=>co i*g i t) m) 0){i:Nat}(hi:i<m):Cg p (co i) 0:=by
 have h1:=h0 _ (h.lt i (by omega))
 rw[sumN_eq (g:=fun t=>(if t=i then 1 else 0)*co t) _ fun t ht=>by rw[h.one t (by omega) i (by omega),Int.mul_comm],sumN_one,if_pos hi] at h1
 exact h1
theorem sumN_split(h:Nat→Int)(a:Nat):∀b,sumN h (a+b)=sumN h a+sumN (fun i=>h (a+i)) b
 |0=>by simp[sumN]
 |b+1=>by rw[←Nat.add_assoc,sumN,sumN_split h a b,sumN];omega
theorem span_zero{p:Int}{n:Nat}{l:List (List Int)}(hF:isF p=true)(hv:VecB p n l)(h:spanL p n l=[]){x:List Int}(hx:x∈l):∀t,t<n→Cg p (x.getD t default) 0:=fun t ht=>by
 obtain⟨i,hi,rfl⟩:=List.getElem_of_mem hx
 have hss:=(span_ss hF hv.bd).2 i hi
 rw[show spanB p l.length n (vecF l)=[] from h] at hss
 obtain⟨co,e⟩:=hss
 have:=e t ht
 have e2:vecF l i t=(l[i]).getD t default:=by unfold vecF;simp[hi]
 rw[e2] at this
 exact this
theorem rowsL_fc{p:Int}{n:Nat}{l:List (List Int)}(hv:VecB p n l):(rowsL l.length n fun k i=>fcF l i k)=l:=by
 apply List.ext_getElem (by simp[rowsL])
 intro i h1 h2
 have hl:=(hv _ (List.getElem_mem h2)).1
 simp only[rowsL,List.getElem_map,List.getElem_range]
 have:=rowL_of hl
 rw[←this]
 exact rowL_ext fun j hj=>by simp[fcF,h2]
theorem meet_nil{p:Int}{a b:Spc}(ha:isSpc p a=true)(hb:isSpc p b=true)(hn:b.n=a.n)(hd:(addS p a b).b.length=a.n.toNat):(metS p a b).b=[]↔a.b.length+b.b.length=a.n.toNat:=by
 obtain⟨h1,h2,h3,h4⟩:=isSpc_spec ha
 obtain⟨_,_,g3,g4⟩:=isSpc_spec hb
 have hp:=isF_pos h1
 rw[hn] at g4
 have hv:=h4.app g4
 have hbd:=fcF_bd hv
 have hkl:=kerL_len h1 hbd
 have hk:metK p a b=kerL p a.n.toNat (a.b++b.b).length (fcF (a.b++b.b)):=rfl
 obtain⟨b1,b2,b3,b4⟩:=redK_bd (show 0<p by omega) hbd (a.b++b.b).length
 have hsc:=span_cols h1 hbd
 rw[rowsL_fc hv] at hsc
 have hle2:(addS p a b).b.length≤(redK p a.n.toNat (fcF (a.b++b.b)) (a.b++b.b).length).2.length:=by
  show(spanL p a.n.toNat (a.b++b.b)).length≤_
  rw[←hsc]
  have hv1:VecB p a.n.toNat (pivC a.n.toNat (fcF (a.b++b.b)) (redK p a.n.toNat (fcF (a.b++b.b)) (a.b++b.b).length).2):=fun x hx'=>by
   simp only[pivC,List.mem_map] at hx'
   obtain⟨k,hk,rfl⟩:=hx'
   exact⟨rowL_len ..,fun j hj=>by rw[rowL_get _ hj];exact hbd j hj k (b4 k hk)⟩
  have:=(spanB_le (show 0<p by omega) hv1.bd).1
  rw[pivC_len] at this
  unfold spanL
  rw[pivC_len]
  exact this
 have hle3:(addS p a b).b.length≤(a.b++b.b).length:=(spanB_le (show 0<p by omega) hv.bd).1
 rw[←hk] at hkl
 have hlen:(a.b++b.b).length=a.b.length+b.b.length:=List.length_append ..
 constructor
 ·intro hz
  have hnil:(metK p a b).length=0:=by
   refine Classical.byContradiction fun hne=>?_
   have hx:(metK p a b).getD 0 default∈metK p a b:=gm (by omega)
   generalize (metK p a b).getD 0 default=x at hx
   obtain⟨s1,j,hj,s2⟩:=kerL_spec h1 hbd (by rw[←hk];exact hx)
   have hxm:cmbV p a.n.toNat a.b x a.b.length∈metL p a b:=List.mem_map.2 ⟨x,hx,rfl⟩
   have z1:=span_zero h1 (metL_vec (a:=a) (b:=b) hp.1) hz hxm
   obtain⟨pa,ea,la⟩:=isSpc_ech ha
   obtain⟨pb,eb,lb⟩:=isSpc_ech hb
   rw[hn] at eb
   have za:∀i,i<a.b.length→Cg p (x.getD i default) 0:=fun i hi=>
    ea.indep (p:=p) la (co:=fun i=>x.getD i default) (fun t ht=>(cmbV_cg ht a.b.length).symm.trans (z1 t ht)) hi
   have zb:∀i,i<b.b.length→Cg p (x.getD (a.b.length+i) default) 0:=fun i hi=>
    eb.indep (p:=p) lb (co:=fun i=>x.getD (a.b.length+i) default) (fun t ht=>by
     have h5:=s1 t ht
     unfold dotV at h5
     rw[List.length_append,sumN_split] at h5
     have h6:Cg p (sumN (fun j=>fcF (a.b++b.b) t j*x.getD j default) a.b.length) 0:=by
      refine Cg.trans ?_ (z1 t ht)
      refine Cg.trans ?_ (cmbV_cg ht a.b.length).symm
      refine sumN_cg _ fun i hi=>?_
      have:fcF (a.b++b.b) t i=vecF a.b i t:=vecF_app_l hi t
      rw[this,Int.mul_comm];exact .refl _
     have h7:sumN (fun i=>fcF (a.b++b.b) t (a.b.length+i)*x.getD (a.b.length+i) default) b.b.length=sumN (fun i=>x.getD (a.b.length+i) default*vecF b.b i t) b.b.length:=sumN_eq _ fun i _=>by
      have:fcF (a.b++b.b) t (a.b.length+i)=vecF b.b i t:=vecF_app_r a.b b.b i t
      rw[this,Int.mul_comm]
     rw[h7] at h5
     have h8:=h6.symm.add (Cg.refl (sumN (fun i=>x.getD (a.b.length+i) default*vecF b.b i t) b.b.length))
     rw[Int.zero_add] at h8
     exact h8.trans h5) hi
   have hz:Cg p (x.getD j default) 0:=by
    rw[List.length_append] at hj
    by_cases e:j<a.b.length
    ·exact za j e
    ·have:=zb (j-a.b.length) (by omega)
     rwa [show a.b.length+(j-a.b.length)=j by omega] at this
   rw[s2] at hz
   have:=hz.eq ⟨by omega,by omega⟩ ⟨by omega,by omega⟩
   omega
  omega
 ·intro he
  have hnil:(metK p a b).length=0:=by omega
  have hml:metL p a b=[]:=List.eq_nil_of_length_eq_zero (by rw[metL_len];exact hnil)
  show spanL p a.n.toNat (metL p a b)=[]
  rw[hml]
  have:=isSpc_nil (n:=a.n.toNat) h1 (by omega)
  simp only[isSpc,Bool.and_eq_true,decide_eq_true_eq,Int.toNat_natCast] at this
  exact this.2
def subF(p:Int)(m:Mat)(a b:Spc):Nat→Nat→Int:=fun i j=>(appV p m (a.b.getD j default)).getD (leadV (b.b.getD i default)).toNat default
def subM(p:Int)(m:Mat)(a b:Spc):Mat:=tm b.b.length a.b.length (subF p m a b)
def subA(r:Rep)(s:List Spc)(i:Nat):Mat:=subM r.p (r.m.getD i default) (s.getD (r.q.fr.getD i default).toNat default) (s.getD (r.q.to.getD i default).toNat default)
def subMs(r:Rep)(s:List Spc):List Mat:=(List.range r.m.length).map (subA r s)
theorem subMs_len(r:Rep)(s:List Spc):(subMs r s).length=r.m.length:=by simp[subMs]
theorem subMs_get(r:Rep)(s:List Spc){i:Nat}(hi:i<r.m.length):(subMs r s).getD i default=subA r s i:=by simp[subMs,hi]
def subR(r:Rep)(s:List Spc):Rep:=⟨r.p,r.q,dimS s,subMs r s⟩
def incM(s:Spc):Mat:=tm s.n.toNat s.b.length (fcF s.b)
def incL(s:List Spc):List Mat:=s.map incM
theorem incL_len(s:List Spc):(incL s).length=s.length:=by simp[incL]
theorem incL_take{s:List Spc}{k:Nat}(h:k<s.length):(incL s).take (k+1)=(incL s).take k++[incM (s.getD k default)]:=by
 have e:s.getD k default=s[k]:=by simp[h]
 rw[incL,List.take_succ_eq_append_getElem (by simpa using h),e]
 simp
theorem dimS_get{s:List Spc}{v:Nat}(h:v<s.length):(dimS s).getD v default=((s.getD v default).b.length:Int):=by simp[dimS,h]
theorem isSpc_le{p:Int}{s:Spc}(h:isSpc p s=true):s.b.length≤s.n.toNat:=by
 obtain⟨h1,h2,h3,h4⟩:=isSpc_spec h
 have hp:=isF_pos h1
 simp only[isSpc,Bool.and_eq_true,decide_eq_true_eq] at h
 have:=(spanB_le (show 0<p by omega) h4.bd).2
 rw[show spanB p s.b.length s.n.toNat (vecF s.b)=s.b from h.2] at this
 exact this
theorem lead_lt{p:Int}{s:Spc}(h:isSpc p s=true){i:Nat}(hi:i<s.b.length):0≤leadV (s.b.getD i default)∧(leadV (s.b.getD i default)).toNat<s.n.toNat:=by
 obtain⟨h1,h2,h3,h4⟩:=isSpc_spec h
 obtain⟨piv,e,l⟩:=isSpc_ech h
 rw[e.lead_at l h4 hi]
 have:=e.lt i (by omega)
 exact⟨by omega,by rw[Int.toNat_natCast];exact this⟩
theorem sum_le:∀{a b:List Int},a.length=b.length→(∀j,j<a.length→a.getD j default≤b.getD j default)→a.sum≤b.sum
 |[],[],_,_=>by simp
 |x::a,y::b,hl,h=>by
  have h1:=h 0 (by simp)
  have h2:=sum_le (a:=a) (b:=b) (by simpa using hl) fun j hj=>by simpa using h (j+1) (by simpa using hj)
  simp only[List.getD_cons_zero] at h1
  simp only[List.sum_cons]
  omega
theorem sub_dims{r:Rep}{s:List Spc}(h:isSub r s=true):(dimS s).length=r.d.length∧(∀v,v<r.d.length→0≤(dimS s).getD v default∧(dimS s).getD v default≤r.d.getD v default)∧(dimS s).sum≤r.d.sum∧∀v,v<r.d.length→(dimS s).getD v default≤4:=by
 obtain⟨h1,h2,h3,h4⟩:=isSub_spec h
 obtain⟨r1,r2,r3,r4⟩:=isRep_spec h1
 obtain⟨c1,c2,c3,_⟩:=areDims_spec r2
 have hl:=dimS_len s
 have key:∀v,v<r.d.length→0≤(dimS s).getD v default∧(dimS s).getD v default≤r.d.getD v default:=fun v hv=>by
  obtain⟨a1,a2⟩:=h3 v (by omega)
  have hd:0≤r.d.getD v default∧r.d.getD v default≤4:=allIn_spec c3 hv
  have:=isSpc_le a1
  rw[dimS_get (by omega)]
  omega
 refine⟨by omega,key,sum_le (by omega) fun j hj=>(key j (by omega)).2,fun v hv=>?_⟩
 have hd:0≤r.d.getD v default∧r.d.getD v default≤4:=allIn_spec c3 hv
 have:=key v hv
 omega
theorem subA_ok{r:Rep}{s:List Spc}(h:isSub r s=true){i:Nat}(hi:i<r.m.length):isMat r.p (subA r s i)=true:=by
 obtain⟨h1,h2,h3,h4⟩:=isSub_spec h
 obtain⟨r1,r2,r3,r4⟩:=isRep_spec h1
 obtain⟨m1,m2,m3,m4,m5⟩:=arrow_ok h1 hi
 have hp:=isF_pos r1
 obtain⟨f1,f2⟩:=h3 _ (show(r.q.fr.getD i default).toNat<s.length by omega)
 obtain⟨t1,t2⟩:=h3 _ (show(r.q.to.getD i default).toNat<s.length by omega)
 have e1:=isSpc_le f1
 have e2:=isSpc_le t1
 have n1:=(isSpc_spec f1).2.1
 have n2:=(isSpc_spec t1).2.1
 refine isMat_tab r1 (by omega) (by omega) fun a ha b hb=>?_
 have:=lead_lt t1 ha
 rw[t2,←m5] at this
 exact appV_bd (by omega) _ _ this.2
theorem subR_ok{r:Rep}{s:List Spc}(h:isSub r s=true):isRep (subR r s)=true:=by
 obtain⟨h1,h2,h3,h4⟩:=isSub_spec h
 obtain⟨r1,r2,r3,r4⟩:=isRep_spec h1
 obtain⟨c1,c2,c3,c4⟩:=areDims_spec r2
 obtain⟨d1,d2,d3,d4⟩:=sub_dims h
 have hA:areDims (subR r s).q (subR r s).d=true:=by
  simp only[areDims,Bool.and_eq_true,decide_eq_true_eq]
  refine⟨⟨⟨c1,?_⟩,allIn_all fun j hj=>?_⟩,?_⟩
  ·show((dimS s).length:Int)=r.q.n
   omega
  ·have hj:j<(dimS s).length:=hj
   exact⟨(d2 j (by omega)).1,d4 j (by omega)⟩
  ·show(dimS s).sum≤8
   omega
 have hml:(subR r s).m.length=r.m.length:=subMs_len r s
 simp only[isRep,Bool.and_eq_true,decide_eq_true_eq,List.all_eq_true]
 refine⟨⟨⟨r1,hA⟩,by show(subR r s).m.length=r.q.fr.length;omega⟩,fun i hi=>?_⟩
 have hi:i<r.m.length:=by rw[List.mem_range] at hi;omega
 obtain⟨m1,m2,m3,m4,m5⟩:=arrow_ok h1 hi
 simp only[fitM,Bool.and_eq_true,decide_eq_true_eq]
 have e:(subR r s).m.getD i default=subA r s i:=subMs_get r s hi
 rw[e]
 refine⟨⟨subA_ok h hi,?_⟩,?_⟩
 ·show((s.getD (r.q.fr.getD i default).toNat default).b.length:Int)=(dimS s).getD (r.q.fr.getD i default).toNat default
  rw[dimS_get (by omega)]
 ·show((s.getD (r.q.to.getD i default).toNat default).b.length:Int)=(dimS s).getD (r.q.to.getD i default).toNat default
  rw[dimS_get (by omega)]
theorem full_b{p:Int}{s:Spc}(h:isSpc p s=true)(hl:s.b.length=s.n.toNat):s.b=rowsL s.n.toNat s.n.toNat idF∧∀i,i<s.b.length→leadV (s.b.getD i default)=i:=by
 obtain⟨h1,h2,h3,h4⟩:=isSpc_spec h
 obtain⟨piv,e,l⟩:=isSpc_ech h
 have hpv:piv=List.range s.n.toNat:=inc_sub e.pw List.pairwise_lt_range (fun x hx=>by
  obtain⟨i,hi,ex⟩:=List.getElem_of_mem hx
  have:=e.lt i hi
  simp[hi] at this
  simp;omega) (by simp;omega)
 have hg:∀i,i<s.b.length→piv.getD i 0=i:=fun i hi=>by
  rw[hpv];simp[show i<s.n.toNat by omega]
 constructor
 ·apply List.ext_getElem (by rw[rowsL_len];exact hl)
  intro i h1 h2
  have hi:=(h4 _ (List.getElem_mem h1)).1
  have hrow:=rowL_of hi
  rw[←hrow]
  simp only[rowsL,List.getElem_map,List.getElem_range]
  refine rowL_ext fun j hj=>?_
  have:=e.one i (by omega) j (by omega)
  rw[hg j (by omega)] at this
  have e2:vecF s.b i j=(s.b[i]).getD j default:=by unfold vecF;simp[h1]
  rw[←e2,this];rfl
 ·intro i hi
  rw[e.lead_at l h4 hi,hg i hi]
end Go.Proofs.YtjmjamhhppoimaaGreat.V
