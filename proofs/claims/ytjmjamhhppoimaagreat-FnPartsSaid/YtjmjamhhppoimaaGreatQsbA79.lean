/- Texts that the proof needs: A64, A80, A81, A79. -/
import Derived.Test.YtjmjamhhppoimaaGreatQsbA78
import Derived.Test.YtjmjamhhppoimaaGreatQsbC1
namespace Go.Proofs.YtjmjamhhppoimaaGreat.V
open Go.RowKit G D
set_option linter.unusedVariables false
set_option linter.unusedSimpArgs false
set_option maxHeartbeats 1000000
set_option maxRecDepth 4000
theorem fcF_bd{p:Int}{n:Nat}{l:List (List Int)}(h:VecB p n l):BdF p n l.length (fcF l):=fun i hi j hj=>(h (l.getD j default) (gm hj)).2 i hi
theorem kerV_bd{p:Int}{c:Nat}{g:Nat→Nat→Int}{piv:List Nat}{k:Nat}(hp:2≤p):∀n,∀j,j<c→0≤(kerV p c g piv k n).getD j default∧(kerV p c g piv k n).getD j default≤p-1
 |0,j,hj=>by
  have:=unitL_get (k:=k) hj
  show 0≤(unitL c k).getD j default∧_
  rw[kerV,this]
  split<;>omega
 |n+1,j,hj=>by
  rw[kerV]
  by_cases e:piv.getD n 0=j
  ·subst e
   rw[set_get (by rw[kerV_len];exact hj)]
   exact mod_bd (by omega)
  ·have e2:((kerV p c g piv k n).set (piv.getD n 0) (-(g n k)%p)).getD j default=(kerV p c g piv k n).getD j default:=set_ne e _
   rw[e2]
   exact kerV_bd hp n j hj
theorem kerL_vec{p:Int}{r c:Nat}{f:Nat→Nat→Int}(hp:2≤p):VecB p c (kerL p r c f):=fun x hx=>by
 simp only[kerL,List.mem_map] at hx
 obtain⟨k,_,rfl⟩:=hx
 exact⟨kerV_len ..,fun j hj=>kerV_bd hp _ j hj⟩
theorem kerL_le(p:Int)(r c:Nat)(f:Nat→Nat→Int):(kerL p r c f).length≤c:=by
 rw[kerL,List.length_map];exact freeL_le ..
def cmbV(p:Int)(n:Nat)(l:List (List Int))(k:List Int):Nat→List Int
 |0=>List.replicate n 0
 |m+1=>addK p (k.getD m default) 0 (l.getD m default) (cmbV p n l k m) n
theorem cmbV_len(p:Int)(n:Nat)(l:List (List Int))(k:List Int):∀m,(cmbV p n l k m).length=n
 |0=>by simp[cmbV]
 |m+1=>by rw[cmbV,addK_len,cmbV_len p n l k m]
theorem cmbV_bd{p:Int}{n:Nat}{l:List (List Int)}{k:List Int}(hp:2≤p):∀m,∀j,j<n→0≤(cmbV p n l k m).getD j default∧(cmbV p n l k m).getD j default≤p-1
 |0,j,hj=>by
  have:(cmbV p n l k 0).getD j default=0:=by simp[cmbV,hj]
  rw[this];omega
 |m+1,j,hj=>by
  have hl:=cmbV_len p n l k m
  have e:(cmbV p n l k (m+1)).getD j default=((cmbV p n l k m).getD j default+k.getD m default*(l.getD m default).getD j default)%p:=by
   rw[cmbV]
   simp only[addK,List.getD_eq_getElem?_getD,List.getElem?_map,List.getElem?_range (show j<(cmbV p n l k m).length by omega),Option.map_some,Option.getD_some]
   rw[if_pos (by omega)]
   rfl
  rw[e]
  exact mod_bd (by omega)
def metK(p:Int)(a b:Spc):List (List Int):=kerL p a.n.toNat (a.b++b.b).length (fcF (a.b++b.b))
def metL(p:Int)(a b:Spc):List (List Int):=(metK p a b).map fun k=>cmbV p a.n.toNat a.b k a.b.length
def metS(p:Int)(a b:Spc):Spc:=⟨a.n,spanL p a.n.toNat (metL p a b)⟩
theorem metL_vec{p:Int}{a b:Spc}(hp:2≤p):VecB p a.n.toNat (metL p a b):=fun x hx=>by
 simp only[metL,List.mem_map] at hx
 obtain⟨k,_,rfl⟩:=hx
 exact⟨cmbV_len ..,fun j hj=>cmbV_bd hp _ j hj⟩
theorem metL_len(p:Int)(a b:Spc):(metL p a b).length=(metK p a b).length:=by simp[metL]
theorem metK_le(p:Int)(a b:Spc):(metK p a b).length≤a.b.length+b.b.length:=by
 have:=kerL_le p a.n.toNat (a.b++b.b).length (fcF (a.b++b.b))
 rw[List.length_append] at this
 unfold metK
 rw[List.length_append]
 exact this
theorem metS_ok{p:Int}{a b:Spc}(ha:isSpc p a=true):isSpc p (metS p a b)=true:=by
 obtain⟨h1,h2,h3,h4⟩:=isSpc_spec ha
 have hp:=isF_pos h1
 have:=isSpc_span h1 (show a.n.toNat≤8 by omega) (metL_vec (a:=a) (b:=b) hp.1).bd
 rw[Int.toNat_of_nonneg h2.1] at this
 exact this
def kerS(p:Int)(m:Mat):Spc:=⟨m.c,spanL p m.c.toNat (kerL p m.r.toNat m.c.toNat (ent m))⟩
theorem kerS_ok{p:Int}{m:Mat}(h:isMat p m=true):isSpc p (kerS p m)=true:=by
 obtain⟨h0,h1,h2,h3,h4⟩:=isMat_spec h
 have hp:=isF_pos h0
 have:=isSpc_span h0 (show m.c.toNat≤8 by omega) (kerL_vec (r:=m.r.toNat) (c:=m.c.toNat) (f:=ent m) hp.1).bd
 rw[Int.toNat_of_nonneg h2.1] at this
 exact this
def idF:Nat→Nat→Int:=fun i j=>if i=j then 1 else 0
theorem idF_bd{p:Int}(hp:2≤p)(n:Nat):BdF p n n idF:=fun i _ j _=>by
 unfold idF;split<;>omega
theorem id_ech(n:Nat):Ech n n idF (List.range n):=by
 have hg:∀i,i<n→(List.range n).getD i 0=i:=fun i hi=>by simp[hi]
 refine⟨by simp,fun i hi=>?_,fun i j hij hj=>?_,fun i hi j hj=>?_,fun i hi=>?_,fun i hi j hj=>?_⟩
 ·simp at hi;rw[hg i hi];exact hi
 ·simp at hj;rw[hg i (by omega),hg j hj];exact hij
 ·simp at hi hj;rw[hg j hj];rfl
 ·simp at hi;intro h;omega
 ·simp at hi
  rw[hg i hi] at hj
  unfold idF
  rw[if_neg (by omega)]
theorem span_id{p:Int}{n:Nat}(hF:isF p=true):spanB p n n idF=rowsL n n idF:=by
 have hp:=isF_pos hF
 obtain⟨h1,h2⟩:=redK_ech hF (idF_bd hp.1 n) n (Nat.le_refl _)
 obtain⟨e1,e2⟩:=Ech.uniq hp.1 h1 (id_ech n) (redK_bd (by omega) (idF_bd hp.1 n) n).1 (idF_bd hp.1 n) h2.symm
 unfold spanB
 have hl:(redK p n idF n).2.length=n:=by rw[e1];simp
 rw[hl] at e2⊢
 exact rowsL_ext e2
def fulS(d:Int):Spc:=⟨d,rowsL d.toNat d.toNat idF⟩
theorem fulS_ok{p d:Int}(hF:isF p=true)(hd:0≤d∧d≤8):isSpc p (fulS d)=true:=by
 have hp:=isF_pos hF
 have:=isSpc_span hF (show d.toNat≤8 by omega) (idF_bd hp.1 d.toNat)
 rw[Int.toNat_of_nonneg hd.1,span_id hF] at this
 exact this
def socK(r:Rep):Nat→List Spc
 |0=>r.d.map fulS
 |k+1=>(socK r k).set (r.q.fr.getD k default).toNat (metS r.p ((socK r k).getD (r.q.fr.getD k default).toNat default) (kerS r.p (r.m.getD k default)))
theorem socK_len(r:Rep):∀k,(socK r k).length=r.d.length
 |0=>by simp[socK]
 |k+1=>by rw[socK,List.length_set,socK_len r k]
theorem socK_ok{r:Rep}(h:isRep r=true):∀k,k≤r.q.fr.length→∀v,v<r.d.length→((socK r k).getD v default).n=r.d.getD v default∧isSpc r.p ((socK r k).getD v default)=true
 |0,_,v,hv=>by
  obtain⟨h1,h2,h3,h4⟩:=isRep_spec h
  obtain⟨_,_,c3,_⟩:=areDims_spec h2
  have hd:0≤r.d.getD v default∧r.d.getD v default≤4:=allIn_spec c3 hv
  have e:(socK r 0).getD v default=fulS (r.d.getD v default):=by simp[socK,hv]
  rw[e]
  exact⟨rfl,fulS_ok h1 (by omega)⟩
 |k+1,hk,v,hv=>by
  obtain⟨h1,h2,h3,h4⟩:=isRep_spec h
  obtain⟨c1,c2,c3,_⟩:=areDims_spec h2
  have ih:=socK_ok h k (by omega)
  rw[socK]
  by_cases e:(r.q.fr.getD k default).toNat=v
  ·subst e
   obtain⟨i1,i2⟩:=ih _ hv
   rw[set_get (by rw[socK_len];exact hv)]
   exact⟨i1,metS_ok i2⟩
  ·rw[set_ne e _];exact ih v hv
def subF(p:Int)(m:Mat)(a b:Spc):Nat→Nat→Int:=fun i j=>(appV p m (a.b.getD j default)).getD (leadV (b.b.getD i default)).toNat default
def subM(p:Int)(m:Mat)(a b:Spc):Mat:=tm b.b.length a.b.length (subF p m a b)
def subA(r:Rep)(s:List Spc)(i:Nat):Mat:=subM r.p (r.m.getD i default) (s.getD (r.q.fr.getD i default).toNat default) (s.getD (r.q.to.getD i default).toNat default)
def subMs(r:Rep)(s:List Spc):List Mat:=(List.range r.m.length).map (subA r s)
theorem subMs_len(r:Rep)(s:List Spc):(subMs r s).length=r.m.length:=by simp[subMs]
theorem subMs_get(r:Rep)(s:List Spc){i:Nat}(hi:i<r.m.length):(subMs r s).getD i default=subA r s i:=by simp[subMs,hi]
def subR(r:Rep)(s:List Spc):Rep:=⟨r.p,r.q,dimS s,subMs r s⟩
def incM(s:Spc):Mat:=tm s.n.toNat s.b.length (fcF s.b)
def incL(s:List Spc):List Mat:=s.map incM
theorem incL_len(s:List Spc):(incL s).length=s.length:=by simp[incL]
theorem incL_take{s:List Spc}{k:Nat}(h:k<s.length):(incL s).take (k+1)=(incL s).take k++[incM (s.getD k default)]:=by
 have e:s.getD k default=s[k]:=by simp[h]
 rw[incL,List.take_succ_eq_append_getElem (by simpa using h),e]
 simp
theorem dimS_get{s:List Spc}{v:Nat}(h:v<s.length):(dimS s).getD v default=((s.getD v default).b.length:Int):=by simp[dimS,h]
theorem isSpc_le{p:Int}{s:Spc}(h:isSpc p s=true):s.b.length≤s.n.toNat:=by
 obtain⟨h1,h2,h3,h4⟩:=isSpc_spec h
 have hp:=isF_pos h1
 simp only[isSpc,Bool.and_eq_true,decide_eq_true_eq] at h
 have:=(spanB_le (show 0<p by omega) h4.bd).2
 rw[show spanB p s.b.length s.n.toNat (vecF s.b)=s.b from h.2] at this
 exact this
theorem lead_lt{p:Int}{s:Spc}(h:isSpc p s=true){i:Nat}(hi:i<s.b.length):0≤leadV (s.b.getD i default)∧(leadV (s.b.getD i default)).toNat<s.n.toNat:=by
 obtain⟨h1,h2,h3,h4⟩:=isSpc_spec h
 obtain⟨piv,e,l⟩:=isSpc_ech h
 rw[e.lead_at l h4 hi]
 have:=e.lt i (by omega)
 exact⟨by omega,by rw[Int.toNat_natCast];exact this⟩
theorem sum_le:∀{a b:List Int},a.length=b.length→(∀j,j<a.length→a.getD j default≤b.getD j default)→a.sum≤b.sum
 |[],[],_,_=>by simp
 |x::a,y::b,hl,h=>by
  have h1:=h 0 (by simp)
  have h2:=sum_le (a:=a) (b:=b) (by simpa using hl) fun j hj=>by simpa using h (j+1) (by simpa using hj)
  simp only[List.getD_cons_zero] at h1
  simp only[List.sum_cons]
  omega
theorem sum_eq_of:∀{a b:List Int},a.length=b.length→(∀j,j<a.length→a.getD j default≤b.getD j default)→a.sum=b.sum→a=b
 |[],[],_,_,_=>rfl
 |x::a,y::b,hl,h,he=>by
  have h1:=h 0 (by simp)
  have hh:∀j,j<a.length→a.getD j default≤b.getD j default:=fun j hj=>by simpa using h (j+1) (by simpa using hj)
  have h2:=sum_le (a:=a) (b:=b) (by simpa using hl) hh
  simp only[List.getD_cons_zero] at h1
  simp only[List.sum_cons] at he
  have:x=y:=by omega
  subst this
  rw[sum_eq_of (by simpa using hl) hh (by omega)]
theorem sub_dims{r:Rep}{s:List Spc}(h:isSub r s=true):(dimS s).length=r.d.length∧(∀v,v<r.d.length→0≤(dimS s).getD v default∧(dimS s).getD v default≤r.d.getD v default)∧(dimS s).sum≤r.d.sum∧∀v,v<r.d.length→(dimS s).getD v default≤4:=by
 obtain⟨h1,h2,h3,h4⟩:=isSub_spec h
 obtain⟨r1,r2,r3,r4⟩:=isRep_spec h1
 obtain⟨c1,c2,c3,_⟩:=areDims_spec r2
 have hl:=dimS_len s
 have key:∀v,v<r.d.length→0≤(dimS s).getD v default∧(dimS s).getD v default≤r.d.getD v default:=fun v hv=>by
  obtain⟨a1,a2⟩:=h3 v (by omega)
  have hd:0≤r.d.getD v default∧r.d.getD v default≤4:=allIn_spec c3 hv
  have:=isSpc_le a1
  rw[dimS_get (by omega)]
  omega
 refine⟨by omega,key,sum_le (by omega) fun j hj=>(key j (by omega)).2,fun v hv=>?_⟩
 have hd:0≤r.d.getD v default∧r.d.getD v default≤4:=allIn_spec c3 hv
 have:=key v hv
 omega
theorem subA_ok{r:Rep}{s:List Spc}(h:isSub r s=true){i:Nat}(hi:i<r.m.length):isMat r.p (subA r s i)=true:=by
 obtain⟨h1,h2,h3,h4⟩:=isSub_spec h
 obtain⟨r1,r2,r3,r4⟩:=isRep_spec h1
 obtain⟨m1,m2,m3,m4,m5⟩:=arrow_ok h1 hi
 have hp:=isF_pos r1
 obtain⟨f1,f2⟩:=h3 _ (show(r.q.fr.getD i default).toNat<s.length by omega)
 obtain⟨t1,t2⟩:=h3 _ (show(r.q.to.getD i default).toNat<s.length by omega)
 have e1:=isSpc_le f1
 have e2:=isSpc_le t1
 have n1:=(isSpc_spec f1).2.1
 have n2:=(isSpc_spec t1).2.1
 refine isMat_tab r1 (by omega) (by omega) fun a ha b hb=>?_
 have:=lead_lt t1 ha
 rw[t2,←m5] at this
 exact appV_bd (by omega) _ _ this.2
theorem subR_ok{r:Rep}{s:List Spc}(h:isSub r s=true):isRep (subR r s)=true:=by
 obtain⟨h1,h2,h3,h4⟩:=isSub_spec h
 obtain⟨r1,r2,r3,r4⟩:=isRep_spec h1
 obtain⟨c1,c2,c3,c4⟩:=areDims_spec r2
 obtain⟨d1,d2,d3,d4⟩:=sub_dims h
 have hA:areDims (subR r s).q (subR r s).d=true:=by
  simp only[areDims,Bool.and_eq_true,decide_eq_true_eq]
  refine⟨⟨⟨c1,?_⟩,allIn_all fun j hj=>?_⟩,?_⟩
  ·show((dimS s).length:Int)=r.q.n
   omega
  ·have hj:j<(dimS s).length:=hj
   exact⟨(d2 j (by omega)).1,d4 j (by omega)⟩
  ·show(dimS s).sum≤8
   omega
 have hml:(subR r s).m.length=r.m.length:=subMs_len r s
 simp only[isRep,Bool.and_eq_true,decide_eq_true_eq,List.all_eq_true]
 refine⟨⟨⟨r1,hA⟩,by show(subR r s).m.length=r.q.fr.length;omega⟩,fun i hi=>?_⟩
 have hi:i<r.m.length:=by rw[List.mem_range] at hi;omega
 obtain⟨m1,m2,m3,m4,m5⟩:=arrow_ok h1 hi
 simp only[fitM,Bool.and_eq_true,decide_eq_true_eq]
 have e:(subR r s).m.getD i default=subA r s i:=subMs_get r s hi
 rw[e]
 refine⟨⟨subA_ok h hi,?_⟩,?_⟩
 ·show((s.getD (r.q.fr.getD i default).toNat default).b.length:Int)=(dimS s).getD (r.q.fr.getD i default).toNat default
  rw[dimS_get (by omega)]
 ·show((s.getD (r.q.to.getD i default).toNat default).b.length:Int)=(dimS s).getD (r.q.to.getD i default).toNat default
  rw[dimS_get (by omega)]
def radR(r:Rep):Rep:=subR r (radL r)
def layR:Nat→Rep→List (List Int)→List (List Int)×Bool
 |0,_,_=>([],false)
 |f+1,x,out=>if x.d.sum=0 then(out,true) else layR f (radR x) (out++[topD x])
theorem zsum:∀n:Nat,(List.replicate n (0:Int)).sum=0
 |0=>rfl
 |n+1=>by rw[List.replicate_succ,List.sum_cons,zsum n];rfl
theorem rep_sum{r:Rep}(h:isRep r=true):0≤r.d.sum∧r.d.sum≤8:=by
 obtain⟨h1,h2,h3,h4⟩:=isRep_spec h
 obtain⟨c1,c2,c3,c4⟩:=areDims_spec h2
 have:(List.replicate r.d.length (0:Int)).sum≤r.d.sum:=sum_le (by simp) fun j hj=>by
  have hj:j<r.d.length:=by simpa using hj
  have hd:0≤r.d.getD j default∧r.d.getD j default≤4:=allIn_spec c3 hj
  have e:(List.replicate r.d.length (0:Int)).getD j default=0:=by simp[hj]
  rw[e];exact hd.1
 rw[zsum] at this
 exact⟨this,c4⟩
structure LayI (r0:Rep) (f:Nat) (x:Rep) (out:List (List Int)):Prop where
 ok:isRep x=true
 lt:x.d.sum+1≤f
 eq:layR 9 r0 []=layR f x out
 le:f≤9
 ln:out.length+f=9
theorem LayI.start{r:Rep}(h:isRep r=true):LayI r 9 r []:=⟨h,by have:=rep_sum h;omega,rfl,by omega,rfl⟩
def dotV(f:Nat→Int)(x:List Int)(c:Nat):Int:=sumN (fun j=>f j*x.getD j default) c
theorem dotV_set(f:Nat→Int)(x:List Int)(a:Nat)(y:Int)(ha:a<x.length):∀c,dotV f (x.set a y) c=dotV f x c+if a<c then f a*(y-x.getD a default) else 0
 |0=>by simp[dotV,sumN]
 |c+1=>by
  have ih:=dotV_set f x a y ha c
  simp only[dotV,sumN] at ih⊢
  rw[ih]
  by_cases e:a=c
  ·subst e
   rw[set_get ha,if_neg (by omega),if_pos (by omega),Int.mul_sub];omega
  ·rw[set_ne e _]
   by_cases e2:a<c
   ·rw[if_pos e2,if_pos (by omega)];omega
   ·rw[if_neg e2,if_neg (by omega)];omega
theorem dotV_unit(f:Nat→Int)(n k:Nat)(hk:k<n):dotV f (unitL n k) n=f k:=by
 have h:=sumN_one f k n
 rw[if_pos hk] at h
 rw[←h]
 exact sumN_eq _ fun j hj=>by rw[unitL_get hj,Int.mul_comm]
theorem kerV_free{p:Int}{c:Nat}{g:Nat→Nat→Int}{piv:List Nat}{k j:Nat}(hj:j<c):∀n,(∀i,i<n→piv.getD i 0≠j)→(kerV p c g piv k n).getD j default=if j=k then 1 else 0
 |0,_=>unitL_get hj
 |n+1,h=>by
  rw[kerV,set_ne (h n (by omega)) _]
  exact kerV_free hj n fun i hi=>h i (by omega)
theorem ker_dot {p : Int} {r c : Nat} {g : Nat → Nat → Int} {piv : List Nat} (h : Ech r c g piv) {k : Nat} (hk : k < c) (hkp : k ∉ piv) {i : Nat} (hi : i < piv.length) : ∀ n, n ≤ piv.length → Cg p (dotV (g i) (kerV p c g piv k n) c) (if i < n then 0 else g i k)
  | 0, _ => by rw [kerV, dotV_unit _ _ _ hk, if_neg (by omega)]; exact .refl _
  | n + 1, hn => by
    have ih := ker_dot (p := p) h hk hkp hi n (by omega)
    have hpn := h.lt n (by omega)
    have hne : piv.getD n 0 ≠ k := fun e => hkp (by rw [← e]; have : n < piv.length := by omega
                                                    simp [this])
    have h0 : (kerV p c g piv k n).getD (piv.getD n 0) default = 0 := by
      rw [kerV_free hpn n fun t ht => by have := h.inc t n ht (by omega); omega, if_neg hne]
    rw [kerV, dotV_set _ _ _ _ (by rw [kerV_len]; exact hpn), if_pos hpn, h0, Int.sub_zero, h.one i hi n (by omega)]
    by_cases e : i = n
    · subst e
      rw [if_pos rfl, if_pos (by omega), Int.one_mul]
      rw [if_neg (by omega)] at ih
      have := ih.add (Cg.mod p (-(g i k)))
      rwa [show g i k + -(g i k) = 0 by omega] at this
    · rw [if_neg e, Int.zero_mul, Int.add_zero]
      by_cases e2 : i < n
      · rw [if_pos e2] at ih; rw [if_pos (by omega)]; exact ih
      · rw [if_neg e2] at ih; rw [if_neg (by omega)]; exact ih
theorem dotV_cg{p:Int}{f g:Nat→Int}{x:List Int}{c:Nat}(h:∀j,j<c→Cg p (f j) (g j)):Cg p (dotV f x c) (dotV g x c):=sumN_cg _ fun j hj=>(h j hj).mul (.refl _)
theorem dotV_comb(co:Nat→Int)(f:Nat→Nat→Int)(x:List Int)(c r:Nat):dotV (fun j=>sumN (fun i=>co i*f i j) r) x c=sumN (fun i=>co i*dotV (f i) x c) r:=by
 unfold dotV
 rw[sumN_eq (g:=fun j=>sumN (fun i=>co i*f i j*x.getD j default) r) _ fun j _=>by
  rw[Int.mul_comm,←sumN_mul]
  exact sumN_eq _ fun i _=>Int.mul_comm ..,sumN_swap]
 refine sumN_eq _ fun i _=>?_
 rw[←sumN_mul]
 exact sumN_eq _ fun j _=>Int.mul_assoc ..
theorem kerL_spec{p:Int}{r c:Nat}{f:Nat→Nat→Int}(hF:isF p=true)(hb:BdF p r c f){x:List Int}(hx:x∈kerL p r c f):(∀i,i<r→Cg p (dotV (f i) x c) 0)∧∃j,j<c∧x.getD j default=1:=by
 obtain⟨h1,h2⟩:=redK_ech hF hb c (Nat.le_refl _)
 simp only[kerL,List.mem_map] at hx
 obtain⟨k,hk,rfl⟩:=hx
 obtain⟨k1,k2⟩:=freeL_lt k hk
 constructor
 ·intro i hi
  obtain⟨co,e⟩:=h2.1 i hi
  refine(dotV_cg e).trans ?_
  rw[dotV_comb]
  refine(sumN_cg (g:=fun _=>0) _ fun t ht=>?_).trans (by rw[sumN_zero (h:=fun _=>0) _ fun _ _=>rfl];exact .refl _)
  have hz:Cg p (dotV ((redK p r f c).1 t) (kerV p c (redK p r f c).1 (redK p r f c).2 k (redK p r f c).2.length) c) 0:=by
   by_cases et:t<(redK p r f c).2.length
   ·have:=ker_dot (p:=p) h1 k1 k2 et _ (Nat.le_refl _)
    rwa [if_pos et] at this
   ·refine(dotV_cg (g:=fun _=>0) fun j hj=>by rw[h1.low t (by omega) ht j hj];exact .refl _).trans ?_
    unfold dotV
    rw[sumN_zero _ fun j _=>Int.zero_mul _];exact .refl _
  have:=(Cg.refl (co t)).mul hz
  rwa [Int.mul_zero] at this
 ·refine⟨k,k1,?_⟩
  rw[kerV_free k1 _ fun i hi e=>k2 (by rw[←e];simp[hi]),if_pos rfl]
theorem cmbV_cg{p:Int}{n:Nat}{l:List (List Int)}{k:List Int}{t:Nat}(ht:t<n):∀m,Cg p ((cmbV p n l k m).getD t default) (sumN (fun i=>k.getD i default*vecF l i t) m)
 |0=>by
  have:(cmbV p n l k 0).getD t default=0:=by simp[cmbV,ht]
  rw[this];exact .refl _
 |m+1=>by
  rw[cmbV,addK_get0 _ _ _ _ (by rw[cmbV_len];exact ht) ht,sumN]
  exact(Cg.mod _ _).trans ((cmbV_cg ht m).add (.refl _))
theorem Ech.indep{p:Int}{n m:Nat}{g:Nat→Nat→Int}{piv:List Nat}(h:Ech m n g piv)(hl:piv.length=m){co:Nat→Int}(h0:∀t,t<n→Cg p (sumN (fun i=>co i*g i t) m) 0){i:Nat}(hi:i<m):Cg p (co i) 0:=by
 have h1:=h0 _ (h.lt i (by omega))
 rw[sumN_eq (g:=fun t=>(if t=i then 1 else 0)*co t) _ fun t ht=>by rw[h.one t (by omega) i (by omega),Int.mul_comm],sumN_one,if_pos hi] at h1
 exact h1
theorem sumN_split(h:Nat→Int)(a:Nat):∀b,sumN h (a+b)=sumN h a+sumN (fun i=>h (a+i)) b
 |0=>by simp[sumN]
 |b+1=>by rw[←Nat.add_assoc,sumN,sumN_split h a b,sumN];omega
theorem rowsL_fc{p:Int}{n:Nat}{l:List (List Int)}(hv:VecB p n l):(rowsL l.length n fun k i=>fcF l i k)=l:=by
 apply List.ext_getElem (by simp[rowsL])
 intro i h1 h2
 have hl:=(hv _ (List.getElem_mem h2)).1
 simp only[rowsL,List.getElem_map,List.getElem_range]
 have:=rowL_of hl
 rw[←this]
 exact rowL_ext fun j hj=>by simp[fcF,h2]
end Go.Proofs.YtjmjamhhppoimaaGreat.V
