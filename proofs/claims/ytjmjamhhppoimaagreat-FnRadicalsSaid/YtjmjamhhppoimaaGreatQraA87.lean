/- Texts that the proof needs: A79, A80, A84, A26, A73, A87. -/
import Derived.Test.YtjmjamhhppoimaaGreatQraC2
namespace Go.Proofs.YtjmjamhhppoimaaGreat.V
open Go.RowKit G D
set_option linter.unusedVariables false
set_option linter.unusedSimpArgs false
set_option maxHeartbeats 1000000
set_option maxRecDepth 4000
def dotV(f:Nat→Int)(x:List Int)(c:Nat):Int:=sumN (fun j=>f j*x.getD j default) c
theorem dotV_set(f:Nat→Int)(x:List Int)(a:Nat)(y:Int)(ha:a<x.length):∀c,dotV f (x.set a y) c=dotV f x c+if a<c then f a*(y-x.getD a default) else 0
 |0=>by simp[dotV,sumN]
 |c+1=>by
  have ih:=dotV_set f x a y ha c
  simp only[dotV,sumN] at ih⊢
  rw[ih]
  by_cases e:a=c
  ·subst e
   rw[set_get ha,if_neg (by omega),if_pos (by omega),Int.mul_sub];omega
  ·rw[set_ne e _]
   by_cases e2:a<c
   ·rw[if_pos e2,if_pos (by omega)];omega
   ·rw[if_neg e2,if_neg (by omega)];omega
theorem dotV_unit(f:Nat→Int)(n k:Nat)(hk:k<n):dotV f (unitL n k) n=f k:=by
 have h:=sumN_one f k n
 rw[if_pos hk] at h
 rw[←h]
 exact sumN_eq _ fun j hj=>by rw[unitL_get hj,Int.mul_comm]
theorem kerV_free{p:Int}{c:Nat}{g:Nat→Nat→Int}{piv:List Nat}{k j:Nat}(hj:j<c):∀n,(∀i,i<n→piv.getD i 0≠j)→(kerV p c g piv k n).getD j default=if j=k then 1 else 0
 |0,_=>unitL_get hj
 |n+1,h=>by
  rw[kerV,set_ne (h n (by omega)) _]
  exact kerV_free hj n fun i hi=>h i (by omega)
theorem ker_dot {p : Int} {r c : Nat} {g : Nat → Nat → Int} {piv : List Nat} (h : Ech r c g piv) {k : Nat} (hk : k < c) (hkp : k ∉ piv) {i : Nat} (hi : i < piv.length) : ∀ n, n ≤ piv.length → Cg p (dotV (g i) (kerV p c g piv k n) c) (if i < n then 0 else g i k)
  | 0, _ => by rw [kerV, dotV_unit _ _ _ hk, if_neg (by omega)]; exact .refl _
  | n + 1, hn => by
    have ih := ker_dot (p := p) h hk hkp hi n (by omega)
    have hpn := h.lt n (by omega)
    have hne : piv.getD n 0 ≠ k := fun e => hkp (by rw [← e]; have : n < piv.length := by omega
                                                    simp [this])
    have h0 : (kerV p c g piv k n).getD (piv.getD n 0) default = 0 := by
      rw [kerV_free hpn n fun t ht => by have := h.inc t n ht (by omega); omega, if_neg hne]
    rw [kerV, dotV_set _ _ _ _ (by rw [kerV_len]; exact hpn), if_pos hpn, h0, Int.sub_zero, h.one i hi n (by omega)]
    by_cases e : i = n
    · subst e
      rw [if_pos rfl, if_pos (by omega), Int.one_mul]
      rw [if_neg (by omega)] at ih
      have := ih.add (Cg.mod p (-(g i k)))
      rwa [show g i k + -(g i k) = 0 by omega] at this
    · rw [if_neg e, Int.zero_mul, Int.add_zero]
      by_cases e2 : i < n
      · rw [if_pos e2] at ih; rw [if_pos (by omega)]; exact ih
      · rw [if_neg e2] at ih; rw [if_neg (by omega)]; exact ih
theorem dotV_cg{p:Int}{f g:Nat→Int}{x:List Int}{c:Nat}(h:∀j,j<c→Cg p (f j) (g j)):Cg p (dotV f x c) (dotV g x c):=sumN_cg _ fun j hj=>(h j hj).mul (.refl _)
theorem dotV_comb(co:Nat→Int)(f:Nat→Nat→Int)(x:List Int)(c r:Nat):dotV (fun j=>sumN (fun i=>co i*f i j) r) x c=sumN (fun i=>co i*dotV (f i) x c) r:=by
 unfold dotV
 rw[sumN_eq (g:=fun j=>sumN (fun i=>co i*f i j*x.getD j default) r) _ fun j _=>by
  rw[Int.mul_comm,←sumN_mul]
  exact sumN_eq _ fun i _=>Int.mul_comm ..,sumN_swap]
 refine sumN_eq _ fun i _=>?_
 rw[←sumN_mul]
 exact sumN_eq _ fun j _=>Int.mul_assoc ..
theorem kerL_spec{p:Int}{r c:Nat}{f:Nat→Nat→Int}(hF:isF p=true)(hb:BdF p r c f){x:List Int}(hx:x∈kerL p r c f):(∀i,i<r→Cg p (dotV (f i) x c) 0)∧∃j,j<c∧x.getD j default=1:=by
 obtain⟨h1,h2⟩:=redK_ech hF hb c (Nat.le_refl _)
 simp only[kerL,List.mem_map] at hx
 obtain⟨k,hk,rfl⟩:=hx
 obtain⟨k1,k2⟩:=freeL_lt k hk
 constructor
 ·intro i hi
  obtain⟨co,e⟩:=h2.1 i hi
  refine(dotV_cg e).trans ?_
  rw[dotV_comb]
  refine(sumN_cg (g:=fun _=>0) _ fun t ht=>?_).trans (by rw[sumN_zero (h:=fun _=>0) _ fun _ _=>rfl];exact .refl _)
  have hz:Cg p (dotV ((redK p r f c).1 t) (kerV p c (redK p r f c).1 (redK p r f c).2 k (redK p r f c).2.length) c) 0:=by
   by_cases et:t<(redK p r f c).2.length
   ·have:=ker_dot (p:=p) h1 k1 k2 et _ (Nat.le_refl _)
    rwa [if_pos et] at this
   ·refine(dotV_cg (g:=fun _=>0) fun j hj=>by rw[h1.low t (by omega) ht j hj];exact .refl _).trans ?_
    unfold dotV
    rw[sumN_zero _ fun j _=>Int.zero_mul _];exact .refl _
  have:=(Cg.refl (co t)).mul hz
  rwa [Int.mul_zero] at this
 ·refine⟨k,k1,?_⟩
  rw[kerV_free k1 _ fun i hi e=>k2 (by rw[←e];simp[hi]),if_pos rfl]
theorem cmbV_cg{p:Int}{n:Nat}{l:List (List Int)}{k:List Int}{t:Nat}(ht:t<n):∀m,Cg p ((cmbV p n l k m).getD t default) (sumN (fun i=>k.getD i default*vecF l i t) m)
 |0=>by
  have:(cmbV p n l k 0).getD t default=0:=by simp[cmbV,ht]
  rw[this];exact .refl _
 |m+1=>by
  rw[cmbV,addK_get0 _ _ _ _ (by rw[cmbV_len];exact ht) ht,sumN]
  exact(Cg.mod _ _).trans ((cmbV_cg ht m).add (.refl _))
theorem sumN_split(h:Nat→Int)(a:Nat):∀b,sumN h (a+b)=sumN h a+sumN (fun i=>h (a+i)) b
 |0=>by simp[sumN]
 |b+1=>by rw[←Nat.add_assoc,sumN,sumN_split h a b,sumN];omega
def subF(p:Int)(m:Mat)(a b:Spc):Nat→Nat→Int:=fun i j=>(appV p m (a.b.getD j default)).getD (leadV (b.b.getD i default)).toNat default
def subM(p:Int)(m:Mat)(a b:Spc):Mat:=tm b.b.length a.b.length (subF p m a b)
def subA(r:Rep)(s:List Spc)(i:Nat):Mat:=subM r.p (r.m.getD i default) (s.getD (r.q.fr.getD i default).toNat default) (s.getD (r.q.to.getD i default).toNat default)
def subMs(r:Rep)(s:List Spc):List Mat:=(List.range r.m.length).map (subA r s)
theorem subMs_len(r:Rep)(s:List Spc):(subMs r s).length=r.m.length:=by simp[subMs]
theorem subMs_get(r:Rep)(s:List Spc){i:Nat}(hi:i<r.m.length):(subMs r s).getD i default=subA r s i:=by simp[subMs,hi]
def subR(r:Rep)(s:List Spc):Rep:=⟨r.p,r.q,dimS s,subMs r s⟩
def incM(s:Spc):Mat:=tm s.n.toNat s.b.length (fcF s.b)
def incL(s:List Spc):List Mat:=s.map incM
theorem incL_len(s:List Spc):(incL s).length=s.length:=by simp[incL]
theorem incL_take{s:List Spc}{k:Nat}(h:k<s.length):(incL s).take (k+1)=(incL s).take k++[incM (s.getD k default)]:=by
 have e:s.getD k default=s[k]:=by simp[h]
 rw[incL,List.take_succ_eq_append_getElem (by simpa using h),e]
 simp
theorem dimS_get{s:List Spc}{v:Nat}(h:v<s.length):(dimS s).getD v default=((s.getD v default).b.length:Int):=by simp[dimS,h]
theorem isSpc_le{p:Int}{s:Spc}(h:isSpc p s=true):s.b.length≤s.n.toNat:=by
 obtain⟨h1,h2,h3,h4⟩:=isSpc_spec h
 have hp:=isF_pos h1
 simp only[isSpc,Bool.and_eq_true,decide_eq_true_eq] at h
 have:=(spanB_le (show 0<p by omega) h4.bd).2
 rw[show spanB p s.b.length s.n.toNat (vecF s.b)=s.b from h.2] at this
 exact this
theorem lead_lt{p:Int}{s:Spc}(h:isSpc p s=true){i:Nat}(hi:i<s.b.length):0≤leadV (s.b.getD i default)∧(leadV (s.b.getD i default)).toNat<s.n.toNat:=by
 obtain⟨h1,h2,h3,h4⟩:=isSpc_spec h
 obtain⟨piv,e,l⟩:=isSpc_ech h
 rw[e.lead_at l h4 hi]
 have:=e.lt i (by omega)
 exact⟨by omega,by rw[Int.toNat_natCast];exact this⟩
theorem sum_le:∀{a b:List Int},a.length=b.length→(∀j,j<a.length→a.getD j default≤b.getD j default)→a.sum≤b.sum
 |[],[],_,_=>by simp
 |x::a,y::b,hl,h=>by
  have h1:=h 0 (by simp)
  have h2:=sum_le (a:=a) (b:=b) (by simpa using hl) fun j hj=>by simpa using h (j+1) (by simpa using hj)
  simp only[List.getD_cons_zero] at h1
  simp only[List.sum_cons]
  omega
theorem sum_eq_of:∀{a b:List Int},a.length=b.length→(∀j,j<a.length→a.getD j default≤b.getD j default)→a.sum=b.sum→a=b
 |[],[],_,_,_=>rfl
 |x::a,y::b,hl,h,he=>by
  have h1:=h 0 (by simp)
  have hh:∀j,j<a.length→a.getD j default≤b.getD j default:=fun j hj=>by simpa using h (j+1) (by simpa using hj)
  have h2:=sum_le (a:=a) (b:=b) (by simpa using hl) hh
  simp only[List.getD_cons_zero] at h1
  simp only[List.sum_cons] at he
  have:x=y:=by omega
  subst this
  rw[sum_eq_of (by simpa using hl) hh (by omega)]
theorem sub_dims{r:Rep}{s:List Spc}(h:isSub r s=true):(dimS s).length=r.d.length∧(∀v,v<r.d.length→0≤(dimS s).getD v default∧(dimS s).getD v default≤r.d.getD v default)∧(dimS s).sum≤r.d.sum∧∀v,v<r.d.length→(dimS s).getD v default≤4:=by
 obtain⟨h1,h2,h3,h4⟩:=isSub_spec h
 obtain⟨r1,r2,r3,r4⟩:=isRep_spec h1
 obtain⟨c1,c2,c3,_⟩:=areDims_spec r2
 have hl:=dimS_len s
 have key:∀v,v<r.d.length→0≤(dimS s).getD v default∧(dimS s).getD v default≤r.d.getD v default:=fun v hv=>by
  obtain⟨a1,a2⟩:=h3 v (by omega)
  have hd:0≤r.d.getD v default∧r.d.getD v default≤4:=allIn_spec c3 hv
  have:=isSpc_le a1
  rw[dimS_get (by omega)]
  omega
 refine⟨by omega,key,sum_le (by omega) fun j hj=>(key j (by omega)).2,fun v hv=>?_⟩
 have hd:0≤r.d.getD v default∧r.d.getD v default≤4:=allIn_spec c3 hv
 have:=key v hv
 omega
theorem subA_ok{r:Rep}{s:List Spc}(h:isSub r s=true){i:Nat}(hi:i<r.m.length):isMat r.p (subA r s i)=true:=by
 obtain⟨h1,h2,h3,h4⟩:=isSub_spec h
 obtain⟨r1,r2,r3,r4⟩:=isRep_spec h1
 obtain⟨m1,m2,m3,m4,m5⟩:=arrow_ok h1 hi
 have hp:=isF_pos r1
 obtain⟨f1,f2⟩:=h3 _ (show(r.q.fr.getD i default).toNat<s.length by omega)
 obtain⟨t1,t2⟩:=h3 _ (show(r.q.to.getD i default).toNat<s.length by omega)
 have e1:=isSpc_le f1
 have e2:=isSpc_le t1
 have n1:=(isSpc_spec f1).2.1
 have n2:=(isSpc_spec t1).2.1
 refine isMat_tab r1 (by omega) (by omega) fun a ha b hb=>?_
 have:=lead_lt t1 ha
 rw[t2,←m5] at this
 exact appV_bd (by omega) _ _ this.2
theorem subR_ok{r:Rep}{s:List Spc}(h:isSub r s=true):isRep (subR r s)=true:=by
 obtain⟨h1,h2,h3,h4⟩:=isSub_spec h
 obtain⟨r1,r2,r3,r4⟩:=isRep_spec h1
 obtain⟨c1,c2,c3,c4⟩:=areDims_spec r2
 obtain⟨d1,d2,d3,d4⟩:=sub_dims h
 have hA:areDims (subR r s).q (subR r s).d=true:=by
  simp only[areDims,Bool.and_eq_true,decide_eq_true_eq]
  refine⟨⟨⟨c1,?_⟩,allIn_all fun j hj=>?_⟩,?_⟩
  ·show((dimS s).length:Int)=r.q.n
   omega
  ·have hj:j<(dimS s).length:=hj
   exact⟨(d2 j (by omega)).1,d4 j (by omega)⟩
  ·show(dimS s).sum≤8
   omega
 have hml:(subR r s).m.length=r.m.length:=subMs_len r s
 simp only[isRep,Bool.and_eq_true,decide_eq_true_eq,List.all_eq_true]
 refine⟨⟨⟨r1,hA⟩,by show(subR r s).m.length=r.q.fr.length;omega⟩,fun i hi=>?_⟩
 have hi:i<r.m.length:=by rw[List.mem_range] at hi;omega
 obtain⟨m1,m2,m3,m4,m5⟩:=arrow_ok h1 hi
 simp only[fitM,Bool.and_eq_true,decide_eq_true_eq]
 have e:(subR r s).m.getD i default=subA r s i:=subMs_get r s hi
 rw[e]
 refine⟨⟨subA_ok h hi,?_⟩,?_⟩
 ·show((s.getD (r.q.fr.getD i default).toNat default).b.length:Int)=(dimS s).getD (r.q.fr.getD i default).toNat default
  rw[dimS_get (by omega)]
 ·show((s.getD (r.q.to.getD i default).toNat default).b.length:Int)=(dimS s).getD (r.q.to.getD i default).toNat default
  rw[dimS_get (by omega)]
theorem full_b{p:Int}{s:Spc}(h:isSpc p s=true)(hl:s.b.length=s.n.toNat):s.b=rowsL s.n.toNat s.n.toNat idF∧∀i,i<s.b.length→leadV (s.b.getD i default)=i:=by
 obtain⟨h1,h2,h3,h4⟩:=isSpc_spec h
 obtain⟨piv,e,l⟩:=isSpc_ech h
 have hpv:piv=List.range s.n.toNat:=inc_sub e.pw List.pairwise_lt_range (fun x hx=>by
  obtain⟨i,hi,ex⟩:=List.getElem_of_mem hx
  have:=e.lt i hi
  simp[hi] at this
  simp;omega) (by simp;omega)
 have hg:∀i,i<s.b.length→piv.getD i 0=i:=fun i hi=>by
  rw[hpv];simp[show i<s.n.toNat by omega]
 constructor
 ·apply List.ext_getElem (by rw[rowsL_len];exact hl)
  intro i h1 h2
  have hi:=(h4 _ (List.getElem_mem h1)).1
  have hrow:=rowL_of hi
  rw[←hrow]
  simp only[rowsL,List.getElem_map,List.getElem_range]
  refine rowL_ext fun j hj=>?_
  have:=e.one i (by omega) j (by omega)
  rw[hg j (by omega)] at this
  have e2:vecF s.b i j=(s.b[i]).getD j default:=by unfold vecF;simp[h1]
  rw[←e2,this];rfl
 ·intro i hi
  rw[e.lead_at l h4 hi,hg i hi]
theorem appV_unit{p:Int}{m:Mat}(h:isMat p m=true){i j:Nat}(hi:i<m.r.toNat)(hj:j<m.c.toNat):(appV p m (rowL m.c.toNat (idF j))).getD i default=ent m i j:=by
 rw[appV_get p m _ hi]
 have e:sumN (fun k=>ent m i k*(rowL m.c.toNat (idF j)).getD k default) m.c.toNat=ent m i j:=by
  rw[sumN_eq (g:=fun k=>(if k=j then 1 else 0)*ent m i k) _ fun k hk=>by
   rw[rowL_get _ hk,Int.mul_comm]
   unfold idF
   by_cases e:j=k
   ·subst e;rfl
   ·rw[if_neg e,if_neg (fun h=>e h.symm)],sumN_one,if_pos hj]
 rw[e]
 have:=ent_bd h i hi j hj
 exact Int.emod_eq_of_lt this.1 (by omega)
theorem subR_full{r:Rep}{s:List Spc}(h:isSub r s=true)(hd:dimS s=r.d):subR r s=r:=by
 obtain⟨h1,h2,h3,h4⟩:=isSub_spec h
 have key:∀v,v<s.length→isSpc r.p (s.getD v default)=true∧(s.getD v default).n=r.d.getD v default∧(s.getD v default).b.length=(s.getD v default).n.toNat:=fun v hv=>by
  obtain⟨a1,a2⟩:=h3 v hv
  have:=dimS_get hv
  rw[hd] at this
  exact⟨a1,a2,by omega⟩
 have hm:subMs r s=r.m:=by
  apply List.ext_getElem (subMs_len r s)
  intro i g1 g2
  obtain⟨m1,m2,m3,m4,m5⟩:=arrow_ok h1 g2
  obtain⟨f1,f2,f3⟩:=key _ (show(r.q.fr.getD i default).toNat<s.length by omega)
  obtain⟨t1,t2,t3⟩:=key _ (show(r.q.to.getD i default).toNat<s.length by omega)
  have e1:(subMs r s)[i]=subA r s i:=by simp[subMs]
  have e2:r.m[i]=r.m.getD i default:=by simp[g2]
  rw[e1,e2]
  unfold subA
  generalize s.getD (r.q.fr.getD i default).toNat default=A at*
  generalize s.getD (r.q.to.getD i default).toNat default=B at*
  generalize r.m.getD i default=M at*
  have hA:A.b.length=M.c.toNat:=by rw[f3,f2,m4]
  have hB:B.b.length=M.r.toNat:=by rw[t3,t2,m5]
  unfold subM
  rw[hA,hB]
  have hmt:=isMat_tm m1
  conv=>rhs;rw[←hmt]
  unfold tm
  congr 1
  refine tab_ext fun a ha b hb=>?_
  unfold subF
  obtain⟨x1,x2⟩:=full_b f1 f3
  obtain⟨y1,y2⟩:=full_b t1 t3
  rw[y2 a (by omega),Int.toNat_natCast]
  have:A.b.getD b default=rowL M.c.toNat (idF b):=by
   rw[x1,rowsL_get _ _ (by omega),←f3,hA]
  rw[this]
  exact appV_unit m1 ha hb
 unfold subR
 rw[hm,hd]
end Go.Proofs.YtjmjamhhppoimaaGreat.V
namespace Go.Proofs.YtjmjamhhppoimaaGreat.V
open V.Enc (enc)
open Go.RowKit G D
set_option linter.unusedVariables false
set_option linter.unusedSimpArgs false
set_option maxHeartbeats 4000000
set_option maxRecDepth 4000
attribute [local irreducible] AW ARg ARA ARet MRet ASil AC AM ARI
theorem specSubDims_a(r:Rep)(s:List Spc)(h:isSub r s=true):AC Tryz.prog 239 [.agg (enc false r),ar false s] [.dt true 1 (E true (dimS s))]:=by
 refine AC.go Tryz.func239 Tryz.ntmps239 rfl rfl fun w0 hw=>?_;simp[WfL,WfA,E_length,Enc.enc,In64] at hw
 have hF:=specIsSub_a r s
 rw[h] at hF
 obtain⟨h1,h2,h3,h4⟩:=isSub_spec h
 obtain⟨r1,r2,r3,r4⟩:=isRep_spec h1
 obtain⟨c1,c2,c3,_⟩:=areDims_spec r2
 have h5:=okQ_spec c1
 have hll:=dimS_len s
 have hts:=fun k hk=>dimS_take (l:=s) (k:=k) hk
 have hTs:∀k,dimS (s.take k)=(dimS s).take k:=fun k=>by simp[dimS]
 simp only[hTs] at hts
 have hbb:∀v,v<s.length→(s.getD v default).b.length≤16:=fun v hv=>(isSpc_spec (h3 v hv).1).2.2.1
 generalize dimS s=T at hll hts⊢
 repeat' first|refine s1 ?_|fail
 refine AW.open 5 1 (.inr rfl) ?_
 refine F.loop (σ:=Nat) [5,6,8,9,10,11,12,13,14,15,16,17,18,19,20,21,22,23,24,25,26,27] (fun k=>[(5,.sl 1 k 0 k),(6,.i k)]) (fun k=>[(1,.live false 1 (E true (T.take k)))]) (fun k=>k≤s.length) (fun k=>s.length-k) 0 ⟨rfl,rfl,trivial⟩ ⟨rfl,trivial⟩ (Nat.zero_le _) ?_
 rintro k k1
 have hp:(T.take k).length=k:=by rw[List.length_take];omega
 by_cases hk:k<s.length
 ·have ht:=hts k hk
  have hb:=hbb k hk
  repeat' first|refine s1 ?_|(refine kR ?_;first|refine F.c (hF) ?_|refine F.a1 Int ?_)|fail
  exact⟨k+1,F.fit ⟨rfl,rfl,trivial⟩ ⟨obE (by rw[ht]),trivial⟩,by omega,by omega⟩
 ·obtain rfl:k=s.length:=by omega
  have e:T.take s.length=T:=List.take_of_length_le (by omega)
  rw[e]
  rw[←hll]
  clear hp e
  repeat' first|refine s1 ?_|(refine kR ?_;first|refine F.c (hF) ?_)|fail
  (refine kZ ?_;exact F.ret rfl)
end Go.Proofs.YtjmjamhhppoimaaGreat.V
namespace Go.Proofs.YtjmjamhhppoimaaGreat.V
open Go.RowKit G D
set_option linter.unusedVariables false
set_option linter.unusedSimpArgs false
set_option maxHeartbeats 4000000
set_option maxRecDepth 4000
attribute [local irreducible] AW ARg ARA ARet MRet ASil AC AM
theorem isMor_are{a b:Rep}{f:List Mat}(h:isMor a b f=true):areM a b f=true:=by
 simp only[isMor,Bool.and_eq_true] at h;exact h.1
def kerLs(p:Int)(f:List Mat):List Spc:=f.map (kerS p)
def imgLs(p:Int)(f:List Mat):List Spc:=f.map (imgS p)
theorem kernelSub_a(p:Int)(f:List Mat)(hf:∀v,v<f.length→isMat p (f.getD v default)=true)(hl:f.length≤1000):AC Tryz.prog 314 [.i p,ar false f] [.dt true 2 (E true (kerLs p f))]:=by
 refine AC.go Tryz.func314 Tryz.ntmps314 rfl rfl fun w0 hw=>?_;simp[WfL,WfA,E_length,Enc.enc,In64] at hw
 have hll:(kerLs p f).length=f.length:=by simp[kerLs]
 repeat' first|refine s1 ?_|fail
 refine AW.open 5 2 (.inl rfl) ?_
 refine F.loop (σ:=Nat) [5,7,10,11,12,13,14,15,16,17,18,19,20,21,22,23,24] (fun k=>[(5,.sl 0 k 0 k),(10,.i k)]) (fun k=>[(0,.live false 2 (E true ((kerLs p f).take k)))]) (fun k=>k≤f.length) (fun k=>f.length-k) 0 ⟨rfl,rfl,trivial⟩ ⟨rfl,trivial⟩ (Nat.zero_le _) ?_
 rintro k k1
 have hp:((kerLs p f).take k).length=k:=by rw[List.length_take];omega
 by_cases hk:k<f.length
 ·have hm:=hf k hk
  have hKe:=matKer_a hm
  have hSp:=kerSpan_a hm
  have hts:(kerLs p f).take (k+1)=(kerLs p f).take k++[kerS p (f.getD k default)]:=map_take _ hk
  generalize kerS p (f.getD k default)=KS at hSp hts
  generalize kerL _ _ _ _=KL at hKe hSp
  repeat' first|refine s1 ?_|fail
  refine AW.draw 9 G.mixed (by kernel_rfl) ?_
  refine Pz (.p 0<|.p 1<|.p 2<|.l 3<|.p 4<|.l 5<|.o 6 true<|.o 7 true<|.o 8 true<|.o 9 false<|.p 10<|.n) ?_
  repeat' first|refine yS ?_|refine s1 ?_|(refine kR ?_;first|refine F.c (hKe) ?_|refine F.c (hSp) ?_|refine F.a1 Spc (a:=KS) ?_)|fail
  all_goals
   refine lf ?_
   repeat' first|refine s1 ?_|fail
   exact⟨k+1,F.fit ⟨rfl,rfl,trivial⟩ ⟨obE (by rw[hts]),trivial⟩,by omega,by omega⟩
 ·obtain rfl:k=f.length:=by omega
  have e:(kerLs p f).take f.length=kerLs p f:=List.take_of_length_le (by omega)
  rw[e]
  clear hp e
  generalize kerLs p f=L at hll⊢
  rw[←hll]
  repeat' first|refine s1 ?_|fail
  (refine kZ ?_;exact F.ret rfl)
theorem imageSub_a(p:Int)(f:List Mat)(hf:∀v,v<f.length→isMat p (f.getD v default)=true)(hl:f.length≤1000):AC Tryz.prog 313 [.i p,ar false f] [.dt true 2 (E true (imgLs p f))]:=by
 refine AC.go Tryz.func313 Tryz.ntmps313 rfl rfl fun w0 hw=>?_;simp[WfL,WfA,E_length,Enc.enc,In64] at hw
 have hll:(imgLs p f).length=f.length:=by simp[imgLs]
 repeat' first|refine s1 ?_|fail
 refine AW.open 5 2 (.inl rfl) ?_
 refine F.loop (σ:=Nat) [5,7,10,11,12,13,14,15,16,17,18,19,20,21,22,23] (fun k=>[(5,.sl 0 k 0 k),(10,.i k)]) (fun k=>[(0,.live false 2 (E true ((imgLs p f).take k)))]) (fun k=>k≤f.length) (fun k=>f.length-k) 0 ⟨rfl,rfl,trivial⟩ ⟨rfl,trivial⟩ (Nat.zero_le _) ?_
 rintro k k1
 have hp:((imgLs p f).take k).length=k:=by rw[List.length_take];omega
 by_cases hk:k<f.length
 ·have hm:=hf k hk
  have hCo:=matCols_a hm
  have hSp:=imgSpan_a hm
  have hts:(imgLs p f).take (k+1)=(imgLs p f).take k++[imgS p (f.getD k default)]:=map_take _ hk
  generalize imgS p (f.getD k default)=IS at hSp hts
  generalize hRL:(rowsL (f.getD k default).c.toNat (f.getD k default).r.toNat fun k_1 i=>ent (f.getD k default) i k_1)=RL at hCo hSp
  repeat' first|refine s1 ?_|fail
  refine AW.draw 8 G.mixed (by kernel_rfl) ?_
  refine Pz (.p 0<|.p 1<|.p 2<|.l 3<|.l 4<|.o 5 true<|.o 6 true<|.o 7 true<|.o 8 false<|.p 9<|.n) ?_
  repeat' first|refine yS ?_|refine s1 ?_|(refine kR ?_;first|refine F.c (hCo) ?_|refine F.c (hSp) ?_|refine F.a1 Spc (a:=IS) ?_)|fail
  all_goals
   refine lf ?_
   repeat' first|refine s1 ?_|fail
   exact⟨k+1,F.fit ⟨rfl,rfl,trivial⟩ ⟨obE (by rw[hts]),trivial⟩,by omega,by omega⟩
 ·obtain rfl:k=f.length:=by omega
  have e:(imgLs p f).take f.length=imgLs p f:=List.take_of_length_le (by omega)
  rw[e]
  clear hp e
  generalize imgLs p f=L at hll⊢
  rw[←hll]
  repeat' first|refine s1 ?_|fail
  (refine kZ ?_;exact F.ret rfl)
theorem mor_ok{a b:Rep}{f:List Mat}(h:isMor a b f=true):f.length=a.d.length∧f.length≤5∧a.p=b.p∧b.d.length=a.d.length∧∀v,v<f.length→isMat a.p (f.getD v default)=true∧(f.getD v default).c=a.d.getD v default∧(f.getD v default).r=b.d.getD v default:=by
 obtain⟨a1,a2,a3⟩:=areM_spec (isMor_are h)
 have hh:=Fits.of a1
 have h5:=okQ_spec hh.ok
 have hda:=hh.da
 have hdb:=hh.db
 refine⟨by omega,by omega,hh.p,by omega,fun v hv=>?_⟩
 have f1:=a3 v hv
 simp only[fitV,Bool.and_eq_true,decide_eq_true_eq] at f1
 exact⟨f1.1.1,f1.1.2,f1.2⟩
theorem kerLs_ok{a b:Rep}{f:List Mat}(h:isMor a b f=true){v:Nat}(hv:v<f.length):(kerLs a.p f).getD v default=kerS a.p (f.getD v default)∧isSpc a.p (kerS a.p (f.getD v default))=true:=by
 obtain⟨m1,m2,m3,m4,m5⟩:=mor_ok h
 exact⟨by simp[kerLs,hv],kerS_ok (m5 v hv).1⟩
theorem imgLs_ok{a b:Rep}{f:List Mat}(h:isMor a b f=true){v:Nat}(hv:v<f.length):(imgLs a.p f).getD v default=imgS a.p (f.getD v default)∧isSpc a.p (imgS a.p (f.getD v default))=true:=by
 obtain⟨m1,m2,m3,m4,m5⟩:=mor_ok h
 exact⟨by simp[imgLs,hv],imgS_ok (m5 v hv).1⟩
def leadN(s:Spc):List Nat:=s.b.map fun x=>(leadV x).toNat
theorem leadN_len(s:Spc):(leadN s).length=s.b.length:=by simp[leadN]
theorem leadN_ech{p:Int}{s:Spc}(h:isSpc p s=true):Ech s.b.length s.n.toNat (vecF s.b) (leadN s)∧(∀i,i<s.b.length→leadV (s.b.getD i default)=((leadN s).getD i 0:Nat)):=by
 obtain⟨h1,h2,h3,h4⟩:=isSpc_spec h
 obtain⟨piv,he,hl⟩:=isSpc_ech h
 have e:leadN s=piv:=by
  apply List.ext_getElem (by rw[leadN_len,hl])
  intro i g1 g2
  have hi:i<s.b.length:=by rw[leadN_len] at g1;exact g1
  have:=he.lead_at hl h4 hi
  have e1:s.b.getD i default=s.b[i]:=by simp[hi]
  have e2:piv.getD i 0=piv[i]:=by simp[g2]
  rw[e1,e2] at this
  simp only[leadN,List.getElem_map]
  omega
 rw[e]
 exact⟨he,fun i hi=>he.lead_at hl h4 hi⟩
theorem ent_tm{r c i j:Nat}(f:Nat→Nat→Int)(hi:i<r)(hj:j<c):ent (tm r c f) i j=f i j:=by
 unfold ent tm
 dsimp only
 rw[Int.toNat_natCast,tab_get f hi hj]
end Go.Proofs.YtjmjamhhppoimaaGreat.V
