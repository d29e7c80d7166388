/- Texts that the proof needs: A190, A130, A131, A197, A200. -/
import Derived.Test.YtjmjamhhppoimaaGreatQisA95
import Derived.Test.YtjmjamhhppoimaaGreatQisA113
namespace Go.Proofs.YtjmjamhhppoimaaGreat.V
open Go.RowKit G D
set_option linter.unusedVariables false
set_option linter.unusedSimpArgs false
set_option maxHeartbeats 1000000
set_option maxRecDepth 4000
theorem nodup_le{α:Type}:∀{l m:List α},l.Nodup→(∀x∈l,x∈m)→l.length≤m.length
 |[],m,_,_=>Nat.zero_le _
 |a::l,m,h,hs=>by
  obtain⟨s,t,rfl⟩:=List.append_of_mem (hs a (by simp))
  rw[List.nodup_cons] at h
  have ih:=nodup_le (l:=l) (m:=s++t) h.2 fun x hx=>by
   have hx2:=hs x (by simp[hx])
   have hne:x≠a:=fun e=>h.1 (e▸hx)
   simp only[List.mem_append,List.mem_cons] at hx2⊢
   rcases hx2 with g|g|g
   ·exact .inl g
   ·exact absurd g hne
   ·exact .inr g
  simp only[List.length_append,List.length_cons] at ih⊢
  omega
theorem augF_bd2{p:Int}{r c:Nat}{f:Nat→Nat→Int}{v:List Int}(hb:BdF p r c f)(hv:∀i,i<r→0≤v.getD i default∧v.getD i default≤p-1):BdF p r (c+1) (augF c f v):=fun i hi j hj=>by
 unfold augF
 split
 ·exact hb i hi j (by assumption)
 ·exact hv i hi
theorem sumN_last(h:Nat→Int)(n:Nat):sumN h (n+1)=sumN h n+h n:=rfl
theorem solV_gt{c:Nat}{g:Nat→Nat→Int}{piv:List Nat}(hl:∀i,i<piv.length→piv.getD i 0<c)(hi:∀i j,i<j→j<piv.length→piv.getD i 0<piv.getD j 0):∀n,n≤piv.length→∀j,j<c→(solV c g piv n).getD j default=sumN (fun i=>(if piv.getD i 0=j then 1 else 0)*g i c) n
 |0,_,j,hj=>by simp[solV,sumN,hj]
 |n+1,hn,j,hj=>by
  have ih:=solV_gt (g:=g) hl hi n (by omega)
  rw[solV,sumN_last]
  by_cases e:piv.getD n 0=j
  ·rw[if_pos e,Int.one_mul,←e,set_get (by rw[solV_len];exact hl n (by omega))]
   have:sumN (fun i=>(if piv.getD i 0=piv.getD n 0 then 1 else 0)*g i c) n=0:=sumN_zero _ fun i hin=>by
    rw[if_neg (by have:=hi i n hin (by omega);omega),Int.zero_mul]
   rw[this,Int.zero_add]
  ·rw[if_neg e,Int.zero_mul,Int.add_zero,set_ne e]
   exact ih j hj
theorem sol_ok{p:Int}{r c:Nat}{f:Nat→Nat→Int}{v:List Int}(hF:isF p=true)(hb:BdF p r c f)(hv:∀i,i<r→0≤v.getD i default∧v.getD i default≤p-1)(h:(solL p r c f v).2=true):∀i,i<r→Cg p (dotV (f i) (solL p r c f v).1 c) (v.getD i default):=by
 have ha:BdF p r (c+1) (augF c f v):=augF_bd2 hb hv
 obtain⟨h1,h2⟩:=redK_ech hF ha (c+1) (Nat.le_refl _)
 unfold solL at h⊢
 by_cases hc:c∈(redK p r (augF c f v) (c+1)).2
 ·rw[if_pos hc] at h;cases h
 ·rw[if_neg hc]
  generalize hg:(redK p r (augF c f v) (c+1)).1=g at h1 h2
  generalize hpv:(redK p r (augF c f v) (c+1)).2=piv at h1 hc
  have hl:∀i,i<piv.length→piv.getD i 0<c:=fun i hi=>by
   have:=h1.lt i hi
   have hne:piv.getD i 0≠c:=fun e=>hc (by rw[←e];simp[hi])
   omega
  intro i hi
  show Cg p (dotV (f i) (solV c g piv piv.length) c) _
  have hx:=fun j hj=>solV_gt (g:=g) hl h1.inc piv.length (Nat.le_refl _) j hj
  have hrow:∀k,k<r→Cg p (sumN (fun j=>g k j*(solV c g piv piv.length).getD j default) c) (g k c):=fun k hk=>by
   rw[sumN_eq (g:=fun j=>sumN (fun t=>g k j*((if piv.getD t 0=j then 1 else 0)*g t c)) piv.length) _ fun j hj=>by rw[hx j hj,sumN_mul],sumN_swap]
   have e1:∀t,t<piv.length→sumN (fun j=>g k j*((if piv.getD t 0=j then 1 else 0)*g t c)) c=(if t=k then 1 else 0)*g t c:=fun t ht=>by
    rw[sumN_eq (g:=fun j=>(if j=piv.getD t 0 then 1 else 0)*(g k j*g t c)) _ fun j _=>by
     by_cases e:piv.getD t 0=j
     ·rw[if_pos e,if_pos e.symm];rw[Int.one_mul,Int.one_mul]
     ·rw[if_neg e,if_neg (fun x=>e x.symm),Int.zero_mul,Int.zero_mul,Int.mul_zero],sumN_one,if_pos (hl t ht)]
    by_cases hk2:k<piv.length
    ·rw[h1.one k hk2 t ht]
     by_cases e:k=t
     ·rw[if_pos e,if_pos e.symm]
     ·rw[if_neg e,if_neg (fun x=>e x.symm)]
    ·rw[h1.low k (by omega) hk _ (by have:=hl t ht;omega),if_neg (by omega),Int.zero_mul]
   rw[sumN_eq _ e1,sumN_one]
   by_cases hk2:k<piv.length
   ·rw[if_pos hk2];exact .refl _
   ·rw[if_neg hk2,h1.low k (by omega) hk c (Nat.lt_succ_self c)];exact .refl _
  obtain⟨co,e⟩:=h2.1 i hi
  have e1:=e c (Nat.lt_succ_self c)
  have e2:augF c f v i c=v.getD i default:=by unfold augF;rw[if_neg (Nat.lt_irrefl c)]
  rw[e2] at e1
  refine Cg.trans ?_ e1.symm
  have e3:Cg p (dotV (f i) (solV c g piv piv.length) c) (dotV (fun j=>sumN (fun k=>co k*g k j) r) (solV c g piv piv.length) c):=dotV_cg fun j hj=>by
   have:=e j (by omega)
   have e4:augF c f v i j=f i j:=by unfold augF;rw[if_pos hj]
   rwa [e4] at this
  refine e3.trans ?_
  rw[dotV_comb]
  exact sumN_cg _ fun k hk=>(Cg.refl _).mul (hrow k hk)
theorem rank_le{p:Int}{r c:Nat}{f:Nat→Nat→Int}(hF:isF p=true)(hb:BdF p r c f):(redK p c (fun j i=>f i j) r).2.length≤(redK p r f c).2.length:=by
 have hp:=isF_pos hF
 have h1:=span_cols hF hb
 have h2:BdF p (pivC r f (redK p r f c).2).length r (vecF (pivC r f (redK p r f c).2)):=fun i hi j hj=>by
  rw[pivC_len] at hi
  have hlt:=(redK_ech hF hb c (Nat.le_refl _)).1.lt i hi
  unfold vecF
  rw[pivC_get r f hi,rowL_get _ hj]
  exact hb j hj _ hlt
 have h3:=(spanB_le (p:=p) (by omega) h2).1
 have h4:(spanL p r (pivC r f (redK p r f c).2)).length=(spanB p (pivC r f (redK p r f c).2).length r (vecF (pivC r f (redK p r f c).2))).length:=rfl
 rw[←h4,h1,pivC_len] at h3
 have h5:(spanL p r (rowsL c r fun k i=>f i k)).length=(redK p (rowsL c r fun k i=>f i k).length (vecF (rowsL c r fun k i=>f i k)) r).2.length:=spanB_len ..
 rw[h5,rowsL_len] at h3
 have h6:BdF p c r (vecF (rowsL c r fun k i=>f i k)):=fun i hi j hj=>by
  unfold vecF
  rw[rowsL_get _ _ hi,rowL_get _ hj]
  exact hb j hj i hi
 have h7:BdF p c r (fun j i=>f i j):=fun i hi j hj=>hb j hj i hi
 have h8:SS p c c r (vecF (rowsL c r fun k i=>f i k)) (fun j i=>f i j):=by
  have e:∀i,i<c→∀j,j<r→vecF (rowsL c r fun k i=>f i k) i j=f j i:=fun i hi j hj=>by
   unfold vecF
   rw[rowsL_get _ _ hi,rowL_get _ hj]
  refine⟨fun i hi=>(Sp.row (f:=fun j i=>f i j) hi).cg fun j hj=>by rw[e i hi j hj];exact .refl _,fun i hi=>(Sp.row (f:=vecF (rowsL c r fun k i=>f i k)) hi).cg fun j hj=>by rw[e i hi j hj];exact .refl _⟩
 have h9:=(redK_uniq hF h6 h7 h8).1
 rw[h9] at h3
 exact h3
theorem rank_tr{p:Int}{r c:Nat}{f:Nat→Nat→Int}(hF:isF p=true)(hb:BdF p r c f):(redK p c (fun j i=>f i j) r).2.length=(redK p r f c).2.length:=by
 have h1:=rank_le hF hb
 have h2:=rank_le hF (r:=c) (c:=r) (f:=fun j i=>f i j) (fun i hi j hj=>hb j hj i hi)
 exact Nat.le_antisymm h1 h2
theorem cob_at{a b:Rep}{f:List Mat}(h:areM a b f=true){i:Nat}(hi:i<a.q.fr.length):(cobL a b f).getD i default=plusM a.p (arX a b f i) (a.p-1) (arY a b f i):=by simp[cobL,hi]
theorem cob_mor{a b:Rep}{f:List Mat}(h:isMor a b f=true){i:Nat}(hi:i<a.q.fr.length):∀j,j<((cobL a b f).getD i default).m.length→((cobL a b f).getD i default).m.getD j default=0:=by
 have hA:=ArF.of (isMor_are h) hi
 have hsm:sameM (arX a b f i) (arY a b f i)=true:=by
  simp only[isMor,Bool.and_eq_true,List.all_eq_true] at h
  exact h.2 i (by simpa using hi)
 have hX:isMat a.p (arX a b f i)=true:=isMat_mul hA.mb hA.ff
 have hY:isMat a.p (arY a b f i)=true:=isMat_mul hA.ft hA.ma
 obtain⟨x1,x2⟩:=mulM_rc hA.mb hA.ff
 obtain⟨y1,y2⟩:=mulM_rc hA.ft hA.ma
 have hz:=cob_zero hX hY (by rw[show(arX a b f i).r=_ from x1,show(arY a b f i).r=_ from y1];exact hA.rr) (by rw[show(arX a b f i).c=_ from x2,show(arY a b f i).c=_ from y2];exact hA.cc)
 rw[hsm] at hz
 intro j hj
 rw[cob_at (isMor_are h) hi] at hj⊢
 simp only[isZ,List.all_eq_true,decide_eq_true_eq] at hz
 exact hz _ (gm hj)
end Go.Proofs.YtjmjamhhppoimaaGreat.V
namespace Go.Proofs.YtjmjamhhppoimaaGreat.V
open Go.RowKit G D
set_option linter.unusedVariables false
set_option linter.unusedSimpArgs false
set_option maxHeartbeats 2000000
section
variable {P : Program} {w0 : World} {MP : Fr} {d : Option Tmp} {ty : TypeId} {pos : String} {af : Array Edge} {g : Option (Nat × Bool)} {x y : Operand} {t t' : Nat} {a : Bool} {st : St}
theorem A.eqlSame[hu:HasU P t .bool](hx:evA st x=.b a)(hy:evA st y=.b a):ASil true P w0 MP st ⟨d,.binOp .eql t x y t',ty,pos,af,g⟩ (.b true):=by
 have h:=A.eqlBB (P:=P) (t:=t) (w0:=w0) (MP:=MP) (d:=d) (ty:=ty) (pos:=pos) (af:=af) (g:=g) (t':=t') hx hy
 rwa [show(a==a)=true by simp] at h
theorem A.neqSame[hu:HasU P t .bool](hx:evA st x=.b a)(hy:evA st y=.b a):ASil true P w0 MP st ⟨d,.binOp .neq t x y t',ty,pos,af,g⟩ (.b false):=by
 have h:=A.neqBB (P:=P) (t:=t) (w0:=w0) (MP:=MP) (d:=d) (ty:=ty) (pos:=pos) (af:=af) (g:=g) (t':=t') hx hy
 rwa [show(a !=a)=false by simp] at h
end
end Go.Proofs.YtjmjamhhppoimaaGreat.V
namespace Go.Proofs.YtjmjamhhppoimaaGreat.V
open Go.RowKit G D
set_option linter.unusedVariables false
set_option linter.unusedSimpArgs false
set_option maxHeartbeats 1000000
set_option maxRecDepth 4000
def Ind(p:Int)(n:Nat)(l:List (List Int)):Prop:=∀co:Nat→Int,(∀t,t<n→Cg p (sumN (fun i=>co i*vecF l i t) l.length) 0)→∀i,i<l.length→Cg p (co i) 0
theorem ind_len{p:Int}{n:Nat}{l:List (List Int)}(hF:isF p=true)(hv:VecB p n l)(h:Ind p n l):(spanL p n l).length=l.length:=by
 have hb:=hv.bd
 have hp:=isF_pos hF
 have e1:(spanL p n l).length=(redK p l.length (vecF l) n).2.length:=spanB_len ..
 have hbt:BdF p n l.length (fun t i=>vecF l i t):=fun t ht i hi=>hb i hi t ht
 have e2:=rank_tr hF hb
 have e3:=kerL_len hF hbt
 refine Classical.byContradiction fun hne=>?_
 have hle:=(spanB_le (show 0<p by omega) hb).1
 have hle:(spanL p n l).length≤l.length:=hle
 have hk:0<(kerL p n l.length fun t i=>vecF l i t).length:=by omega
 obtain⟨s1,j,hj,s2⟩:=kerL_spec hF hbt (gm (d:=default) hk)
 have h3:=h (fun i=>((kerL p n l.length fun t i=>vecF l i t).getD 0 default).getD i default) (fun t ht=>by
  have h4:=s1 t ht
  unfold dotV at h4
  rwa [sumN_eq _ fun i _=>Int.mul_comm ..] at h4) j hj
 rw[s2] at h3
 have:=h3.eq ⟨by omega,by omega⟩ ⟨by omega,by omega⟩
 omega
theorem kerL_at{p:Int}{r c:Nat}{f:Nat→Nat→Int}{k k0:Nat}(hk:k<(kerL p r c f).length)(hk0:k0<(kerL p r c f).length):(freeL c (redK p r f c).2).getD k0 0<c∧vecF (kerL p r c f) k ((freeL c (redK p r f c).2).getD k0 0)=if k=k0 then 1 else 0:=by
 have hl:(kerL p r c f).length=(freeL c (redK p r f c).2).length:=by simp[kerL]
 have hk2:k<(freeL c (redK p r f c).2).length:=by omega
 have hk3:k0<(freeL c (redK p r f c).2).length:=by omega
 have hg:(kerL p r c f).getD k default=kerV p c (redK p r f c).1 (redK p r f c).2 ((freeL c (redK p r f c).2).getD k 0) (redK p r f c).2.length:=by simp[kerL,hk2]
 have hf:=freeL_lt (c:=c) (piv:=(redK p r f c).2) ((freeL c (redK p r f c).2).getD k0 0) (by simp[hk3])
 refine⟨hf.1,?_⟩
 show((kerL p r c f).getD k default).getD _ default=_
 rw[hg,kerV_free hf.1 _ fun i hi e=>hf.2 (by rw[←e];simp[hi])]
 have hpw:(freeL c (redK p r f c).2).Pairwise (·<·):=List.Pairwise.filter _ List.pairwise_lt_range
 by_cases ek:k=k0
 ·subst ek;rw[if_pos rfl,if_pos rfl]
 ·have g1:(freeL c (redK p r f c).2).getD k0 0=(freeL c (redK p r f c).2)[k0]:=by simp[hk3]
  have g2:(freeL c (redK p r f c).2).getD k 0=(freeL c (redK p r f c).2)[k]:=by simp[hk2]
  rw[List.pairwise_iff_getElem] at hpw
  have hne:(freeL c (redK p r f c).2).getD k0 0≠(freeL c (redK p r f c).2).getD k 0:=by
   rw[g1,g2]
   rcases Nat.lt_or_gt_of_ne ek with hlt|hgt
   ·have:=hpw k k0 hk2 hk3 hlt;omega
   ·have:=hpw k0 k hk3 hk2 hgt;omega
  rw[if_neg hne,if_neg ek]
theorem kerL_ind{p:Int}{r c:Nat}{f:Nat→Nat→Int}:Ind p c (kerL p r c f):=fun co h i hi=>by
 have h1:=h _ (kerL_at hi hi).1
 rwa [sumN_eq (g:=fun k=>(if k=i then 1 else 0)*co k) _ fun k hk=>by rw[(kerL_at hk hi).2,Int.mul_comm],sumN_one,if_pos hi] at h1
theorem kerS_len{p:Int}{m:Mat}(h:isMat p m=true):(kerS p m).b.length+(redK p m.r.toNat (ent m) m.c.toNat).2.length=m.c.toNat:=by
 have hF:=(isMat_spec h).1
 have h1:=ind_len hF (kerL_vec (r:=m.r.toNat) (c:=m.c.toNat) (f:=ent m) (isF_pos hF).1) kerL_ind
 have h2:=kerL_len hF (ent_bd h)
 have h3:(kerS p m).b.length=(spanL p m.c.toNat (kerL p m.r.toNat m.c.toNat (ent m))).length:=rfl
 omega
end Go.Proofs.YtjmjamhhppoimaaGreat.V
