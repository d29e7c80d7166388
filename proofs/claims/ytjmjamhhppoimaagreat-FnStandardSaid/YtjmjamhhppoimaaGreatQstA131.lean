/- Texts that the proof needs: A79, A130, A45, A50, A131. -/
import Derived.Test.YtjmjamhhppoimaaGreatQstA93
namespace Go.Proofs.YtjmjamhhppoimaaGreat.V
open Go.RowKit G D
set_option linter.unusedVariables false
set_option linter.unusedSimpArgs false
set_option maxHeartbeats 1000000
set_option maxRecDepth 4000
def dotV(f:Nat→Int)(x:List Int)(c:Nat):Int:=sumN (fun j=>f j*x.getD j default) c
theorem dotV_set(f:Nat→Int)(x:List Int)(a:Nat)(y:Int)(ha:a<x.length):∀c,dotV f (x.set a y) c=dotV f x c+if a<c then f a*(y-x.getD a default) else 0
 |0=>by simp[dotV,sumN]
 |c+1=>by
  have ih:=dotV_set f x a y ha c
  simp only[dotV,sumN] at ih⊢
  rw[ih]
  by_cases e:a=c
  ·subst e
   rw[set_get ha,if_neg (by omega),if_pos (by omega),Int.mul_sub];omega
  ·rw[set_ne e _]
   by_cases e2:a<c
   ·rw[if_pos e2,if_pos (by omega)];omega
   ·rw[if_neg e2,if_neg (by omega)];omega
theorem dotV_unit(f:Nat→Int)(n k:Nat)(hk:k<n):dotV f (unitL n k) n=f k:=by
 have h:=sumN_one f k n
 rw[if_pos hk] at h
 rw[←h]
 exact sumN_eq _ fun j hj=>by rw[unitL_get hj,Int.mul_comm]
theorem kerV_free{p:Int}{c:Nat}{g:Nat→Nat→Int}{piv:List Nat}{k j:Nat}(hj:j<c):∀n,(∀i,i<n→piv.getD i 0≠j)→(kerV p c g piv k n).getD j default=if j=k then 1 else 0
 |0,_=>unitL_get hj
 |n+1,h=>by
  rw[kerV,set_ne (h n (by omega)) _]
  exact kerV_free hj n fun i hi=>h i (by omega)
theorem ker_dot {p : Int} {r c : Nat} {g : Nat → Nat → Int} {piv : List Nat} (h : Ech r c g piv) {k : Nat} (hk : k < c) (hkp : k ∉ piv) {i : Nat} (hi : i < piv.length) : ∀ n, n ≤ piv.length → Cg p (dotV (g i) (kerV p c g piv k n) c) (if i < n then 0 else g i k)
  | 0, _ => by rw [kerV, dotV_unit _ _ _ hk, if_neg (by omega)]; exact .refl _
  | n + 1, hn => by
    have ih := ker_dot (p := p) h hk hkp hi n (by omega)
    have hpn := h.lt n (by omega)
    have hne : piv.getD n 0 ≠ k := fun e => hkp (by rw [← e]; have : n < piv.length := by omega
                                                    simp [this])
    have h0 : (kerV p c g piv k n).getD (piv.getD n 0) default = 0 := by
      rw [kerV_free hpn n fun t ht => by have := h.inc t n ht (by omega); omega, if_neg hne]
    rw [kerV, dotV_set _ _ _ _ (by rw [kerV_len]; exact hpn), if_pos hpn, h0, Int.sub_zero, h.one i hi n (by omega)]
    by_cases e : i = n
    · subst e
      rw [if_pos rfl, if_pos (by omega), Int.one_mul]
      rw [if_neg (by omega)] at ih
      have := ih.add (Cg.mod p (-(g i k)))
      rwa [show g i k + -(g i k) = 0 by omega] at this
    · rw [if_neg e, Int.zero_mul, Int.add_zero]
      by_cases e2 : i < n
      · rw [if_pos e2] at ih; rw [if_pos (by omega)]; exact ih
      · rw [if_neg e2] at ih; rw [if_neg (by omega)]; exact ih
theorem dotV_cg{p:Int}{f g:Nat→Int}{x:List Int}{c:Nat}(h:∀j,j<c→Cg p (f j) (g j)):Cg p (dotV f x c) (dotV g x c):=sumN_cg _ fun j hj=>(h j hj).mul (.refl _)
theorem dotV_comb(co:Nat→Int)(f:Nat→Nat→Int)(x:List Int)(c r:Nat):dotV (fun j=>sumN (fun i=>co i*f i j) r) x c=sumN (fun i=>co i*dotV (f i) x c) r:=by
 unfold dotV
 rw[sumN_eq (g:=fun j=>sumN (fun i=>co i*f i j*x.getD j default) r) _ fun j _=>by
  rw[Int.mul_comm,←sumN_mul]
  exact sumN_eq _ fun i _=>Int.mul_comm ..,sumN_swap]
 refine sumN_eq _ fun i _=>?_
 rw[←sumN_mul]
 exact sumN_eq _ fun j _=>Int.mul_assoc ..
theorem kerL_spec{p:Int}{r c:Nat}{f:Nat→Nat→Int}(hF:isF p=true)(hb:BdF p r c f){x:List Int}(hx:x∈kerL p r c f):(∀i,i<r→Cg p (dotV (f i) x c) 0)∧∃j,j<c∧x.getD j default=1:=by
 obtain⟨h1,h2⟩:=redK_ech hF hb c (Nat.le_refl _)
 simp only[kerL,List.mem_map] at hx
 obtain⟨k,hk,rfl⟩:=hx
 obtain⟨k1,k2⟩:=freeL_lt k hk
 constructor
 ·intro i hi
  obtain⟨co,e⟩:=h2.1 i hi
  refine(dotV_cg e).trans ?_
  rw[dotV_comb]
  refine(sumN_cg (g:=fun _=>0) _ fun t ht=>?_).trans (by rw[sumN_zero (h:=fun _=>0) _ fun _ _=>rfl];exact .refl _)
  have hz:Cg p (dotV ((redK p r f c).1 t) (kerV p c (redK p r f c).1 (redK p r f c).2 k (redK p r f c).2.length) c) 0:=by
   by_cases et:t<(redK p r f c).2.length
   ·have:=ker_dot (p:=p) h1 k1 k2 et _ (Nat.le_refl _)
    rwa [if_pos et] at this
   ·refine(dotV_cg (g:=fun _=>0) fun j hj=>by rw[h1.low t (by omega) ht j hj];exact .refl _).trans ?_
    unfold dotV
    rw[sumN_zero _ fun j _=>Int.zero_mul _];exact .refl _
  have:=(Cg.refl (co t)).mul hz
  rwa [Int.mul_zero] at this
 ·refine⟨k,k1,?_⟩
  rw[kerV_free k1 _ fun i hi e=>k2 (by rw[←e];simp[hi]),if_pos rfl]
theorem cmbV_cg{p:Int}{n:Nat}{l:List (List Int)}{k:List Int}{t:Nat}(ht:t<n):∀m,Cg p ((cmbV p n l k m).getD t default) (sumN (fun i=>k.getD i default*vecF l i t) m)
 |0=>by
  have:(cmbV p n l k 0).getD t default=0:=by simp[cmbV,ht]
  rw[this];exact .refl _
 |m+1=>by
  rw[cmbV,addK_get0 _ _ _ _ (by rw[cmbV_len];exact ht) ht,sumN]
  exact(Cg.mod _ _).trans ((cmbV_cg ht m).add (.refl _))
theorem span_zero{p:Int}{n:Nat}{l:List (List Int)}(hF:isF p=true)(hv:VecB p n l)(h:spanL p n l=[]){x:List Int}(hx:x∈l):∀t,t<n→Cg p (x.getD t default) 0:=fun t ht=>by
 obtain⟨i,hi,rfl⟩:=List.getElem_of_mem hx
 have hss:=(span_ss hF hv.bd).2 i hi
 rw[show spanB p l.length n (vecF l)=[] from h] at hss
 obtain⟨co,e⟩:=hss
 have:=e t ht
 have e2:vecF l i t=(l[i]).getD t default:=by unfold vecF;simp[hi]
 rw[e2] at this
 exact this
theorem augF_bd2{p:Int}{r c:Nat}{f:Nat→Nat→Int}{v:List Int}(hb:BdF p r c f)(hv:∀i,i<r→0≤v.getD i default∧v.getD i default≤p-1):BdF p r (c+1) (augF c f v):=fun i hi j hj=>by
 unfold augF
 split
 ·exact hb i hi j (by assumption)
 ·exact hv i hi
theorem sumN_last(h:Nat→Int)(n:Nat):sumN h (n+1)=sumN h n+h n:=rfl
theorem sol_yes{p:Int}{r c:Nat}{f:Nat→Nat→Int}{v x:List Int}(hF:isF p=true)(hb:BdF p r c f)(hv:∀i,i<r→0≤v.getD i default∧v.getD i default≤p-1)(hs:∀i,i<r→Cg p (dotV (f i) x c) (v.getD i default)):(solL p r c f v).2=true:=by
 have hp:=isF_pos hF
 have ha:BdF p r (c+1) (augF c f v):=augF_bd2 hb hv
 obtain⟨h1,h2⟩:=redK_ech hF ha (c+1) (Nat.le_refl _)
 unfold solL
 by_cases hc:c∈(redK p r (augF c f v) (c+1)).2
 ·exfalso
  obtain⟨w,hw,hz,hn⟩:=(h1.mem hp.1 (Nat.lt_succ_self c)).1 hc
  apply hn
  obtain⟨co,e⟩:=(h2.iff w).2 hw
  have e1:=e c (Nat.lt_succ_self c)
  have e2:sumN (fun i=>co i*augF c f v i c) r=sumN (fun i=>co i*v.getD i default) r:=sumN_eq _ fun i _=>by unfold augF;rw[if_neg (Nat.lt_irrefl c)]
  rw[e2] at e1
  have e3:Cg p (sumN (fun i=>co i*v.getD i default) r) (sumN (fun i=>co i*dotV (f i) x c) r):=sumN_cg _ fun i hi=>(Cg.refl _).mul (hs i hi).symm
  refine e1.trans (e3.trans ?_)
  rw[←dotV_comb]
  unfold dotV
  have e4:Cg p (sumN (fun j=>sumN (fun i=>co i*f i j) r*x.getD j default) c) (sumN (fun j=>0) c):=sumN_cg _ fun j hj=>by
   have e5:=(e j (by omega)).symm.trans (hz j hj)
   have e6:sumN (fun i=>co i*augF c f v i j) r=sumN (fun i=>co i*f i j) r:=sumN_eq _ fun i _=>by unfold augF;rw[if_pos hj]
   rw[e6] at e5
   have:=e5.mul (Cg.refl (x.getD j default))
   rwa [Int.zero_mul] at this
  rwa [sumN_zero c fun _ _=>rfl] at e4
 ·rw[if_neg hc]
theorem solV_gt{c:Nat}{g:Nat→Nat→Int}{piv:List Nat}(hl:∀i,i<piv.length→piv.getD i 0<c)(hi:∀i j,i<j→j<piv.length→piv.getD i 0<piv.getD j 0):∀n,n≤piv.length→∀j,j<c→(solV c g piv n).getD j default=sumN (fun i=>(if piv.getD i 0=j then 1 else 0)*g i c) n
 |0,_,j,hj=>by simp[solV,sumN,hj]
 |n+1,hn,j,hj=>by
  have ih:=solV_gt (g:=g) hl hi n (by omega)
  rw[solV,sumN_last]
  by_cases e:piv.getD n 0=j
  ·rw[if_pos e,Int.one_mul,←e,set_get (by rw[solV_len];exact hl n (by omega))]
   have:sumN (fun i=>(if piv.getD i 0=piv.getD n 0 then 1 else 0)*g i c) n=0:=sumN_zero _ fun i hin=>by
    rw[if_neg (by have:=hi i n hin (by omega);omega),Int.zero_mul]
   rw[this,Int.zero_add]
  ·rw[if_neg e,Int.zero_mul,Int.add_zero,set_ne e]
   exact ih j hj
theorem sol_ok{p:Int}{r c:Nat}{f:Nat→Nat→Int}{v:List Int}(hF:isF p=true)(hb:BdF p r c f)(hv:∀i,i<r→0≤v.getD i default∧v.getD i default≤p-1)(h:(solL p r c f v).2=true):∀i,i<r→Cg p (dotV (f i) (solL p r c f v).1 c) (v.getD i default):=by
 have ha:BdF p r (c+1) (augF c f v):=augF_bd2 hb hv
 obtain⟨h1,h2⟩:=redK_ech hF ha (c+1) (Nat.le_refl _)
 unfold solL at h⊢
 by_cases hc:c∈(redK p r (augF c f v) (c+1)).2
 ·rw[if_pos hc] at h;cases h
 ·rw[if_neg hc]
  generalize hg:(redK p r (augF c f v) (c+1)).1=g at h1 h2
  generalize hpv:(redK p r (augF c f v) (c+1)).2=piv at h1 hc
  have hl:∀i,i<piv.length→piv.getD i 0<c:=fun i hi=>by
   have:=h1.lt i hi
   have hne:piv.getD i 0≠c:=fun e=>hc (by rw[←e];simp[hi])
   omega
  intro i hi
  show Cg p (dotV (f i) (solV c g piv piv.length) c) _
  have hx:=fun j hj=>solV_gt (g:=g) hl h1.inc piv.length (Nat.le_refl _) j hj
  have hrow:∀k,k<r→Cg p (sumN (fun j=>g k j*(solV c g piv piv.length).getD j default) c) (g k c):=fun k hk=>by
   rw[sumN_eq (g:=fun j=>sumN (fun t=>g k j*((if piv.getD t 0=j then 1 else 0)*g t c)) piv.length) _ fun j hj=>by rw[hx j hj,sumN_mul],sumN_swap]
   have e1:∀t,t<piv.length→sumN (fun j=>g k j*((if piv.getD t 0=j then 1 else 0)*g t c)) c=(if t=k then 1 else 0)*g t c:=fun t ht=>by
    rw[sumN_eq (g:=fun j=>(if j=piv.getD t 0 then 1 else 0)*(g k j*g t c)) _ fun j _=>by
     by_cases e:piv.getD t 0=j
     ·rw[if_pos e,if_pos e.symm];rw[Int.one_mul,Int.one_mul]
     ·rw[if_neg e,if_neg (fun x=>e x.symm),Int.zero_mul,Int.zero_mul,Int.mul_zero],sumN_one,if_pos (hl t ht)]
    by_cases hk2:k<piv.length
    ·rw[h1.one k hk2 t ht]
     by_cases e:k=t
     ·rw[if_pos e,if_pos e.symm]
     ·rw[if_neg e,if_neg (fun x=>e x.symm)]
    ·rw[h1.low k (by omega) hk _ (by have:=hl t ht;omega),if_neg (by omega),Int.zero_mul]
   rw[sumN_eq _ e1,sumN_one]
   by_cases hk2:k<piv.length
   ·rw[if_pos hk2];exact .refl _
   ·rw[if_neg hk2,h1.low k (by omega) hk c (Nat.lt_succ_self c)];exact .refl _
  obtain⟨co,e⟩:=h2.1 i hi
  have e1:=e c (Nat.lt_succ_self c)
  have e2:augF c f v i c=v.getD i default:=by unfold augF;rw[if_neg (Nat.lt_irrefl c)]
  rw[e2] at e1
  refine Cg.trans ?_ e1.symm
  have e3:Cg p (dotV (f i) (solV c g piv piv.length) c) (dotV (fun j=>sumN (fun k=>co k*g k j) r) (solV c g piv piv.length) c):=dotV_cg fun j hj=>by
   have:=e j (by omega)
   have e4:augF c f v i j=f i j:=by unfold augF;rw[if_pos hj]
   rwa [e4] at this
  refine e3.trans ?_
  rw[dotV_comb]
  exact sumN_cg _ fun k hk=>(Cg.refl _).mul (hrow k hk)
theorem rank_le{p:Int}{r c:Nat}{f:Nat→Nat→Int}(hF:isF p=true)(hb:BdF p r c f):(redK p c (fun j i=>f i j) r).2.length≤(redK p r f c).2.length:=by
 have hp:=isF_pos hF
 have h1:=span_cols hF hb
 have h2:BdF p (pivC r f (redK p r f c).2).length r (vecF (pivC r f (redK p r f c).2)):=fun i hi j hj=>by
  rw[pivC_len] at hi
  have hlt:=(redK_ech hF hb c (Nat.le_refl _)).1.lt i hi
  unfold vecF
  rw[pivC_get r f hi,rowL_get _ hj]
  exact hb j hj _ hlt
 have h3:=(spanB_le (p:=p) (by omega) h2).1
 have h4:(spanL p r (pivC r f (redK p r f c).2)).length=(spanB p (pivC r f (redK p r f c).2).length r (vecF (pivC r f (redK p r f c).2))).length:=rfl
 rw[←h4,h1,pivC_len] at h3
 have h5:(spanL p r (rowsL c r fun k i=>f i k)).length=(redK p (rowsL c r fun k i=>f i k).length (vecF (rowsL c r fun k i=>f i k)) r).2.length:=spanB_len ..
 rw[h5,rowsL_len] at h3
 have h6:BdF p c r (vecF (rowsL c r fun k i=>f i k)):=fun i hi j hj=>by
  unfold vecF
  rw[rowsL_get _ _ hi,rowL_get _ hj]
  exact hb j hj i hi
 have h7:BdF p c r (fun j i=>f i j):=fun i hi j hj=>hb j hj i hi
 have h8:SS p c c r (vecF (rowsL c r fun k i=>f i k)) (fun j i=>f i j):=by
  have e:∀i,i<c→∀j,j<r→vecF (rowsL c r fun k i=>f i k) i j=f j i:=fun i hi j hj=>by
   unfold vecF
   rw[rowsL_get _ _ hi,rowL_get _ hj]
  refine⟨fun i hi=>(Sp.row (f:=fun j i=>f i j) hi).cg fun j hj=>by rw[e i hi j hj];exact .refl _,fun i hi=>(Sp.row (f:=vecF (rowsL c r fun k i=>f i k)) hi).cg fun j hj=>by rw[e i hi j hj];exact .refl _⟩
 have h9:=(redK_uniq hF h6 h7 h8).1
 rw[h9] at h3
 exact h3
theorem rank_tr{p:Int}{r c:Nat}{f:Nat→Nat→Int}(hF:isF p=true)(hb:BdF p r c f):(redK p c (fun j i=>f i j) r).2.length=(redK p r f c).2.length:=by
 have h1:=rank_le hF hb
 have h2:=rank_le hF (r:=c) (c:=r) (f:=fun j i=>f i j) (fun i hi j hj=>hb j hj i hi)
 exact Nat.le_antisymm h1 h2
end Go.Proofs.YtjmjamhhppoimaaGreat.V
namespace Go.Proofs.YtjmjamhhppoimaaGreat.V
open Go.RowKit G D
set_option linter.unusedVariables false
set_option linter.unusedSimpArgs false
set_option maxHeartbeats 4000000
set_option maxRecDepth 4000
attribute [local irreducible] AW ARg ARA ARet MRet ASil AC AM
def eqT(a b:Rep):Nat→Nat→Int:=fun i j=>ent (eqM a b) j i
def pivT(a b:Rep):List Nat:=(redK a.p (szT a b a.d.length) (eqT a b) (szA a b a.q.fr.length)).2
theorem eqT_bd{a b:Rep}(hp:0<a.p):BdF a.p (szT a b a.d.length) (szA a b a.q.fr.length) (eqT a b):=fun i hi j hj=>eqM_bd hp j hj i hi
def extK(a b:Rep)(k:Nat):List (List Mat):=(freeL k (pivT a b)).map fun j=>cutL a b (unitL (szA a b a.q.fr.length) j)
theorem extK_len(a b:Rep)(k:Nat):(extK a b k).length=(freeL k (pivT a b)).length:=by simp[extK]
def extP(a b:Rep):List (List Mat)×Bool:=if fitR a b=true then(extK a b (szA a b a.q.fr.length),true) else([],false)
theorem isCoc_spec{a b:Rep}{c:List Mat}(h:isCoc a b c=true):fitR a b=true∧c.length=a.m.length∧∀i,i<c.length→isMat a.p (c.getD i default)=true∧(c.getD i default).c=a.d.getD (a.q.fr.getD i default).toNat default∧(c.getD i default).r=b.d.getD (a.q.to.getD i default).toNat default:=by
 simp only[isCoc,fitC,Bool.and_eq_true,decide_eq_true_eq,List.all_eq_true] at h
 exact⟨h.1.1,h.1.2,fun i hi=>by have:=h.2 i (by simpa using hi);exact⟨this.1.1,this.1.2,this.2⟩⟩
def isCob(a b:Rep)(c:List Mat):Bool:=isCoc a b c&&(solL a.p (szA a b a.q.fr.length) (szT a b a.d.length) (ent (eqM a b)) (catM c)).2
theorem pivT_len{a b:Rep}(h:fitR a b=true):(pivT a b).length=rkE a b:=by
 have hp:=isF_pos (Fits.of h).f
 exact rank_tr (Fits.of h).f (eqM_bd (a:=a) (b:=b) (by omega))
theorem ext_len{a b:Rep}(h:fitR a b=true):(((extP a b).1.length:Nat):Int)=extD a b:=by
 have hf:=(Fits.of h).f
 have hp:=isF_pos hf
 have h1:=redK_ech hf (eqT_bd (a:=a) (b:=b) (by omega)) (szA a b a.q.fr.length) (Nat.le_refl _)
 have h2:=freeL_len (c:=szA a b a.q.fr.length) (piv:=pivT a b) h1.1.pw fun x hx=>by
  obtain⟨i,hi,e⟩:=List.getElem_of_mem hx
  have:=h1.1.lt i hi
  have e2:(pivT a b).getD i 0=x:=by simp[hi,e]
  rw[←e2];exact this
 have h3:=pivT_len h
 unfold extP extD
 rw[if_pos h,if_pos h]
 show(((extK a b (szA a b a.q.fr.length)).length:Nat):Int)=_
 rw[extK_len]
 omega
theorem cutM_ok{a b:Rep}(h:fitR a b=true){x:List Int}(hl:x.length=szA a b a.q.fr.length)(hb:∀y∈x,0≤y∧y≤a.p-1){i:Nat}(hi:i<a.q.fr.length):isMat a.p (cutM a b x i)=true:=by
 have hh:=Fits.of h
 have h5:=okQ_spec hh.ok
 have hda:=hh.da
 have hdb:=hh.db
 have hp:=isF_pos hh.f
 have f:0≤a.q.fr.getD i default∧a.q.fr.getD i default<a.q.n:=okQ_fr hh.ok (by omega)
 have t:0≤a.q.to.getD i default∧a.q.to.getD i default<a.q.n:=okQ_to hh.ok (by omega)
 have df:=hh.ba (a.q.fr.getD i default).toNat (by omega)
 have dt:=hh.bb (a.q.to.getD i default).toNat (by omega)
 obtain⟨e1,e2⟩:=mul44 dt df
 have hm:=szA_mono a b (show i+1≤a.q.fr.length by omega)
 have hs:szA a b (i+1)=szA a b i+(b.d.getD (a.q.to.getD i default).toNat default).toNat*(a.d.getD (a.q.fr.getD i default).toNat default).toNat:=rfl
 have hlen:(cutM a b x i).m.length=(b.d.getD (a.q.to.getD i default).toNat default).toNat*(a.d.getD (a.q.fr.getD i default).toNat default).toNat:=by
  show((x.take (szA a b (i+1))).drop (szA a b i)).length=_
  rw[List.length_drop,List.length_take]
  omega
 have hn:=Nat.mul_le_mul (show(b.d.getD (a.q.to.getD i default).toNat default).toNat≤4 by omega) (show(a.d.getD (a.q.fr.getD i default).toNat default).toNat≤4 by omega)
 simp only[isMat,isVec,Bool.and_eq_true,decide_eq_true_eq]
 refine⟨⟨⟨?_,?_⟩,?_⟩,⟨hh.f,by rw[hlen];omega⟩,allIn_all fun j hj=>?_⟩
 ·show 0≤b.d.getD (a.q.to.getD i default).toNat default∧b.d.getD (a.q.to.getD i default).toNat default≤8
  omega
 ·show 0≤a.d.getD (a.q.fr.getD i default).toNat default∧a.d.getD (a.q.fr.getD i default).toNat default≤8
  omega
 ·rw[hlen]
  show _=b.d.getD (a.q.to.getD i default).toNat default*a.d.getD (a.q.fr.getD i default).toNat default
  omega
 ·have hm2:(cutM a b x i).m.getD j default∈(cutM a b x i).m:=gm hj
  exact hb _ (List.mem_of_mem_take (List.mem_of_mem_drop hm2))
theorem cutL_coc{a b:Rep}(h:fitR a b=true){x:List Int}(hl:x.length=szA a b a.q.fr.length)(hb:∀y∈x,0≤y∧y≤a.p-1):isCoc a b (cutL a b x)=true:=by
 have hma:=(Fits.of h).ma
 simp only[isCoc,fitC,Bool.and_eq_true,decide_eq_true_eq,List.all_eq_true]
 have hlen:(cutL a b x).length=a.q.fr.length:=by simp[cutL]
 refine⟨⟨h,by omega⟩,fun i hi=>?_⟩
 rw[List.mem_range,hlen] at hi
 have e:(cutL a b x).getD i default=cutM a b x i:=by simp[cutL,hi]
 rw[e]
 exact⟨⟨cutM_ok h hl hb hi,rfl⟩,rfl⟩
theorem ext_get{a b:Rep}(h:fitR a b=true){k:Nat}(hk:k<(extP a b).1.length):∃j,j<szA a b a.q.fr.length∧j∉pivT a b∧(extP a b).1.getD k default=cutL a b (unitL (szA a b a.q.fr.length) j):=by
 have e:(extP a b).1=(freeL (szA a b a.q.fr.length) (pivT a b)).map fun j=>cutL a b (unitL (szA a b a.q.fr.length) j):=by unfold extP;rw[if_pos h];rfl
 rw[e] at hk⊢
 rw[List.length_map] at hk
 have hm:=freeL_lt (c:=szA a b a.q.fr.length) (piv:=pivT a b) _ (List.getElem_mem hk)
 exact⟨_,hm.1,hm.2,by simp[hk]⟩
theorem ext_coc{a b:Rep}(h:fitR a b=true){k:Nat}(hk:k<(extP a b).1.length):isCoc a b ((extP a b).1.getD k default)=true:=by
 obtain⟨j,h1,h2,e⟩:=ext_get h hk
 have hp:=isF_pos (Fits.of h).f
 rw[e]
 exact cutL_coc h (unitL_len _ _) fun y hy=>unitL_mem hp.1 y hy
theorem ext_ncob{a b:Rep}(h:fitR a b=true){k:Nat}(hk:k<(extP a b).1.length):isCob a b ((extP a b).1.getD k default)=false:=by
 obtain⟨j,h1,h2,e⟩:=ext_get h hk
 have hf:=(Fits.of h).f
 have hp:=isF_pos hf
 have hc:=ext_coc h hk
 rw[e] at hc⊢
 have hcl:=unitL_len (szA a b a.q.fr.length) j
 have hcat:=catM_cutL (a:=a) (b:=b) hcl
 unfold isCob
 rw[hc,Bool.true_and,hcat]
 cases hs:(solL a.p (szA a b a.q.fr.length) (szT a b a.d.length) (ent (eqM a b)) (unitL (szA a b a.q.fr.length) j)).2 with
 |false=>rfl
 |true=>
  exfalso
  have hv:∀i,i<szA a b a.q.fr.length→0≤(unitL (szA a b a.q.fr.length) j).getD i default∧(unitL (szA a b a.q.fr.length) j).getD i default≤a.p-1:=fun i hi=>by
   rw[unitL_get hi];split<;>omega
  have hsol:=sol_ok hf (eqM_bd (a:=a) (b:=b) (by omega)) hv hs
  generalize (solL a.p (szA a b a.q.fr.length) (szT a b a.d.length) (ent (eqM a b)) (unitL (szA a b a.q.fr.length) j)).1=x at hsol
  have hsp:Sp a.p (szT a b a.d.length) (szA a b a.q.fr.length) (eqT a b) (fun i=>(unitL (szA a b a.q.fr.length) j).getD i default):=⟨fun t=>x.getD t default,fun i hi=>by
   refine(hsol i hi).symm.trans ?_
   unfold dotV
   rw[sumN_eq (g:=fun t=>x.getD t default*eqT a b t i) _ fun t _=>by rw[Int.mul_comm];rfl]
   exact .refl _⟩
  obtain⟨g1,g2⟩:=redK_ech hf (eqT_bd (a:=a) (b:=b) (by omega)) (szA a b a.q.fr.length) (Nat.le_refl _)
  have hz:=g1.zero ((g2.iff _).1 hsp) (fun i hi=>by
   have hlt:=g1.lt i hi
   show Cg a.p ((unitL (szA a b a.q.fr.length) j).getD ((redK a.p (szT a b a.d.length) (eqT a b) (szA a b a.q.fr.length)).2.getD i 0) default) 0
   rw[unitL_get hlt,if_neg (fun e=>h2 (by
    rw[←e]
    show(redK a.p (szT a b a.d.length) (eqT a b) (szA a b a.q.fr.length)).2.getD i 0∈pivT a b
    unfold pivT
    simp[hi]))]
   exact .refl _) j h1
  rw[unitL_get h1,if_pos rfl] at hz
  have:=hz.eq ⟨by omega,by omega⟩ ⟨by omega,by omega⟩
  omega
theorem cob_at{a b:Rep}{f:List Mat}(h:areM a b f=true){i:Nat}(hi:i<a.q.fr.length):(cobL a b f).getD i default=plusM a.p (arX a b f i) (a.p-1) (arY a b f i):=by simp[cobL,hi]
theorem cob_cob{a b:Rep}{f:List Mat}(h:areM a b f=true):isCob a b (cobL a b f)=true:=by
 have hfit:=(areM_spec h).1
 have hf:=(Fits.of hfit).f
 have hp:=isF_pos hf
 have hcut:=cob_cut h
 generalize hx:tab (szA a b a.q.fr.length) 1 (mulF a.p (ent (eqM a b)) (ent (colM a b f)) (szT a b a.d.length))=x at hcut
 have hxl:x.length=szA a b a.q.fr.length:=by rw[←hx,tab_len,Nat.mul_one]
 have hxg:∀i,i<szA a b a.q.fr.length→x.getD i default=dotK (ent (eqM a b)) (ent (colM a b f)) i 0 (szT a b a.d.length)%a.p:=fun i hi=>by
  have:=tab_get (mulF a.p (ent (eqM a b)) (ent (colM a b f)) (szT a b a.d.length)) hi (show 0<1 by omega)
  rw[Nat.mul_one,Nat.add_zero] at this
  rw[←hx,this]
  rfl
 have hxb:∀i,i<szA a b a.q.fr.length→0≤x.getD i default∧x.getD i default≤a.p-1:=fun i hi=>by
  rw[hxg i hi]
  have h1:=Int.emod_nonneg (dotK (ent (eqM a b)) (ent (colM a b f)) i 0 (szT a b a.d.length)) (show a.p≠0 by omega)
  have h2:=Int.emod_lt_of_pos (dotK (ent (eqM a b)) (ent (colM a b f)) i 0 (szT a b a.d.length)) (show 0<a.p by omega)
  omega
 have hxm:∀y∈x,0≤y∧y≤a.p-1:=fun y hy=>by
  obtain⟨i,hi,e⟩:=List.getElem_of_mem hy
  have:=hxb i (by omega)
  have e2:x.getD i default=y:=by simp[hi,e]
  rwa [e2] at this
 rw[←hcut]
 have hcoc:=cutL_coc hfit hxl hxm
 have hcat:=catM_cutL (a:=a) (b:=b) hxl
 unfold isCob
 rw[hcoc,Bool.true_and,hcat]
 refine sol_yes (x:=catM f) hf (eqM_bd (a:=a) (b:=b) (by omega)) hxb fun i hi=>?_
 rw[hxg i hi,dotK_sum]
 refine Cg.trans ?_ (Cg.mod ..).symm
 unfold dotV
 rw[sumN_eq (g:=fun k=>ent (eqM a b) i k*ent (colM a b f) k 0) _ fun k hk=>by
  have:ent (colM a b f) k 0=(catM f).getD k default:=by
   show(catM f).getD (k*(1:Int).toNat+0) default=_
   simp
  rw[this]]
 exact .refl _
end Go.Proofs.YtjmjamhhppoimaaGreat.V
