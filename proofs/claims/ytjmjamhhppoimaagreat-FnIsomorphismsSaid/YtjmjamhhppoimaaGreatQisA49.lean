/- Texts that the proof needs: A93, A98, A48, A49. -/
import Derived.Test.YtjmjamhhppoimaaGreatQisA87
namespace Go.Proofs.YtjmjamhhppoimaaGreat.V
open Go.RowKit G D
set_option linter.unusedVariables false
set_option linter.unusedSimpArgs false
set_option maxHeartbeats 1000000
set_option maxRecDepth 4000
theorem mul_get{p:Int}{x y:Mat}{i j:Nat}(hi:i<x.r.toNat)(hj:j<y.c.toNat):ent (mulM p x y) i j=sumN (fun k=>ent x i k*ent y k j) x.c.toNat%p:=by
 unfold mulM
 rw[ent_tm _ hi hj]
 unfold mulF
 rw[dotK_sum]
theorem mat_ext{p:Int}{x y:Mat}(hx:isMat p x=true)(hy:isMat p y=true)(hr:x.r=y.r)(hc:x.c=y.c)(h:∀i,i<x.r.toNat→∀j,j<x.c.toNat→ent x i j=ent y i j):x=y:=by
 rw[←isMat_tm hx,←isMat_tm hy,←hr,←hc]
 unfold tm
 congr 1
 exact tab_ext h
theorem mul_assoc{p:Int}{x y z:Mat}(hx:isMat p x=true)(hy:isMat p y=true)(hz:isMat p z=true)(hxy:x.c=y.r)(hyz:y.c=z.r):mulM p (mulM p x y) z=mulM p x (mulM p y z):=by
 obtain⟨a1,a2⟩:=mulM_rc hx hy
 obtain⟨b1,b2⟩:=mulM_rc hy hz
 have hxy':=isMat_mul hx hy
 have hyz':=isMat_mul hy hz
 obtain⟨c1,c2⟩:=mulM_rc hxy' hz
 obtain⟨d1,d2⟩:=mulM_rc hx hyz'
 refine mat_ext (isMat_mul hxy' hz) (isMat_mul hx hyz') (by rw[c1,a1,d1]) (by rw[c2,d2,b2]) fun i hi j hj=>?_
 rw[c1,a1] at hi
 rw[c2] at hj
 rw[mul_get (by rw[a1];exact hi) hj,mul_get hi (by rw[b2];exact hj),a2]
 refine Cg.iff.1 ?_
 have h1:Cg p (sumN (fun k=>ent (mulM p x y) i k*ent z k j) y.c.toNat) (sumN (fun k=>sumN (fun l=>ent x i l*ent y l k) x.c.toNat*ent z k j) y.c.toNat):=sumN_cg _ fun k hk=>by
  rw[mul_get hi hk]
  exact(Cg.mod ..).mul (.refl _)
 have h2:Cg p (sumN (fun l=>ent x i l*ent (mulM p y z) l j) x.c.toNat) (sumN (fun l=>ent x i l*sumN (fun k=>ent y l k*ent z k j) y.c.toNat) x.c.toNat):=sumN_cg _ fun l hl=>by
  rw[mul_get (by rw[←hxy];exact hl) hj]
  exact(Cg.refl _).mul (Cg.mod ..)
 refine h1.trans (Cg.trans ?_ h2.symm)
 have e1:sumN (fun k=>sumN (fun l=>ent x i l*ent y l k) x.c.toNat*ent z k j) y.c.toNat=sumN (fun k=>sumN (fun l=>ent x i l*ent y l k*ent z k j) x.c.toNat) y.c.toNat:=sumN_eq _ fun k _=>by
  rw[Int.mul_comm,←sumN_mul]
  exact sumN_eq _ fun l _=>by rw[Int.mul_comm]
 have e2:sumN (fun l=>ent x i l*sumN (fun k=>ent y l k*ent z k j) y.c.toNat) x.c.toNat=sumN (fun l=>sumN (fun k=>ent x i l*ent y l k*ent z k j) y.c.toNat) x.c.toNat:=sumN_eq _ fun l _=>by
  rw[←sumN_mul]
  exact sumN_eq _ fun k _=>by rw[Int.mul_assoc]
 rw[e1,e2,sumN_swap (fun k l=>ent x i l*ent y l k*ent z k j) x.c.toNat y.c.toNat]
 exact .refl _
def idM(n:Int):Mat:=tm n.toNat n.toNat idF
theorem isMat_id{p:Int}{n:Int}(hp:isF p=true)(hn:n≤8):isMat p (idM n)=true:=by
 have:=isF_pos hp
 refine isMat_tab hp (by omega) (by omega) fun i hi j hj=>?_
 unfold idF
 split<;>omega
theorem mul_id{p:Int}{x:Mat}(hx:isMat p x=true):mulM p x (idM x.c)=x:=by
 obtain⟨h0,h1,h2,_,_⟩:=isMat_spec hx
 have hp:=isF_pos h0
 have hI:=isMat_id (p:=p) (n:=x.c) h0 h2.2
 obtain⟨a1,a2⟩:=mulM_rc hx hI
 have ec:(idM x.c).c=x.c:=Int.toNat_of_nonneg h2.1
 refine mat_ext (isMat_mul hx hI) hx a1 (by rw[a2,ec]) fun i hi j hj=>?_
 rw[a1] at hi
 rw[a2,ec] at hj
 rw[mul_get hi (by rw[ec];exact hj),sumN_eq (g:=fun k=>(if k=j then 1 else 0)*ent x i k) _ fun k hk=>by
  rw[show ent (idM x.c) k j=idF k j from ent_tm _ hk hj,Int.mul_comm];rfl,sumN_one,if_pos hj]
 have:=ent_bd hx i hi j hj
 exact Int.emod_eq_of_lt this.1 (by omega)
theorem id_mul{p:Int}{x:Mat}(hx:isMat p x=true):mulM p (idM x.r) x=x:=by
 obtain⟨h0,h1,h2,_,_⟩:=isMat_spec hx
 have hp:=isF_pos h0
 have hI:=isMat_id (p:=p) (n:=x.r) h0 h1.2
 obtain⟨a1,a2⟩:=mulM_rc hI hx
 have er:(idM x.r).r=x.r:=Int.toNat_of_nonneg h1.1
 have ec:(idM x.r).c=x.r:=Int.toNat_of_nonneg h1.1
 refine mat_ext (isMat_mul hI hx) hx (by rw[a1,er]) a2 fun i hi j hj=>?_
 rw[a1,er] at hi
 rw[a2] at hj
 rw[mul_get (by rw[er];exact hi) hj,ec,sumN_eq (g:=fun k=>(if k=i then 1 else 0)*ent x k j) _ fun k hk=>by
  rw[show ent (idM x.r) i k=idF i k from ent_tm _ hi hk]
  unfold idF
  by_cases e:i=k
  ·subst e;rfl
  ·rw[if_neg e,if_neg fun h=>e h.symm],sumN_one,if_pos hi]
 have:=ent_bd hx i hi j hj
 exact Int.emod_eq_of_lt this.1 (by omega)
def powM(p:Int)(m:Mat):Nat→Mat
 |0=>idM m.r
 |k+1=>mulM p (powM p m k) m
theorem pow_ok{p:Int}{m:Mat}(h:isMat p m=true)(hs:m.r=m.c):∀k,isMat p (powM p m k)=true∧(powM p m k).r=m.r∧(powM p m k).c=m.r
 |0=>by
  obtain⟨h0,h1,h2,_,_⟩:=isMat_spec h
  exact⟨isMat_id h0 h1.2,Int.toNat_of_nonneg h1.1,Int.toNat_of_nonneg h1.1⟩
 |k+1=>by
  obtain⟨a,b,c⟩:=pow_ok h hs k
  obtain⟨d,e⟩:=mulM_rc a h
  exact⟨isMat_mul a h,by rw[powM,d,b],by rw[powM,e,hs]⟩
def powL(p:Int)(f:List Mat)(k:Nat):List Mat:=f.map fun m=>powM p m k
theorem powL_len(p:Int)(f:List Mat)(k:Nat):(powL p f k).length=f.length:=by simp[powL]
theorem powL_get{p:Int}{f:List Mat}{k v:Nat}(hv:v<f.length):(powL p f k).getD v default=powM p (f.getD v default) k:=by simp[powL,hv]
theorem sameM_eq{x y:Mat}(h:sameM x y=true):x=y:=by
 cases x;cases y
 simp only[sameM,Bool.and_eq_true,decide_eq_true_eq] at h
 obtain⟨⟨h1,h2⟩,h3⟩:=h
 subst h1 h2 h3;rfl
theorem mor_arr{a b:Rep}{f:List Mat}(h:isMor a b f=true){i:Nat}(hi:i<a.q.fr.length):mulM a.p (b.m.getD i default) (f.getD (a.q.fr.getD i default).toNat default)=mulM a.p (f.getD (a.q.to.getD i default).toNat default) (a.m.getD i default):=by
 simp only[isMor,Bool.and_eq_true,List.all_eq_true] at h
 have:=h.2 i (by simpa using hi)
 exact sameM_eq this
theorem mor_mk{a b:Rep}{f:List Mat}(hf:fitR a b=true)(hl:f.length=a.d.length)(hm:∀v,v<f.length→isMat a.p (f.getD v default)=true∧(f.getD v default).c=a.d.getD v default∧(f.getD v default).r=b.d.getD v default)(h:∀i,i<a.q.fr.length→mulM a.p (b.m.getD i default) (f.getD (a.q.fr.getD i default).toNat default)=mulM a.p (f.getD (a.q.to.getD i default).toNat default) (a.m.getD i default)):isMor a b f=true:=by
 simp only[isMor,areM,Bool.and_eq_true,decide_eq_true_eq,List.all_eq_true]
 refine⟨⟨⟨hf,hl⟩,fun v hv=>?_⟩,fun i hi=>?_⟩
 ·obtain⟨m1,m2,m3⟩:=hm v (by simpa using hv)
  simp only[fitV,Bool.and_eq_true,decide_eq_true_eq]
  exact⟨⟨m1,m2⟩,m3⟩
 ·have:=h i (by simpa using hi)
  unfold arX arY
  rw[this]
  simp[sameM]
theorem mor_pow{r:Rep}{f:List Mat}(h:isMor r r f=true)(k:Nat):isMor r r (powL r.p f k)=true:=by
 obtain⟨m1,m2,m3,m4,m5⟩:=mor_ok h
 obtain⟨a1,a2,a3⟩:=areM_spec (isMor_are h)
 have hsq:∀v,v<f.length→(f.getD v default).r=(f.getD v default).c:=fun v hv=>by
  obtain⟨_,n2,n3⟩:=m5 v hv
  rw[n2,n3]
 refine mor_mk a1 (by rw[powL_len];exact m1) (fun v hv=>?_) fun i hi=>?_
 ·rw[powL_len] at hv
  obtain⟨n1,n2,n3⟩:=m5 v hv
  obtain⟨p1,p2,p3⟩:=pow_ok n1 (hsq v hv) k
  rw[powL_get hv]
  exact⟨p1,by rw[p3,n3],by rw[p2,n3]⟩
 ·have hA:=ArF.of (isMor_are h) hi
  have hm:=mor_arr h hi
  rw[powL_get hA.fr.2,powL_get hA.to.2]
  have s1:=hsq _ hA.fr.2
  have s2:=hsq _ hA.to.2
  have c1:=hA.cx
  have c2:=hA.cy
  have c3:=hA.rr
  have c4:=hA.cc
  have x1:=hA.ff
  have x2:=hA.ft
  have x3:=hA.ma
  generalize r.m.getD i default=M at*
  generalize f.getD (r.q.fr.getD i default).toNat default=F at*
  generalize f.getD (r.q.to.getD i default).toNat default=G1 at*
  induction k with
  |zero=>
   rw[powM,powM]
   have e1:F.r=M.c:=c1.symm
   rw[e1,c3.symm]
   rw[mul_id x3,id_mul x3]
  |succ k ih=>
   obtain⟨p1,p2,p3⟩:=pow_ok x1 s1 k
   obtain⟨q1,q2,q3⟩:=pow_ok x2 s2 k
   rw[powM,powM,←mul_assoc x3 p1 x1 (by rw[p2];exact c1) (by rw[p3]),ih,mul_assoc q1 x3 x1 (by rw[q3,c3]) c1,hm,←mul_assoc q1 x2 x3 (by rw[q3]) c2]
theorem dim_zero:∀{s:List Spc},(dimS s).sum=0↔∀x∈s,x.b=[]
 |[]=>by simp[dimS]
 |x::s=>by
  have ih:=dim_zero (s:=s)
  have h0:∀l:List Spc,0≤(dimS l).sum:=fun l=>by
   induction l with
   |nil=>simp[dimS]
   |cons y l ih=>simp only[dimS,List.map_cons,List.sum_cons] at ih⊢;omega
  have h1:=h0 s
  have e:(dimS (x::s)).sum=(x.b.length:Int)+(dimS s).sum:=by simp[dimS]
  rw[e]
  constructor
  ·intro h y hy
   rcases List.mem_cons.1 hy with rfl|hy
   ·exact List.eq_nil_of_length_eq_zero (by omega)
   ·exact ih.1 (by omega) y hy
  ·intro h
   have:=h x (by simp)
   have h2:=ih.2 fun y hy=>h y (by simp[hy])
   rw[this,h2];rfl
theorem same_zero{r:Rep}{s:List Spc}(hl:s.length=r.d.length)(hn:∀v,v<s.length→(s.getD v default).n=r.d.getD v default):sameSL s (radK r 0)=decide ((dimS s).sum=0):=by
 have hrl:(radK r 0).length=r.d.length:=radK_len r 0
 have hg:∀v,v<r.d.length→(radK r 0).getD v default=⟨r.d.getD v default,[]⟩:=fun v hv=>by simp[radK,hv]
 rw[Bool.eq_iff_iff,decide_eq_true_eq,dim_zero]
 simp only[sameSL,Bool.and_eq_true,decide_eq_true_eq,List.all_eq_true,sameS]
 constructor
 ·intro⟨_,h⟩ x hx
  obtain⟨v,hv,rfl⟩:=List.getElem_of_mem hx
  have:=(h v (by simpa using hv)).2
  rw[hg v (by omega)] at this
  have e:s.getD v default=s[v]:=by simp[hv]
  rw[e] at this
  exact this
 ·intro h
  refine⟨by omega,fun v hv=>?_⟩
  have hv:v<s.length:=by simpa using hv
  rw[hg v (by omega)]
  exact⟨hn v hv,h _ (gm hv)⟩
def spP(r:Rep)(f:List Mat):List Spc×List Spc×Bool:=if isMor r r f=true∧(dimS (kerLs r.p (powL r.p f 8))).sum≠0∧(dimS (imgLs r.p (powL r.p f 8))).sum≠0 then(kerLs r.p (powL r.p f 8),imgLs r.p (powL r.p f 8),true) else([],[],false)
theorem findR_col{f f':Nat→Nat→Int}{k k':Nat}(h:∀i,f i k=f' i k'):∀n a,findR f k n a=findR f' k' n a
 |0,a=>rfl
 |n+1,a=>by rw[findR,findR,h a,findR_col h n (a+1)]
def SameC(C:Nat→Nat→Prop)(s s':(Nat→Nat→Int)×List Nat):Prop:=s.2=s'.2∧∀j j',C j j'→∀i,s.1 i j=s'.1 i j'
theorem SameC.step{C:Nat→Nat→Prop}{p:Int}{r k:Nat}{s s':(Nat→Nat→Int)×List Nat}(h:SameC C s s')(hk:C k k):SameC C (stepE p r s k) (stepE p r s' k):=by
 obtain⟨f,l⟩:=s
 obtain⟨f',l'⟩:=s'
 obtain⟨h1,h2⟩:=h
 dsimp only at h1 h2
 subst h1
 have e:=findR_col (h2 k k hk) (r-l.length) l.length
 unfold stepE
 dsimp only
 rw[e]
 generalize findR f' k (r-l.length) l.length=a
 by_cases ha:a=r
 ·rw[if_pos ha,if_pos ha];exact⟨rfl,h2⟩
 ·rw[if_neg ha,if_neg ha]
  refine⟨rfl,fun j j' hj i=>?_⟩
  have hsw:∀j j',C j j'→∀i,swapF f l.length a i j=swapF f' l.length a i j':=fun j j' hj i=>by
   unfold swapF;rw[h2 j j' hj a,h2 j j' hj l.length,h2 j j' hj i]
  have hsc:∀j j',C j j'→∀i,scaleF p (swapF f l.length a) l.length (invP p (swapF f l.length a l.length k)) i j=scaleF p (swapF f' l.length a) l.length (invP p (swapF f' l.length a l.length k)) i j':=fun j j' hj i=>by
   unfold scaleF;rw[hsw j j' hj i,hsw k k hk l.length]
  show clearF p _ _ k i j=clearF p _ _ k i j'
  unfold clearF
  rw[hsc j j' hj i,hsc k k hk i,hsc j j' hj l.length]
theorem SameC.red{C:Nat→Nat→Prop}{p:Int}{r:Nat}{f f':Nat→Nat→Int}(h:∀j j',C j j'→∀i,f i j=f' i j'):∀k,(∀j,j<k→C j j)→SameC C (redK p r f k) (redK p r f' k)
 |0,_=>⟨rfl,h⟩
 |k+1,hk=>(SameC.red h k fun j hj=>hk j (by omega)).step (hk k (by omega))
def invF(p:Int)(n:Nat)(f:Nat→Nat→Int):Nat→Nat→Int:=fun i j=>(redK p n (besF n f idF) (n+n)).1 i (n+j)
theorem solV_get{n:Nat}{g:Nat→Nat→Int}{piv:List Nat}{j:Nat}(hj:j<n):∀m,(∀i,i<m→piv.getD i 0=i)→(solV n g piv m).getD j default=if j<m then g j n else 0
 |0,_=>by simp[solV,hj]
 |m+1,h=>by
  have ih:=solV_get (g:=g) hj m fun i hi=>h i (by omega)
  have e:=h m (by omega)
  by_cases e2:m=j
  ·subst e2
   rw[solV,e,set_get (by rw[solV_len];exact hj),if_pos (by omega)]
  ·rw[solV,e,set_ne e2,ih]
   by_cases e3:j<m
   ·rw[if_pos e3,if_pos (by omega)]
   ·rw[if_neg e3,if_neg (by omega)]
theorem piv_range{p:Int}{n:Nat}{f:Nat→Nat→Int}(hF:isF p=true)(hb:BdF p n n f)(h:(redK p n f n).2.length=n):(redK p n f n).2=List.range n:=by
 have hp:=isF_pos hF
 have hl:=(redK_bd (show 0<p by omega) hb n).2.2.2
 exact inc_sub (redK_pw hF hb) List.pairwise_lt_range (fun x hx=>List.mem_range.2 (hl x hx)) (by rw[List.length_range];omega)
theorem inv_sol{p:Int}{n k:Nat}{f:Nat→Nat→Int}(hF:isF p=true)(hb:BdF p n n f)(h:(redK p n f n).2.length=n)(hk:k<n):solL p n n f (unitL n k)=(rowL n fun i=>invF p n f i k,true):=by
 have hr:=piv_range hF hb h
 have s1:SameC (fun j j'=>j=j'∧j<n) (redK p n f n) (redK p n (besF n f idF) n):=SameC.red (fun j j' hj i=>by
  obtain⟨rfl,hj⟩:=hj
  unfold besF;rw[if_pos hj]) n fun j hj=>⟨rfl,hj⟩
 have s2:SameC (fun j j'=>(j=j'∧j<n)∨(j=n∧j'=n+k)) (redK p n (augF n f (unitL n k)) n) (redK p n (besF n f idF) n):=SameC.red (fun j j' hj i=>by
  rcases hj with⟨rfl,hj⟩|⟨rfl,rfl⟩
  ·unfold augF besF;rw[if_pos hj,if_pos hj]
  ·unfold augF besF
   rw[if_neg (by omega),if_neg (by omega),Nat.add_sub_cancel_left]
   unfold idF
   by_cases hi:i<j
   ·exact unitL_get hi
   ·rw[if_neg (by omega)]
    have:(unitL j k).length≤i:=by rw[unitL_len];omega
    simp[List.getElem?_eq_none this]) n fun j hj=>.inl ⟨rfl,hj⟩
 have l1:(redK p n (besF n f idF) n).2.length=n:=by rw[←s1.1];exact h
 have l2:(redK p n (augF n f (unitL n k)) n).2.length=n:=by rw[s2.1];exact l1
 have e1:=redK_full l1 n
 have e2:=redK_full l2 1
 have p2:(redK p n (augF n f (unitL n k)) n).2=List.range n:=by rw[s2.1,←s1.1];exact hr
 unfold solL
 rw[e2,p2,if_neg (by simp),List.length_range]
 congr 1
 apply List.ext_getElem (by rw[solV_len,rowL_len])
 intro i h1 h2
 have hi:i<n:=by rwa [solV_len] at h1
 have g1:=solV_get (g:=(redK p n (augF n f (unitL n k)) n).1) (piv:=List.range n) hi n fun t ht=>by simp[ht]
 rw[if_pos hi] at g1
 have a1:∀(L:List Int) (h:i<L.length),L.getD i default=L[i]:=fun L h=>by simp[h]
 rw[←a1 _ h1,g1,←a1 _ h2,rowL_get _ hi]
 unfold invF
 rw[e1]
 exact s2.2 n (n+k) (.inr ⟨rfl,rfl⟩) i
theorem invF_bd{p:Int}{n:Nat}{f:Nat→Nat→Int}(hF:isF p=true)(hb:BdF p n n f):BdF p n n (invF p n f):=fun i hi j hj=>by
 have hp:=isF_pos hF
 have h2:BdF p n (n+n) (besF n f idF):=fun i hi j hj=>by
  unfold besF
  by_cases h:j<n
  ·rw[if_pos h];exact hb i hi j h
  ·rw[if_neg h];exact idF_bd hp.1 n i hi (j-n) (by omega)
 exact(redK_bd (show 0<p by omega) h2 (n+n)).1 i hi (n+j) (by omega)
end Go.Proofs.YtjmjamhhppoimaaGreat.V
namespace Go.Proofs.YtjmjamhhppoimaaGreat.V
open V.Enc (enc)
open Go.RowKit G D
set_option linter.unusedVariables false
set_option linter.unusedSimpArgs false
set_option maxHeartbeats 4000000
set_option maxRecDepth 4000
attribute [local irreducible] AW ARg ARA ARet MRet ASil AC AM
theorem augF_bd{p:Int}{r c:Nat}{f:Nat→Nat→Int}{v:List Int}(hb:BdF p r c f)(hv:∀i,i<r→0≤v.getD i default∧v.getD i default≤p-1):BdF p r (c+1) (augF c f v):=fun i hi j hj=>by
 unfold augF
 split
 ·exact hb i hi j (by assumption)
 ·exact hv i hi
theorem solL_no{p:Int}{r c:Nat}{f:Nat→Nat→Int}{v:List Int}{g:Nat→Nat→Int}{piv:List Nat}(hR:redK p r (augF c f v) (c+1)=(g,piv))(h:c∈piv):solL p r c f v=([],false):=by
 unfold solL;rw[hR,if_pos h]
theorem solL_yes{p:Int}{r c:Nat}{f:Nat→Nat→Int}{v:List Int}{g:Nat→Nat→Int}{piv:List Nat}(hR:redK p r (augF c f v) (c+1)=(g,piv))(h:c∉piv):solL p r c f v=(solV c g piv piv.length,true):=by
 unfold solL;rw[hR,if_neg h]
def auK(c:Nat)(f:Nat→Nat→Int)(v:List Int)(i k:Nat):Nat→Nat→Int:=fun x y=>if x<i∨(x=i∧y<k) then augF c f v x y else 0
theorem auK_zero(c:Nat)(f:Nat→Nat→Int)(v:List Int):auK c f v 0 0=fun _ _=>0:=by funext x y;simp[auK]
theorem auK_set(c:Nat)(f:Nat→Nat→Int)(v:List Int)(i k:Nat):updF (auK c f v i k) i k (augF c f v i k)=auK c f v i (k+1):=by
 funext x y
 simp only[auK,updF]
 by_cases h1:x=i
 ·subst h1
  by_cases h2:y=k
  ·subst h2;simp
  ·have:y<k+1↔y<k:=by omega
   simp[h2,this]
 ·simp[h1]
theorem auK_next(c:Nat)(f:Nat→Nat→Int)(v:List Int)(i r:Nat):tab r (c+1) (auK c f v i (c+1))=tab r (c+1) (auK c f v (i+1) 0):=tab_ext fun x hx y hy=>by
 have e:(x<i∨x=i∧y<c+1)↔(x<i+1∨x=i+1∧y<0):=by omega
 simp only[auK,e]
theorem auK_all(c:Nat)(f:Nat→Nat→Int)(v:List Int)(r:Nat):tab r (c+1) (auK c f v r 0)=tab r (c+1) (augF c f v):=tab_ext fun x hx y hy=>by simp[auK,hx]
theorem l4Solve_a(p:Int)(r c:Nat)(f:Nat→Nat→Int)(v:List Int)(hf:isF p=true)(hr:r≤1000)(hc:c≤1000)(hb:BdF p r c f)(hvl:v.length=r)(hv:∀i,i<r→0≤v.getD i default∧v.getD i default≤p-1):
  AC Tryz.prog 360 [.i p,.agg (enc false (tm r c f)),ar false v] [.dt true 1 (E true (solL p r c f v).1),.b (solL p r c f v).2]:=by
 refine AC.go Tryz.func360 Tryz.ntmps360 rfl rfl fun w0 hw=>?_;simp[WfL,WfA,E_length,Enc.enc,In64] at hw
 have h5:=isF_pos hf
 have hZ:=l3ZeroT_a r (c+1) (by omega) (by omega)
 have hR:=l4Reduce_a p r (c+1) (augF c f v) hf (by omega) (by omega) (augF_bd hb hv)
 obtain⟨b1,b2,b3,b4⟩:=redK_bd (p:=p) (by omega) (augF_bd hb hv) (c+1)
 have hno0:=fun g piv (hR:redK p r (augF c f v) (c+1)=(g,piv)) (h:c∈piv)=>solL_no hR h
 have hyes0:=fun g piv (hR:redK p r (augF c f v) (c+1)=(g,piv)) (h:c∉piv)=>solL_yes hR h
 generalize redK p r (augF c f v) (c+1)=R at hR b1 b2 b3 b4 hno0 hyes0
 obtain⟨g,piv⟩:=R
 dsimp only at hR b1 b2 b3 b4
 have hno:=hno0 g piv rfl
 have hyes:=hyes0 g piv rfl
 clear hno0 hyes0
 generalize solL p r c f v=S at hno hyes⊢
 have hpl:=ints_len piv
 have hc1:((c+1:Nat):Int)=(c:Int)+1:=by push_cast;rfl
 rw[hc1] at hZ
 have hi64:In64 ((tm r c f).c+1):=by
  show In64 ((c:Int)+1)
  unfold In64;omega
 repeat' first|refine s1 ?_|refine q1 ?_|(refine kR ?_;first|refine F.c (hZ) ?_)|fail
 refine F.loop (σ:=Nat) [9,10,21,22,23,24,25,26,27,28,29,30,31,32,33,34,35,36,37,38,39,40,41,42,43,44,45,46,47,48,49,50,51,52,53,54,55,56,57,58,59,60,61,62,63,64,65] (fun i=>[(9,.i i)]) (fun i=>[(1,.live false 1 (E true (tab r (c+1) (auK c f v i 0))))]) (fun i=>i≤r) (fun i=>r-i) 0 ⟨rfl,trivial⟩ ⟨obE (by rw[auK_zero]),trivial⟩ (Nat.zero_le _) ?_
 rintro i i1
 by_cases hi:i<r
 ·repeat' first|refine s1 ?_|refine q1 ?_|fail
  refine F.loop (σ:=Nat) [10,27,28,29,30,31,32,33,34,35,36,37,38,39,40,41,42,43,44,45,46,47,48,49,50,51] (fun k=>[(10,.i k)]) (fun k=>[(1,.live false 1 (E true (tab r (c+1) (auK c f v i k))))]) (fun k=>k≤c) (fun k=>c-k) 0 ⟨rfl,trivial⟩ ⟨rfl,trivial⟩ (Nat.zero_le _) ?_
  rintro k k1
  by_cases hk:k<c
  ·obtain⟨t1,t2⟩:=tab_in (i:=i) (j:=k) (r:=r) (c:=c) hi hk (by omega) (by omega)
   obtain⟨t3,t4⟩:=tab_in (i:=i) (j:=k) (r:=r) (c:=c+1) hi (by omega) (by omega) (by omega)
   have hv1:f i k=augF c f v i k:=by unfold augF;rw[if_pos hk]
   repeat' first|refine s1 ?_|refine q1 ?_|fail
   refine AW.draw 19 G.mixed (by kernel_rfl) ?_
   refine Pz (.p 0<|.l 1<|.p 2<|.p 3<|.l 4<|.p 5<|.p 6<|.p 7<|.p 8<|.l 9<|.p 10<|.p 11<|.l 12<|.p 13<|.p 14<|.p 15<|.p 16<|.l 17<|.p 18<|.o 19 false<|.n) ?_
   repeat' first|refine ySQ ?_|refine s1 ?_|refine q1 ?_|fail
   any_goals refine lf ?_
   repeat' first|refine s1 ?_|refine q1 ?_|fail
   exact⟨k+1,F.fit ⟨rfl,trivial⟩ ⟨obE (by rw[hv1,auK_set]),trivial⟩,by omega,by omega⟩
  ·obtain rfl:k=c:=by omega
   obtain⟨t3,t4⟩:=tab_in (i:=i) (j:=k) (r:=r) (c:=k+1) hi (by omega) (by omega) (by omega)
   have hv1:v.getD i default=augF k f v i k:=by unfold augF;rw[if_neg (by omega)]
   repeat' first|refine s1 ?_|refine q1 ?_|fail
   refine AW.draw 14 G.mixed (by kernel_rfl) ?_
   refine Pz (.p 0<|.l 1<|.p 2<|.p 3<|.l 4<|.p 5<|.p 6<|.l 7<|.p 8<|.p 9<|.p 10<|.p 11<|.l 12<|.p 13<|.o 14 false<|.n) ?_
   repeat' first|refine ySQ ?_|refine s1 ?_|refine q1 ?_|fail
   any_goals refine lf ?_
   repeat' first|refine s1 ?_|refine q1 ?_|fail
   exact⟨i+1,F.fit ⟨rfl,trivial⟩ ⟨obE (by rw[hv1,auK_set,auK_next]),trivial⟩,by omega,by omega⟩
 ·obtain rfl:i=r:=by omega
  have hH:=l4Has_a (ints piv) (c:Int)
  rw[auK_all]
  by_cases hm:c∈piv
  ·rw[decide_eq_true ((ints_mem piv c).mpr hm)] at hH
   rw[hno hm]
   repeat' first|refine s1 ?_|refine q1 ?_|(refine kR ?_;first|refine F.c (hR) ?_|refine F.c (hH) ?_)|fail
   (refine kZ ?_;exact F.ret rfl)
  ·rw[decide_eq_false (fun h=>hm ((ints_mem piv c).mp h))] at hH
   rw[hyes hm]
   repeat' first|refine s1 ?_|refine q1 ?_|(refine kR ?_;first|refine F.c (hR) ?_|refine F.c (hH) ?_|refine F.mk (m:=c) Int rfl rfl rfl (mkB (by omega)) (by omega) rfl rfl ?_)|fail
   refine F.loop (σ:=Nat) [14,80,81,82,83,84,85,86,87,88,89,90,91,92,93,94,95,96,97,98,99,100,101,102] (fun j=>[(14,.i j)]) (fun j=>[(6,.live false 1 (E true (solV c g piv j)))]) (fun j=>j≤piv.length) (fun j=>piv.length-j) 0 ⟨rfl,trivial⟩ ⟨rfl,trivial⟩ (Nat.zero_le _) ?_
   rintro j j1
   by_cases hj:j<piv.length
   ·have hpi:=ints_get piv hj
    have hq0:piv.getD j default<c+1:=b4 _ (by simp[hj])
    have hq:piv.getD j default<c:=by
     have:piv.getD j default≠c:=fun h=>hm (by rw[←h];simp[hj])
     omega
    have hir:j<i:=by omega
    have hpi':(ints piv).getD (0+j) default=(piv.getD j default:Nat):=by rw[Nat.zero_add];exact hpi
    have hT:((ints piv).getD (0+j) default).toNat=piv.getD j 0:=by rw[hpi'];exact Int.toNat_natCast _
    clear hpi
    obtain⟨t1,t2⟩:=tab_in (i:=j) (j:=c) (r:=i) (c:=c+1) hir (by omega) (by omega) (by omega)
    have hst:solV c g piv (j+1)=(solV c g piv j).set (piv.getD j 0) (g j c):=rfl
    have hsl:=solV_len c g piv j
    generalize solV c g piv j=X at hst hsl⊢
    rw[←hT] at hst
    repeat' first|refine s1 ?_|refine q1 ?_|fail
    refine AW.draw 17 G.mixed (by kernel_rfl) ?_
    refine Pz (.p 0<|.p 1<|.p 2<|.p 3<|.l 4<|.p 5<|.l 6<|.p 7<|.p 8<|.l 9<|.p 10<|.p 11<|.l 12<|.p 13<|.p 14<|.l 15<|.p 16<|.o 17 false<|.n) ?_
    repeat' first|refine ySQ ?_|refine s1 ?_|refine q1 ?_|fail
    any_goals refine lf ?_
    repeat' first|refine s1 ?_|refine q1 ?_|fail
    exact⟨j+1,F.fit ⟨rfl,trivial⟩ ⟨obE (by rw[hst,Nat.zero_add ((ints piv).getD (0+j) default).toNat]),trivial⟩,by omega,by omega⟩
   ·obtain rfl:j=piv.length:=by omega
    have hsl:=solV_len c g piv piv.length
    generalize solV c g piv piv.length=X at hsl⊢
    repeat' first|refine s1 ?_|refine q1 ?_|fail
    (refine kZ ?_;exact F.ret rfl)
end Go.Proofs.YtjmjamhhppoimaaGreat.V
