/- Texts that the proof needs: A205, A201, A207, A208. -/
import Derived.Test.YtjmjamhhppoimaaGreatQspA204
namespace Go.Proofs.YtjmjamhhppoimaaGreat.V
open Go.RowKit G D
set_option linter.unusedVariables false
set_option linter.unusedSimpArgs false
set_option maxHeartbeats 1000000
set_option maxRecDepth 4000
theorem spc_full2{p:Int}{a b:Spc}(ha:isSpc p a=true)(hb:isSpc p b=true)(hn:b.n=a.n)(h1:∀i,i<a.b.length→Me p b (vecF a.b i))(hl:b.b.length≤a.b.length):a=b:=by
 have hp:=isF_pos (isSpc_spec ha).1
 have hle:=spc_le ha hb hn h1
 obtain⟨ea,_⟩:=leadN_ech ha
 obtain⟨eb,_⟩:=leadN_ech hb
 unfold Me at h1
 rw[hn] at eb h1
 refine spc_ext ha hb hn.symm (fun i hi=>by unfold Me;rw[hn];exact h1 i hi) ?_
 exact ea.full hp.1 eb h1 (by rw[leadN_len,leadN_len];omega)
theorem pow_add{p:Int}{m:Mat}(h:isMat p m=true)(hs:m.r=m.c)(j:Nat):∀k,powM p m (j+k)=mulM p (powM p m j) (powM p m k)
 |0=>by
  obtain⟨a1,a2,a3⟩:=pow_ok h hs j
  have:=mul_id a1
  rw[a3] at this
  exact this.symm
 |k+1=>by
  obtain⟨a1,a2,a3⟩:=pow_ok h hs j
  obtain⟨b1,b2,b3⟩:=pow_ok h hs k
  rw[←Nat.add_assoc,powM,powM,pow_add h hs j k]
  exact mul_assoc a1 b1 h (by rw[a3,b2]) b3
def Zk(p:Int)(m:Mat)(k:Nat)(x:List Int):Prop:=∀i,i<m.r.toNat→Cg p (dotV (ent (powM p m k) i) x m.r.toNat) 0
theorem zk_add{p:Int}{m:Mat}(h:isMat p m=true)(hs:m.r=m.c)(j k:Nat)(x:List Int):Zk p m (j+k) x↔Zk p m j (appV p (powM p m k) x):=by
 obtain⟨a1,a2,a3⟩:=pow_ok h hs j
 obtain⟨b1,b2,b3⟩:=pow_ok h hs k
 have key:∀i,i<m.r.toNat→Cg p (dotV (ent (powM p m (j+k)) i) x m.r.toNat) (dotV (ent (powM p m j) i) (appV p (powM p m k) x) m.r.toNat):=fun i hi=>by
  have:=mul_dot a1 b1 (by rw[a3,b2]) x (i:=i) (by rw[a2];exact hi)
  rw[b3,a3] at this
  rw[pow_add h hs j k]
  exact this
 exact⟨fun hz i hi=>(key i hi).symm.trans (hz i hi),fun hz i hi=>(key i hi).trans (hz i hi)⟩
theorem zk_zero{p:Int}{m:Mat}(h:isMat p m=true)(hs:m.r=m.c)(k:Nat){x:List Int}(hx:∀i,i<m.r.toNat→Cg p (x.getD i default) 0):Zk p m k x:=fun i hi=>sumN_cg0 _ fun l hl=>by
 have:=(Cg.refl (ent (powM p m k) i l)).mul (hx l hl)
 rwa [Int.mul_zero] at this
theorem zk_up{p:Int}{m:Mat}(h:isMat p m=true)(hs:m.r=m.c)(k n:Nat){x:List Int}(hx:Zk p m k x):Zk p m (n+k) x:=by
 rw[zk_add h hs]
 obtain⟨b1,b2,b3⟩:=pow_ok h hs k
 refine zk_zero h hs n fun i hi=>?_
 rw[appV_get _ _ _ (by rw[b2];exact hi),b3]
 exact(Cg.mod ..).trans (hx i hi)
def krK(p:Int)(m:Mat)(k:Nat):Spc:=kerS p (powM p m k)
theorem krK_me{p:Int}{m:Mat}(h:isMat p m=true)(hs:m.r=m.c)(k:Nat)(x:List Int):Me p (krK p m k) (fun j=>x.getD j default)↔Zk p m k x:=by
 obtain⟨b1,b2,b3⟩:=pow_ok h hs k
 have hn:(krK p m k).n.toNat=m.r.toNat:=by
  show(powM p m k).c.toNat=_
  rw[b3]
 unfold Me
 rw[hn]
 constructor
 ·intro hx i hi
  exact dot_sp (x:=fun l=>ent (powM p m k) i l) hx fun t ht=>by
   have:=kerS_dot b1 ht (i:=i) (by rw[b2];exact hi)
   rw[b3] at this
   exact this
 ·intro hz
  have:=kerS_mem b1 (x:=x) fun i hi=>by
   rw[b3]
   exact hz i (by rw[b2] at hi;exact hi)
  rw[b3] at this
  exact this
theorem krK_ok{p:Int}{m:Mat}(h:isMat p m=true)(hs:m.r=m.c)(k:Nat):isSpc p (krK p m k)=true∧(krK p m k).n=m.r:=by
 obtain⟨b1,b2,b3⟩:=pow_ok h hs k
 exact⟨kerS_ok b1,b3⟩
theorem krK_up{p:Int}{m:Mat}(h:isMat p m=true)(hs:m.r=m.c)(k n:Nat):∀i,i<(krK p m k).b.length→Me p (krK p m (n+k)) (vecF (krK p m k).b i):=fun i hi=>
 (krK_me h hs (n+k) _).2 (zk_up h hs k n ((krK_me h hs k _).1 (Sp.row hi)))
theorem krK_stop{p:Int}{m:Mat}(h:isMat p m=true)(hs:m.r=m.c){k:Nat}(e:krK p m (1+k)=krK p m k):∀n x,Zk p m (n+k) x→Zk p m k x
 |0,x,hx=>by rwa [Nat.zero_add] at hx
 |n+1,x,hx=>by
  have h1:Zk p m (n+(1+k)) x:=by rwa [show n+(1+k)=n+1+k by omega]
  have h2:Zk p m ((n+k)+1) x:=by rwa [show n+k+1=n+1+k by omega]
  have h3:=krK_stop h hs e n _ ((zk_add h hs (n+k) 1 x).1 h2)
  have h4:=(zk_add h hs k 1 x).2 h3
  rw[Nat.add_comm] at h4
  rw[←krK_me h hs,e,krK_me h hs] at h4
  exact h4
theorem krK_8{p:Int}{m:Mat}(h:isMat p m=true)(hs:m.r=m.c)(h4:m.r≤4){x:List Int}(hx:Zk p m (8+8) x):Zk p m 8 x:=by
 have hle:∀k,(krK p m k).b.length≤4:=fun k=>by
  obtain⟨k1,k2⟩:=krK_ok h hs k
  have:=isSpc_le k1
  rw[k2] at this
  omega
 have hup:∀k,(krK p m k).b.length≤(krK p m (1+k)).b.length:=fun k=>by
  obtain⟨k1,k2⟩:=krK_ok h hs k
  obtain⟨l1,l2⟩:=krK_ok h hs (1+k)
  exact spc_le k1 l1 (by rw[k2,l2]) (krK_up h hs k 1)
 have hex:∃k,k≤8∧(krK p m (1+k)).b.length=(krK p m k).b.length:=by
  refine Classical.byContradiction fun hn=>?_
  have hst:∀k,k≤8→(krK p m k).b.length+1≤(krK p m (1+k)).b.length:=fun k hk=>by
   have:=hup k
   have:(krK p m (1+k)).b.length≠(krK p m k).b.length:=fun e=>hn ⟨k,hk,e⟩
   omega
  have hk:∀k,k≤8→k≤(krK p m k).b.length:=fun k=>by
   induction k with
   |zero=>intro _;exact Nat.zero_le _
   |succ k ih=>
    intro hk
    have h1:=ih (by omega)
    have h2:=hst k (by omega)
    rw[Nat.add_comm 1 k] at h2
    omega
  have:=hk 8 (by omega)
  have:=hle 8
  omega
 obtain⟨k,hk,el⟩:=hex
 obtain⟨k1,k2⟩:=krK_ok h hs k
 obtain⟨l1,l2⟩:=krK_ok h hs (1+k)
 have e:=spc_full2 k1 l1 (by rw[k2,l2]) (krK_up h hs k 1) (by omega)
 have h5:=krK_stop h hs e.symm (16-k) x (by rwa [show 16-k+k=8+8 by omega])
 have h6:=zk_up h hs k (8-k) h5
 rwa [show 8-k+k=8 by omega] at h6
theorem img_ex{p:Int}{m:Mat}(h:isMat p m=true){v:Nat→Int}(hv:Me p (imgS p m) v):∃y:List Int,∀j,j<m.r.toNat→Cg p (v j) ((appV p m y).getD j default):=by
 have hF:=(isMat_spec h).1
 have hbt:BdF p m.c.toNat m.r.toNat (fun k i=>ent m i k):=fun k hk j hj=>ent_bd h j hj k hk
 have hvb:VecB p m.r.toNat (rowsL m.c.toNat m.r.toNat fun k i=>ent m i k):=VecB.rows hbt
 obtain⟨co,e⟩:=((span_ss hF hvb.bd).iff v).1 hv
 refine⟨rowL m.c.toNat co,fun j hj=>(e j hj).trans ?_⟩
 rw[appV_get _ _ _ hj,rowsL_len]
 refine Cg.trans ?_ (Cg.mod ..).symm
 exact sumN_cg _ fun k hk=>by rw[rowL_get _ hk,vecF_rows hk hj,Int.mul_comm];exact .refl _
theorem img_me{p:Int}{m:Mat}(h:isMat p m=true)(y:List Int):Me p (imgS p m) (fun j=>(appV p m y).getD j default):=by
 have hF:=(isMat_spec h).1
 have hbt:BdF p m.c.toNat m.r.toNat (fun k i=>ent m i k):=fun k hk j hj=>ent_bd h j hj k hk
 have hvb:VecB p m.r.toNat (rowsL m.c.toNat m.r.toNat fun k i=>ent m i k):=VecB.rows hbt
 refine((span_ss hF hvb.bd).iff _).2 ?_
 rw[rowsL_len]
 exact appV_cols y
theorem fit_comp{p:Int}{m:Mat}(h:isMat p m=true)(hs:m.r=m.c)(h4:m.r≤4):(addS p (kerS p (powM p m 8)) (imgS p (powM p m 8))).b.length=m.r.toNat∧(kerS p (powM p m 8)).b.length+(imgS p (powM p m 8)).b.length=m.r.toNat:=by
 obtain⟨b1,b2,b3⟩:=pow_ok h hs 8
 have hk:=kerS_ok b1
 have hi:=imgS_ok b1
 have hn:(imgS p (powM p m 8)).n=(kerS p (powM p m 8)).n:=by
  show(powM p m 8).r=(powM p m 8).c
  rw[b2,b3]
 have l1:=kerS_len b1
 have l2:=imgS_len b1
 rw[b3] at l1
 rw[b2,b3] at l2
 rw[b2] at l1
 have hsum:(kerS p (powM p m 8)).b.length+(imgS p (powM p m 8)).b.length=m.r.toNat:=by omega
 have hmn:(metS p (kerS p (powM p m 8)) (imgS p (powM p m 8))).n=m.r:=b3
 have hmet:(metS p (kerS p (powM p m 8)) (imgS p (powM p m 8))).b=[]:=spc_nil (metS_ok hk) fun i hi2 j hj=>by
  rw[hmn] at hj
  obtain⟨m1,m2⟩:=(met_sp hk hi hn).1 (Sp.row hi2)
  obtain⟨y,hy⟩:=img_ex b1 m2
  rw[b2] at hy
  have z1:=(krK_me h hs 8 _).1 m1
  have z2:Zk p m 8 (appV p (powM p m 8) y):=fun t ht=>by
   refine Cg.trans ?_ (z1 t ht)
   exact sumN_cg _ fun l hl=>(Cg.refl _).mul (hy l hl).symm
  have z3:=krK_8 h hs h4 ((zk_add h hs 8 8 y).2 z2)
  have z4:=z3 j hj
  refine(hy j hj).trans ?_
  rw[appV_get _ _ _ (by rw[b2];exact hj),b3]
  exact(Cg.mod ..).trans z4
 have h5:=met_add hk hi hn
 rw[hmet] at h5
 simp only[List.length_nil,Nat.zero_add] at h5
 exact⟨by omega,hsum⟩
theorem spP_comp{r:Rep}{f:List Mat}(h:(spP r f).2.2=true):cmpB r (spP r f).1 (spP r f).2.1=true:=by
 unfold spP at h⊢
 by_cases hc:isMor r r f=true∧(dimS (kerLs r.p (powL r.p f 8))).sum≠0∧(dimS (imgLs r.p (powL r.p f 8))).sum≠0
 ·rw[if_pos hc]
  have hm:=hc.1
  have hg:=mor_pow hm 8
  have hr:=(fitR_reps (areM_spec (isMor_are hm)).1).1
  obtain⟨m1,m2,m3,m4,m5⟩:=mor_ok hm
  simp only[cmpB,cmpV,Bool.and_eq_true,decide_eq_true_eq,List.all_eq_true]
  refine⟨ker_sub hg,img_sub hg,fun v hv=>?_⟩
  have hv:v<r.d.length:=by simpa using hv
  have hvf:v<f.length:=by omega
  obtain⟨x1,x2,x3⟩:=m5 v hvf
  have hd:0≤r.d.getD v default∧r.d.getD v default≤4:=allIn_spec (areDims_spec (isRep_spec hr).2.1).2.2.1 hv
  have e1:(kerLs r.p (powL r.p f 8)).getD v default=kerS r.p (powM r.p (f.getD v default) 8):=by
   rw[(kerLs_ok hg (by rw[powL_len];exact hvf)).1,powL_get hvf]
  have e2:(imgLs r.p (powL r.p f 8)).getD v default=imgS r.p (powM r.p (f.getD v default) 8):=by
   rw[(imgLs_ok hg (by rw[powL_len];exact hvf)).1,powL_get hvf]
  rw[e1,e2]
  have:=fit_comp x1 (by rw[x2,x3]) (by omega)
  rw[x3] at this
  omega
 ·rw[if_neg hc] at h;cases h
theorem fs_comp{r:Rep}(h:(fsP r).2.2=true):cmpB r (fsP r).1 (fsP r).2.1=true:=by
 cases ho:fsO r with
 |none=>rw[fsP_none ho] at h;cases h
 |some k=>
  rw[fsP_some ho] at h⊢
  exact spP_comp h
structure Idm (p:Int) (n:Nat) (P:Mat) (S T:Spc):Prop where
 ok:isMat p P=true
 r:P.r.toNat=n
 c:P.c.toNat=n
 hS:isSpc p S=true
 hT:isSpc p T=true
 nS:S.n.toNat=n
 nT:T.n=S.n
 kill:∀v:Nat→Int,Me p S v→∀a,a<n→Cg p (sumN (fun l=>ent P a l*v l) n) 0
 fix:∀v:Nat→Int,Me p T v→∀a,a<n→Cg p (sumN (fun l=>ent P a l*v l) n) (v a)
 both:∀v:Nat→Int,∃x y,Me p S x∧Me p T y∧∀j,j<n→Cg p (v j) (x j+y j)
theorem sum_pick(co:Nat→Int)(f:Nat→Nat→Int)(P:Nat→Int)(n m:Nat):sumN (fun l=>P l*sumN (fun i=>co i*f i l) m) n=sumN (fun i=>co i*sumN (fun l=>P l*f i l) n) m:=by
 rw[sumN_eq (g:=fun l=>sumN (fun i=>co i*(P l*f i l)) m) _ fun l _=>by
  rw[←sumN_mul];exact sumN_eq _ fun i _=>Int.mul_left_comm ..,sumN_swap]
 exact sumN_eq _ fun i _=>sumN_mul ..
theorem idm_of{p:Int}{S T:Spc}(hS:isSpc p S=true)(hT:isSpc p T=true)(hn:T.n=S.n)(hd:(addS p S T).b.length=S.n.toNat)(hl:S.b.length+T.b.length=S.n.toNat):Idm p S.n.toNat (idpM p S.n.toNat S T) S T:=by
 obtain⟨hF,n1,n2,n3⟩:=isSpc_spec hS
 have hp:=isF_pos hF
 obtain⟨hb,hrk⟩:=both_rank hS hT hn hd hl
 obtain⟨k1,k2,k3,k4⟩:=inv_tab2 hF (by omega) hb hrk
 have hlen:(S.b++T.b).length=S.n.toNat:=by rw[List.length_append];omega
 have hKb:BdF p S.n.toNat S.n.toNat (kepF S T):=fun i hi j hj=>by
  unfold kepF
  split
  ·omega
  ·exact hb i hi j hj
 have hK:isMat p (kepM S.n.toNat S T)=true:=isMat_tab hF (by omega) (by omega) hKb
 have hP:isMat p (idpM p S.n.toNat S T)=true:=isMat_mul hK k2
 have hr:(idpM p S.n.toNat S T).r.toNat=S.n.toNat:=rfl
 have hc:(idpM p S.n.toNat S T).c.toNat=S.n.toNat:=rfl
 have hPB:mulM p (idpM p S.n.toNat S T) (tm S.n.toNat S.n.toNat (fcF (S.b++T.b)))=kepM S.n.toNat S T:=by
  unfold idpM
  rw[mul_assoc hK k2 k1 rfl rfl,k4]
  exact mul_id hK
 have hcol:∀a,a<S.n.toNat→∀j,j<S.n.toNat→Cg p (sumN (fun l=>ent (idpM p S.n.toNat S T) a l*fcF (S.b++T.b) l j) S.n.toNat) (kepF S T a j):=fun a ha j hj=>by
  have:=congrArg (fun m=>ent m a j) hPB
  rw[mul_get ha hj,show ent (kepM S.n.toNat S T) a j=kepF S T a j from ent_tm _ ha hj,hc] at this
  rw[←this]
  refine Cg.trans ?_ (Cg.mod ..).symm
  exact sumN_cg _ fun l hl2=>by
   rw[show ent (tm S.n.toNat S.n.toNat (fcF (S.b++T.b))) l j=fcF (S.b++T.b) l j from ent_tm _ hl2 hj]
   exact .refl _
 have hkS:∀i,i<S.b.length→∀a,a<S.n.toNat→Cg p (sumN (fun l=>ent (idpM p S.n.toNat S T) a l*vecF S.b i l) S.n.toNat) 0:=fun i hi a ha=>by
  have h1:=hcol a ha i (by omega)
  unfold kepF at h1
  rw[if_pos hi] at h1
  refine Cg.trans ?_ h1
  exact sumN_cg _ fun l _=>by
   rw[show fcF (S.b++T.b) l i=vecF S.b i l from vecF_app_l hi l]
   exact .refl _
 have hfT:∀i,i<T.b.length→∀a,a<S.n.toNat→Cg p (sumN (fun l=>ent (idpM p S.n.toNat S T) a l*vecF T.b i l) S.n.toNat) (vecF T.b i a):=fun i hi a ha=>by
  have h1:=hcol a ha (S.b.length+i) (by omega)
  unfold kepF at h1
  rw[if_neg (by omega),show fcF (S.b++T.b) a (S.b.length+i)=vecF T.b i a from vecF_app_r S.b T.b i a] at h1
  refine Cg.trans ?_ h1
  exact sumN_cg _ fun l _=>by
   rw[show fcF (S.b++T.b) l (S.b.length+i)=vecF T.b i l from vecF_app_r S.b T.b i l]
   exact .refl _
 refine⟨hP,hr,hc,hS,hT,rfl,hn,fun v hv a ha=>?_,fun v hv a ha=>?_,fun v=>?_⟩
 ·exact dot_sp (x:=fun l=>ent (idpM p S.n.toNat S T) a l) hv fun i hi=>hkS i hi a ha
 ·obtain⟨co,e⟩:=hv
  rw[hn] at e
  refine(sumN_cg _ fun l hl2=>(Cg.refl _).mul (e l hl2)).trans ?_
  rw[sum_pick]
  refine Cg.trans ?_ (e a ha).symm
  exact sumN_cg _ fun i hi=>(Cg.refl _).mul (hfT i hi a ha)
 ·have hsA:=addS_ok hS hT hn
  have hfull:=(full_b hsA (by rw[show(addS p S T).n=S.n from rfl];exact hd)).1
  have hv:Sp p (addS p S T).b.length S.n.toNat (vecF (addS p S T).b) v:=by
   rw[hfull,rowsL_len]
   refine(sp_idF v).sub fun i hi=>?_
   exact(Sp.row hi).cg fun j hj=>by
    show Cg p (idF i j) (vecF (rowsL S.n.toNat S.n.toNat idF) i j)
    rw[vecF_rows hi hj]
    exact .refl _
  obtain⟨co,e⟩:=hv.sub (addS_ss hS hT hn).1
  refine⟨fun j=>sumN (fun i=>co i*vecF S.b i j) S.b.length,fun j=>sumN (fun i=>co (S.b.length+i)*vecF T.b i j) T.b.length,⟨co,fun j _=>.refl _⟩,⟨fun i=>co (S.b.length+i),fun j _=>.refl _⟩,fun j hj=>(e j hj).trans ?_⟩
  rw[sumN_split]
  refine Cg.add (sumN_cg _ fun i hi=>?_) (sumN_cg _ fun i hi=>?_)
  ·rw[vecF_app_l hi];exact .refl _
  ·rw[vecF_app_r];exact .refl _
theorem Idm.zero{p:Int}{n:Nat}{P:Mat}{S T:Spc}(h:Idm p n P S T){U:Nat→Int}(h1:∀v,Me p S v→Cg p (sumN (fun l=>U l*v l) n) 0)(h2:∀v,Me p T v→Cg p (sumN (fun l=>U l*v l) n) 0){k:Nat}(hk:k<n):Cg p (U k) 0:=by
 obtain⟨x,y,hx,hy,e⟩:=h.both (fun j=>if j=k then 1 else 0)
 have h3:Cg p (sumN (fun l=>(if l=k then 1 else 0)*U l) n) 0:=by
  refine(sumN_cg (g:=fun l=>U l*x l+U l*y l) _ fun l hl=>by
   rw[Int.mul_comm,←Int.mul_add]
   exact(Cg.refl _).mul (e l hl)).trans ?_
  rw[sumN_add]
  have:=(h1 x hx).add (h2 y hy)
  rwa [Int.zero_add] at this
 rwa [sumN_one,if_pos hk] at h3
theorem Idm.ker{p:Int}{n:Nat}{P:Mat}{S T:Spc}(h:Idm p n P S T):kerS p P=S:=by
 have hPc:P.c=S.n:=by
  have h1:=h.c
  have h2:=h.nS
  have h3:=(isMat_spec h.ok).2.2.1
  have h4:=(isSpc_spec h.hS).2.1
  omega
 refine spc_ext (kerS_ok h.ok) h.hS hPc (fun i hi=>?_) fun i hi=>?_
 ·obtain⟨x,y,hx,hy,e⟩:=h.both (vecF (kerS p P).b i)
  have hy0:∀a,a<n→Cg p (y a) 0:=fun a ha=>by
   have h1:=kerS_dot h.ok hi (i:=a) (by rw[h.r];exact ha)
   rw[h.c] at h1
   have h2:Cg p (sumN (fun l=>ent P a l*x l) n+sumN (fun l=>ent P a l*y l) n) 0:=by
    rw[←sumN_add]
    refine Cg.trans ?_ h1
    refine sumN_cg _ fun l hl=>?_
    rw[←Int.mul_add]
    exact(Cg.refl _).mul (e l hl).symm
   have h3:=((h.kill x hx a ha).add (h.fix y hy a ha)).symm.trans h2
   rwa [Int.zero_add] at h3
  unfold Me
  rw[h.nS]
  unfold Me at hx
  rw[h.nS] at hx
  refine hx.cg fun j hj=>(e j hj).trans ?_
  have:=(Cg.refl (x j)).add (hy0 j hj)
  rwa [Int.add_zero] at this
 ·unfold Me
  rw[show(kerS p P).n=P.c from rfl]
  refine kerS_mem h.ok (x:=S.b.getD i default) fun a ha=>?_
  rw[h.c]
  exact h.kill _ (Sp.row hi) a (by rw[h.r] at ha;exact ha)
theorem Idm.img{p:Int}{n:Nat}{P:Mat}{S T:Spc}(h:Idm p n P S T):imgS p P=T:=by
 have hPr:P.r=T.n:=by
  have h1:=h.r
  have h2:=h.nS
  have h3:=(isMat_spec h.ok).2.1
  have h4:=(isSpc_spec h.hT).2.1
  have h5:=h.nT
  omega
 have hTn:T.n.toNat=n:=by rw[h.nT];exact h.nS
 refine spc_ext (imgS_ok h.ok) h.hT hPr (fun i hi=>?_) fun i hi=>?_
 ·obtain⟨z,hz⟩:=img_ex h.ok (Sp.row (p:=p) hi:Me p (imgS p P) _)
  obtain⟨x,y,hx,hy,e⟩:=h.both (fun j=>z.getD j default)
  unfold Me at hy⊢
  rw[hTn] at hy⊢
  refine hy.cg fun j hj=>(hz j (by rw[h.r];exact hj)).trans ?_
  rw[appV_get _ _ _ (by rw[h.r];exact hj),h.c]
  refine(Cg.mod ..).trans ?_
  refine(sumN_cg (g:=fun l=>ent P j l*x l+ent P j l*y l) _ fun l hl=>by
   rw[←Int.mul_add]
   exact(Cg.refl _).mul (e l hl)).trans ?_
  rw[sumN_add]
  have hy':Me p T y:=by unfold Me;rw[hTn];exact hy
  have:=(h.kill x hx j hj).add (h.fix y hy' j hj)
  rwa [Int.zero_add] at this
 ·have hm:=img_me h.ok (T.b.getD i default)
  unfold Me at hm⊢
  rw[show(imgS p P).n=P.r from rfl,h.r] at hm⊢
  refine hm.cg fun j hj=>?_
  rw[appV_get _ _ _ (by rw[h.r];exact hj),h.c]
  exact((Cg.mod ..).trans (h.fix _ (Sp.row hi) j hj)).symm
theorem Idm.sq{p:Int}{n:Nat}{P:Mat}{S T:Spc}(h:Idm p n P S T):mulM p P P=P:=by
 obtain⟨c1,c2⟩:=mulM_rc h.ok h.ok
 refine mat_ext (isMat_mul h.ok h.ok) h.ok c1 c2 fun a ha k hk=>?_
 rw[c1] at ha
 rw[c2] at hk
 rw[mul_get ha hk]
 have ha2:a<n:=by rw[←h.r];exact ha
 have hk2:k<n:=by rw[←h.c];exact hk
 have hz:=h.zero (U:=fun l=>sumN (fun t=>ent P a t*ent P t l) n+(-1)*ent P a l) (k:=k) (fun v hv=>?_) (fun v hv=>?_) hk2
 ·have hp:=isF_pos (isMat_spec h.ok).1
  rw[h.c]
  have e3:∀x y:Int,x+(-1)*y=x-y:=fun x y=>by omega
  rw[e3] at hz
  have:=Cg.of_sub hz
  exact((Cg.mod ..).trans this).eq (mod_bd (by omega)) (ent_bd h.ok a ha k hk)
 ·rw[sumN_eq (g:=fun l=>sumN (fun t=>ent P a t*(ent P t l*v l)) n+(-1)*(ent P a l*v l)) _ fun l _=>by
   rw[Int.add_mul,Int.mul_assoc]
   congr 1
   rw[Int.mul_comm,←sumN_mul]
   exact sumN_eq _ fun t _=>by rw[Int.mul_comm,Int.mul_assoc],sumN_add,sumN_swap,sumN_mul]
  have h1:Cg p (sumN (fun t=>sumN (fun l=>ent P a t*(ent P t l*v l)) n) n) 0:=sumN_cg0 _ fun t ht=>by
   rw[sumN_mul]
   have:=(Cg.refl (ent P a t)).mul (h.kill v hv t ht)
   rwa [Int.mul_zero] at this
  have:=h1.add ((Cg.refl (-1)).mul (h.kill v hv a ha2))
  simpa using this
 ·rw[sumN_eq (g:=fun l=>sumN (fun t=>ent P a t*(ent P t l*v l)) n+(-1)*(ent P a l*v l)) _ fun l _=>by
   rw[Int.add_mul,Int.mul_assoc]
   congr 1
   rw[Int.mul_comm,←sumN_mul]
   exact sumN_eq _ fun t _=>by rw[Int.mul_comm,Int.mul_assoc],sumN_add,sumN_swap,sumN_mul]
  have h1:Cg p (sumN (fun t=>sumN (fun l=>ent P a t*(ent P t l*v l)) n) n) (v a):=by
   refine Cg.trans (sumN_cg (g:=fun t=>ent P a t*v t) _ fun t ht=>?_) (h.fix v hv a ha2)
   rw[sumN_mul]
   exact(Cg.refl (ent P a t)).mul (h.fix v hv t ht)
  have h2:=h1.add ((Cg.refl (-1)).mul (h.fix v hv a ha2))
  refine h2.trans ⟨0,by omega⟩
theorem Idm.arr{p:Int}{m n:Nat}{M P Q:Mat}{S T S2 T2:Spc}(h:Idm p m P S T)(g:Idm p n Q S2 T2)(hM:isMat p M=true)(hc:M.c.toNat=m)(hr:M.r.toNat=n)(eS:S2.n=M.r)(eT:T2.n=M.r)(iS:inS p (imgSp p M S) S2=true)(iT:inS p (imgSp p M T) T2=true):mulM p M P=mulM p Q M:=by
 have hp:=isF_pos (isMat_spec hM).1
 have hMb:=(isMat_spec hM).2.1
 have hMc:=(isMat_spec hM).2.2.1
 have hPb:=(isMat_spec h.ok).2.2.1
 have hQb:=(isMat_spec g.ok).2.1
 have hPr:=h.r
 have hPc:=h.c
 have hQr:=g.r
 have hQc:=g.c
 obtain⟨c1,c2⟩:=mulM_rc hM h.ok
 obtain⟨c3,c4⟩:=mulM_rc g.ok hM
 refine mat_ext (isMat_mul hM h.ok) (isMat_mul g.ok hM) (by rw[c1,c3];omega) (by rw[c2,c4];omega) fun a ha k hk=>?_
 rw[c1,hr] at ha
 rw[c2,h.c] at hk
 rw[mul_get (by rw[hr];exact ha) (by rw[h.c];exact hk),mul_get (by rw[g.r];exact ha) (by rw[hc];exact hk),hc,g.c]
 refine Cg.iff.1 ?_
 have img:∀(X Y:Spc) (v:Nat→Int),isSpc p Y=true→X.n.toNat=m→Y.n=M.r→inS p (imgSp p M X) Y=true→Me p X v→Me p Y (fun j=>(appV p M (rowL m v)).getD j default):=fun X Y v hY hX hYn hin hv=>by
  refine img_span hM hY hYn hin ?_
  unfold Me at hv
  rw[hX] at hv
  rw[hc]
  exact hv.cg fun j hj=>by rw[rowL_get _ hj];exact .refl _
 have app:∀(v:Nat→Int) (t:Nat),t<n→Cg p ((appV p M (rowL m v)).getD t default) (sumN (fun l=>ent M t l*v l) m):=fun v t ht=>by
  rw[appV_get _ _ _ (by rw[hr];exact ht),hc]
  refine(Cg.mod ..).trans ?_
  exact sumN_cg _ fun l hl=>by rw[rowL_get _ hl];exact .refl _
 have spread:∀v:Nat→Int,sumN (fun l=>(sumN (fun t=>ent M a t*ent P t l) m+(-1)*sumN (fun t=>ent Q a t*ent M t l) n)*v l) m=sumN (fun t=>ent M a t*sumN (fun l=>ent P t l*v l) m) m+(-1)*sumN (fun t=>ent Q a t*sumN (fun l=>ent M t l*v l) m) n:=fun v=>by
  rw[sumN_eq (g:=fun l=>sumN (fun t=>ent M a t*(ent P t l*v l)) m+(-1)*sumN (fun t=>ent Q a t*(ent M t l*v l)) n) _ fun l _=>by
   rw[Int.add_mul,Int.mul_assoc]
   congr 1
   ·rw[Int.mul_comm,←sumN_mul]
    exact sumN_eq _ fun t _=>by rw[Int.mul_comm,Int.mul_assoc]
   ·congr 1
    rw[Int.mul_comm,←sumN_mul]
    exact sumN_eq _ fun t _=>by rw[Int.mul_comm,Int.mul_assoc],sumN_add,sumN_mul,sumN_swap (fun l t=>ent M a t*(ent P t l*v l)),sumN_swap (fun l t=>ent Q a t*(ent M t l*v l))]
  congr 1
  ·exact sumN_eq _ fun t _=>sumN_mul ..
  ·congr 1
   exact sumN_eq _ fun t _=>sumN_mul ..
 have hz:=h.zero (U:=fun l=>sumN (fun t=>ent M a t*ent P t l) m+(-1)*sumN (fun t=>ent Q a t*ent M t l) n) (k:=k) (fun v hv=>?_) (fun v hv=>?_) hk
 ·have e3:∀x y:Int,x+(-1)*y=x-y:=fun x y=>by omega
  rw[e3] at hz
  exact Cg.of_sub hz
 ·rw[spread]
  have h1:Cg p (sumN (fun t=>ent M a t*sumN (fun l=>ent P t l*v l) m) m) 0:=sumN_cg0 _ fun t ht=>by
   have:=(Cg.refl (ent M a t)).mul (h.kill v hv t ht)
   rwa [Int.mul_zero] at this
  have h2:Cg p (sumN (fun t=>ent Q a t*sumN (fun l=>ent M t l*v l) m) n) 0:=by
   refine Cg.trans (sumN_cg _ fun t ht=>(Cg.refl _).mul (app v t ht).symm) ?_
   exact g.kill _ (img S S2 v g.hS h.nS eS iS hv) a ha
  have:=h1.add ((Cg.refl (-1)).mul h2)
  simpa using this
 ·rw[spread]
  have h1:Cg p (sumN (fun t=>ent M a t*sumN (fun l=>ent P t l*v l) m) m) (sumN (fun t=>ent M a t*v t) m):=sumN_cg _ fun t ht=>(Cg.refl _).mul (h.fix v hv t ht)
  have h2:Cg p (sumN (fun t=>ent Q a t*sumN (fun l=>ent M t l*v l) m) n) (sumN (fun t=>ent M a t*v t) m):=by
   refine Cg.trans (sumN_cg _ fun t ht=>(Cg.refl _).mul (app v t ht).symm) ?_
   refine(g.fix _ (img T T2 v g.hT (by rw[h.nT];exact h.nS) eT iT hv) a ha).trans ?_
   exact app v a ha
  refine(h1.add ((Cg.refl (-1)).mul h2)).trans ⟨0,by omega⟩
theorem idp_get(r:Rep)(s t:List Spc){v:Nat}(hv:v<r.d.length):(idpL r s t).getD v default=idpM r.p (r.d.getD v default).toNat (s.getD v default) (t.getD v default):=by simp[idpL,hv]
theorem idp_at{r:Rep}{s t:List Spc}(h:cmpB r s t=true){v:Nat}(hv:v<r.d.length):Idm r.p (r.d.getD v default).toNat ((idpL r s t).getD v default) (s.getD v default) (t.getD v default):=by
 obtain⟨h1,h2,h3⟩:=cmpB_spec h
 obtain⟨s1,s2,s3,s4⟩:=isSub_spec h1
 obtain⟨t1,t2,t3,t4⟩:=isSub_spec h2
 obtain⟨a1,a2⟩:=s3 v (by omega)
 obtain⟨b1,b2⟩:=t3 v (by omega)
 obtain⟨d1,d2⟩:=h3 v hv
 have:=idm_of a1 b1 (by rw[a2,b2]) (by rw[a2];omega) (by rw[a2];omega)
 rw[idp_get r s t hv]
 rwa [a2] at this
theorem idp_mor{r:Rep}{s t:List Spc}(h:cmpB r s t=true):isMor r r (idpL r s t)=true:=by
 obtain⟨h1,h2,h3⟩:=cmpB_spec h
 obtain⟨s1,s2,s3,s4⟩:=isSub_spec h1
 obtain⟨t1,t2,t3,t4⟩:=isSub_spec h2
 obtain⟨r1,r2,r3,r4⟩:=isRep_spec s1
 refine mor_mk (fitR_refl s1) (idpL_len r s t) (fun v hv=>?_) fun i hi=>?_
 ·rw[idpL_len] at hv
  have k:=idp_at h hv
  have hd:0≤r.d.getD v default∧r.d.getD v default≤4:=allIn_spec (areDims_spec r2).2.2.1 hv
  have b1:=(isMat_spec k.ok).2.1
  have b2:=(isMat_spec k.ok).2.2.1
  have c1:=k.r
  have c2:=k.c
  exact⟨k.ok,by omega,by omega⟩
 ·have hi:i<r.m.length:=by omega
  obtain⟨m1,m2,m3,m4,m5⟩:=arrow_ok s1 hi
  have k1:=idp_at h m2.2
  have k2:=idp_at h m3.2
  have a1:=s4 i hi
  have a2:=t4 i hi
  unfold subAt at a1 a2
  exact k1.arr k2 m1 (by rw[m4]) (by rw[m5]) (by rw[(s3 _ (by omega)).2,m5]) (by rw[(t3 _ (by omega)).2,m5]) a1 a2
theorem idp_facts{r:Rep}{s t:List Spc}(h:cmpB r s t=true):isIdem r (idpL r s t)=true∧kerLs r.p (idpL r s t)=s∧imgLs r.p (idpL r s t)=t:=by
 obtain⟨h1,h2,h3⟩:=cmpB_spec h
 obtain⟨s1,s2,s3,s4⟩:=isSub_spec h1
 obtain⟨t1,t2,t3,t4⟩:=isSub_spec h2
 have hm:=idp_mor h
 have hl:=idpL_len r s t
 refine⟨?_,?_,?_⟩
 ·simp only[isIdem,Bool.and_eq_true]
  refine⟨hm,?_⟩
  have e:compL r.p (idpL r s t) (idpL r s t)=idpL r s t:=list_ext (compL_len ..) fun v hv=>by
   rw[compL_len,hl] at hv
   rw[comp_get (by omega)]
   exact(idp_at h hv).sq
  rw[e]
  simp[sameL,sameM]
 ·apply List.ext_getElem (by simp[kerLs];omega)
  intro v g1 g2
  have hv:v<r.d.length:=by omega
  have e:=(idp_at h hv).ker
  have a1:(idpL r s t).getD v default=(idpL r s t)[v]'(by omega):=by simp[hl,hv]
  have a2:s.getD v default=s[v]:=by simp[g2]
  rw[a1,a2] at e
  simpa[kerLs] using e
 ·apply List.ext_getElem (by simp[imgLs];omega)
  intro v g1 g2
  have hv:v<r.d.length:=by omega
  have e:=(idp_at h hv).img
  have a1:(idpL r s t).getD v default=(idpL r s t)[v]'(by omega):=by simp[hl,hv]
  have a2:t.getD v default=t[v]:=by simp[g2]
  rw[a1,a2] at e
  simpa[imgLs] using e
theorem sameSL_refl(s:List Spc):sameSL s s=true:=by simp[sameSL,sameS]
end Go.Proofs.YtjmjamhhppoimaaGreat.V
namespace Go.Proofs.YtjmjamhhppoimaaGreat.V
open Go.RowKit G D
set_option linter.unusedVariables false
set_option linter.unusedSimpArgs false
set_option maxHeartbeats 4000000
set_option maxRecDepth 4000
attribute [local irreducible] AW ARg ARA ARet MRet ASil AC AM AMx ACx AD ARI
def genOk(r:Rep)(v:Int)(x:List Int):Prop:=isRep r=true∧(0≤v∧v.toNat<r.d.length)∧isVec r.p x=true∧(x.length:Int)=r.d.getD v.toNat default
theorem genOk.w{r:Rep}{v:Int}{x:List Int}(h:genOk r v x):x.length=(r.d.getD v.toNat default).toNat∧∀j,j<(r.d.getD v.toNat default).toNat→0≤x.getD j default∧x.getD j default≤r.p-1:=by
 obtain⟨h1,h2,h3,h4⟩:=h
 have hl:x.length=(r.d.getD v.toNat default).toNat:=by omega
 refine⟨hl,fun j hj=>?_⟩
 simp only[isVec,Bool.and_eq_true] at h3
 exact allIn_spec h3.2 (by omega)
theorem sameL_self(g:List Mat):sameL g g=true:=by simp[sameL,sameM]
theorem nil_small:smallS []:=fun v hv=>absurd hv (Nat.not_lt_zero v)
end Go.Proofs.YtjmjamhhppoimaaGreat.V
