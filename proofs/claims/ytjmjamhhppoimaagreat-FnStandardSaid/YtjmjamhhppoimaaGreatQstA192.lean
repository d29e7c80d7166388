/- Texts that the proof needs: A97, A191, A192. -/
import Derived.Test.YtjmjamhhppoimaaGreatQstA131
import Derived.Test.YtjmjamhhppoimaaGreatQstA42
import Derived.Test.YtjmjamhhppoimaaGreatQstA190
namespace Go.Proofs.YtjmjamhhppoimaaGreat.V
open Go.RowKit G D
set_option linter.unusedVariables false
set_option linter.unusedSimpArgs false
set_option maxHeartbeats 1000000
set_option maxRecDepth 4000
theorem fitR_reps{a b:Rep}(h:fitR a b=true):isRep a=true∧isRep b=true:=by
 simp only[fitR,Bool.and_eq_true,decide_eq_true_eq] at h
 exact h.1.1
theorem fitR_mk{a b:Rep}(ha:isRep a=true)(hb:isRep b=true)(hp:a.p=b.p)(hq:a.q=b.q):fitR a b=true:=by
 simp only[fitR,Bool.and_eq_true,decide_eq_true_eq]
 exact⟨⟨⟨ha,hb⟩,hp⟩,by rw[hq];simp[sameQ]⟩
theorem fitR_refl{a:Rep}(h:isRep a=true):fitR a a=true:=fitR_mk h h rfl rfl
def quoN(p c:Int):Nat→Int
 |0=>c
 |j+1=>quoN p c j/p
theorem quoN_bd{p c:Int}(hp:0<p)(h:0≤c):∀j,0≤quoN p c j∧quoN p c j≤c
 |0=>⟨h,Int.le_refl _⟩
 |j+1=>by
  obtain⟨a,b⟩:=quoN_bd hp h j
  have h1:0≤quoN p c j/p:=Int.ediv_nonneg a (by omega)
  have h2:quoN p c j/p≤quoN p c j:=Int.ediv_le_self _ a
  exact⟨h1,Int.le_trans h2 b⟩
def digN(p c:Int)(n i:Nat):Int:=quoN p c (n-1-i)%p
def digV(p c:Int)(n:Nat):List Int:=(List.range n).map (digN p c n)
theorem digV_len(p c:Int)(n:Nat):(digV p c n).length=n:=by simp[digV]
theorem digV_get(p c:Int){n i:Nat}(h:i<n):(digV p c n).getD i default=digN p c n i:=by simp[digV,h]
theorem digN_bd{p c:Int}(hp:0<p)(n i:Nat):0≤digN p c n i∧digN p c n i≤p-1:=mod_bd hp
def digK(p c:Int)(n m:Nat):List Int:=(List.range n).map fun i=>if m≤i then digN p c n i else 0
theorem digK_len(p c:Int)(n m:Nat):(digK p c n m).length=n:=by simp[digK]
theorem digK_all(p c:Int)(n:Nat):digK p c n n=List.replicate n 0:=by
 apply List.ext_getElem (by simp[digK])
 intro i h1 h2
 have:i<n:=by simpa using h2
 simp[digK,show¬n≤i by omega]
theorem digK_zero(p c:Int)(n:Nat):digK p c n 0=digV p c n:=by simp[digK,digV]
theorem digK_set(p c:Int){n m:Nat}(h:m<n):(digK p c n (m+1)).set m (quoN p c (n-1-m)%p)=digK p c n m:=by
 apply List.ext_getElem (by simp[digK])
 intro i h1 h2
 rw[List.getElem_set]
 simp only[digK,List.getElem_map,List.getElem_range]
 by_cases e:m=i
 ·subst e;simp[digN]
 ·have:m+1≤i↔m≤i:=by omega
  simp[e,this]
theorem isMor_cut{a b:Rep}{x:List Int}(hf:fitR a b=true)(hl:x.length=szT a b a.d.length)(hb:∀y∈x,0≤y∧y≤a.p-1)(h0:∀i,i<szA a b a.q.fr.length→Cg a.p (dotV (ent (eqM a b) i) x (szT a b a.d.length)) 0):isMor a b (cutV a b x)=true:=by
 have hA:=areM_cutV hf hl hb
 have hp:=isF_pos (Fits.of hf).f
 have hcat:=catM_cutV (a:=a) (b:=b) hl
 unfold isMor
 rw[hA,Bool.true_and,←cobL_all hA,←cob_cut hA]
 have hz:∀y∈tab (szA a b a.q.fr.length) 1 (mulF a.p (ent (eqM a b)) (ent (colM a b (cutV a b x))) (szT a b a.d.length)),y=0:=fun y hy=>by
  obtain⟨t,ht,rfl⟩:=List.getElem_of_mem hy
  have ht':t<szA a b a.q.fr.length:=by rw[tab_len,Nat.mul_one] at ht;exact ht
  have e:=tab_get (r:=szA a b a.q.fr.length) (c:=1) (mulF a.p (ent (eqM a b)) (ent (colM a b (cutV a b x))) (szT a b a.d.length)) ht' (show 0<1 by omega)
  rw[Nat.mul_one,Nat.add_zero] at e
  have e2:∀(L:List Int) (h:t<L.length),L.getD t default=L[t]:=fun L h=>by simp[h]
  rw[e2 _ ht] at e
  rw[e]
  show dotK _ _ t 0 _%a.p=0
  rw[dotK_sum]
  have hd:sumN (fun k=>ent (eqM a b) t k*ent (colM a b (cutV a b x)) k 0) (szT a b a.d.length)=dotV (ent (eqM a b) t) x (szT a b a.d.length):=sumN_eq _ fun k hk=>by
   congr 1
   show(catM _).getD (k*1+0) default=_
   rw[hcat,Nat.mul_one];rfl
  rw[hd]
  have:=Cg.iff.1 (h0 t ht')
  rw[this,Int.zero_emod]
 rw[List.all_eq_true]
 intro m hm
 simp only[cutL,List.mem_map] at hm
 obtain⟨i,_,rfl⟩:=hm
 unfold isZ
 rw[List.all_eq_true]
 intro y hy
 simp only[decide_eq_true_eq]
 exact hz y (List.mem_of_mem_take (List.mem_of_mem_drop hy))
theorem hkL_vec{a b:Rep}(hf:fitR a b=true):VecB a.p (szT a b a.d.length) (hkL a b):=by
 have hp:=isF_pos (Fits.of hf).f
 exact kerL_vec hp.1
theorem hkL_dot{a b:Rep}(hf:fitR a b=true){x:List Int}(hx:x∈hkL a b){i:Nat}(hi:i<szA a b a.q.fr.length):Cg a.p (dotV (ent (eqM a b) i) x (szT a b a.d.length)) 0:=by
 have h:=Fits.of hf
 have hp:=isF_pos h.f
 exact(kerL_spec h.f (eqM_bd (by omega)) hx).1 i hi
theorem vec_mem{p:Int}{x:List Int}{n:Nat}(hl:x.length=n)(h:∀j,j<n→0≤x.getD j default∧x.getD j default≤p-1):∀y∈x,0≤y∧y≤p-1:=fun y hy=>by
 obtain⟨t,ht,rfl⟩:=List.getElem_of_mem hy
 have e:x.getD t default=x[t]:=by simp[ht]
 rw[←e]
 exact h t (by omega)
def cmbH(a b:Rep)(k:List Int):List Int:=cmbV a.p (szT a b a.d.length) (hkL a b) k (hkL a b).length
theorem cmb_mor{a b:Rep}(hf:fitR a b=true)(k:List Int):isMor a b (cutV a b (cmbH a b k))=true:=by
 have hp:=isF_pos (Fits.of hf).f
 have hl:=cmbV_len a.p (szT a b a.d.length) (hkL a b) k (hkL a b).length
 refine isMor_cut hf hl (vec_mem hl fun j hj=>cmbV_bd hp.1 _ j hj) fun i hi=>?_
 unfold cmbH
 have e1:Cg a.p (dotV (ent (eqM a b) i) (cmbV a.p (szT a b a.d.length) (hkL a b) k (hkL a b).length) (szT a b a.d.length)) (sumN (fun j=>ent (eqM a b) i j*sumN (fun t=>k.getD t default*vecF (hkL a b) t j) (hkL a b).length) (szT a b a.d.length)):=
  sumN_cg _ fun j hj=>(Cg.refl _).mul (cmbV_cg hj _)
 refine e1.trans ?_
 rw[sumN_eq (g:=fun j=>sumN (fun t=>k.getD t default*(ent (eqM a b) i j*vecF (hkL a b) t j)) (hkL a b).length) _ fun j _=>by
  rw[←sumN_mul]
  exact sumN_eq _ fun t _=>by rw[←Int.mul_assoc,←Int.mul_assoc,Int.mul_comm (ent _ _ _)],sumN_swap]
 refine(sumN_cg (g:=fun _=>0) _ fun t ht=>?_).trans (by rw[sumN_zero (h:=fun _=>0) _ fun _ _=>rfl];exact .refl _)
 rw[sumN_mul]
 have hm:(hkL a b).getD t default∈hkL a b:=gm ht
 have:=(Cg.refl (k.getD t default)).mul (hkL_dot hf hm hi)
 rwa [Int.mul_zero] at this
def numL(a b:Rep)(c:Int):List Mat:=cutV a b (cmbH a b (digV a.p c (hkL a b).length))
theorem num_mor{a b:Rep}(hf:fitR a b=true)(c:Int):isMor a b (numL a b c)=true:=cmb_mor hf _
theorem cut_add{a b:Rep}{p k:Int}{x y:List Int}(hx:x.length=szT a b a.d.length)(hy:y.length=szT a b a.d.length){v:Nat}(hv:v<a.d.length):(cutV a b (addK p k 0 y x (szT a b a.d.length))).getD v default=⟨b.d.getD v default,a.d.getD v default,addK p k 0 ((cutV a b y).getD v default).m ((cutV a b x).getD v default).m ((cutV a b y).getD v default).m.length⟩:=by
 have e:∀z:List Int,(cutV a b z).getD v default=⟨b.d.getD v default,a.d.getD v default,(z.take (szT a b (v+1))).drop (szT a b v)⟩:=fun z=>by simp[cutV,hv]
 have hs:=szT_mono a b (m:=v+1) (n:=a.d.length) (by omega)
 rw[e,e,e]
 congr 1
 apply List.ext_getElem
 ·rw[addK_len,List.length_drop,List.length_take,List.length_drop,List.length_take,addK_len,hx]
 intro t h1 h2
 have g:∀(L:List Int) (h:t<L.length),L[t]=L.getD t default:=fun L h=>by simp[h]
 rw[g _ h1,g _ h2]
 have hl1:t<(x.take (szT a b (v+1))).length-szT a b v:=by
  rw[addK_len,List.length_drop] at h2;exact h2
 rw[List.length_take,hx] at hl1
 have d:∀z:List Int,z.length=szT a b a.d.length→((z.take (szT a b (v+1))).drop (szT a b v)).getD t default=z.getD (szT a b v+t) default:=fun z hz=>by
  simp only[List.getD_eq_getElem?_getD,List.getElem?_drop]
  rw[List.getElem?_take_of_lt (by omega)]
 rw[d _ (by rw[addK_len,hx]),addK_get0 _ _ _ _ (by rw[hx];omega) (by omega),addK_get0 _ _ _ _ (by rw[List.length_drop,List.length_take,hx];omega) (by rw[List.length_drop,List.length_take,hy];omega),d x hx,d y hy]
theorem cut_zero{a b:Rep}(h:Fits a b):zerL a b=cutV a b (List.replicate (szT a b a.d.length) 0):=by
 unfold zerL cutV
 apply List.map_congr_left
 intro v hv
 have hv:v<a.d.length:=by simpa using hv
 have hda:=h.da
 have hdb:=h.db
 have hl:=zeroM_len (h.bb v (by omega)) (h.ba v hv)
 have hs:=szT_mono a b (m:=v+1) (n:=a.d.length) (by omega)
 have hst:szT a b (v+1)=szT a b v+(a.d.getD v default).toNat*(b.d.getD v default).toNat:=rfl
 have hl:(b.d.getD v default*a.d.getD v default).toNat=(b.d.getD v default).toNat*(a.d.getD v default).toNat:=by
  have hl2:(List.replicate (b.d.getD v default*a.d.getD v default).toNat (0:Int)).length=(b.d.getD v default).toNat*(a.d.getD v default).toNat:=hl
  rwa [List.length_replicate] at hl2
 unfold zeroM
 congr 1
 rw[List.take_replicate,List.drop_replicate]
 apply List.ext_getElem
 ·rw[List.length_replicate,List.length_replicate,hl,Nat.mul_comm];omega
 ·intro t h1 h2;simp
def cntH(p:Int):Nat→Int
 |0=>1
 |n+1=>if cntH p n≤100000 then cntH p n*p else cntH p n
theorem cntH_bd{p:Int}(hp:2≤p∧p≤5):∀n,1≤cntH p n∧cntH p n≤500000
 |0=>by simp[cntH]
 |n+1=>by
  obtain⟨a,b⟩:=cntH_bd hp n
  rw[cntH]
  by_cases h:cntH p n≤100000
  ·rw[if_pos h]
   have h1:1*1≤cntH p n*p:=Int.mul_le_mul a (by omega) (by omega) (by omega)
   have h2:cntH p n*p≤100000*5:=Int.mul_le_mul h hp.2 (by omega) (by omega)
   omega
  ·rw[if_neg h];omega
theorem cntH_step{p:Int}{n:Nat}(h:cntH p n≤100000):cntH p (n+1)=cntH p n*p:=by rw[cntH,if_pos h]
theorem cntH_stay{p:Int}{n:Nat}(h:100000<cntH p n):∀k,cntH p (n+k)=cntH p n
 |0=>rfl
 |k+1=>by
  have:=cntH_stay h k
  rw[←Nat.add_assoc,cntH,this,if_neg (by omega)]
def fstN(P:Nat→Bool):Nat→Nat→Option Nat
 |0,_=>none
 |f+1,i=>if P i=true then some i else fstN P f (i+1)
theorem fstN_hit{P:Nat→Bool}{n i:Nat}(hi:i<n)(h:P i=true):fstN P (n-i) i=some i:=by
 rw[show n-i=(n-i-1)+1 by omega,fstN,if_pos h]
theorem fstN_miss{P:Nat→Bool}{n i:Nat}(hi:i<n)(h:P i=false):fstN P (n-i) i=fstN P (n-(i+1)) (i+1):=by
 rw[show n-i=(n-i-1)+1 by omega,fstN,if_neg (by simp[h]),show n-i-1=n-(i+1) by omega]
end Go.Proofs.YtjmjamhhppoimaaGreat.V
namespace Go.Proofs.YtjmjamhhppoimaaGreat.V
open Go.RowKit G D
set_option linter.unusedVariables false
set_option linter.unusedSimpArgs false
set_option maxHeartbeats 2000000
set_option maxRecDepth 4000
theorem plus_get{p k:Int}{x y:Mat}{i j:Nat}(hl:x.m.length=y.m.length)(hc:x.c=y.c)(hs:i*x.c.toNat+j<x.m.length):ent (plusM p x k y) i j=(ent x i j+k*ent y i j)%p:=by
 unfold ent plusM addK
 dsimp only
 rw[←hc]
 simp only[List.getD_eq_getElem?_getD,List.getElem?_map,List.getElem?_range hs,Option.map_some,Option.getD_some]
 rw[if_pos (by omega)]
 rfl
theorem ent_lt{p:Int}{x:Mat}(h:isMat p x=true){i j:Nat}(hi:i<x.r.toNat)(hj:j<x.c.toNat):i*x.c.toNat+j<x.m.length:=by
 obtain⟨_,h1,h2,h3,_⟩:=isMat_spec h
 have e1:((x.r.toNat:Nat):Int)=x.r:=Int.toNat_of_nonneg h1.1
 have e2:((x.c.toNat:Nat):Int)=x.c:=Int.toNat_of_nonneg h2.1
 have e3:x.m.length=x.r.toNat*x.c.toNat:=by
  have:(x.m.length:Int)=((x.r.toNat*x.c.toNat:Nat):Int):=by push_cast;rw[e1,e2];exact h3
  exact_mod_cast this
 rw[e3]
 exact tab_lt hi hj
theorem mul_pj{p:Int}{x:Mat}{q:Quiv}{v:Int}{i k t:Nat}(hx:isMat p x=true)(ho:(orderQ q).2=true)(hi:i<q.fr.length)(hk:k<(betw q v (q.fr.getD i default)).length)(hc:x.c=((betw q v (q.to.getD i default)).length:Nat))(ht:t<x.r.toNat):ent (mulM p x (pjM q v i)) t k=ent x t (plcN q v i k):=by
 obtain⟨h1,_⟩:=plcN_ok ho hi hk
 have hp:=isF_pos (isMat_spec hx).1
 have hcn:x.c.toNat=(betw q v (q.to.getD i default)).length:=by rw[hc,Int.toNat_natCast]
 rw[mul_get ht (by show k<Int.toNat _;exact hk),hcn]
 rw[sumN_eq (g:=fun u=>(if u=plcN q v i k then 1 else 0)*ent x t u) _ fun u hu=>by
  rw[show ent (pjM q v i) u k=pjF q v i (betw q v (q.fr.getD i default)).length u k from ent_tm _ hu hk,Int.mul_comm]
  unfold pjF
  congr 1
  by_cases e:u=plcN q v i k
  ·rw[if_pos ⟨hk,e⟩,if_pos e]
  ·rw[if_neg (fun h=>e h.2),if_neg e],sumN_one,if_pos h1]
 have hb:=ent_bd hx t ht (plcN q v i k) (by rw[hcn];exact h1)
 exact Int.emod_eq_of_lt hb.1 (by omega)
def exE(r:Rep)(v:Int)(c:List Mat):List Int→Nat→Int
 |[],_=>0
 |i::l,t=>(sumN (fun u=>ent (r.m.getD i.toNat default) t u*exE r v c l u) (r.m.getD i.toNat default).c.toNat-ent (c.getD i.toNat default) t (plQ r.q v l.reverse (r.q.fr.getD i.toNat default)))%r.p
theorem exE_bd{r:Rep}{v:Int}{c:List Mat}(hp:0<r.p)(l:List Int)(t:Nat):0≤exE r v c l t∧exE r v c l t≤r.p-1:=by
 cases l with
 |nil=>simp only[exE];omega
 |cons i l=>simp only[exE];exact mod_bd hp
def exM(r:Rep)(v:Int)(c:List Mat)(w:Nat):Mat:=tm (r.d.getD w default).toNat (betw r.q v (w:Int)).length fun t k=>exE r v c ((betw r.q v (w:Int)).getD k default).a.reverse t
def exL(r:Rep)(v:Int)(c:List Mat):List Mat:=(List.range r.d.length).map (exM r v c)
theorem exL_get{r:Rep}{v:Int}{c:List Mat}{w:Nat}(hw:w<r.d.length):(exL r v c).getD w default=exM r v c w:=by simp[exL,hw]
theorem ext_proj{r:Rep}{v:Int}(hr:isRep r=true)(hP:(projP r.p r.q v).2=true){c:List Mat}(hc:isCoc (projR r.p r.q v) r c=true):areM (projR r.p r.q v) r (exL r v c)=true∧cobL (projR r.p r.q v) r (exL r v c)=c:=by
 obtain⟨hF,hA,_⟩:=projP_true2 hP
 obtain⟨ho,v0,v1,hd⟩:=projD_yes hA
 obtain⟨c1,c2,c3,c4⟩:=areDims_spec hA
 have h5:=okQ_spec c1
 have hp:=isF_pos hF
 obtain⟨k1,k2,k3⟩:=isCoc_spec hc
 obtain⟨r1,r2,r3,r4⟩:=isRep_spec hr
 obtain⟨d1,d2,d3,d4⟩:=areDims_spec r2
 have hpd:∀w:Nat,w<r.d.length→(projD r.q v).getD w default=((betw r.q v (w:Int)).length:Nat)∧(betw r.q v (w:Int)).length≤4:=fun w hw=>by
  have e:=hd w (by omega)
  have b:0≤(projD r.q v).getD w default∧(projD r.q v).getD w default≤4:=allIn_spec c3 (by omega)
  exact⟨e,by omega⟩
 have hrd:∀w:Nat,w<r.d.length→0≤r.d.getD w default∧r.d.getD w default≤4:=fun w hw=>allIn_spec d3 hw
 have hM:∀w:Nat,w<r.d.length→isMat r.p (exM r v c w)=true:=fun w hw=>isMat_tab hF (by have:=hrd w hw;omega) (by have:=(hpd w hw).2;omega) fun i hi j hj=>exE_bd (by omega) _ _
 have hare:areM (projR r.p r.q v) r (exL r v c)=true:=by
  simp only[areM,Bool.and_eq_true,decide_eq_true_eq,List.all_eq_true]
  refine⟨⟨k1,by simp only[exL,List.length_map,List.length_range,projR];omega⟩,fun w hw=>?_⟩
  have hw:w<r.d.length:=by simpa[exL] using hw
  simp only[fitV,Bool.and_eq_true,decide_eq_true_eq]
  rw[exL_get hw]
  exact⟨⟨hM w hw,(hpd w hw).1.symm⟩,Int.toNat_of_nonneg (hrd w hw).1⟩
 refine⟨hare,?_⟩
 have hcob:=cob_cob hare
 have hcoc:isCoc (projR r.p r.q v) r (cobL (projR r.p r.q v) r (exL r v c))=true:=by
  unfold isCob at hcob
  rw[Bool.and_eq_true] at hcob
  exact hcob.1
 obtain⟨_,g2,g3⟩:=isCoc_spec hcoc
 have hcl:(cobL (projR r.p r.q v) r (exL r v c)).length=r.q.fr.length:=cobL_len ..
 have hpm:(projR r.p r.q v).m.length=r.q.fr.length:=pjMs_len ..
 refine List.ext_getElem (by rw[hcl,k2,hpm]) fun i hi hi2=>?_
 have hiq:i<r.q.fr.length:=by rw[←hcl];exact hi
 have e1:(cobL (projR r.p r.q v) r (exL r v c))[i]=(cobL (projR r.p r.q v) r (exL r v c)).getD i default:=by simp[hi]
 have e2:c[i]=c.getD i default:=by simp[hi2]
 rw[e1,e2]
 obtain⟨m1,m2,m3⟩:=g3 i hi
 obtain⟨n1,n2,n3⟩:=k3 i hi2
 refine mat_ext m1 n1 (by rw[m3,n3]) (by rw[m2,n2]) fun t ht k hk=>?_
 rw[m3] at ht
 rw[m2] at hk
 have f:0≤r.q.fr.getD i default∧r.q.fr.getD i default<r.q.n:=okQ_fr c1 hiq
 have g:0≤r.q.to.getD i default∧r.q.to.getD i default<r.q.n:=okQ_to c1 hiq
 have wf:(r.q.fr.getD i default).toNat<r.d.length:=by omega
 have wt:(r.q.to.getD i default).toNat<r.d.length:=by omega
 have ef:(((r.q.fr.getD i default).toNat:Nat):Int)=r.q.fr.getD i default:=Int.toNat_of_nonneg f.1
 have et:(((r.q.to.getD i default).toNat:Nat):Int)=r.q.to.getD i default:=Int.toNat_of_nonneg g.1
 have hk2:k<(betw r.q v (r.q.fr.getD i default)).length:=by
  have h:=(hpd _ wf).1
  rw[ef] at h
  have h2:((projR r.p r.q v).d.getD ((projR r.p r.q v).q.fr.getD i default).toNat default).toNat=(betw r.q v (r.q.fr.getD i default)).length:=by
   show((projD r.q v).getD (r.q.fr.getD i default).toNat default).toNat=_
   rw[h,Int.toNat_natCast]
  rw[←h2];exact hk
 have ht2:t<(r.d.getD (r.q.to.getD i default).toNat default).toNat:=ht
 obtain⟨x1,x2,x3,x4⟩:=(ArF.of hare hiq).xy
 have eA:(cobL (projR r.p r.q v) r (exL r v c)).getD i default=plusM r.p (arX (projR r.p r.q v) r (exL r v c) i) (r.p-1) (arY (projR r.p r.q v) r (exL r v c) i):=cob_at hare hiq
 have hxr:(arX (projR r.p r.q v) r (exL r v c) i).r=r.d.getD (r.q.to.getD i default).toNat default:=by rw[eA] at m3;exact m3
 have hxc:(arX (projR r.p r.q v) r (exL r v c) i).c=(projD r.q v).getD (r.q.fr.getD i default).toNat default:=by rw[eA] at m2;exact m2
 have hlt:t*(arX (projR r.p r.q v) r (exL r v c) i).c.toNat+k<(arX (projR r.p r.q v) r (exL r v c) i).m.length:=ent_lt x1 (by rw[hxr];exact ht2) (by rw[hxc];exact hk)
 have hleq:(arX (projR r.p r.q v) r (exL r v c) i).m.length=(arY (projR r.p r.q v) r (exL r v c) i).m.length:=by
  have h1:=(isMat_spec x1).2.2.2.1
  have h2:=(isMat_spec x2).2.2.2.1
  rw[x3,x4] at h1
  omega
 rw[eA,plus_get hleq x4 hlt]
 have hmi:i<r.m.length:=by omega
 obtain⟨a1,a2,a3,a4,a5⟩:=arrow_ok hr hmi
 have hX:ent (arX (projR r.p r.q v) r (exL r v c) i) t k=sumN (fun u=>ent (r.m.getD i default) t u*exE r v c ((betw r.q v (r.q.fr.getD i default)).getD k default).a.reverse u) (r.m.getD i default).c.toNat%r.p:=by
  unfold arX
  show ent (mulM r.p (r.m.getD i default) ((exL r v c).getD (r.q.fr.getD i default).toNat default)) t k=_
  rw[exL_get wf,mul_get (by rw[a5];exact ht2) (by show k<Int.toNat (((betw r.q v (((r.q.fr.getD i default).toNat:Nat):Int)).length:Nat):Int);rw[Int.toNat_natCast,ef];exact hk2)]
  congr 1
  refine sumN_eq _ fun u hu=>?_
  congr 1
  unfold exM
  rw[ent_tm _ (by rw[←a4];exact hu) (by rw[ef];exact hk2),ef]
 have hY:ent (arY (projR r.p r.q v) r (exL r v c) i) t k=exE r v c ((i:Int)::((betw r.q v (r.q.fr.getD i default)).getD k default).a.reverse) t:=by
  unfold arY
  show ent (mulM r.p ((exL r v c).getD (r.q.to.getD i default).toNat default) ((pjMs r.q v).getD i default)) t k=_
  rw[exL_get wt,pjMs_get _ _ hiq]
  obtain⟨p1,p2⟩:=plcN_ok ho hiq hk2
  rw[mul_pj (hM _ wt) ho hiq hk2 (by show(((betw r.q v (((r.q.to.getD i default).toNat:Nat):Int)).length:Nat):Int)=_;rw[et]) (by show t<Int.toNat (((r.d.getD (r.q.to.getD i default).toNat default).toNat:Nat):Int);rw[Int.toNat_natCast];exact ht2)]
  unfold exM
  rw[ent_tm _ ht2 (by rw[et];exact p1),et,p2]
  simp
 rw[hX,hY]
 simp only[exE,Int.toNat_natCast,List.reverse_reverse]
 rw[plQ_at hk2]
 generalize sumN (fun u=>ent (r.m.getD i default) t u*exE r v c ((betw r.q v (r.q.fr.getD i default)).getD k default).a.reverse u) (r.m.getD i default).c.toNat=S
 have hC:=ent_bd n1 t (by rw[n3];exact ht2) k (by rw[n2];exact hk)
 generalize ent (c.getD i default) t k=C at hC
 have hcg:Cg r.p ((S%r.p+(r.p-1)*((S-C)%r.p))%r.p) C:=by
  refine(Cg.mod ..).trans (((Cg.mod ..).add ((Cg.refl _).mul (Cg.mod ..))).trans ⟨S-C,?_⟩)
  rw[Int.sub_mul,Int.one_mul];omega
 exact hcg.eq (mod_bd (by omega)) hC
theorem ext_zero{a b:Rep}(hf:fitR a b=true)(h:∀c,isCoc a b c=true→isCob a b c=true):extD a b=0:=by
 have hl:=ext_len hf
 by_cases h0:(extP a b).1.length=0
 ·omega
 ·have h1:=ext_coc hf (k:=0) (by omega)
  have h2:=ext_ncob hf (k:=0) (by omega)
  rw[h _ h1] at h2
  cases h2
theorem szT_sum(a b:Rep):∀n,(szT a b n:Int)=sumN (fun w=>((a.d.getD w default).toNat:Int)*((b.d.getD w default).toNat:Int)) n
 |0=>rfl
 |n+1=>by rw[szT,sumN,←szT_sum a b n];push_cast;rfl
theorem szA_sum(a b:Rep):∀n,(szA a b n:Int)=sumN (fun i=>((b.d.getD (a.q.to.getD i default).toNat default).toNat:Int)*((a.d.getD (a.q.fr.getD i default).toNat default).toNat:Int)) n
 |0=>rfl
 |n+1=>by rw[szA,sumN,←szA_sum a b n];push_cast;rfl
theorem sum_arr(D F:Nat→Int)(g:Nat→Nat)(n:Nat):∀m,(∀i,i<m→g i<n)→sumN (fun w=>sumN (fun i=>if g i=w then F i else 0) m*D w) n=sumN (fun i=>F i*D (g i)) m
 |0,_=>by
  simp only[sumN,Int.zero_mul]
  exact sumN_zero _ fun _ _=>rfl
 |m+1,h=>by
  rw[sumN,←sum_arr D F g n m fun i hi=>h i (by omega)]
  have e:F m*D (g m)=sumN (fun w=>(if g m=w then F m else 0)*D w) n:=by
   rw[sumN_eq (g:=fun w=>(if w=g m then 1 else 0)*(F m*D w)) _ fun w _=>by
    by_cases e:g m=w
    ·rw[if_pos e,if_pos e.symm];omega
    ·rw[if_neg e,if_neg (fun h=>e h.symm)];omega,sumN_one,if_pos (h m (by omega))]
  rw[e,←sumN_add]
  refine sumN_eq _ fun w _=>?_
  rw[sumN,Int.add_mul]
theorem euler_proj{r:Rep}{v:Int}(hr:isRep r=true)(hP:(projP r.p r.q v).2=true):(szT (projR r.p r.q v) r r.d.length:Int)=r.d.getD v.toNat default+(szA (projR r.p r.q v) r r.q.fr.length:Int):=by
 obtain⟨hF,hA,_⟩:=projP_true2 hP
 obtain⟨ho,v0,v1,hd⟩:=projD_yes hA
 obtain⟨c1,c2,c3,c4⟩:=areDims_spec hA
 obtain⟨r1,r2,r3,r4⟩:=isRep_spec hr
 obtain⟨d1,d2,d3,d4⟩:=areDims_spec r2
 have hrd:∀w:Nat,w<r.d.length→0≤r.d.getD w default∧r.d.getD w default≤4:=fun w hw=>allIn_spec d3 hw
 have hf:∀i,i<r.q.fr.length→0≤r.q.fr.getD i default∧r.q.fr.getD i default<r.q.n:=fun i hi=>okQ_fr c1 hi
 have ht:∀i,i<r.q.fr.length→0≤r.q.to.getD i default∧r.q.to.getD i default<r.q.n:=fun i hi=>okQ_to c1 hi
 rw[szT_sum,szA_sum]
 have e1:sumN (fun w=>(((projR r.p r.q v).d.getD w default).toNat:Int)*((r.d.getD w default).toNat:Int)) r.d.length=sumN (fun w=>(if w=v.toNat then 1 else 0)*r.d.getD w default+sumN (fun i=>if(r.q.to.getD i default).toNat=w then((betw r.q v (r.q.fr.getD i default)).length:Int) else 0) r.q.fr.length*r.d.getD w default) r.d.length:=sumN_eq _ fun w hw=>by
  have h1:(((projR r.p r.q v).d.getD w default).toNat:Int)=((betw r.q v (w:Int)).length:Int):=by
   show(((projD r.q v).getD w default).toNat:Int)=_
   rw[hd w (by omega),Int.toNat_natCast]
  have h2:((r.d.getD w default).toNat:Int)=r.d.getD w default:=Int.toNat_of_nonneg (hrd w hw).1
  rw[h1,h2,betw_count ho,Int.add_mul]
  congr 1
  ·by_cases e:w=v.toNat
   ·rw[if_pos e,if_pos (by omega)]
   ·rw[if_neg e,if_neg (by omega)]
  ·congr 1
   refine sumN_eq _ fun i hi=>?_
   have:=ht i hi
   by_cases e:r.q.to.getD i default=(w:Int)
   ·rw[if_pos e,if_pos (by omega)]
   ·rw[if_neg e,if_neg (by omega)]
 rw[e1,sumN_add,sumN_one,if_pos (by omega),sum_arr (fun w=>r.d.getD w default) _ (fun i=>(r.q.to.getD i default).toNat) _ _ fun i hi=>by have:=ht i hi;omega]
 congr 1
 refine sumN_eq _ fun i hi=>?_
 have hfi:=hf i hi
 have hti:=ht i hi
 have h1:(((projR r.p r.q v).d.getD ((projR r.p r.q v).q.fr.getD i default).toNat default).toNat:Int)=((betw r.q v (r.q.fr.getD i default)).length:Int):=by
  show(((projD r.q v).getD (r.q.fr.getD i default).toNat default).toNat:Int)=_
  rw[hd _ (by omega),Int.toNat_natCast,Int.toNat_of_nonneg hfi.1]
 have h2:((r.d.getD ((projR r.p r.q v).q.to.getD i default).toNat default).toNat:Int)=r.d.getD (r.q.to.getD i default).toNat default:=Int.toNat_of_nonneg (hrd _ (by show(r.q.to.getD i default).toNat<_;omega)).1
 rw[h1,h2,Int.mul_comm]
theorem proj_fit{r:Rep}{v:Int}(hr:isRep r=true)(hP:(projP r.p r.q v).2=true):fitR (projR r.p r.q v) r=true:=by
 obtain⟨hF,hA,_⟩:=projP_true2 hP
 exact fitR_mk (projR_ok hF hA) hr rfl rfl
theorem ext_proj0{r:Rep}{v:Int}(hr:isRep r=true)(hP:(projP r.p r.q v).2=true):extD (projR r.p r.q v) r=0:=ext_zero (proj_fit hr hP) fun c hc=>by
 obtain⟨h1,h2⟩:=ext_proj hr hP hc
 have:=cob_cob h1
 rw[h2] at this
 exact this
theorem hom_proj{r:Rep}{v:Int}(hr:isRep r=true)(hP:(projP r.p r.q v).2=true):homD (projR r.p r.q v) r=r.d.getD v.toNat default:=by
 have hf:=proj_fit hr hP
 have h0:=ext_proj0 hr hP
 have he:=euler_proj hr hP
 have hl:(projR r.p r.q v).d.length=r.d.length:=by
  have h:=Fits.of hf
  have h1:=h.da
  have h2:=h.db
  have h3:=h.q
  have e:(projR r.p r.q v).q=r.q:=rfl
  rw[e] at h1 h2
  omega
 unfold extD at h0
 unfold homD
 rw[if_pos hf] at h0⊢
 rw[hl,he]
 have e:(projR r.p r.q v).q.fr.length=r.q.fr.length:=rfl
 rw[e] at h0
 omega
end Go.Proofs.YtjmjamhhppoimaaGreat.V
