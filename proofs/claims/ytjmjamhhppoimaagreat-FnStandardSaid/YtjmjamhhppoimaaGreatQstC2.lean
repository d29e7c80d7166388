/- Texts that the proof needs: B7, B9, C2. -/
import Derived.Test.YtjmjamhhppoimaaGreatQstA85
namespace Go.Proofs.YtjmjamhhppoimaaGreat.V
open V.Enc (enc)
open Go.RowKit G D
set_option linter.unusedVariables false
set_option linter.unusedSimpArgs false
set_option maxHeartbeats 4000000
set_option maxRecDepth 4000
attribute [local irreducible] AW ARg ARA ARet MRet ASil AC AM
theorem ker_take{p:Int}{c:Nat}{g:Nat→Nat→Int}{piv:List Nat}{j:Nat}(hj:j<(freeL c piv).length):((freeL c piv).map fun k=>kerV p c g piv k piv.length).take (j+1)=((freeL c piv).map fun k=>kerV p c g piv k piv.length).take j++[kerV p c g piv ((freeL c piv).getD j default) piv.length]:=by
 have e:(freeL c piv).getD j default=(freeL c piv)[j]:=by simp[hj]
 rw[List.take_succ_eq_append_getElem (by simpa using hj),e]
 simp
theorem kernel_a(p:Int)(r c:Nat)(f:Nat→Nat→Int)(hf:isF p=true)(hr:r≤1024)(hc:c≤1024)(hb:BdF p r c f):
  AC Tryz.prog 316 [.i p,.agg (enc false (tm r c f))] [.dt true 1 (E true (kerL p r c f))]:=by
 refine AC.go Tryz.func316 Tryz.ntmps316 rfl rfl fun w0 hw=>?_;simp[WfL,WfA,E_length,Enc.enc,In64] at hw
 have h5:=isF_pos hf
 have hR:=implReduce_a p r c f hf hr hc hb
 obtain⟨b1,b2,b3,b4⟩:=redK_bd (p:=p) (by omega) hb c
 unfold kerL
 generalize redK p r f c=R at hR b1 b2 b3 b4⊢
 obtain⟨g,piv⟩:=R
 dsimp only at hR b1 b2 b3 b4⊢
 have hFr:=freeColumns_a c piv (by omega)
 have hKt:=fun j hj=>ker_take (p:=p) (c:=c) (g:=g) (piv:=piv) (j:=j) hj
 have hKl:((freeL c piv).map fun k=>kerV p c g piv k piv.length).length=(freeL c piv).length:=by simp
 have hfl:=freeL_le c piv
 have hfm:=fun j (hj:j<(freeL c piv).length)=>(freeL_lt (c:=c) (piv:=piv) ((freeL c piv).getD j default) (by simp[hj])).1
 have hfi:=ints_len (freeL c piv)
 have hfg:=fun j (hj:j<(freeL c piv).length)=>ints_get (freeL c piv) hj
 generalize ((freeL c piv).map fun k=>kerV p c g piv k piv.length)=KL at hKt hKl⊢
 generalize freeL c piv=FL at hFr hKt hKl hfl hfm hfi hfg
 generalize ints FL=FI at hFr hfi hfg
 have hpl:=ints_len piv
 have hpg:=fun i (hi:i<piv.length)=>ints_get piv hi
 generalize ints piv=PI at hR hFr hpl hpg
 have hN:=tab_len r c g
 repeat' first|refine s1 ?_|refine q1 ?_|(refine kR ?_;first|refine F.c (hR) ?_|refine F.c (hFr) ?_)|fail
 refine AW.open 7 1 (.inl rfl) ?_
 refine F.loop (σ:=Nat) [7,9,10,11,12,24,25,26,27,28,29,30,31,32,33,34,35,36,37,38,39,40,41,42,43,44,45,46,47,48,49,50,51,52,53,54,55,56,57,58,59] (fun j=>[(7,.sl 5 j 0 j),(24,.i j)]) (fun j=>[(1,.live false 1 (E true (tab r c g))),(5,.live false 1 (E true (KL.take j)))]) (fun j=>j≤FL.length) (fun j=>FL.length-j) 0 ⟨rfl,rfl,trivial⟩ ⟨rfl,rfl,trivial⟩ (Nat.zero_le _) ?_
 rintro j j1
 have hp2:(KL.take j).length=j:=by rw[List.length_take];omega
 by_cases hj:j<FL.length
 ·have hf1:=hfg j hj
  have hq:=hfm j hj
  have hts:=hKt j hj
  generalize FL.getD j default=q at hf1 hq hts
  have hf2:FI.getD (0+j) default=(q:Int):=by rw[Nat.zero_add];exact hf1
  have hT:(FI.getD (0+j) default).toNat=q:=by rw[hf2];exact Int.toNat_natCast q
  have hf4:FI[j]?.getD default=(q:Int):=by rw[←List.getD_eq_getElem?_getD];exact hf1
  have hf5:FI[j]?.getD 0=(q:Int):=hf4
  repeat' first|refine s1 ?_|refine q1 ?_|(refine kR ?_;first|refine F.mk (m:=c) Int rfl rfl rfl (mkB (by omega)) (by omega) rfl rfl ?_)|fail
  have e0:(List.replicate c 0).set (0+(FI.getD (0+j) default).toNat) (1:Int)=kerV p c g piv q 0:=by rw[Nat.zero_add,hT];rfl
  rw[e0]
  clear e0
  refine F.loop (σ:=Nat) [11,12,36,37,38,39,40,41,42,43,44,45,46,47,48,49,50,51,52,53,54] (fun i=>[(36,.i i)]) (fun i=>[(1,.live false 1 (E true (tab r c g))),(6,.live false 1 (E true (kerV p c g piv q i)))]) (fun i=>i≤piv.length) (fun i=>piv.length-i) 0 ⟨rfl,trivial⟩ ⟨rfl,rfl,trivial⟩ (Nat.zero_le _) ?_
  rintro i i1
  by_cases hi:i<piv.length
  ·have hir:i<r:=by omega
   have hpi:=hpg i hi
   have hpq:piv.getD i default<c:=b4 _ (by simp[hi])
   have hst:kerV p c g piv q (i+1)=(kerV p c g piv q i).set (piv.getD i 0) (-(g i q)%p):=rfl
   rw[←neg_mod] at hst
   have hvl:=kerV_len p c g piv q i
   have hRw:=row_m r c i g _ hN hir hr hc
   have hpi':PI.getD (0+i) default=(piv.getD i default:Nat):=by rw[Nat.zero_add];exact hpi
   have hT2:(PI.getD (0+i) default).toNat=piv.getD i 0:=by rw[hpi'];exact Int.toNat_natCast _
   have hx:=b1 i hir (FI.getD (0+j) default).toNat (by omega)
   have hxq:g i (FI.getD (0+j) default).toNat=g i q:=by rw[hT]
   have hi64:In64 (p-g i (FI.getD (0+j) default).toNat):=by unfold In64;omega
   have hqc:(FI.getD (0+j) default).toNat<c:=by omega
   clear hpi
   generalize kerV p c g piv q i=X at hst hvl⊢
   rw[←hT2,←hxq] at hst
   repeat' first|refine s1 ?_|refine q1 ?_|(refine kR ?_;first|refine F.m [1] (hRw) ?_)|fail
   exact⟨i+1,F.fit ⟨rfl,trivial⟩ ⟨rfl,obE (by rw[hst,Nat.zero_add (PI.getD (0+i) default).toNat]),trivial⟩,by omega,by omega⟩
  ·obtain rfl:i=piv.length:=by omega
   have hvl:=kerV_len p c g piv q piv.length
   generalize kerV p c g piv q piv.length=X at hts hvl⊢
   repeat' first|refine s1 ?_|refine q1 ?_|(refine kR ?_;first|refine F.a1 (List Int) (a:=X) ?_)|fail
   exact⟨j+1,F.fit ⟨rfl,rfl,trivial⟩ ⟨rfl,obE (by rw[hts]),trivial⟩,by omega,by omega⟩
 ·obtain rfl:j=FL.length:=by omega
  have e:KL.take FL.length=KL:=List.take_of_length_le (by omega)
  rw[e]
  rw[←hKl]
  clear hp2 e
  repeat' first|refine s1 ?_|refine q1 ?_|fail
  (refine kZ ?_;exact F.ret rfl)
def idK(k:Nat):Nat→Nat→Int:=fun i j=>if i=j∧i<k then 1 else 0
theorem idK_zero:idK 0=fun _ _=>0:=by funext i j;simp[idK]
theorem idK_set(k:Nat):updF (idK k) k k 1=idK (k+1):=by
 funext i j
 simp only[idK,updF]
 by_cases h1:i=k
 ·subst h1
  by_cases h2:j=i
  ·subst h2;simp
  ·have:¬i=j:=fun h=>h2 h.symm
   simp[h2,this]
 ·have:i<k+1↔i<k:=by omega
  simp[h1,this]
theorem idK_all(n:Nat):tab n n (idK n)=tab n n idF:=tab_ext fun i hi j hj=>by simp[idK,idF,hi]
theorem identity_a(n:Nat)(hn:n≤1000):AC Tryz.prog 289 [.i (n:Int)] [.agg (enc true (tm n n idF))]:=by
 refine AC.go Tryz.func289 Tryz.ntmps289 rfl rfl fun w0 hw=>?_;simp[WfL,WfA,E_length,Enc.enc,In64] at hw
 have hZ:=zeroT_a n n (by omega) (by omega)
 repeat' first|refine s1 ?_|refine q1 ?_|(refine kR ?_;first|refine F.c (hZ) ?_)|fail
 refine F.loop (σ:=Nat) [4,9,10,11,12,13,14,15,16,17,18,19,20] (fun i=>[(9,.i i)]) (fun i=>[(1,.live false 1 (E true (tab n n (idK i))))]) (fun i=>i≤n) (fun i=>n-i) 0 ⟨rfl,trivial⟩ ⟨obE (by rw[idK_zero]),trivial⟩ (Nat.zero_le _) ?_
 rintro i i1
 by_cases hi:i<n
 ·obtain⟨t1,t2⟩:=tab_in (i:=i) (j:=i) (r:=n) (c:=n) hi hi (by omega) (by omega)
  repeat' first|refine s1 ?_|refine q1 ?_|fail
  exact⟨i+1,F.fit ⟨rfl,trivial⟩ ⟨obE (by rw[idK_set]),trivial⟩,by omega,by omega⟩
 ·obtain rfl:i=n:=by omega
  rw[idK_all]
  repeat' first|refine s1 ?_|refine q1 ?_|fail
  (refine kZ ?_;exact F.ret rfl)
theorem matKer_a{p:Int}{m:Mat}(h:isMat p m=true):AC Tryz.prog 316 [.i p,.agg (enc false m)] [.dt true 1 (E true (kerL p m.r.toNat m.c.toNat (ent m)))]:=by
 obtain⟨h0,h1,h2,h3,h4⟩:=isMat_spec h
 have:=kernel_a p m.r.toNat m.c.toNat (ent m) h0 (by omega) (by omega) (ent_bd h)
 rw[isMat_tm h] at this
 exact this
theorem kerSpan_a{p:Int}{m:Mat}(h:isMat p m=true):AC Tryz.prog 305 [.i p,.i m.c,ar false (kerL p m.r.toNat m.c.toNat (ent m))] [.agg (enc true (kerS p m))]:=by
 obtain⟨h0,h1,h2,h3,h4⟩:=isMat_spec h
 have hp:=isF_pos h0
 have hl:=kerL_le p m.r.toNat m.c.toNat (ent m)
 have:=span_a p m.c.toNat _ h0 (by omega) (by omega) (kerL_vec (r:=m.r.toNat) (c:=m.c.toNat) (f:=ent m) hp.1)
 rw[Int.toNat_of_nonneg h2.1] at this
 exact this
theorem zerL_get{a b:Rep}{k:Nat}(h:k<a.d.length):(zerL a b).getD k default=zeroM (b.d.getD k default) (a.d.getD k default):=by simp[zerL,h]
theorem zeroM_len{x y:Int}(hx:0≤x∧x≤4)(hy:0≤y∧y≤4):(zeroM x y).m.length=x.toNat*y.toNat:=by
 have:=mul44 hx hy
 simp only[zeroM,List.length_replicate]
 rw[this.1,Int.toNat_natCast]
theorem zerL_cat{a b:Rep}(h:Fits a b):∀k,k≤a.d.length→(catM ((zerL a b).take k)).length=szT a b k
 |0,_=>by simp[catM,szT]
 |k+1,hk=>by
  have hda:=h.da
  have hdb:=h.db
  rw[catM_take (by rw[zerL_len];omega),List.length_append,zerL_cat h k (by omega),zerL_get (by omega),zeroM_len (h.bb k (by omega)) (h.ba k (by omega)),szT,Nat.mul_comm]
theorem cocZ_cat{a b:Rep}(h:Fits a b):∀k,k≤a.q.fr.length→(catM ((cocZ a b).take k)).length=szA a b k
 |0,_=>by simp[catM,szA]
 |k+1,hk=>by
  have h5:=okQ_spec h.ok
  have hda:=h.da
  have hdb:=h.db
  have f:0≤a.q.fr.getD k default∧a.q.fr.getD k default<a.q.n:=okQ_fr h.ok (by omega)
  have t:0≤a.q.to.getD k default∧a.q.to.getD k default<a.q.n:=okQ_to h.ok (by omega)
  rw[catM_take (by rw[cocZ_len];omega),List.length_append,cocZ_cat h k (by omega),cocZ_get a b (by omega),zeroM_len (h.bb _ (by omega)) (h.ba _ (by omega)),szA]
theorem zerL_shp{a b:Rep}(h:Fits a b)(x:List Int):shpL (zerL a b) x=cutV a b x:=by
 have key:∀k,k≤a.d.length→shpL ((zerL a b).take k) x=(cutV a b x).take k:=fun k=>by
  induction k with
  |zero=>intro _;simp[shpL]
  |succ k ih=>
   intro hk
   have hda:=h.da
   have hdb:=h.db
   have hz:=zerL_get (a:=a) (b:=b) (k:=k) (by omega)
   have hl:=zeroM_len (h.bb k (by omega)) (h.ba k (by omega))
   rw[shpL_take _ _ (by rw[zerL_len];omega),ih (by omega),hz,zerL_cat h k (by omega),hl]
   have e:(cutV a b x).take (k+1)=(cutV a b x).take k++[⟨b.d.getD k default,a.d.getD k default,(x.take (szT a b (k+1))).drop (szT a b k)⟩]:=by
    simp only[cutV,←List.map_take,range_take (show k<a.d.length by omega),List.map_append,List.map_cons,List.map_nil]
   rw[e,List.drop_take]
   have hs:szT a b (k+1)-szT a b k=(b.d.getD k default).toNat*(a.d.getD k default).toNat:=by rw[szT,Nat.mul_comm];omega
   rw[hs]
 have:=key a.d.length (Nat.le_refl _)
 rw[show a.d.length=(zerL a b).length from(zerL_len a b).symm,List.take_length,zerL_len,show a.d.length=(cutV a b x).length from(cutV_len a b x).symm,List.take_length] at this
 exact this
def colL(a b:Rep):List (List Int):=(List.range (szT a b a.d.length)).map fun k=>catM (cobL a b (cutV a b (unitL (szT a b a.d.length) k)))
theorem colL_len(a b:Rep):(colL a b).length=szT a b a.d.length:=by simp[colL]
theorem colL_take{a b:Rep}{k:Nat}(h:k<szT a b a.d.length):(colL a b).take (k+1)=(colL a b).take k++[catM (cobL a b (cutV a b (unitL (szT a b a.d.length) k)))]:=by
 simp only[colL,←List.map_take,range_take h,List.map_append,List.map_cons,List.map_nil]
theorem colL_get{a b:Rep}(hf:fitR a b=true){k:Nat}(h:k<szT a b a.d.length):(colL a b).getD k default=tab (szA a b a.q.fr.length) 1 fun t _=>ent (eqM a b) t k:=by
 rw[←eq_col hf h]
 simp[colL,h]
theorem colL_tm{a b:Rep}(hf:fitR a b=true):tm (szA a b a.q.fr.length) (colL a b).length (fcF (colL a b))=eqM a b:=by
 have hp:=isF_pos (Fits.of hf).f
 rw[←eqM_tm (a:=a) (b:=b) (by omega),colL_len]
 unfold tm
 congr 1
 apply tab_ext
 intro i hi j hj
 unfold fcF
 rw[colL_get hf hj]
 have:=tab_get (r:=szA a b a.q.fr.length) (c:=1) (fun t _=>ent (eqM a b) t j) hi (show 0<1 by omega)
 rw[Nat.mul_one,Nat.add_zero] at this
 exact this
theorem boundaries_a(a b:Rep)(hf:fitR a b=true):AC Tryz.prog 299 [.agg (enc false a),.agg (enc false b)] [.agg (enc true (eqM a b))]:=by
 refine AC.go Tryz.func299 Tryz.ntmps299 rfl rfl fun w0 hw=>?_;simp[WfL,WfA,E_length,Enc.enc,In64] at hw
 have h:=Fits.of hf
 have h5:=okQ_spec h.ok
 have hda:=h.da
 have hp:=isF_pos h.f
 have hn:=szT_le h a.d.length (Nat.le_refl _)
 have hN:=szA_le h a.q.fr.length (Nat.le_refl _)
 have hZ:=zeros_a a b h
 have hzl:=zerL_len a b
 have hzc:=zerL_cat h a.d.length (Nat.le_refl _)
 rw[←hzl,List.take_length,hzl] at hzc
 have hF:=flat_a (zerL a b) (by omega)
 have hCZ:=cocycleZeros_a a b h
 have hcl:=cocZ_len a b
 have hcc:=cocZ_cat h a.q.fr.length (Nat.le_refl _)
 rw[←hcl,List.take_length,hcl] at hcc
 have hFC:=flat_a (cocZ a b) (by omega)
 have hC:=fromColumns_a (szA a b a.q.fr.length) (colL a b) (by omega) (by rw[colL_len];omega) (fun k hk=>by rw[colL_len] at hk;rw[colL_get hf hk,tab_len,Nat.mul_one])
 rw[colL_tm hf,←hcc] at hC
 have hsh:=fun x=>shaped_a (zerL a b) x (by omega)
 have hLl:=colL_len a b
 have hLt:=fun k h=>colL_take (a:=a) (b:=b) (k:=k) h
 have hcb:=fun k (h:k<szT a b a.d.length)=>coboundary_a a b (cutV a b (unitL (szT a b a.d.length) k)) (areM_cutV hf (unitL_len (szT a b a.d.length) k) (unitL_mem hp.1))
 have hcf:=fun k (h:k<szT a b a.d.length)=>flat_a (cobL a b (cutV a b (unitL (szT a b a.d.length) k))) (by rw[eq_col hf h,tab_len];omega)
 have hzs:=fun x=>zerL_shp h x
 generalize catM (cocZ a b)=CC at hFC hC hcc
 generalize cocZ a b=CZ at hCZ hFC
 generalize hZZ:zerL a b=ZL at hZ hF hsh hzs hzc hzl
 generalize colL a b=CL at hC hLl hLt
 generalize eqM a b=EM at hC
 generalize szT a b a.d.length=N at*
 repeat' first|refine s1 ?_|refine q1 ?_|(refine kR ?_;first|refine F.c (hZ) ?_|refine F.c (hF) ?_)|fail
 rw[hzc]
 refine AW.open 7 1 (.inl rfl) ?_
 refine F.loop (σ:=Nat) [7,8,9,17,18,19,20,21,22,23,24,25,26,27,28,29,30,31,32,33,34,35] (fun k=>[(7,.sl 5 k 0 k),(17,.i k)]) (fun k=>[(5,.live false 1 (E true (CL.take k)))]) (fun k=>k≤N) (fun k=>N-k) 0 ⟨rfl,rfl,trivial⟩ ⟨rfl,trivial⟩ (Nat.zero_le _) ?_
 rintro k k1
 by_cases hk:k<N
 ·have hS:=hsh (unitL N k) (by rw[unitL_len];omega) (by rw[unitL_len];omega)
  rw[hzs] at hS
  have hB:=hcb k hk
  have hFl:=hcf k hk
  have ht:=hLt k hk
  have hul:=unitL_len N k
  have hp':(CL.take k).length=k:=by rw[List.length_take];omega
  generalize catM (cobL a b (cutV a b (unitL N k)))=X at hFl ht
  generalize cobL a b (cutV a b (unitL N k))=Y at hB hFl
  generalize cutV a b (unitL N k)=V' at hS hB
  rw[show unitL N k=(List.replicate N 0).set (0+k) 1 by rw[Nat.zero_add];rfl] at hS
  repeat' first|refine s1 ?_|refine q1 ?_|(refine kR ?_;first|refine F.mk (m:=N) Int rfl rfl rfl (mkB (by omega)) (by omega) rfl rfl ?_)|fail
  refine AW.freezeA (α:=Int) 9 rfl rfl (by simp) ?_
  refine AW.draw 9 G.mixed (by kernel_rfl) ?_
  refine Pz (.p 0<|.l 1<|.l 2<|.p 3<|.p 4<|.o 5 true<|.o 6 true<|.o 7 true<|.o 8 true<|.o 9 false<|.p 10<|.n) ?_
  repeat' first|refine ySQ ?_|refine s1 ?_|refine q1 ?_|(refine kR ?_;first|refine F.c (hS) ?_|refine F.c (hB) ?_|refine F.c (hFl) ?_|refine F.a1 (List Int) (a:=X) ?_)|fail
  any_goals refine lf ?_
  repeat' first|refine s1 ?_|refine q1 ?_|fail
  exact⟨k+1,F.fit ⟨rfl,rfl,trivial⟩ ⟨obE (by rw[ht]),trivial⟩,by omega,by omega⟩
 ·obtain rfl:k=N:=by omega
  rw[←hLl,List.take_length]
  repeat' first|refine s1 ?_|refine q1 ?_|(refine kR ?_;first|refine F.c (hCZ) ?_|refine F.c (hFC) ?_|refine F.c (hC) ?_)|fail
  (refine kZ ?_;exact F.ret rfl)
theorem rank_a(p:Int)(r c:Nat)(f:Nat→Nat→Int)(hf:isF p=true)(hr:r≤1024)(hc:c≤1024)(hb:BdF p r c f):
  AC Tryz.prog 300 [.i p,.agg (enc false (tm r c f))] [.i ((redK p r f c).2.length:Nat)]:=by
 refine AC.go Tryz.func300 Tryz.ntmps300 rfl rfl fun w0 hw=>?_;simp[WfL,WfA,E_length,Enc.enc,In64] at hw
 have h5:=isF_pos hf
 have hR:=implReduce_a p r c f hf hr hc hb
 have hl:=ints_len (redK p r f c).2
 repeat' first|refine s1 ?_|refine q1 ?_|(refine kR ?_;first|refine F.c (hR) ?_)|fail
 rw[hl]
 repeat' first|refine s1 ?_|refine q1 ?_|fail
 (refine kZ ?_;exact F.ret rfl)
def rkE(a b:Rep):Nat:=(redK a.p (szA a b a.q.fr.length) (ent (eqM a b)) (szT a b a.d.length)).2.length
theorem eq_rank_a(a b:Rep)(hf:fitR a b=true):AC Tryz.prog 300 [.i a.p,.agg (enc false (eqM a b))] [.i (rkE a b:Nat)]:=by
 have h:=Fits.of hf
 have h5:=okQ_spec h.ok
 have hda:=h.da
 have hp:=isF_pos h.f
 have hn:=szT_le h a.d.length (Nat.le_refl _)
 have hN:=szA_le h a.q.fr.length (Nat.le_refl _)
 have:=rank_a a.p (szA a b a.q.fr.length) (szT a b a.d.length) (ent (eqM a b)) h.f (by omega) (by omega) (eqM_bd (by omega))
 rw[eqM_tm (by omega)] at this
 exact this
theorem rkE_le(a b:Rep)(hf:fitR a b=true):rkE a b≤szA a b a.q.fr.length∧rkE a b≤szT a b a.d.length∧szA a b a.q.fr.length≤96∧szT a b a.d.length≤80:=by
 have h:=Fits.of hf
 have h5:=okQ_spec h.ok
 have hda:=h.da
 have hp:=isF_pos h.f
 have hn:=szT_le h a.d.length (Nat.le_refl _)
 have hN:=szA_le h a.q.fr.length (Nat.le_refl _)
 have:=redK_bd (p:=a.p) (by omega) (eqM_bd (a:=a) (b:=b) (by omega)) (szT a b a.d.length)
 exact⟨this.2.1,this.2.2.1,by omega,by omega⟩
def extD(a b:Rep):Int:=if fitR a b=true then(szA a b a.q.fr.length:Int)-(rkE a b:Int) else-1
theorem extDim_a(a b:Rep)(hf:fitR a b=true):AC Tryz.prog 156 [.agg (enc false a),.agg (enc false b)] [.i ((szA a b a.q.fr.length:Int)-(rkE a b:Int))]:=by
 refine AC.go Tryz.func156 Tryz.ntmps156 rfl rfl fun w0 hw=>?_;simp[WfL,WfA,E_length,Enc.enc,In64] at hw
 have hB:=boundaries_a a b hf
 have hR:=eq_rank_a a b hf
 have hle:=rkE_le a b hf
 have hEr:(eqM a b).r=(szA a b a.q.fr.length:Nat):=rfl
 rw[←hEr]
 generalize rkE a b=K at hR hle⊢
 generalize eqM a b=EM at hB hR hEr⊢
 repeat' first|refine s1 ?_|refine q1 ?_|(refine kR ?_;first|refine F.c (hB) ?_)|fail
 refine AW.draw 8 G.mixed (by kernel_rfl) ?_
 refine Pz (.p 0<|.l 1<|.p 2<|.l 3<|.l 4<|.o 5 true<|.p 6<|.p 7<|.n) ?_
 repeat' first|refine ySQ ?_|refine s1 ?_|refine q1 ?_|(refine kR ?_;first|refine F.c (hR) ?_)|fail
 any_goals refine lf ?_
 repeat' first|refine s1 ?_|refine q1 ?_|fail
 (refine kZ ?_;exact F.ret rfl)
theorem implExtDim_a(a b:Rep):AC Tryz.prog 18 [.agg (enc false a),.agg (enc false b)] [.i (extD a b)]:=by
 refine AC.go Tryz.func18 Tryz.ntmps18 rfl rfl fun w0 hw=>?_;simp[WfL,WfA,E_length,Enc.enc,In64] at hw
 have hF:=fit_a a b
 unfold extD
 cases hf:fitR a b with
 |false=>
  rw[hf] at hF
  rw[if_neg (by simp)]
  repeat' first|refine s1 ?_|refine q1 ?_|(refine kR ?_;first|refine F.c (hF) ?_)|fail
  (refine kZ ?_;exact F.ret rfl)
 |true=>
  rw[hf] at hF
  rw[if_pos rfl]
  have hE:=extDim_a a b hf
  repeat' first|refine s1 ?_|refine q1 ?_|(refine kR ?_;first|refine F.c (hF) ?_|refine F.c (hE) ?_)|fail
  (refine kZ ?_;exact F.ret rfl)
theorem l3Identity_a(n:Nat)(hn:n≤1000):AC Tryz.prog 215 [.i (n:Int)] [.agg (enc true (tm n n idF))]:=by
 refine AC.go Tryz.func215 Tryz.ntmps215 rfl rfl fun w0 hw=>?_;simp[WfL,WfA,E_length,Enc.enc,In64] at hw
 have hZ:=l3ZeroT_a n n (by omega) (by omega)
 repeat' first|refine s1 ?_|refine q1 ?_|(refine kR ?_;first|refine F.c (hZ) ?_)|fail
 refine F.loop (σ:=Nat) [4,8,9,10,11,12,13,14,15,16,17,18,19,20] (fun i=>[(4,.i i)]) (fun i=>[(1,.live false 1 (E true (tab n n (idK i))))]) (fun i=>i≤n) (fun i=>n-i) 0 ⟨rfl,trivial⟩ ⟨obE (by rw[idK_zero]),trivial⟩ (Nat.zero_le _) ?_
 rintro i i1
 by_cases hi:i<n
 ·obtain⟨t1,t2⟩:=tab_in (i:=i) (j:=i) (r:=n) (c:=n) hi hi (by omega) (by omega)
  repeat' first|refine s1 ?_|refine q1 ?_|fail
  exact⟨i+1,F.fit ⟨rfl,trivial⟩ ⟨obE (by rw[idK_set]),trivial⟩,by omega,by omega⟩
 ·obtain rfl:i=n:=by omega
  rw[idK_all]
  repeat' first|refine s1 ?_|refine q1 ?_|fail
  (refine kZ ?_;exact F.ret rfl)
end Go.Proofs.YtjmjamhhppoimaaGreat.V
namespace Go.Proofs.YtjmjamhhppoimaaGreat.V
open Go.RowKit G D
set_option linter.unusedVariables false
set_option linter.unusedSimpArgs false
set_option maxHeartbeats 4000000
set_option maxRecDepth 4000
attribute [local irreducible] AW ARg ARA ARet MRet ASil AC AM ARI
end Go.Proofs.YtjmjamhhppoimaaGreat.V
