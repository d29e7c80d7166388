/- Texts that the proof needs: A202. -/
import Derived.Test.YtjmjamhhppoimaaGreatQisA200
namespace Go.Proofs.YtjmjamhhppoimaaGreat.V
open Go.RowKit G D
set_option linter.unusedVariables false
set_option linter.unusedSimpArgs false
set_option maxHeartbeats 1000000
set_option maxRecDepth 4000
theorem cut_cells{a b:Rep}{f:List Mat}(h:areM a b f=true):cutV a b (catM f)=f:=by
 obtain⟨h1,h2,h3⟩:=areM_spec h
 apply List.ext_getElem (by rw[cutV_len];omega)
 intro v g1 g2
 have hf:=fitV_spec h g2
 have hv:=h3 v g2
 simp only[fitV,Bool.and_eq_true,decide_eq_true_eq] at hv
 have e:f.getD v default=f[v]:=by simp[g2]
 rw[e] at hv hf
 have l1:=catM_len h v (by omega)
 have l2:=catM_len h (v+1) (by omega)
 have c1:catM f=catM (f.take (v+1))++catM (f.drop (v+1)):=by
  conv=>lhs;rw[←List.take_append_drop (v+1) f,catM,List.flatMap_append]
  rfl
 have c2:catM (f.take (v+1))=catM (f.take v)++f[v].m:=by rw[catM_take g2,e]
 have c3:((catM f).take (szT a b (v+1))).drop (szT a b v)=f[v].m:=by
  rw[c1,←l2,List.take_left' rfl,c2,←l1,List.drop_left' rfl]
 simp only[cutV,List.getElem_map,List.getElem_range,c3]
 rw[←hv.1.2,←hv.2]
theorem mor_ker{a b:Rep}{f:List Mat}(h:isMor a b f=true){i:Nat}(hi:i<szA a b a.q.fr.length):Cg a.p (dotV (ent (eqM a b) i) (catM f) (szT a b a.d.length)) 0:=by
 have hA:=isMor_are h
 have hcut:=cob_cut hA
 generalize hX:tab (szA a b a.q.fr.length) 1 (mulF a.p (ent (eqM a b)) (ent (colM a b f)) (szT a b a.d.length))=X at hcut
 have hXl:X.length=szA a b a.q.fr.length:=by rw[←hX,tab_len,Nat.mul_one]
 have hcat:=catM_cutL (a:=a) (b:=b) hXl
 rw[hcut] at hcat
 have hz:X.getD i default=0:=by
  have hm:X.getD i default∈X:=gm (by omega)
  rw[←hcat] at hm
  simp only[catM,List.mem_flatMap] at hm
  obtain⟨m,hm1,hm2⟩:=hm
  obtain⟨k,hk,rfl⟩:=List.getElem_of_mem hm1
  have hk2:k<a.q.fr.length:=by rw[cobL_len] at hk;exact hk
  have hc:=cob_mor h hk2
  have e:(cobL a b f).getD k default=(cobL a b f)[k]:=by simp[hk]
  rw[e] at hc
  obtain⟨j,hj,e2⟩:=List.getElem_of_mem hm2
  have:=hc j hj
  have e3:((cobL a b f)[k]).m.getD j default=((cobL a b f)[k]).m[j]:=by simp[hj]
  rw[e3] at this
  rw[←hcat]
  show(List.flatMap Mat.m (cobL a b f)).getD i default=0
  rw[←e2]
  exact this
 have e:=tab_get (r:=szA a b a.q.fr.length) (c:=1) (mulF a.p (ent (eqM a b)) (ent (colM a b f)) (szT a b a.d.length)) hi (show 0<1 by omega)
 rw[Nat.mul_one,Nat.add_zero,hX,hz] at e
 have e4:dotK (ent (eqM a b)) (ent (colM a b f)) i 0 (szT a b a.d.length)=dotV (ent (eqM a b) i) (catM f) (szT a b a.d.length):=by
  rw[dotK_sum]
  exact sumN_eq _ fun k hk=>by
   congr 1
   show(catM _).getD (k*1+0) default=_
   rw[Nat.mul_one];rfl
 refine Cg.iff.2 ?_
 rw[←e4,Int.zero_emod]
 exact e.symm
theorem digV_snoc(p c:Int)(n:Nat):digV p c (n+1)=digV p (c/p) n++[c%p]:=by
 unfold digV
 rw[List.range_succ,List.map_append]
 congr 1
 ·exact List.map_congr_left fun i hi=>by
   have hi:i<n:=by simpa using hi
   unfold digN
   rw[show n+1-1-i=(n-1-i)+1 by omega,quoN_swap]
 ·simp[digN,quoN]
theorem dig_all{q:Nat}(hq:0<q):∀(n:Nat) (xs:List Int),xs.length=n→(∀j,j<n→0≤xs.getD j default∧xs.getD j default≤(q:Int)-1)→∃c:Nat,c<q^n∧digV (q:Int) (c:Int) n=xs
 |0,xs,hl,_=>⟨0,by simp,by rw[List.length_eq_zero_iff.1 hl];rfl⟩
 |n+1,xs,hl,hb=>by
  have hne:xs≠[]:=fun e=>by rw[e] at hl;simp at hl
  have e:=List.dropLast_concat_getLast hne
  generalize xs.getLast hne=y at e
  generalize xs.dropLast=ys at e
  subst e
  have hyl:ys.length=n:=by simpa using hl
  obtain⟨c,hc,hd⟩:=dig_all hq n ys hyl fun j hj=>by
   have:=hb j (by omega)
   simpa[List.getD_eq_getElem?_getD,List.getElem?_append_left (show j<ys.length by omega)] using this
  have hy:=hb n (by omega)
  have e2:(ys++[y]).getD n default=y:=by rw[←hyl];simp
  rw[e2] at hy
  obtain⟨t,rfl⟩:∃t:Nat,y=t:=⟨y.toNat,by omega⟩
  refine⟨c*q+t,?_,?_⟩
  ·rw[Nat.pow_succ]
   have:(c+1)*q≤q^n*q:=Nat.mul_le_mul_right _ hc
   rw[Nat.add_mul] at this
   omega
  ·rw[digV_snoc]
   have d1:((c*q+t:Nat):Int)/(q:Int)=(c:Int):=by
    have:(c*q+t)/q=c:=by rw[Nat.mul_comm,Nat.mul_add_div hq,Nat.div_eq_of_lt (by omega)];omega
    rw[←Int.natCast_ediv,this]
   have d2:((c*q+t:Nat):Int)%(q:Int)=(t:Int):=by
    have:(c*q+t)%q=t:=by rw[Nat.mul_comm,Nat.mul_add_mod,Nat.mod_eq_of_lt (by omega)]
    rw[←Int.natCast_emod,this]
   rw[d1,d2,hd]
theorem dig_inj{q:Nat}(hq:0<q):∀(n c d:Nat),c<q^n→d<q^n→digV (q:Int) (c:Int) n=digV (q:Int) (d:Int) n→c=d
 |0,c,d,hc,hd,_=>by simp at hc hd;omega
 |n+1,c,d,hc,hd,h=>by
  rw[digV_snoc,digV_snoc] at h
  obtain⟨h1,h2⟩:=List.append_inj' h rfl
  simp only[List.cons.injEq,and_true] at h2
  rw[←Int.natCast_ediv,←Int.natCast_ediv] at h1
  rw[←Int.natCast_emod,←Int.natCast_emod] at h2
  rw[Nat.pow_succ] at hc hd
  have h3:=dig_inj hq n (c/q) (d/q) (Nat.div_lt_of_lt_mul (by rw[Nat.mul_comm];exact hc)) (Nat.div_lt_of_lt_mul (by rw[Nat.mul_comm];exact hd)) h1
  have h4:c%q=d%q:=by omega
  rw[←Nat.div_add_mod c q,←Nat.div_add_mod d q,h3,h4]
def nMor(a b:Rep):Nat:=a.p.toNat^(hkL a b).length
theorem fit_q{a b:Rep}(hf:fitR a b=true):0<a.p.toNat∧((a.p.toNat:Nat):Int)=a.p∧2≤a.p.toNat:=by
 have hp:=isF_pos (Fits.of hf).f
 omega
theorem mor_num{a b:Rep}{f:List Mat}(h:isMor a b f=true):∃c:Nat,c<nMor a b∧numL a b (c:Int)=f:=by
 have hA:=isMor_are h
 have hf:=(areM_spec hA).1
 have hF:=(Fits.of hf).f
 have hp:=isF_pos hF
 obtain⟨q0,q1,q2⟩:=fit_q hf
 obtain⟨v1,v2⟩:=are_vec hA
 obtain⟨co,e⟩:=kerL_full hF (eqM_bd (a:=a) (b:=b) (by omega)) (x:=catM f) fun i hi=>mor_ker h hi
 obtain⟨c,hc,hd⟩:=dig_all q0 (hkL a b).length (rowL (hkL a b).length fun i=>co i%a.p) (rowL_len ..) fun j hj=>by
  rw[rowL_get _ hj,q1]
  exact mod_bd (by omega)
 refine⟨c,hc,?_⟩
 unfold numL cmbH
 rw[q1] at hd
 rw[hd]
 have e2:cmbV a.p (szT a b a.d.length) (hkL a b) (rowL (hkL a b).length fun i=>co i%a.p) (hkL a b).length=catM f:=by
  apply List.ext_getElem (by rw[cmbV_len,v1])
  intro t g1 g2
  have ht:t<szT a b a.d.length:=by rwa [cmbV_len] at g1
  have b1:=cmbV_bd (p:=a.p) (n:=szT a b a.d.length) (l:=hkL a b) (k:=rowL (hkL a b).length fun i=>co i%a.p) hp.1 (hkL a b).length t ht
  have b2:=v2 t ht
  have k1:=cmbV_cg (p:=a.p) (n:=szT a b a.d.length) (l:=hkL a b) (k:=rowL (hkL a b).length fun i=>co i%a.p) ht (hkL a b).length
  have k2:Cg a.p (sumN (fun i=>(rowL (hkL a b).length fun i=>co i%a.p).getD i default*vecF (hkL a b) i t) (hkL a b).length) ((catM f).getD t default):=by
   refine Cg.trans ?_ (e t ht).symm
   exact sumN_cg _ fun i hi=>by
    rw[rowL_get _ hi]
    exact(Cg.mod ..).mul (.refl _)
  have k3:=(k1.trans k2).eq b1 b2
  have a1:∀(L:List Int) (h:t<L.length),L.getD t default=L[t]:=fun L h=>by simp[h]
  rw[a1 _ g1,a1 _ g2] at k3
  exact k3
 rw[e2,cut_cells hA]
theorem num_inj{a b:Rep}(hf:fitR a b=true){c d:Nat}(hc:c<nMor a b)(hd:d<nMor a b)(h:numL a b (c:Int)=numL a b (d:Int)):c=d:=by
 have hF:=(Fits.of hf).f
 have hp:=isF_pos hF
 obtain⟨q0,q1,q2⟩:=fit_q hf
 refine dig_inj q0 (hkL a b).length c d hc hd ?_
 rw[q1]
 have hcat:=congrArg catM h
 unfold numL cmbH at hcat
 rw[catM_cutV (cmbV_len ..),catM_cutV (cmbV_len ..)] at hcat
 have hz:=kerL_ind (p:=a.p) (r:=szA a b a.q.fr.length) (c:=szT a b a.d.length) (f:=ent (eqM a b)) (fun i=>(digV a.p (c:Int) (hkL a b).length).getD i default+(-1)*(digV a.p (d:Int) (hkL a b).length).getD i default) fun t ht=>by
  show Cg a.p (sumN (fun i=>((digV a.p (c:Int) (hkL a b).length).getD i default+(-1)*(digV a.p (d:Int) (hkL a b).length).getD i default)*vecF (hkL a b) i t) (hkL a b).length) 0
  rw[sumN_eq (g:=fun i=>(digV a.p (c:Int) (hkL a b).length).getD i default*vecF (hkL a b) i t+(-1)*((digV a.p (d:Int) (hkL a b).length).getD i default*vecF (hkL a b) i t)) _ fun i _=>by rw[Int.add_mul,Int.mul_assoc],sumN_add,sumN_mul]
  have k1:=cmbV_cg (p:=a.p) (n:=szT a b a.d.length) (l:=hkL a b) (k:=digV a.p (c:Int) (hkL a b).length) ht (hkL a b).length
  have k2:=cmbV_cg (p:=a.p) (n:=szT a b a.d.length) (l:=hkL a b) (k:=digV a.p (d:Int) (hkL a b).length) ht (hkL a b).length
  rw[hcat] at k1
  have:=(k1.symm.trans k2).sub0
  have e3:∀x y:Int,x+(-1)*y=x-y:=fun x y=>by omega
  rw[e3]
  exact this
 apply List.ext_getElem (by rw[digV_len,digV_len])
 intro i g1 g2
 have hi:i<(hkL a b).length:=by rwa [digV_len] at g1
 have h1:=hz i hi
 have a1:∀(L:List Int) (h:i<L.length),L.getD i default=L[i]:=fun L h=>by simp[h]
 have b1:=digN_bd (p:=a.p) (c:=(c:Int)) (by omega) (hkL a b).length i
 have b2:=digN_bd (p:=a.p) (c:=(d:Int)) (by omega) (hkL a b).length i
 rw[←a1 _ g1,←a1 _ g2]
 rw[←digV_get a.p (c:Int) hi] at b1
 rw[←digV_get a.p (d:Int) hi] at b2
 have e3:∀x y:Int,x+(-1)*y=x-y:=fun x y=>by omega
 rw[e3] at h1
 exact(Cg.of_sub h1).eq b1 b2
theorem count_le{N M:Nat}{P Q:Nat→Bool}(R:Nat→Nat→Prop)(h1:∀c,c<N→P c=true→∃d,d<M∧Q d=true∧R c d)(h2:∀c c' d,c<N→c'<N→R c d→R c' d→c=c'):(List.range N).countP P≤(List.range M).countP Q:=by
 rw[List.countP_eq_length_filter,List.countP_eq_length_filter]
 have hex:∀c,∃d,c<N→P c=true→d<M∧Q d=true∧R c d:=fun c=>by
  by_cases hc:c<N∧P c=true
  ·obtain⟨d,hd⟩:=h1 c hc.1 hc.2
   exact⟨d,fun _ _=>hd⟩
  ·exact⟨0,fun a b=>absurd ⟨a,b⟩ hc⟩
 have φ:=fun c=>Classical.choose (hex c)
 have hφ:∀c,c<N→P c=true→(Classical.choose (hex c))<M∧Q (Classical.choose (hex c))=true∧R c (Classical.choose (hex c)):=fun c=>Classical.choose_spec (hex c)
 have hn:(((List.range N).filter P).map fun c=>Classical.choose (hex c)).Nodup:=by
  rw[List.Nodup,List.pairwise_map]
  refine List.Pairwise.imp_of_mem ?_ ((List.nodup_range (n:=N)).filter P)
  intro c c' hc hc' hne he
  rw[List.mem_filter,List.mem_range] at hc hc'
  have k1:=hφ c hc.1 hc.2
  have k2:=hφ c' hc'.1 hc'.2
  rw[←he] at k2
  exact hne (h2 _ _ _ hc.1 hc'.1 k1.2.2 k2.2.2)
 have:=nodup_le hn (m:=(List.range M).filter Q) fun x hx=>by
  obtain⟨c,hc,rfl⟩:=List.mem_map.1 hx
  rw[List.mem_filter,List.mem_range] at hc
  have k1:=hφ c hc.1 hc.2
  rw[List.mem_filter,List.mem_range]
  exact⟨k1.1,k1.2.1⟩
 simpa using this
theorem count_all(N:Nat):(List.range N).countP (fun _=>true)=N:=by
 rw[List.countP_eq_length_filter,List.filter_eq_self.2 fun _ _=>rfl,List.length_range]
theorem comp_get{p:Int}{f g:List Mat}{v:Nat}(hv:v<f.length):(compL p f g).getD v default=mulM p (g.getD v default) (f.getD v default):=by simp[compL,hv]
theorem list_ext{f g:List Mat}(hl:f.length=g.length)(h:∀v,v<f.length→f.getD v default=g.getD v default):f=g:=by
 apply List.ext_getElem hl
 intro v g1 g2
 have:=h v g1
 have a1:∀(L:List Mat) (h:v<L.length),L.getD v default=L[v]:=fun L h=>by simp[h]
 rwa [a1 _ g1,a1 _ g2] at this
theorem comp_assoc{a b c d:Rep}{f g h:List Mat}(h1:isMor a b f=true)(h2:isMor b c g=true)(h3:isMor c d h=true):compL a.p (compL a.p f g) h=compL a.p f (compL a.p g h):=by
 obtain⟨a1,a2,a3⟩:=comp_ok h1 h2
 obtain⟨b1,b2,b3⟩:=comp_ok h2 h3
 have ep:=(mor_ok h1).2.2.1
 refine list_ext (by rw[compL_len,compL_len,compL_len]) fun v hv=>?_
 rw[compL_len,compL_len] at hv
 rw[comp_get (by rw[compL_len];exact hv),comp_get hv,comp_get hv,comp_get (by omega)]
 obtain⟨x1,x2,x3⟩:=a3 v hv
 obtain⟨y1,y2,y3⟩:=b3 v (by omega)
 rw[←ep] at y1 y2
 exact(mul_assoc y2 x2 x1 y3 x3).symm
theorem comp_id{a b:Rep}{f:List Mat}(h:isMor a b f=true):compL a.p f (idL b.d)=f∧compL a.p (idL a.d) f=f:=by
 obtain⟨m1,m2,m3,m4,m5⟩:=mor_ok h
 constructor
 ·refine list_ext (compL_len ..) fun v hv=>?_
  rw[compL_len] at hv
  obtain⟨x1,x2,x3⟩:=m5 v hv
  have e:(idL b.d).getD v default=idM (b.d.getD v default):=by simp[idL,show v<b.d.length by omega]
  rw[comp_get hv,e,←x3]
  exact id_mul x1
 ·refine list_ext (by rw[compL_len,idL_len];omega) fun v hv=>?_
  rw[compL_len,idL_len] at hv
  obtain⟨x1,x2,x3⟩:=m5 v (by omega)
  have e:(idL a.d).getD v default=idM (a.d.getD v default):=by simp[idL,hv]
  rw[comp_get (by rw[idL_len];exact hv),e,←x2]
  exact mul_id x1
theorem hom_le_r{r a b:Rep}{f g:List Mat}(hf:isMor a b f=true)(hg:isMor b a g=true)(hgf:compL a.p f g=idL a.d)(hr:fitR r a=true):(hkL r a).length≤(hkL r b).length:=by
 have hfit:=(areM_spec (isMor_are hf)).1
 have hrb:fitR r b=true:=fitR_mk (fitR_reps hr).1 (fitR_reps hfit).2 ((Fits.of hr).p.trans (Fits.of hfit).p) ((Fits.of hr).q.trans (Fits.of hfit).q)
 have ep:=(Fits.of hr).p
 have h:=count_le (N:=nMor r a) (M:=nMor r b) (P:=fun _=>true) (Q:=fun _=>true) (fun c d=>compL r.p (numL r a (c:Int)) f=numL r b (d:Int)) (fun c hc _=>by
  have hm:=comp_mor (num_mor hr (c:Int)) hf
  obtain⟨d,hd,e⟩:=mor_num hm
  exact⟨d,hd,rfl,e.symm⟩) fun c c' d hc hc' e1 e2=>by
  refine num_inj hr hc hc' ?_
  have key:∀x,isMor r a x=true→compL r.p (compL r.p x f) g=x:=fun x hx=>by
   rw[comp_assoc hx hf hg,ep,hgf,←ep]
   exact(comp_id hx).1
  rw[←key _ (num_mor hr (c:Int)),←key _ (num_mor hr (c':Int)),e1,e2]
 rw[count_all,count_all] at h
 obtain⟨q0,q1,q2⟩:=fit_q hr
 unfold nMor at h
 exact(Nat.pow_le_pow_iff_right (by omega)).1 h
theorem hom_le_l{r a b:Rep}{f g:List Mat}(hf:isMor a b f=true)(hg:isMor b a g=true)(hgf:compL a.p f g=idL a.d)(hr:fitR a r=true):(hkL a r).length≤(hkL b r).length:=by
 have hfit:=(areM_spec (isMor_are hf)).1
 have ep:=(Fits.of hfit).p
 have hrb:fitR b r=true:=fitR_mk (fitR_reps hfit).2 (fitR_reps hr).2 (ep.symm.trans (Fits.of hr).p) ((Fits.of hfit).q.symm.trans (Fits.of hr).q)
 have h:=count_le (N:=nMor a r) (M:=nMor b r) (P:=fun _=>true) (Q:=fun _=>true) (fun c d=>compL b.p g (numL a r (c:Int))=numL b r (d:Int)) (fun c hc _=>by
  have hm:=comp_mor hg (num_mor hr (c:Int))
  obtain⟨d,hd,e⟩:=mor_num hm
  exact⟨d,hd,rfl,e.symm⟩) fun c c' d hc hc' e1 e2=>by
  refine num_inj hr hc hc' ?_
  have key:∀x,isMor a r x=true→compL a.p f (compL b.p g x)=x:=fun x hx=>by
   rw[←ep,←comp_assoc hf hg hx,hgf]
   exact(comp_id hx).2
  rw[←key _ (num_mor hr (c:Int)),←key _ (num_mor hr (c':Int)),e1,e2]
 rw[count_all,count_all] at h
 obtain⟨q0,q1,q2⟩:=fit_q hr
 unfold nMor at h
 rw[←ep] at h
 exact(Nat.pow_le_pow_iff_right (by omega)).1 h
theorem spc_nil{p:Int}{s:Spc}(h:isSpc p s=true)(hz:∀i,i<s.b.length→∀j,j<s.n.toNat→Cg p (vecF s.b i j) 0):s.b=[]:=by
 obtain⟨h1,h2,h3,h4⟩:=isSpc_spec h
 have hp:=isF_pos h1
 obtain⟨he,hl⟩:=leadN_ech h
 refine List.eq_nil_of_length_eq_zero (Classical.byContradiction fun hne=>?_)
 have h0:0<(leadN s).length:=by rw[leadN_len];omega
 have k1:=hz 0 (by omega) _ (he.lt 0 h0)
 rw[he.one 0 h0 0 h0,if_pos rfl] at k1
 have:=k1.eq ⟨by omega,by omega⟩ ⟨by omega,by omega⟩
 omega
theorem rank_of_left{p:Int}{x y:Mat}(hx:isMat p x=true)(hy:isMat p y=true)(hyx:y.c=x.r)(h:mulM p y x=idM x.c):rankM p x=x.c:=by
 have hF:=(isMat_spec hx).1
 have hp:=isF_pos hF
 have hc:=(isMat_spec hx).2.2.1
 have hk:=kerS_ok hx
 have hn:(kerS p x).n=x.c:=rfl
 have hnil:=spc_nil hk fun i hi j hj=>by
  rw[hn] at hj
  have hz:Cg p (dotV (ent (mulM p y x) j) ((kerS p x).b.getD i default) x.c.toNat) 0:=by
   have hr:y.r.toNat=x.c.toNat:=by
    have:=congrArg Mat.r h
    have h1:=(mulM_rc hy hx).1
    rw[h1] at this
    have:y.r=((x.c.toNat:Nat):Int):=this
    omega
   refine(mul_dot hy hx hyx _ (by rw[hr];exact hj)).trans ?_
   refine sumN_cg0 _ fun k hk2=>?_
   rw[appV_get _ _ _ (by rw[←hyx];exact hk2)]
   have:=(Cg.refl (ent y j k)).mul ((Cg.mod ..).trans (kerS_dot hx hi (i:=k) (by rw[←hyx];exact hk2)))
   rwa [Int.mul_zero] at this
  rw[h] at hz
  unfold dotV at hz
  rw[sumN_eq (g:=fun k=>(if k=j then 1 else 0)*vecF (kerS p x).b i k) _ fun k hk2=>by
   rw[show ent (idM x.c) j k=idF j k from ent_tm _ hj hk2]
   unfold idF vecF
   by_cases e:j=k
   ·rw[if_pos e,if_pos e.symm]
   ·rw[if_neg e,if_neg (fun q=>e q.symm)],sumN_one,if_pos hj] at hz
  exact hz
 have h1:=kerS_len hx
 rw[hnil] at h1
 rw[rankM_eq hx]
 simp only[List.length_nil,Nat.zero_add] at h1
 rw[h1]
 omega
theorem rank_ext{p:Int}{r c:Nat}{f g:Nat→Nat→Int}(hF:isF p=true)(hf:BdF p r c f)(h:∀i,i<r→∀j,j<c→f i j=g i j):(redK p r f c).2.length=(redK p r g c).2.length:=by
 have hg:BdF p r c g:=fun i hi j hj=>by rw[←h i hi j hj];exact hf i hi j hj
 have e:=spanB_uniq hF hf hg (r:=r) (s:=r) (n:=c) ⟨fun i hi=>(Sp.row hi).cg fun j hj=>by rw[h i hi j hj];exact .refl _,fun i hi=>(Sp.row hi).cg fun j hj=>by rw[h i hi j hj];exact .refl _⟩
 rw[←spanB_len,←spanB_len,e]
theorem inv_tab2{p:Int}{n:Nat}{f:Nat→Nat→Int}(hF:isF p=true)(hn:n≤8)(hb:BdF p n n f)(hrk:(redK p n f n).2.length=n):isMat p (tm n n f)=true∧isMat p (tm n n (invF p n f))=true∧mulM p (tm n n f) (tm n n (invF p n f))=idM n∧mulM p (tm n n (invF p n f)) (tm n n f)=idM n:=by
 have hp:=isF_pos hF
 have hX:isMat p (tm n n f)=true:=isMat_tab hF hn hn hb
 have hI:isMat p (tm n n (invF p n f))=true:=isMat_tab hF hn hn (invF_bd hF hb)
 have hD:isMat p (idM n)=true:=isMat_id hF (by omega)
 have ef:∀i,i<n→∀j,j<n→ent (tm n n f) i j=f i j:=fun i hi j hj=>ent_tm _ hi hj
 have eI:∀i,i<n→∀j,j<n→ent (tm n n (invF p n f)) i j=invF p n f i j:=fun i hi j hj=>ent_tm _ hi hj
 have eD:∀i,i<n→∀j,j<n→ent (idM n) i j=idF i j:=fun i hi j hj=>ent_tm (r:=n) (c:=n) _ hi hj
 have e1:mulM p (tm n n f) (tm n n (invF p n f))=idM n:=by
  obtain⟨c1,c2⟩:=mulM_rc hX hI
  refine mat_ext (isMat_mul hX hI) hD c1 c2 fun i hi j hj=>?_
  rw[c1] at hi
  rw[c2] at hj
  have hi:i<n:=hi
  have hj:j<n:=hj
  rw[mul_get hi hj,eD i hi j hj]
  have hsol:=inv_sol hF hb hrk hj
  have hok:=sol_ok hF hb (v:=unitL n j) (fun t ht=>unit_bd hp.1 _ _ t ht) (by rw[hsol])
  rw[hsol] at hok
  have k1:=hok i hi
  rw[unitL_get hi] at k1
  have e2:sumN (fun k=>ent (tm n n f) i k*ent (tm n n (invF p n f)) k j) n=dotV (f i) (rowL n fun i=>invF p n f i j) n:=sumN_eq _ fun k hk=>by
   rw[rowL_get _ hk,ef i hi k hk,eI k hk j hj]
  show sumN (fun k=>ent (tm n n f) i k*ent (tm n n (invF p n f)) k j) n%p=_
  rw[e2]
  have k2:=Cg.iff.1 k1
  rw[k2]
  unfold idF
  split
  ·exact Int.emod_eq_of_lt (by omega) (by omega)
  ·rfl
 refine⟨hX,hI,e1,?_⟩
 have hnil:(kerS p (tm n n f)).b=[]:=by
  have h1:=kerS_len hX
  have h2:(redK p n (ent (tm n n f)) n).2.length=n:=(rank_ext hF hb fun i hi j hj=>(ef i hi j hj).symm).symm.trans hrk
  have h3:(kerS p (tm n n f)).b.length+(redK p n (ent (tm n n f)) n).2.length=n:=h1
  exact List.eq_nil_of_length_eq_zero (by omega)
 obtain⟨c1,c2⟩:=mulM_rc hI hX
 have hm1:=isMat_mul hI hX
 refine mat_ext hm1 hD c1 c2 fun i hi j hj=>?_
 rw[c1] at hi
 rw[c2] at hj
 have hi:i<n:=hi
 have hj:j<n:=hj
 rw[eD i hi j hj]
 have hme:=kerS_mem hX (x:=rowL n fun t=>ent (mulM p (tm n n (invF p n f)) (tm n n f)) t j-idF t j) fun t ht=>by
  have ht:t<n:=ht
  have k1:mulM p (tm n n f) (mulM p (tm n n (invF p n f)) (tm n n f))=tm n n f:=by
   rw[←mul_assoc hX hI hX rfl rfl,e1]
   exact id_mul hX
  have k2:=congrArg (fun m=>ent m t j) k1
  rw[mul_get ht (by rw[c2];exact hj),ef t ht j hj] at k2
  show Cg p (dotV (ent (tm n n f) t) _ n) 0
  unfold dotV
  rw[sumN_eq (g:=fun k=>ent (tm n n f) t k*ent (mulM p (tm n n (invF p n f)) (tm n n f)) k j+(-1)*((if k=j then 1 else 0)*ent (tm n n f) t k)) _ fun k hk=>by
   rw[rowL_get _ hk,Int.mul_sub]
   unfold idF
   by_cases e:k=j
   ·rw[if_pos e];omega
   ·rw[if_neg e];omega,sumN_add,sumN_mul,sumN_one,if_pos hj,ef t ht j hj]
  have k3:Cg p (sumN (fun k=>ent (tm n n f) t k*ent (mulM p (tm n n (invF p n f)) (tm n n f)) k j) n) (f t j):=by
   rw[←k2]
   exact(Cg.mod ..).symm
  have:=k3.sub0
  have e3:∀x y:Int,x+(-1)*y=x-y:=fun x y=>by omega
  rw[e3]
  exact this
 rw[hnil] at hme
 obtain⟨co,k4⟩:=hme
 have k5:=k4 i hi
 dsimp only at k5
 rw[rowL_get _ hi] at k5
 have k6:Cg p (ent (mulM p (tm n n (invF p n f)) (tm n n f)) i j) (idF i j):=Cg.of_sub k5
 exact k6.eq (ent_bd hm1 i (by rw[c1];exact hi) j (by rw[c2];exact hj)) (idF_bd hp.1 _ i hi j hj)
def invM(p:Int)(x:Mat):Mat:=tm x.c.toNat x.c.toNat (invF p x.c.toNat (ent x))
theorem mat_tm{p:Int}{x:Mat}(hx:isMat p x=true):tm x.r.toNat x.c.toNat (ent x)=x:=by
 obtain⟨hF,hr,hc,hl,_⟩:=isMat_spec hx
 exact tm_of hr.1 hc.1 hl
theorem inv_mat{p:Int}{x:Mat}(hx:isMat p x=true)(hs:x.r=x.c)(hr:rankM p x=x.c):isMat p (invM p x)=true∧mulM p x (invM p x)=idM x.c∧mulM p (invM p x) x=idM x.c:=by
 obtain⟨hF,hrb,hc,_,_⟩:=isMat_spec hx
 have hb:=ent_bd hx
 have hx2:=mat_tm hx
 rw[hs] at hb hx2
 have hrk:(redK p x.c.toNat (ent x) x.c.toNat).2.length=x.c.toNat:=by
  rw[rankM_eq hx,hs] at hr
  omega
 obtain⟨k1,k2,k3,k4⟩:=inv_tab2 hF (by omega) hb hrk
 have ec:((x.c.toNat:Nat):Int)=x.c:=Int.toNat_of_nonneg hc.1
 rw[hx2,ec] at k3 k4
 exact⟨k2,k3,k4⟩
def invL(p:Int)(f:List Mat):List Mat:=f.map (invM p)
theorem inv_ex{a b:Rep}{f:List Mat}(h:isMor a b f=true)(hi:invB a b f=true):isMor b a (invL a.p f)=true∧compL a.p f (invL a.p f)=idL a.d∧compL a.p (invL a.p f) f=idL b.d:=by
 obtain⟨m1,m2,m3,m4,m5⟩:=mor_ok h
 obtain⟨a1,a2,a3⟩:=areM_spec (isMor_are h)
 have hh:=Fits.of a1
 simp only[invB,Bool.and_eq_true,decide_eq_true_eq] at hi
 obtain⟨hd,hrk⟩:=hi
 have hil:(invL a.p f).length=f.length:=by simp[invL]
 have hig:∀v,v<f.length→(invL a.p f).getD v default=invM a.p (f.getD v default):=fun v hv=>by simp[invL,hv]
 have hrv:∀v,v<f.length→rankM a.p (f.getD v default)=(f.getD v default).c:=fun v hv=>by
  have:=congrArg (fun l=>l.getD v default) hrk
  rw[(m5 v hv).2.1,←this]
  simp[rkL,hv]
 have hx:∀v,v<f.length→isMat a.p (invM a.p (f.getD v default))=true∧mulM a.p (f.getD v default) (invM a.p (f.getD v default))=idM (f.getD v default).c∧mulM a.p (invM a.p (f.getD v default)) (f.getD v default)=idM (f.getD v default).c:=fun v hv=>inv_mat (m5 v hv).1 (by rw[(m5 v hv).2.1,(m5 v hv).2.2,hd]) (hrv v hv)
 have hsz:∀v,v<f.length→(f.getD v default).r=(f.getD v default).c∧(invM a.p (f.getD v default)).r=(f.getD v default).c∧(invM a.p (f.getD v default)).c=(f.getD v default).c:=fun v hv=>by
  have:=(isMat_spec (m5 v hv).1).2.2.1.1
  exact⟨by rw[(m5 v hv).2.1,(m5 v hv).2.2,hd],Int.toNat_of_nonneg this,Int.toNat_of_nonneg this⟩
 refine⟨?_,?_,?_⟩
 ·have hp2:b.p=a.p:=m3.symm
  refine mor_mk (fitR_symm a1) (by omega) (fun v hv=>?_) fun i hi=>?_
  ·rw[hil] at hv
   rw[hig v hv,hp2]
   obtain⟨s1,s2,s3⟩:=hsz v hv
   exact⟨(hx v hv).1,by rw[s3,(m5 v hv).2.1,hd],by rw[s2,(m5 v hv).2.1]⟩
  ·have hi':i<a.q.fr.length:=by rw[hh.q];exact hi
   have hA:=ArF.of (isMor_are h) hi'
   have hm:=mor_arr h hi'
   rw[hp2,←hh.q,hig _ hA.fr.2,hig _ hA.to.2]
   have f1:=hx _ hA.fr.2
   have f2:=hx _ hA.to.2
   have z1:=hsz _ hA.fr.2
   have z2:=hsz _ hA.to.2
   have y1:=hA.ff
   have y2:=hA.ft
   have y3:=hA.ma
   have y4:=hA.mb
   have c1:=hA.cx
   have c2:=hA.cy
   have c3:=hA.rr
   have c4:=hA.cc
   generalize f.getD (a.q.fr.getD i default).toNat default=X at*
   generalize f.getD (a.q.to.getD i default).toNat default=Y at*
   generalize a.m.getD i default=M at*
   generalize b.m.getD i default=N at*
   have hMc:M.c=X.c:=c4.symm
   have k1:mulM a.p (mulM a.p (invM a.p Y) (mulM a.p Y M)) (invM a.p X)=mulM a.p M (invM a.p X):=by
    rw[←mul_assoc f2.1 y2 y3 (by rw[z2.2.2,z2.1]) c2,f2.2.2,c2,id_mul y3]
   rw[←k1,←hm,mul_assoc f2.1 (isMat_mul y4 y1) f1.1 (by rw[z2.2.2,(mulM_rc y4 y1).1,c3,z2.1]) (by rw[(mulM_rc y4 y1).2,z1.2.1]),mul_assoc y4 y1 f1.1 c1 (by rw[z1.2.1]),f1.2.1]
   have:X.c=N.c:=by rw[c1,z1.1]
   rw[this,mul_id y4]
 ·refine list_ext (by rw[compL_len,idL_len];omega) fun v hv=>?_
  rw[compL_len] at hv
  rw[comp_get hv,hig v hv,(hx v hv).2.2,(m5 v hv).2.1]
  simp[idL,show v<a.d.length by omega]
 ·refine list_ext (by rw[compL_len,idL_len];omega) fun v hv=>?_
  rw[compL_len,hil] at hv
  rw[comp_get (by omega),hig v hv,(hx v hv).2.1,(m5 v hv).2.1,hd]
  simp[idL,show v<b.d.length by omega]
theorem inv_of{a b:Rep}{f g:List Mat}(hf:isMor a b f=true)(hg:isMor b a g=true)(hd:a.d=b.d)(h:compL a.p f g=idL a.d):invB a b f=true:=by
 obtain⟨m1,m2,m3,m4,m5⟩:=mor_ok hf
 obtain⟨c1,c2,c3⟩:=comp_ok hf hg
 simp only[invB,Bool.and_eq_true,decide_eq_true_eq]
 refine⟨hd,?_⟩
 apply List.ext_getElem (by simp[rkL];omega)
 intro v g1 g2
 have hv:v<f.length:=by omega
 have e:f.getD v default=f[v]:=by simp[hv]
 have k1:=congrArg (fun l=>l.getD v default) h
 rw[comp_get hv] at k1
 have e2:(idL a.d).getD v default=idM (a.d.getD v default):=by simp[idL,g2]
 rw[e2,←(m5 v hv).2.1] at k1
 have k2:=rank_of_left (c3 v hv).1 (c3 v hv).2.1 (c3 v hv).2.2 k1
 rw[(m5 v hv).2.1] at k2
 simp only[rkL,List.getElem_map]
 rw[e] at k2
 rw[k2]
 simp[g2]
theorem inv_inv{a b:Rep}{f:List Mat}(h:isMor a b f=true)(hi:invB a b f=true):invB b a (invL a.p f)=true:=by
 obtain⟨k1,k2,k3⟩:=inv_ex h hi
 have hd:a.d=b.d:=by
  simp only[invB,Bool.and_eq_true,decide_eq_true_eq] at hi
  exact hi.1
 have ep:=(mor_ok h).2.2.1
 exact inv_of k1 h hd.symm (by rw[←ep];exact k3)
theorem inv_comp{a b c:Rep}{f g:List Mat}(hf:isMor a b f=true)(hg:isMor b c g=true)(h1:invB a b f=true)(h2:invB b c g=true):invB a c (compL a.p f g)=true:=by
 obtain⟨k1,k2,k3⟩:=inv_ex hf h1
 obtain⟨l1,l2,l3⟩:=inv_ex hg h2
 have ep:=(mor_ok hf).2.2.1
 have ep2:=(mor_ok hg).2.2.1
 have d1:a.d=b.d:=by simp only[invB,Bool.and_eq_true,decide_eq_true_eq] at h1;exact h1.1
 have d2:b.d=c.d:=by simp only[invB,Bool.and_eq_true,decide_eq_true_eq] at h2;exact h2.1
 have hm:=comp_mor hf hg
 rw[←ep] at l1 l2
 have e:c.p=a.p:=by rw[←ep2,←ep]
 have hn:=comp_mor l1 k1
 rw[e] at hn
 refine inv_of hm hn (d1.trans d2) ?_
 rw[comp_assoc hf hg hn]
 have e2:compL a.p g (compL a.p (invL a.p g) (invL a.p f))=invL a.p f:=by
  have h5:=comp_assoc hg l1 k1
  rw[←ep] at h5
  rw[←h5,l2]
  have h6:=(comp_id k1).2
  rwa [←ep] at h6
 rw[e2,k2]
end Go.Proofs.YtjmjamhhppoimaaGreat.V
