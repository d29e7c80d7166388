/- Texts that the proof needs: A42, A97, A184. -/
import Derived.Test.YtjmjamhhppoimaaGreatQraA182
import Derived.Test.YtjmjamhhppoimaaGreatQraA93
import Derived.Test.YtjmjamhhppoimaaGreatQraA83
namespace Go.Proofs.YtjmjamhhppoimaaGreat.V
open V.Enc (enc)
open Go.RowKit G D
set_option linter.unusedVariables false
set_option linter.unusedSimpArgs false
set_option maxHeartbeats 4000000
set_option maxRecDepth 4000
attribute [local irreducible] AW ARg ARA ARet MRet ASil AC AM
def hkL(a b:Rep):List (List Int):=kerL a.p (szA a b a.q.fr.length) (szT a b a.d.length) (ent (eqM a b))
theorem hkL_len(a b:Rep)(hf:fitR a b=true):(hkL a b).length+rkE a b=szT a b a.d.length:=by
 have h:=Fits.of hf
 have hp:=isF_pos h.f
 exact kerL_len h.f (eqM_bd (by omega))
theorem hkL_get(a b:Rep){k:Nat}(hk:k<(hkL a b).length):((hkL a b).getD k default).length=szT a b a.d.length:=by
 have hm:(hkL a b).getD k default∈hkL a b:=by simp[hk]
 unfold hkL kerL at hm
 rw[List.mem_map] at hm
 obtain⟨j,_,e⟩:=hm
 unfold hkL kerL
 rw[←e]
 exact kerV_len ..
def homL(a b:Rep):List (List Mat):=(hkL a b).map (cutV a b)
theorem homL_len(a b:Rep):(homL a b).length=(hkL a b).length:=by simp[homL]
theorem homL_take(a b:Rep){k:Nat}(h:k<(hkL a b).length):(homL a b).take (k+1)=(homL a b).take k++[cutV a b ((hkL a b).getD k default)]:=by
 rw[homL,List.take_succ_eq_append_getElem (by simpa using h)]
 simp[h]
def homD(a b:Rep):Int:=if fitR a b=true then(szT a b a.d.length:Int)-(rkE a b:Int) else-1
theorem homDim_a(a b:Rep)(hf:fitR a b=true):AC Tryz.prog 155 [.agg (enc false a),.agg (enc false b)] [.i ((szT a b a.d.length:Int)-(rkE a b:Int))]:=by
 refine AC.go Tryz.func155 Tryz.ntmps155 rfl rfl fun w0 hw=>?_;simp[WfL,WfA,E_length,Enc.enc,In64] at hw
 have hB:=boundaries_a a b hf
 have hR:=eq_rank_a a b hf
 have hle:=rkE_le a b hf
 have hEr:(eqM a b).c=(szT a b a.d.length:Nat):=rfl
 rw[←hEr]
 generalize rkE a b=K at hR hle⊢
 generalize eqM a b=EM at hB hR hEr⊢
 repeat' first|refine s1 ?_|refine q1 ?_|(refine kR ?_;first|refine F.c (hB) ?_)|fail
 refine AW.draw 8 G.mixed (by kernel_rfl) ?_
 refine Pz (.p 0<|.l 1<|.p 2<|.l 3<|.l 4<|.o 5 true<|.p 6<|.p 7<|.n) ?_
 repeat' first|refine ySQ ?_|refine s1 ?_|refine q1 ?_|(refine kR ?_;first|refine F.c (hR) ?_)|fail
 any_goals refine lf ?_
 repeat' first|refine s1 ?_|refine q1 ?_|fail
 (refine kZ ?_;exact F.ret rfl)
theorem implHomDim_a(a b:Rep):AC Tryz.prog 17 [.agg (enc false a),.agg (enc false b)] [.i (homD a b)]:=by
 refine AC.go Tryz.func17 Tryz.ntmps17 rfl rfl fun w0 hw=>?_;simp[WfL,WfA,E_length,Enc.enc,In64] at hw
 have hF:=fit_a a b
 unfold homD
 cases hf:fitR a b with
 |false=>
  rw[hf] at hF
  rw[if_neg (by simp)]
  repeat' first|refine s1 ?_|refine q1 ?_|(refine kR ?_;first|refine F.c (hF) ?_)|fail
  (refine kZ ?_;exact F.ret rfl)
 |true=>
  rw[hf] at hF
  rw[if_pos rfl]
  have hE:=homDim_a a b hf
  repeat' first|refine s1 ?_|refine q1 ?_|(refine kR ?_;first|refine F.c (hF) ?_|refine F.c (hE) ?_)|fail
  (refine kZ ?_;exact F.ret rfl)
theorem fitR_reps{a b:Rep}(h:fitR a b=true):isRep a=true∧isRep b=true:=by
 simp only[fitR,Bool.and_eq_true,decide_eq_true_eq] at h
 exact h.1.1
theorem fitR_mk{a b:Rep}(ha:isRep a=true)(hb:isRep b=true)(hp:a.p=b.p)(hq:a.q=b.q):fitR a b=true:=by
 simp only[fitR,Bool.and_eq_true,decide_eq_true_eq]
 exact⟨⟨⟨ha,hb⟩,hp⟩,by rw[hq];simp[sameQ]⟩
theorem fitR_symm{a b:Rep}(h:fitR a b=true):fitR b a=true:=fitR_mk (fitR_reps h).2 (fitR_reps h).1 (Fits.of h).p.symm (Fits.of h).q.symm
theorem fitR_refl{a:Rep}(h:isRep a=true):fitR a a=true:=fitR_mk h h rfl rfl
def quoN(p c:Int):Nat→Int
 |0=>c
 |j+1=>quoN p c j/p
theorem quoN_bd{p c:Int}(hp:0<p)(h:0≤c):∀j,0≤quoN p c j∧quoN p c j≤c
 |0=>⟨h,Int.le_refl _⟩
 |j+1=>by
  obtain⟨a,b⟩:=quoN_bd hp h j
  have h1:0≤quoN p c j/p:=Int.ediv_nonneg a (by omega)
  have h2:quoN p c j/p≤quoN p c j:=Int.ediv_le_self _ a
  exact⟨h1,Int.le_trans h2 b⟩
def digN(p c:Int)(n i:Nat):Int:=quoN p c (n-1-i)%p
def digV(p c:Int)(n:Nat):List Int:=(List.range n).map (digN p c n)
theorem digV_len(p c:Int)(n:Nat):(digV p c n).length=n:=by simp[digV]
theorem digV_get(p c:Int){n i:Nat}(h:i<n):(digV p c n).getD i default=digN p c n i:=by simp[digV,h]
theorem digN_bd{p c:Int}(hp:0<p)(n i:Nat):0≤digN p c n i∧digN p c n i≤p-1:=mod_bd hp
def digK(p c:Int)(n m:Nat):List Int:=(List.range n).map fun i=>if m≤i then digN p c n i else 0
theorem digK_len(p c:Int)(n m:Nat):(digK p c n m).length=n:=by simp[digK]
theorem digK_all(p c:Int)(n:Nat):digK p c n n=List.replicate n 0:=by
 apply List.ext_getElem (by simp[digK])
 intro i h1 h2
 have:i<n:=by simpa using h2
 simp[digK,show¬n≤i by omega]
theorem digK_zero(p c:Int)(n:Nat):digK p c n 0=digV p c n:=by simp[digK,digV]
theorem digK_set(p c:Int){n m:Nat}(h:m<n):(digK p c n (m+1)).set m (quoN p c (n-1-m)%p)=digK p c n m:=by
 apply List.ext_getElem (by simp[digK])
 intro i h1 h2
 rw[List.getElem_set]
 simp only[digK,List.getElem_map,List.getElem_range]
 by_cases e:m=i
 ·subst e;simp[digN]
 ·have:m+1≤i↔m≤i:=by omega
  simp[e,this]
theorem isMor_cut{a b:Rep}{x:List Int}(hf:fitR a b=true)(hl:x.length=szT a b a.d.length)(hb:∀y∈x,0≤y∧y≤a.p-1)(h0:∀i,i<szA a b a.q.fr.length→Cg a.p (dotV (ent (eqM a b) i) x (szT a b a.d.length)) 0):isMor a b (cutV a b x)=true:=by
 have hA:=areM_cutV hf hl hb
 have hp:=isF_pos (Fits.of hf).f
 have hcat:=catM_cutV (a:=a) (b:=b) hl
 unfold isMor
 rw[hA,Bool.true_and,←cobL_all hA,←cob_cut hA]
 have hz:∀y∈tab (szA a b a.q.fr.length) 1 (mulF a.p (ent (eqM a b)) (ent (colM a b (cutV a b x))) (szT a b a.d.length)),y=0:=fun y hy=>by
  obtain⟨t,ht,rfl⟩:=List.getElem_of_mem hy
  have ht':t<szA a b a.q.fr.length:=by rw[tab_len,Nat.mul_one] at ht;exact ht
  have e:=tab_get (r:=szA a b a.q.fr.length) (c:=1) (mulF a.p (ent (eqM a b)) (ent (colM a b (cutV a b x))) (szT a b a.d.length)) ht' (show 0<1 by omega)
  rw[Nat.mul_one,Nat.add_zero] at e
  have e2:∀(L:List Int) (h:t<L.length),L.getD t default=L[t]:=fun L h=>by simp[h]
  rw[e2 _ ht] at e
  rw[e]
  show dotK _ _ t 0 _%a.p=0
  rw[dotK_sum]
  have hd:sumN (fun k=>ent (eqM a b) t k*ent (colM a b (cutV a b x)) k 0) (szT a b a.d.length)=dotV (ent (eqM a b) t) x (szT a b a.d.length):=sumN_eq _ fun k hk=>by
   congr 1
   show(catM _).getD (k*1+0) default=_
   rw[hcat,Nat.mul_one];rfl
  rw[hd]
  have:=Cg.iff.1 (h0 t ht')
  rw[this,Int.zero_emod]
 rw[List.all_eq_true]
 intro m hm
 simp only[cutL,List.mem_map] at hm
 obtain⟨i,_,rfl⟩:=hm
 unfold isZ
 rw[List.all_eq_true]
 intro y hy
 simp only[decide_eq_true_eq]
 exact hz y (List.mem_of_mem_take (List.mem_of_mem_drop hy))
theorem hkL_vec{a b:Rep}(hf:fitR a b=true):VecB a.p (szT a b a.d.length) (hkL a b):=by
 have hp:=isF_pos (Fits.of hf).f
 exact kerL_vec hp.1
theorem hkL_dot{a b:Rep}(hf:fitR a b=true){x:List Int}(hx:x∈hkL a b){i:Nat}(hi:i<szA a b a.q.fr.length):Cg a.p (dotV (ent (eqM a b) i) x (szT a b a.d.length)) 0:=by
 have h:=Fits.of hf
 have hp:=isF_pos h.f
 exact(kerL_spec h.f (eqM_bd (by omega)) hx).1 i hi
theorem vec_mem{p:Int}{x:List Int}{n:Nat}(hl:x.length=n)(h:∀j,j<n→0≤x.getD j default∧x.getD j default≤p-1):∀y∈x,0≤y∧y≤p-1:=fun y hy=>by
 obtain⟨t,ht,rfl⟩:=List.getElem_of_mem hy
 have e:x.getD t default=x[t]:=by simp[ht]
 rw[←e]
 exact h t (by omega)
def cmbH(a b:Rep)(k:List Int):List Int:=cmbV a.p (szT a b a.d.length) (hkL a b) k (hkL a b).length
theorem cmb_mor{a b:Rep}(hf:fitR a b=true)(k:List Int):isMor a b (cutV a b (cmbH a b k))=true:=by
 have hp:=isF_pos (Fits.of hf).f
 have hl:=cmbV_len a.p (szT a b a.d.length) (hkL a b) k (hkL a b).length
 refine isMor_cut hf hl (vec_mem hl fun j hj=>cmbV_bd hp.1 _ j hj) fun i hi=>?_
 unfold cmbH
 have e1:Cg a.p (dotV (ent (eqM a b) i) (cmbV a.p (szT a b a.d.length) (hkL a b) k (hkL a b).length) (szT a b a.d.length)) (sumN (fun j=>ent (eqM a b) i j*sumN (fun t=>k.getD t default*vecF (hkL a b) t j) (hkL a b).length) (szT a b a.d.length)):=
  sumN_cg _ fun j hj=>(Cg.refl _).mul (cmbV_cg hj _)
 refine e1.trans ?_
 rw[sumN_eq (g:=fun j=>sumN (fun t=>k.getD t default*(ent (eqM a b) i j*vecF (hkL a b) t j)) (hkL a b).length) _ fun j _=>by
  rw[←sumN_mul]
  exact sumN_eq _ fun t _=>by rw[←Int.mul_assoc,←Int.mul_assoc,Int.mul_comm (ent _ _ _)],sumN_swap]
 refine(sumN_cg (g:=fun _=>0) _ fun t ht=>?_).trans (by rw[sumN_zero (h:=fun _=>0) _ fun _ _=>rfl];exact .refl _)
 rw[sumN_mul]
 have hm:(hkL a b).getD t default∈hkL a b:=gm ht
 have:=(Cg.refl (k.getD t default)).mul (hkL_dot hf hm hi)
 rwa [Int.mul_zero] at this
def numL(a b:Rep)(c:Int):List Mat:=cutV a b (cmbH a b (digV a.p c (hkL a b).length))
theorem num_mor{a b:Rep}(hf:fitR a b=true)(c:Int):isMor a b (numL a b c)=true:=cmb_mor hf _
theorem cut_add{a b:Rep}{p k:Int}{x y:List Int}(hx:x.length=szT a b a.d.length)(hy:y.length=szT a b a.d.length){v:Nat}(hv:v<a.d.length):(cutV a b (addK p k 0 y x (szT a b a.d.length))).getD v default=⟨b.d.getD v default,a.d.getD v default,addK p k 0 ((cutV a b y).getD v default).m ((cutV a b x).getD v default).m ((cutV a b y).getD v default).m.length⟩:=by
 have e:∀z:List Int,(cutV a b z).getD v default=⟨b.d.getD v default,a.d.getD v default,(z.take (szT a b (v+1))).drop (szT a b v)⟩:=fun z=>by simp[cutV,hv]
 have hs:=szT_mono a b (m:=v+1) (n:=a.d.length) (by omega)
 rw[e,e,e]
 congr 1
 apply List.ext_getElem
 ·rw[addK_len,List.length_drop,List.length_take,List.length_drop,List.length_take,addK_len,hx]
 intro t h1 h2
 have g:∀(L:List Int) (h:t<L.length),L[t]=L.getD t default:=fun L h=>by simp[h]
 rw[g _ h1,g _ h2]
 have hl1:t<(x.take (szT a b (v+1))).length-szT a b v:=by
  rw[addK_len,List.length_drop] at h2;exact h2
 rw[List.length_take,hx] at hl1
 have d:∀z:List Int,z.length=szT a b a.d.length→((z.take (szT a b (v+1))).drop (szT a b v)).getD t default=z.getD (szT a b v+t) default:=fun z hz=>by
  simp only[List.getD_eq_getElem?_getD,List.getElem?_drop]
  rw[List.getElem?_take_of_lt (by omega)]
 rw[d _ (by rw[addK_len,hx]),addK_get0 _ _ _ _ (by rw[hx];omega) (by omega),addK_get0 _ _ _ _ (by rw[List.length_drop,List.length_take,hx];omega) (by rw[List.length_drop,List.length_take,hy];omega),d x hx,d y hy]
theorem cut_zero{a b:Rep}(h:Fits a b):zerL a b=cutV a b (List.replicate (szT a b a.d.length) 0):=by
 unfold zerL cutV
 apply List.map_congr_left
 intro v hv
 have hv:v<a.d.length:=by simpa using hv
 have hda:=h.da
 have hdb:=h.db
 have hl:=zeroM_len (h.bb v (by omega)) (h.ba v hv)
 have hs:=szT_mono a b (m:=v+1) (n:=a.d.length) (by omega)
 have hst:szT a b (v+1)=szT a b v+(a.d.getD v default).toNat*(b.d.getD v default).toNat:=rfl
 have hl:(b.d.getD v default*a.d.getD v default).toNat=(b.d.getD v default).toNat*(a.d.getD v default).toNat:=by
  have hl2:(List.replicate (b.d.getD v default*a.d.getD v default).toNat (0:Int)).length=(b.d.getD v default).toNat*(a.d.getD v default).toNat:=hl
  rwa [List.length_replicate] at hl2
 unfold zeroM
 congr 1
 rw[List.take_replicate,List.drop_replicate]
 apply List.ext_getElem
 ·rw[List.length_replicate,List.length_replicate,hl,Nat.mul_comm];omega
 ·intro t h1 h2;simp
def cntH(p:Int):Nat→Int
 |0=>1
 |n+1=>if cntH p n≤100000 then cntH p n*p else cntH p n
theorem cntH_bd{p:Int}(hp:2≤p∧p≤5):∀n,1≤cntH p n∧cntH p n≤500000
 |0=>by simp[cntH]
 |n+1=>by
  obtain⟨a,b⟩:=cntH_bd hp n
  rw[cntH]
  by_cases h:cntH p n≤100000
  ·rw[if_pos h]
   have h1:1*1≤cntH p n*p:=Int.mul_le_mul a (by omega) (by omega) (by omega)
   have h2:cntH p n*p≤100000*5:=Int.mul_le_mul h hp.2 (by omega) (by omega)
   omega
  ·rw[if_neg h];omega
theorem cntH_step{p:Int}{n:Nat}(h:cntH p n≤100000):cntH p (n+1)=cntH p n*p:=by rw[cntH,if_pos h]
theorem cntH_stay{p:Int}{n:Nat}(h:100000<cntH p n):∀k,cntH p (n+k)=cntH p n
 |0=>rfl
 |k+1=>by
  have:=cntH_stay h k
  rw[←Nat.add_assoc,cntH,this,if_neg (by omega)]
def fstN(P:Nat→Bool):Nat→Nat→Option Nat
 |0,_=>none
 |f+1,i=>if P i=true then some i else fstN P f (i+1)
theorem fstN_hit{P:Nat→Bool}{n i:Nat}(hi:i<n)(h:P i=true):fstN P (n-i) i=some i:=by
 rw[show n-i=(n-i-1)+1 by omega,fstN,if_pos h]
theorem fstN_miss{P:Nat→Bool}{n i:Nat}(hi:i<n)(h:P i=false):fstN P (n-i) i=fstN P (n-(i+1)) (i+1):=by
 rw[show n-i=(n-i-1)+1 by omega,fstN,if_neg (by simp[h]),show n-i-1=n-(i+1) by omega]
end Go.Proofs.YtjmjamhhppoimaaGreat.V
namespace Go.Proofs.YtjmjamhhppoimaaGreat.V
open Go.RowKit G D
set_option linter.unusedVariables false
set_option linter.unusedSimpArgs false
set_option maxHeartbeats 4000000
set_option maxRecDepth 4000
attribute [local irreducible] AW ARg ARA ARet MRet ASil AC AM AMx ACx AD ARI
theorem rep_dim{r:Rep}(h:isRep r=true){v:Nat}(hv:v<r.d.length):0≤r.d.getD v default∧r.d.getD v default≤4:=by
 obtain⟨_,r2,_,_⟩:=isRep_spec h
 exact allIn_spec (areDims_spec r2).2.2.1 hv
end Go.Proofs.YtjmjamhhppoimaaGreat.V
