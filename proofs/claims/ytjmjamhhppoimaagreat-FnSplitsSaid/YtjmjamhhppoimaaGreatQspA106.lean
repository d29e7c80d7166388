/- Texts that the proof needs: A42, A97, A106. -/
import Derived.Test.YtjmjamhhppoimaaGreatQspA83
namespace Go.Proofs.YtjmjamhhppoimaaGreat.V
open V.Enc (enc)
open Go.RowKit G D
set_option linter.unusedVariables false
set_option linter.unusedSimpArgs false
set_option maxHeartbeats 4000000
set_option maxRecDepth 4000
attribute [local irreducible] AW ARg ARA ARet MRet ASil AC AM
theorem cutV_take(a b:Rep)(x:List Int){k:Nat}(h:k<a.d.length):(cutV a b x).take (k+1)=(cutV a b x).take k++[⟨b.d.getD k default,a.d.getD k default,(x.take (szT a b (k+1))).drop (szT a b k)⟩]:=by
 simp only[cutV,←List.map_take,range_take h,List.map_append,List.map_cons,List.map_nil]
theorem l11Cells_a(a b:Rep)(x:List Int)(h:Fits a b)(hx:szT a b a.d.length≤x.length)(hb:x.length≤1048576):AC Tryz.prog 344 [.agg (enc false a),.agg (enc false b),ar false x] [.dt true 3 (E true (cutV a b x))]:=by
 refine AC.go Tryz.func344 Tryz.ntmps344 rfl rfl fun w0 hw=>?_;simp[WfL,WfA,E_length,Enc.enc,In64] at hw
 have h5:=okQ_spec h.ok
 have hda:=h.da
 have hdb:=h.db
 repeat' first|refine s1 ?_|refine q1 ?_|fail
 refine AW.open 7 3 (.inr rfl) ?_
 refine F.loop (σ:=Nat) [7,8,9,10,12,13,14,15,16,17,18,19,20,21,22,23,24,25,26,27,28,29,30,31,32,33,34,35,36,37,38,39,40,41,42,43,44,45,46,47,48,49,50,51,52,53,54] (fun k=>[(7,.sl 2 k 0 k),(8,.i (szT a b k)),(9,.i k)]) (fun k=>[(2,.live false 3 (E true ((cutV a b x).take k)))]) (fun k=>k≤a.d.length) (fun k=>a.d.length-k) 0 ⟨rfl,rfl,rfl,trivial⟩ ⟨rfl,trivial⟩ (Nat.zero_le _) ?_
 rintro k h1
 have hcl:=cutV_len a b x
 have hp:((cutV a b x).take k).length=k:=by rw[List.length_take];omega
 by_cases hlt:k<a.d.length
 ·have da:=h.ba k hlt
  have db:=h.bb k (by omega)
  obtain⟨m1,m2⟩:=mul44 da db
  have hst:szT a b (k+1)=szT a b k+(a.d.getD k default).toNat*(b.d.getD k default).toNat:=rfl
  have hs:=szT_mono a b (m:=k+1) (n:=a.d.length) (by omega)
  have hs':=szT_le h (k+1) (by omega)
  have b3:In64 (a.d.getD k default*b.d.getD k default):=by unfold In64;omega
  have hE:(szT a b k:Int)+a.d.getD k default*b.d.getD k default=((szT a b (k+1):Nat):Int):=by rw[m1,hst];push_cast;rfl
  have b4:In64 ((szT a b k:Int)+a.d.getD k default*b.d.getD k default):=by unfold In64;omega
  have hts:=cutV_take a b x hlt
  have hxl:((x.take (szT a b (k+1))).drop (szT a b k)).length≤1048576:=by simp;omega
  repeat' first|refine s1 ?_|refine q1 ?_|fail
  refine AW.draw 12 G.mixed (by kernel_rfl) ?_
  refine Pz (.p 0<|.l 1<|.p 2<|.p 3<|.l 4<|.p 5<|.l 6<|.p 7<|.p 8<|.l 9<|.p 10<|.p 11<|.n) ?_
  repeat' first|refine ySQ ?_|refine s1 ?_|refine q1 ?_|fail
  any_goals refine lf ?_
  repeat' first|refine s1 ?_|refine q1 ?_|fail
  refine AW.draw 21 G.mixed (by kernel_rfl) ?_
  refine Pz (.p 0<|.p 1<|.l 2<|.p 3<|.p 4<|.l 5<|.p 6<|.l 7<|.p 8<|.p 9<|.l 10<|.p 12<|.p 13<|.p 14<|.p 15<|.p 16<|.p 17<|.o 11 true<|.o 18 true<|.p 19<|.o 20 true<|.o 21 false<|.p 22<|.n) ?_
  repeat' first|(refine yU (i:=18) ?_;first|refine s1 ?_|refine F.aLN Int (oo:=true) ?_)|(refine yU (i:=21) ?_;first|refine s1 ?_|refine F.a1 Mat (a:=⟨b.d.getD k default,a.d.getD k default,(x.take (szT a b (k+1))).drop (szT a b k)⟩) ?_)|refine ySQ ?_|refine s1 ?_|refine q1 ?_|refine yP ?_ (hs:=by exact(A.slcD (α:=Int) (lo:=szT a b k) (hi':=szT a b (k+1)) rfl rfl (congrArg AV.i hE) (by omega) (by omega)))|fail
  any_goals refine lf ?_
  repeat' first|refine s1 ?_|refine q1 ?_|fail
  exact⟨k+1,F.fit ⟨rfl,iE hE,rfl,trivial⟩ ⟨obE (by rw[hts]),trivial⟩,by omega,by omega⟩
 ·obtain rfl:k=a.d.length:=by omega
  rw[←hcl,List.take_length]
  repeat' first|refine s1 ?_|refine q1 ?_|fail
  (refine kZ ?_;exact F.ret rfl)
theorem eq_ker_a(a b:Rep)(hf:fitR a b=true):AC Tryz.prog 229 [.i a.p,.agg (enc false (eqM a b))] [.dt true 1 (E true (kerL a.p (szA a b a.q.fr.length) (szT a b a.d.length) (ent (eqM a b))))]:=by
 have h:=Fits.of hf
 have h5:=okQ_spec h.ok
 have hda:=h.da
 have hp:=isF_pos h.f
 have hn:=szT_le h a.d.length (Nat.le_refl _)
 have hN:=szA_le h a.q.fr.length (Nat.le_refl _)
 have:=l4Kernel_a a.p (szA a b a.q.fr.length) (szT a b a.d.length) (ent (eqM a b)) h.f (by omega) (by omega) (eqM_bd (by omega))
 rw[eqM_tm (by omega)] at this
 exact this
def hkL(a b:Rep):List (List Int):=kerL a.p (szA a b a.q.fr.length) (szT a b a.d.length) (ent (eqM a b))
theorem hkL_len(a b:Rep)(hf:fitR a b=true):(hkL a b).length+rkE a b=szT a b a.d.length:=by
 have h:=Fits.of hf
 have hp:=isF_pos h.f
 exact kerL_len h.f (eqM_bd (by omega))
theorem hkL_get(a b:Rep){k:Nat}(hk:k<(hkL a b).length):((hkL a b).getD k default).length=szT a b a.d.length:=by
 have hm:(hkL a b).getD k default∈hkL a b:=by simp[hk]
 unfold hkL kerL at hm
 rw[List.mem_map] at hm
 obtain⟨j,_,e⟩:=hm
 unfold hkL kerL
 rw[←e]
 exact kerV_len ..
def homL(a b:Rep):List (List Mat):=(hkL a b).map (cutV a b)
theorem homL_len(a b:Rep):(homL a b).length=(hkL a b).length:=by simp[homL]
theorem homL_take(a b:Rep){k:Nat}(h:k<(hkL a b).length):(homL a b).take (k+1)=(homL a b).take k++[cutV a b ((hkL a b).getD k default)]:=by
 rw[homL,List.take_succ_eq_append_getElem (by simpa using h)]
 simp[h]
def homP(a b:Rep):List (List Mat)×Bool:=if fitR a b=true then(homL a b,true) else([],false)
theorem specHomBasis_a(a b:Rep):AC Tryz.prog 255 [.agg (enc false a),.agg (enc false b)] [.dt true 1 (E true (homP a b).1),.b (homP a b).2]:=by
 refine AC.go Tryz.func255 Tryz.ntmps255 rfl rfl fun w0 hw=>?_;simp[WfL,WfA,E_length,Enc.enc,In64] at hw
 have hF:=l9Fit_a a b
 unfold homP
 cases hf:fitR a b with
 |false=>
  rw[hf] at hF
  rw[if_neg (by simp)]
  repeat' first|refine s1 ?_|refine q1 ?_|(refine kR ?_;first|refine F.c (hF) ?_)|fail
  (refine kZ ?_;exact F.ret rfl)
 |true=>
  rw[hf] at hF
  rw[if_pos rfl]
  have h:=Fits.of hf
  have hE:=l11Equations_a a b hf
  have hK:=eq_ker_a a b hf
  rw[show(⟨(szA a b a.q.fr.length:Nat),(szT a b a.d.length:Nat),eqA a b a.q.fr.length⟩:Mat)=eqM a b from rfl] at hE
  rw[show kerL a.p (szA a b a.q.fr.length) (szT a b a.d.length) (ent (eqM a b))=hkL a b from rfl] at hK
  have hle:=rkE_le a b hf
  have hlen:=hkL_len a b hf
  have hll:=homL_len a b
  have hC:=fun k (hk:k<(hkL a b).length)=>l11Cells_a a b ((hkL a b).getD k default) h (by rw[hkL_get a b hk];omega) (by rw[hkL_get a b hk];omega)
  have hts:=fun k (hk:k<(hkL a b).length)=>homL_take a b hk
  generalize homL a b=HL at hll hts⊢
  generalize hkL a b=KL at hK hlen hll hC hts⊢
  generalize eqM a b=EM at hE hK
  repeat' first|refine s1 ?_|refine q1 ?_|(refine kR ?_;first|refine F.c (hF) ?_)|fail
  refine AW.draw 7 G.mixed (by kernel_rfl) ?_
  refine Pz (.p 0<|.l 1<|.l 2<|.l 3<|.o 4 true<|.o 5 true<|.p 6<|.n) ?_
  repeat' first|refine ySQ ?_|refine s1 ?_|refine q1 ?_|(refine kR ?_;first|refine F.c (hE) ?_|refine F.c (hK) ?_)|fail
  any_goals refine lf ?_
  repeat' first|refine s1 ?_|refine q1 ?_|fail
  refine AW.lend (o:=3) rfl ?_
  refine AW.open 6 1 (.inr rfl) ?_
  refine F.loop (σ:=Nat) [6,8,21,22,23,24,25,26,27,28,29,30,31,32,33,34,35,36] (fun k=>[(6,.sl 4 k 0 k),(8,.i k)]) (fun k=>[(4,.live false 1 (E true (HL.take k)))]) (fun k=>k≤KL.length) (fun k=>KL.length-k) 0 ⟨rfl,rfl,trivial⟩ ⟨rfl,trivial⟩ (Nat.zero_le _) ?_
  rintro k k1
  by_cases hk:k<KL.length
  ·have hCk:=hC k hk
   have ht:=hts k hk
   have hp:(HL.take k).length=k:=by rw[List.length_take];omega
   generalize cutV a b (KL.getD k default)=V' at hCk ht
   rw[←Nat.zero_add k] at hCk
   repeat' first|refine s1 ?_|refine q1 ?_|fail
   refine AW.draw 9 G.mixed (by kernel_rfl) ?_
   refine Pz (.p 0<|.l 1<|.l 2<|.p 3<|.p 4<|.p 5<|.l 6<|.o 7 true<|.o 8 true<|.o 9 false<|.p 10<|.n) ?_
   repeat' first|refine ySQ ?_|refine s1 ?_|refine q1 ?_|(refine kR ?_;first|refine F.c (hCk) ?_|refine F.a1 (List Mat) (a:=V') ?_)|fail
   any_goals refine lf ?_
   repeat' first|refine s1 ?_|refine q1 ?_|fail
   exact⟨k+1,F.fit ⟨rfl,rfl,trivial⟩ ⟨obE (by rw[ht]),trivial⟩,by omega,by omega⟩
  ·obtain rfl:k=KL.length:=by omega
   rw[←hll,List.take_length]
   repeat' first|refine s1 ?_|refine q1 ?_|fail
   (refine kZ ?_;exact F.ret rfl)
def homD(a b:Rep):Int:=if fitR a b=true then(szT a b a.d.length:Int)-(rkE a b:Int) else-1
theorem specHomDim_a(a b:Rep):AC Tryz.prog 253 [.agg (enc false a),.agg (enc false b)] [.i (homD a b)]:=by
 refine AC.go Tryz.func253 Tryz.ntmps253 rfl rfl fun w0 hw=>?_;simp[WfL,WfA,E_length,Enc.enc,In64] at hw
 have hB:=specHomBasis_a a b
 unfold homD
 cases hf:fitR a b with
 |false=>
  rw[show homP a b=([],false) by unfold homP;rw[if_neg (by simp[hf])]] at hB
  rw[if_neg (by simp)]
  repeat' first|refine s1 ?_|refine q1 ?_|(refine kR ?_;first|refine F.c (hB) ?_)|fail
  (refine kZ ?_;exact F.ret rfl)
 |true=>
  rw[show homP a b=(homL a b,true) by unfold homP;rw[if_pos hf]] at hB
  have hlen:=hkL_len a b hf
  rw[←homL_len] at hlen
  rw[if_pos rfl]
  generalize homL a b=HL at hB hlen
  have hr:(szT a b a.d.length:Int)-(rkE a b:Int)=(HL.length:Nat):=by omega
  rw[hr]
  repeat' first|refine s1 ?_|refine q1 ?_|(refine kR ?_;first|refine F.c (hB) ?_)|fail
  (refine kZ ?_;exact F.ret rfl)
theorem fitR_reps{a b:Rep}(h:fitR a b=true):isRep a=true∧isRep b=true:=by
 simp only[fitR,Bool.and_eq_true,decide_eq_true_eq] at h
 exact h.1.1
theorem fitR_mk{a b:Rep}(ha:isRep a=true)(hb:isRep b=true)(hp:a.p=b.p)(hq:a.q=b.q):fitR a b=true:=by
 simp only[fitR,Bool.and_eq_true,decide_eq_true_eq]
 exact⟨⟨⟨ha,hb⟩,hp⟩,by rw[hq];simp[sameQ]⟩
theorem fitR_refl{a:Rep}(h:isRep a=true):fitR a a=true:=fitR_mk h h rfl rfl
def quoN(p c:Int):Nat→Int
 |0=>c
 |j+1=>quoN p c j/p
theorem quoN_bd{p c:Int}(hp:0<p)(h:0≤c):∀j,0≤quoN p c j∧quoN p c j≤c
 |0=>⟨h,Int.le_refl _⟩
 |j+1=>by
  obtain⟨a,b⟩:=quoN_bd hp h j
  have h1:0≤quoN p c j/p:=Int.ediv_nonneg a (by omega)
  have h2:quoN p c j/p≤quoN p c j:=Int.ediv_le_self _ a
  exact⟨h1,Int.le_trans h2 b⟩
def digN(p c:Int)(n i:Nat):Int:=quoN p c (n-1-i)%p
def digV(p c:Int)(n:Nat):List Int:=(List.range n).map (digN p c n)
theorem digV_len(p c:Int)(n:Nat):(digV p c n).length=n:=by simp[digV]
theorem digV_get(p c:Int){n i:Nat}(h:i<n):(digV p c n).getD i default=digN p c n i:=by simp[digV,h]
theorem digN_bd{p c:Int}(hp:0<p)(n i:Nat):0≤digN p c n i∧digN p c n i≤p-1:=mod_bd hp
def digK(p c:Int)(n m:Nat):List Int:=(List.range n).map fun i=>if m≤i then digN p c n i else 0
theorem digK_len(p c:Int)(n m:Nat):(digK p c n m).length=n:=by simp[digK]
theorem digK_all(p c:Int)(n:Nat):digK p c n n=List.replicate n 0:=by
 apply List.ext_getElem (by simp[digK])
 intro i h1 h2
 have:i<n:=by simpa using h2
 simp[digK,show¬n≤i by omega]
theorem digK_zero(p c:Int)(n:Nat):digK p c n 0=digV p c n:=by simp[digK,digV]
theorem digK_set(p c:Int){n m:Nat}(h:m<n):(digK p c n (m+1)).set m (quoN p c (n-1-m)%p)=digK p c n m:=by
 apply List.ext_getElem (by simp[digK])
 intro i h1 h2
 rw[List.getElem_set]
 simp only[digK,List.getElem_map,List.getElem_range]
 by_cases e:m=i
 ·subst e;simp[digN]
 ·have:m+1≤i↔m≤i:=by omega
  simp[e,this]
def revV(p:Int)(n:Nat)(l:List (List Int))(k:List Int):Nat→List Int
 |0=>List.replicate n 0
 |m+1=>addK p (k.getD (l.length-1-m) default) 0 (l.getD (l.length-1-m) default) (revV p n l k m) n
theorem revV_len(p:Int)(n:Nat)(l:List (List Int))(k:List Int):∀m,(revV p n l k m).length=n
 |0=>by simp[revV]
 |m+1=>by rw[revV,addK_len,revV_len p n l k m]
theorem revV_cg{p:Int}{n:Nat}{l:List (List Int)}{k:List Int}{t:Nat}(ht:t<n):∀m,Cg p ((revV p n l k m).getD t default) (sumN (fun i=>k.getD (l.length-1-i) default*vecF l (l.length-1-i) t) m)
 |0=>by
  have:(revV p n l k 0).getD t default=0:=by simp[revV,ht]
  rw[this];exact .refl _
 |m+1=>by
  rw[revV,addK_get0 _ _ _ _ (by rw[revV_len];exact ht) ht,sumN]
  exact(Cg.mod _ _).trans ((revV_cg ht m).add (.refl _))
theorem revV_bd{p:Int}{n:Nat}{l:List (List Int)}{k:List Int}(hp:2≤p):∀m,∀j,j<n→0≤(revV p n l k m).getD j default∧(revV p n l k m).getD j default≤p-1
 |0,j,hj=>by
  have:(revV p n l k 0).getD j default=0:=by simp[revV,hj]
  rw[this];omega
 |m+1,j,hj=>by
  rw[revV,addK_get0 _ _ _ _ (by rw[revV_len];exact hj) hj]
  exact mod_bd (by omega)
theorem sumN_head(h:Nat→Int):∀n,sumN h (n+1)=h 0+sumN (fun i=>h (i+1)) n
 |0=>by simp[sumN]
 |n+1=>by rw[sumN,sumN_head h n,sumN];omega
theorem sumN_rev(h:Nat→Int):∀n,sumN (fun i=>h (n-1-i)) n=sumN h n
 |0=>rfl
 |n+1=>by
  rw[sumN_head,sumN,←sumN_rev h n,sumN_eq (h:=fun i=>h (n+1-1-(i+1))) (g:=fun i=>h (n-1-i)) n fun i hi=>by congr 1;omega]
  show h (n+1-1-0)+_=_
  rw[show n+1-1-0=n by omega];omega
theorem revV_all{p:Int}{n:Nat}{l:List (List Int)}{k:List Int}(hp:2≤p):revV p n l k l.length=cmbV p n l k l.length:=by
 apply List.ext_getElem (by rw[revV_len,cmbV_len])
 intro t h1 h2
 rw[revV_len] at h1
 have e1:(revV p n l k l.length).getD t default=(revV p n l k l.length)[t]:=by simp[revV_len,h1]
 have e2:(cmbV p n l k l.length).getD t default=(cmbV p n l k l.length)[t]:=by simp[cmbV_len,h1]
 rw[←e1,←e2]
 refine Cg.eq (p:=p) ?_ (revV_bd hp _ t h1) (cmbV_bd hp _ t h1)
 have a:=revV_cg (p:=p) (l:=l) (k:=k) h1 l.length
 rw[sumN_rev (fun i=>k.getD i default*vecF l i t)] at a
 exact a.trans (cmbV_cg h1 l.length).symm
theorem isMor_cut{a b:Rep}{x:List Int}(hf:fitR a b=true)(hl:x.length=szT a b a.d.length)(hb:∀y∈x,0≤y∧y≤a.p-1)(h0:∀i,i<szA a b a.q.fr.length→Cg a.p (dotV (ent (eqM a b) i) x (szT a b a.d.length)) 0):isMor a b (cutV a b x)=true:=by
 have hA:=areM_cutV hf hl hb
 have hp:=isF_pos (Fits.of hf).f
 have hcat:=catM_cutV (a:=a) (b:=b) hl
 unfold isMor
 rw[hA,Bool.true_and,←cobL_all hA,←cob_cut hA]
 have hz:∀y∈tab (szA a b a.q.fr.length) 1 (mulF a.p (ent (eqM a b)) (ent (colM a b (cutV a b x))) (szT a b a.d.length)),y=0:=fun y hy=>by
  obtain⟨t,ht,rfl⟩:=List.getElem_of_mem hy
  have ht':t<szA a b a.q.fr.length:=by rw[tab_len,Nat.mul_one] at ht;exact ht
  have e:=tab_get (r:=szA a b a.q.fr.length) (c:=1) (mulF a.p (ent (eqM a b)) (ent (colM a b (cutV a b x))) (szT a b a.d.length)) ht' (show 0<1 by omega)
  rw[Nat.mul_one,Nat.add_zero] at e
  have e2:∀(L:List Int) (h:t<L.length),L.getD t default=L[t]:=fun L h=>by simp[h]
  rw[e2 _ ht] at e
  rw[e]
  show dotK _ _ t 0 _%a.p=0
  rw[dotK_sum]
  have hd:sumN (fun k=>ent (eqM a b) t k*ent (colM a b (cutV a b x)) k 0) (szT a b a.d.length)=dotV (ent (eqM a b) t) x (szT a b a.d.length):=sumN_eq _ fun k hk=>by
   congr 1
   show(catM _).getD (k*1+0) default=_
   rw[hcat,Nat.mul_one];rfl
  rw[hd]
  have:=Cg.iff.1 (h0 t ht')
  rw[this,Int.zero_emod]
 rw[List.all_eq_true]
 intro m hm
 simp only[cutL,List.mem_map] at hm
 obtain⟨i,_,rfl⟩:=hm
 unfold isZ
 rw[List.all_eq_true]
 intro y hy
 simp only[decide_eq_true_eq]
 exact hz y (List.mem_of_mem_take (List.mem_of_mem_drop hy))
theorem hkL_vec{a b:Rep}(hf:fitR a b=true):VecB a.p (szT a b a.d.length) (hkL a b):=by
 have hp:=isF_pos (Fits.of hf).f
 exact kerL_vec hp.1
theorem hkL_dot{a b:Rep}(hf:fitR a b=true){x:List Int}(hx:x∈hkL a b){i:Nat}(hi:i<szA a b a.q.fr.length):Cg a.p (dotV (ent (eqM a b) i) x (szT a b a.d.length)) 0:=by
 have h:=Fits.of hf
 have hp:=isF_pos h.f
 exact(kerL_spec h.f (eqM_bd (by omega)) hx).1 i hi
theorem vec_mem{p:Int}{x:List Int}{n:Nat}(hl:x.length=n)(h:∀j,j<n→0≤x.getD j default∧x.getD j default≤p-1):∀y∈x,0≤y∧y≤p-1:=fun y hy=>by
 obtain⟨t,ht,rfl⟩:=List.getElem_of_mem hy
 have e:x.getD t default=x[t]:=by simp[ht]
 rw[←e]
 exact h t (by omega)
def cmbH(a b:Rep)(k:List Int):List Int:=cmbV a.p (szT a b a.d.length) (hkL a b) k (hkL a b).length
theorem cmb_mor{a b:Rep}(hf:fitR a b=true)(k:List Int):isMor a b (cutV a b (cmbH a b k))=true:=by
 have hp:=isF_pos (Fits.of hf).f
 have hl:=cmbV_len a.p (szT a b a.d.length) (hkL a b) k (hkL a b).length
 refine isMor_cut hf hl (vec_mem hl fun j hj=>cmbV_bd hp.1 _ j hj) fun i hi=>?_
 unfold cmbH
 have e1:Cg a.p (dotV (ent (eqM a b) i) (cmbV a.p (szT a b a.d.length) (hkL a b) k (hkL a b).length) (szT a b a.d.length)) (sumN (fun j=>ent (eqM a b) i j*sumN (fun t=>k.getD t default*vecF (hkL a b) t j) (hkL a b).length) (szT a b a.d.length)):=
  sumN_cg _ fun j hj=>(Cg.refl _).mul (cmbV_cg hj _)
 refine e1.trans ?_
 rw[sumN_eq (g:=fun j=>sumN (fun t=>k.getD t default*(ent (eqM a b) i j*vecF (hkL a b) t j)) (hkL a b).length) _ fun j _=>by
  rw[←sumN_mul]
  exact sumN_eq _ fun t _=>by rw[←Int.mul_assoc,←Int.mul_assoc,Int.mul_comm (ent _ _ _)],sumN_swap]
 refine(sumN_cg (g:=fun _=>0) _ fun t ht=>?_).trans (by rw[sumN_zero (h:=fun _=>0) _ fun _ _=>rfl];exact .refl _)
 rw[sumN_mul]
 have hm:(hkL a b).getD t default∈hkL a b:=gm ht
 have:=(Cg.refl (k.getD t default)).mul (hkL_dot hf hm hi)
 rwa [Int.mul_zero] at this
def numL(a b:Rep)(c:Int):List Mat:=cutV a b (cmbH a b (digV a.p c (hkL a b).length))
theorem num_mor{a b:Rep}(hf:fitR a b=true)(c:Int):isMor a b (numL a b c)=true:=cmb_mor hf _
theorem cut_add{a b:Rep}{p k:Int}{x y:List Int}(hx:x.length=szT a b a.d.length)(hy:y.length=szT a b a.d.length){v:Nat}(hv:v<a.d.length):(cutV a b (addK p k 0 y x (szT a b a.d.length))).getD v default=⟨b.d.getD v default,a.d.getD v default,addK p k 0 ((cutV a b y).getD v default).m ((cutV a b x).getD v default).m ((cutV a b y).getD v default).m.length⟩:=by
 have e:∀z:List Int,(cutV a b z).getD v default=⟨b.d.getD v default,a.d.getD v default,(z.take (szT a b (v+1))).drop (szT a b v)⟩:=fun z=>by simp[cutV,hv]
 have hs:=szT_mono a b (m:=v+1) (n:=a.d.length) (by omega)
 rw[e,e,e]
 congr 1
 apply List.ext_getElem
 ·rw[addK_len,List.length_drop,List.length_take,List.length_drop,List.length_take,addK_len,hx]
 intro t h1 h2
 have g:∀(L:List Int) (h:t<L.length),L[t]=L.getD t default:=fun L h=>by simp[h]
 rw[g _ h1,g _ h2]
 have hl1:t<(x.take (szT a b (v+1))).length-szT a b v:=by
  rw[addK_len,List.length_drop] at h2;exact h2
 rw[List.length_take,hx] at hl1
 have d:∀z:List Int,z.length=szT a b a.d.length→((z.take (szT a b (v+1))).drop (szT a b v)).getD t default=z.getD (szT a b v+t) default:=fun z hz=>by
  simp only[List.getD_eq_getElem?_getD,List.getElem?_drop]
  rw[List.getElem?_take_of_lt (by omega)]
 rw[d _ (by rw[addK_len,hx]),addK_get0 _ _ _ _ (by rw[hx];omega) (by omega),addK_get0 _ _ _ _ (by rw[List.length_drop,List.length_take,hx];omega) (by rw[List.length_drop,List.length_take,hy];omega),d x hx,d y hy]
theorem cut_zero{a b:Rep}(h:Fits a b):zerL a b=cutV a b (List.replicate (szT a b a.d.length) 0):=by
 unfold zerL cutV
 apply List.map_congr_left
 intro v hv
 have hv:v<a.d.length:=by simpa using hv
 have hda:=h.da
 have hdb:=h.db
 have hl:=zeroM_len (h.bb v (by omega)) (h.ba v hv)
 have hs:=szT_mono a b (m:=v+1) (n:=a.d.length) (by omega)
 have hst:szT a b (v+1)=szT a b v+(a.d.getD v default).toNat*(b.d.getD v default).toNat:=rfl
 have hl:(b.d.getD v default*a.d.getD v default).toNat=(b.d.getD v default).toNat*(a.d.getD v default).toNat:=by
  have hl2:(List.replicate (b.d.getD v default*a.d.getD v default).toNat (0:Int)).length=(b.d.getD v default).toNat*(a.d.getD v default).toNat:=hl
  rwa [List.length_replicate] at hl2
 unfold zeroM
 congr 1
 rw[List.take_replicate,List.drop_replicate]
 apply List.ext_getElem
 ·rw[List.length_replicate,List.length_replicate,hl,Nat.mul_comm];omega
 ·intro t h1 h2;simp
def cntH(p:Int):Nat→Int
 |0=>1
 |n+1=>if cntH p n≤100000 then cntH p n*p else cntH p n
theorem cntH_bd{p:Int}(hp:2≤p∧p≤5):∀n,1≤cntH p n∧cntH p n≤500000
 |0=>by simp[cntH]
 |n+1=>by
  obtain⟨a,b⟩:=cntH_bd hp n
  rw[cntH]
  by_cases h:cntH p n≤100000
  ·rw[if_pos h]
   have h1:1*1≤cntH p n*p:=Int.mul_le_mul a (by omega) (by omega) (by omega)
   have h2:cntH p n*p≤100000*5:=Int.mul_le_mul h hp.2 (by omega) (by omega)
   omega
  ·rw[if_neg h];omega
theorem cntH_step{p:Int}{n:Nat}(h:cntH p n≤100000):cntH p (n+1)=cntH p n*p:=by rw[cntH,if_pos h]
theorem cntH_stay{p:Int}{n:Nat}(h:100000<cntH p n):∀k,cntH p (n+k)=cntH p n
 |0=>rfl
 |k+1=>by
  have:=cntH_stay h k
  rw[←Nat.add_assoc,cntH,this,if_neg (by omega)]
def cntM(a b:Rep):Int:=if fitR a b=true then(if cntH a.p (hkL a b).length≤100000 then cntH a.p (hkL a b).length else-2) else-1
def fstN(P:Nat→Bool):Nat→Nat→Option Nat
 |0,_=>none
 |f+1,i=>if P i=true then some i else fstN P f (i+1)
theorem fstN_hit{P:Nat→Bool}{n i:Nat}(hi:i<n)(h:P i=true):fstN P (n-i) i=some i:=by
 rw[show n-i=(n-i-1)+1 by omega,fstN,if_pos h]
theorem fstN_miss{P:Nat→Bool}{n i:Nat}(hi:i<n)(h:P i=false):fstN P (n-i) i=fstN P (n-(i+1)) (i+1):=by
 rw[show n-i=(n-i-1)+1 by omega,fstN,if_neg (by simp[h]),show n-i-1=n-(i+1) by omega]
def zerF:Nat→Nat→Int:=fun _ _=>0
def blkF(r c:Nat)(f h g:Nat→Nat→Int):Nat→Nat→Int:=fun i j=>if i<r then(if j<c then f i j else h i (j-c)) else(if j<c then 0 else g (i-r) (j-c))
def belF(r:Nat)(f g:Nat→Nat→Int):Nat→Nat→Int:=fun i j=>if i<r then f i j else g (i-r) j
theorem bel_bes(r c:Nat)(f h g:Nat→Nat→Int):belF r (besF c f h) (besF c zerF g)=blkF r c f h g:=by
 funext i j
 unfold belF besF blkF zerF
 rfl
theorem bel_rows(r1 r2 c:Nat)(f g:Nat→Nat→Int):tm (rowsL r1 c f++rowsL r2 c g).length c (vecF (rowsL r1 c f++rowsL r2 c g))=tm (r1+r2) c (belF r1 f g):=by
 unfold tm
 rw[List.length_append,rowsL_len,rowsL_len]
 congr 1
 apply tab_ext
 intro i hi j hj
 unfold belF vecF
 rw[app_getD,rowsL_len]
 by_cases h:i<r1
 ·rw[if_pos h,if_pos h,rowsL_get _ _ h,rowL_get _ hj]
 ·rw[if_neg h,if_neg h,rowsL_get _ _ (by omega),rowL_get _ hj]
def blkM(x y:Mat)(h:Nat→Nat→Int):Mat:=tm (x.r.toNat+y.r.toNat) (x.c.toNat+y.c.toNat) (blkF x.r.toNat x.c.toNat (ent x) h (ent y))
def sumDs(b a:Rep):List Int:=(List.range b.d.length).map fun v=>b.d.getD v default+a.d.getD v default
theorem sumDs_len(b a:Rep):(sumDs b a).length=b.d.length:=by simp[sumDs]
theorem sumDs_get(b a:Rep){v:Nat}(hv:v<b.d.length):(sumDs b a).getD v default=b.d.getD v default+a.d.getD v default:=by simp[sumDs,hv]
theorem sumDs_take(b a:Rep){k:Nat}(h:k<b.d.length):(sumDs b a).take (k+1)=(sumDs b a).take k++[b.d.getD k default+a.d.getD k default]:=by
 simp only[sumDs,←List.map_take,range_take h,List.map_append,List.map_cons,List.map_nil]
def sumMs(b a:Rep)(H:Nat→Nat→Nat→Int):List Mat:=(List.range b.m.length).map fun i=>blkM (b.m.getD i default) (a.m.getD i default) (H i)
theorem sumMs_len(b a:Rep)(H:Nat→Nat→Nat→Int):(sumMs b a H).length=b.m.length:=by simp[sumMs]
theorem sumMs_get(b a:Rep)(H:Nat→Nat→Nat→Int){i:Nat}(hi:i<b.m.length):(sumMs b a H).getD i default=blkM (b.m.getD i default) (a.m.getD i default) (H i):=by simp[sumMs,hi]
theorem sumMs_take(b a:Rep)(H:Nat→Nat→Nat→Int){k:Nat}(h:k<b.m.length):(sumMs b a H).take (k+1)=(sumMs b a H).take k++[blkM (b.m.getD k default) (a.m.getD k default) (H k)]:=by
 simp only[sumMs,←List.map_take,range_take h,List.map_append,List.map_cons,List.map_nil]
def sumR(b a:Rep)(H:Nat→Nat→Nat→Int):Rep:=⟨b.p,b.q,sumDs b a,sumMs b a H⟩
def sumP(b a:Rep):Rep×Bool:=if fitR b a=true∧isRep (sumR b a fun _=>zerF)=true then(sumR b a fun _=>zerF,true) else(noR,false)
end Go.Proofs.YtjmjamhhppoimaaGreat.V
