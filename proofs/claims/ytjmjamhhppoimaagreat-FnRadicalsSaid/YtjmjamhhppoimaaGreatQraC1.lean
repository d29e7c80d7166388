/- Texts that the proof needs: C1. -/
import Derived.Test.YtjmjamhhppoimaaGreatQraB8
namespace Go.Proofs.YtjmjamhhppoimaaGreat.V
open V.Enc (enc)
open Go.RowKit G D
set_option linter.unusedVariables false
set_option linter.unusedSimpArgs false
set_option maxHeartbeats 4000000
set_option maxRecDepth 4000
attribute [local irreducible] AW ARg ARA ARet MRet ASil AC AM
theorem l12Zero_a(r:Rep)(h:r.d.length≤1000):AC Tryz.prog 209 [.agg (enc false r)] [.dt true 2 (E true (radK r 0))]:=by
 refine AC.go Tryz.func209 Tryz.ntmps209 rfl rfl fun w0 hw=>?_;simp[WfL,WfA,E_length,Enc.enc,In64] at hw
 unfold radK
 repeat' first|refine s1 ?_|fail
 refine AW.open 3 2 (.inr rfl) ?_
 refine F.loop (σ:=Nat) [3,4,6,7,8,9,10,11,12,13,14,15,16,17,18,19,20,21,22] (fun k=>[(3,.sl 1 k 0 k),(4,.i k)]) (fun k=>[(1,.live false 2 (E true ((r.d.take k).map fun d=>(⟨d,[]⟩:Spc))))]) (fun k=>k≤r.d.length) (fun k=>r.d.length-k) 0 ⟨rfl,rfl,trivial⟩ ⟨rfl,trivial⟩ (Nat.zero_le _) ?_
 rintro k k1
 have hp:((r.d.take k).map fun d=>(⟨d,[]⟩:Spc)).length=k:=by simp;omega
 by_cases hk:k<r.d.length
 ·have hts:=zeroS_take hk
  generalize (r.d.take k).map (fun d=>(⟨d,[]⟩:Spc))=X at hts hp⊢
  repeat' first|refine s1 ?_|(refine kR ?_;first|refine F.a1 Spc (a:=⟨r.d.getD k default,[]⟩) ?_ (hmv:=.at1 rfl (.em 1 .nil)))|fail
  exact⟨k+1,F.fit ⟨rfl,rfl,trivial⟩ ⟨obE (by rw[hts]),trivial⟩,by omega,by omega⟩
 ·obtain rfl:k=r.d.length:=by omega
  rw[List.take_length]
  have hml:(r.d.map fun d=>(⟨d,[]⟩:Spc)).length=r.d.length:=by simp
  rw[←hml]
  repeat' first|refine s1 ?_|fail
  (refine kZ ?_;exact F.ret rfl)
theorem matImg_a{p:Int}{m:Mat}(h:isMat p m=true):AC Tryz.prog 228 [.i p,.agg (enc false m)] [.dt true 1 (E true (pivC m.r.toNat (ent m) (redK p m.r.toNat (ent m) m.c.toNat).2))]:=by
 obtain⟨h0,h1,h2,h3,h4⟩:=isMat_spec h
 have:=l4Image_a p m.r.toNat m.c.toNat (ent m) h0 (by omega) (by omega) (ent_bd h)
 rw[isMat_tm h] at this
 exact this
theorem pivC_vec{p:Int}{m:Mat}(h:isMat p m=true):VecB p m.r.toNat (pivC m.r.toNat (ent m) (redK p m.r.toNat (ent m) m.c.toNat).2)∧(pivC m.r.toNat (ent m) (redK p m.r.toNat (ent m) m.c.toNat).2).length≤8:=by
 obtain⟨h0,h1,h2,h3,h4⟩:=isMat_spec h
 have hp:=isF_pos h0
 obtain⟨b1,b2,b3,b4⟩:=redK_bd (show 0<p by omega) (ent_bd h) m.c.toNat
 refine⟨fun x hx=>?_,by rw[pivC_len];omega⟩
 simp only[pivC,List.mem_map] at hx
 obtain⟨k,hk,rfl⟩:=hx
 exact⟨rowL_len ..,fun j hj=>by rw[rowL_get _ hj];exact ent_bd h j hj k (b4 k hk)⟩
theorem imgL5_a{p:Int}{m:Mat}(h:isMat p m=true):AC Tryz.prog 210 [.i p,.i m.r,ar false (pivC m.r.toNat (ent m) (redK p m.r.toNat (ent m) m.c.toNat).2)] [.agg (enc true (imgS p m))]:=by
 obtain⟨h0,h1,h2,h3,h4⟩:=isMat_spec h
 obtain⟨v1,v2⟩:=pivC_vec h
 have:=l5Span_a p m.r.toNat _ h0 (by omega) (by omega) v1
 rw[span_cols h0 (ent_bd h),Int.toNat_of_nonneg h1.1] at this
 exact this
def radP(r:Rep):List Spc×Bool:=if isRep r=true then(radL r,true) else([],false)
theorem specRadicalOf_a(r:Rep):AC Tryz.prog 76 [.agg (enc false r)] [.dt true 2 (E true (radP r).1),.b (radP r).2]:=by
 refine AC.go Tryz.func76 Tryz.ntmps76 rfl rfl fun w0 hw=>?_;simp[WfL,WfA,E_length,Enc.enc,In64] at hw
 have hF:=specIsRep_a r
 unfold radP
 cases h:isRep r with
 |false=>
  rw[h] at hF
  rw[if_neg (by simp)]
  repeat' first|refine s1 ?_|(refine kR ?_;first|refine F.c (hF) ?_)|fail
  (refine kZ ?_;exact F.ret rfl)
 |true=>
  rw[h] at hF
  rw[if_pos rfl]
  obtain⟨r1,r2,r3,r4⟩:=isRep_spec h
  obtain⟨c1,c2,c3,_⟩:=areDims_spec r2
  have h5:=okQ_spec c1
  have hZ:=l12Zero_a r (by omega)
  have hl0:=radK_len r 0
  repeat' first|refine s1 ?_|(refine kR ?_;first|refine F.c (hF) ?_|refine F.c (hZ) ?_)|fail
  refine F.loop (σ:=Nat) [5,6,13,14,15,16,17,18,19,20,21,22,23,24,25,26,27,28,29,30,31,32,33,34,35,36,37,38,39,40,41,42,43,44,45,46,47,48,49,50,51,52,53,54] (fun k=>[(5,.i k)]) (fun k=>[(1,.live false 2 (E true (radK r k)))]) (fun k=>k≤r.q.fr.length) (fun k=>r.q.fr.length-k) 0 ⟨rfl,trivial⟩ ⟨rfl,trivial⟩ (Nat.zero_le _) ?_
  rintro k k1
  by_cases hk:k<r.q.fr.length
  ·obtain⟨q1',q2,q3,q4⟩:=radical_m h hk
   have hkm:k<r.m.length:=by omega
   obtain⟨o1,o2⟩:=radK_ok h k (by omega) (r.q.to.getD k default).toNat q3.2
   have hL:=radK_len r k
   have hIm:=matImg_a q2
   have hSp:=imgL5_a q2
   generalize hRL:pivC _ _ _=RL at hIm hSp
   rw[q4] at hSp
   have hAdd:=addSpaces_a r.p ((radK r k).getD (r.q.to.getD k default).toNat default) (imgS r.p (r.m.getD k default)) o2 (imgS_ok q2) (by rw[o1];exact q4)
   have hst:radK r (k+1)=(radK r k).set (r.q.to.getD k default).toNat (addS r.p ((radK r k).getD (r.q.to.getD k default).toNat default) (imgS r.p (r.m.getD k default))):=rfl
   have hwI:=(Int.toNat_of_nonneg q3.1).symm
   generalize hww:(r.q.to.getD k default).toNat=w at hwI hst hAdd q3
   generalize radK r k=L at hst hAdd hL⊢
   generalize imgS r.p (r.m.getD k default)=IM at hSp hAdd hst
   generalize addS r.p (L.getD w default) IM=AS at hAdd hst
   have hwl:w<L.length:=by omega
   have hbl:(E true L).length=(radK r 0).length:=by rw[E_length,hL,hl0]
   have hself:L.set w (L.getD w default)=L:=set_self hwl
   repeat' first|refine s1 ?_|fail
   refine AW.takeE (α:=Spc) (o:=1) (k:=w) (j:=1) (ls:=L) rfl hwl rfl (E_length _ _) ?_
   refine AW.draw 29 G.mixed (by kernel_rfl) ?_
   refine Pz (.p 0<|.p 1<|.p 2<|.l 3<|.p 4<|.p 5<|.p 6<|.l 7<|.p 8<|.l 9<|.p 10<|.l 11<|.p 12<|.p 13<|.l 14<|.p 15<|.l 16<|.p 17<|.l 18<|.p 19<|.p 20<|.l 21<|.o 22 true<|.o 23 true<|.o 24 true<|.p 25<|.p 26<|.p 27<|.p 28<|.o 29 false<|.n) ?_
   repeat' first|refine yP (i:=6) ?_ (hs:=by exact(A.idxT (k:=w) rfl rfl rfl hbl hwI (by omega)))|refine yL (i:=7) ?_ (hs:=by exact(A.ldSG (k:=w) rfl rfl hbl (by omega) (by omega) rfl rfl))|(refine yU (i:=22) ?_;first|refine s1 ?_|refine F.c (hIm) ?_)|(refine yU (i:=23) ?_;first|refine s1 ?_|refine F.c (hSp) ?_)|(refine yU (i:=24) ?_;first|refine s1 ?_|refine F.c (hAdd) ?_)|refine yP (i:=28) ?_ (hs:=by exact(A.idxT (k:=w) rfl rfl rfl hbl hwI (by omega)))|(refine yU (i:=29) ?_;first|refine s1 ?_|(refine F.put (α:=Spc) (o:=1) (o2:=2) (k:=w) (j:=1) (v:=L.getD w default) (x:=L.getD w default) (ls:=L) rfl rfl (E_length _ _) (E_pure _ _) rfl hwl rfl rfl ?_;rw[hself];refine F.stGE (α:=Spc) (oo:=true) (v:=AS) rfl rfl rfl rfl rfl (by omega) (by omega) (.at1 rfl (.mv rfl (by simp) (E_length _ _) (E_pure _ _) .nil)) rfl rfl rfl rfl rfl ?_))|refine yS ?_|refine s1 ?_|fail
   any_goals refine lf ?_
   all_goals
    rw[Nat.zero_add w]
    repeat' first|refine s1 ?_|fail
    exact⟨k+1,F.fit ⟨rfl,trivial⟩ ⟨obE (by rw[hst]),trivial⟩,by omega,by omega⟩
  ·obtain rfl:k=r.q.fr.length:=by omega
   have hL:=radK_len r r.q.fr.length
   have e:radK r r.q.fr.length=radL r:=rfl
   rw[e] at hL⊢
   generalize radL r=L at hL⊢
   repeat' first|refine s1 ?_|fail
   (refine kZ ?_;exact F.ret rfl)
theorem implRadicalOf_a(r:Rep):AC Tryz.prog 75 [.agg (enc false r)] [.dt true 2 (E true (radP r).1),.b (radP r).2]:=by
 refine AC.go Tryz.func75 Tryz.ntmps75 rfl rfl fun w0 hw=>?_;simp[WfL,WfA,E_length,Enc.enc,In64] at hw
 have hF:=implIsRep_a r
 unfold radP
 cases h:isRep r with
 |false=>
  rw[h] at hF
  rw[if_neg (by simp)]
  repeat' first|refine s1 ?_|(refine kR ?_;first|refine F.c (hF) ?_)|fail
  (refine kZ ?_;exact F.ret rfl)
 |true=>
  rw[h] at hF
  rw[if_pos rfl]
  have hR:=radical_a r h
  generalize radL r=L at hR⊢
  repeat' first|refine s1 ?_|(refine kR ?_;first|refine F.c (hF) ?_|refine F.c (hR) ?_)|fail
  (refine kZ ?_;exact F.ret rfl)
def dimS(l:List Spc):List Int:=l.map fun s=>(s.b.length:Int)
theorem dimS_take{l:List Spc}{k:Nat}(h:k<l.length):dimS (l.take (k+1))=dimS (l.take k)++[((l.getD k default).b.length:Int)]:=by
 have e:l.getD k default=l[k]:=by simp[h]
 rw[dimS,List.take_succ_eq_append_getElem h,List.map_append,e]
 rfl
theorem dimS_len(l:List Spc):(dimS l).length=l.length:=by simp[dimS]
theorem subDims_a(l:List Spc)(hl:l.length≤1000)(hb:∀i,i<l.length→(l.getD i default).b.length≤1000):AC Tryz.prog 176 [ar false l] [.dt true 1 (E true (dimS l))]:=by
 refine AC.go Tryz.func176 Tryz.ntmps176 rfl rfl fun w0 hw=>?_;simp[WfL,WfA,E_length,Enc.enc,In64] at hw
 repeat' first|refine s1 ?_|fail
 refine AW.open 3 1 (.inl rfl) ?_
 refine F.loop (σ:=Nat) [3,5,8,9,10,11,12,13,14,15,16,17,18] (fun k=>[(3,.sl 0 k 0 k),(8,.i k)]) (fun k=>[(0,.live false 1 (E true (dimS (l.take k))))]) (fun k=>k≤l.length) (fun k=>l.length-k) 0 ⟨rfl,rfl,trivial⟩ ⟨rfl,trivial⟩ (Nat.zero_le _) ?_
 rintro k k1
 have hp:(dimS (l.take k)).length=k:=by rw[dimS_len,List.length_take];omega
 by_cases hk:k<l.length
 ·have hts:=dimS_take hk
  have hbk:=hb k hk
  generalize dimS (l.take k)=X at hts hp⊢
  repeat' first|refine s1 ?_|(refine kR ?_;first|refine F.a1 Int ?_)|fail
  exact⟨k+1,F.fit ⟨rfl,rfl,trivial⟩ ⟨obE (by rw[hts]),trivial⟩,by omega,by omega⟩
 ·obtain rfl:k=l.length:=by omega
  rw[List.take_length]
  have hml:=dimS_len l
  rw[←hml]
  repeat' first|refine s1 ?_|fail
  (refine kZ ?_;exact F.ret rfl)
def topK(d:List Int)(l:List Int)(k:Nat):List Int:=rowL l.length fun v=>if v<k then d.getD v default-l.getD v default else l.getD v default
theorem topK_len(d l:List Int)(k:Nat):(topK d l k).length=l.length:=rowL_len ..
theorem topK_zero(d l:List Int):topK d l 0=l:=by
 unfold topK
 rw[rowL_ext (g:=fun v=>l.getD v default) fun v hv=>by simp]
 exact rowL_of rfl
theorem topK_get{d l:List Int}{k:Nat}(h:k<l.length):(topK d l k).getD k default=l.getD k default:=by
 unfold topK;rw[rowL_get _ h,if_neg (by omega)]
theorem topK_set{d l:List Int}{k:Nat}(h:k<l.length):(topK d l k).set k (d.getD k default-l.getD k default)=topK d l (k+1):=by
 apply List.ext_getElem (by simp[topK])
 intro i h1 h2
 rw[List.getElem_set]
 simp only[topK,rowL,List.getElem_map,List.getElem_range]
 by_cases e:k=i
 ·subst e;simp
 ·have:i<k+1↔i<k:=by omega
  simp[e,this]
def topD(r:Rep):List Int:=if isRep r=true then topK r.d (dimS (radL r)) r.d.length else[]
theorem rad_b{r:Rep}(h:isRep r=true){v:Nat}(hv:v<r.d.length):((radL r).getD v default).b.length≤16:=(isSpc_spec (radK_ok h r.q.fr.length (Nat.le_refl _) v hv).2).2.2.1
theorem implTopDims_a(r:Rep):AC Tryz.prog 68 [.agg (enc false r)] [.dt true 1 (E true (topD r))]:=by
 refine AC.go Tryz.func68 Tryz.ntmps68 rfl rfl fun w0 hw=>?_;simp[WfL,WfA,E_length,Enc.enc,In64] at hw
 have hF:=implIsRep_a r
 unfold topD
 cases h:isRep r with
 |false=>
  rw[h] at hF
  rw[if_neg (by simp)]
  repeat' first|refine s1 ?_|(refine kR ?_;first|refine F.c (hF) ?_)|fail
  (refine kZ ?_;exact F.ret rfl)
 |true=>
  rw[h] at hF
  rw[if_pos rfl]
  obtain⟨r1,r2,r3,r4⟩:=isRep_spec h
  obtain⟨c1,c2,c3,_⟩:=areDims_spec r2
  have h5:=okQ_spec c1
  have hR:=radical_a r h
  have hl:(radL r).length=r.d.length:=radK_len r r.q.fr.length
  have hD:=subDims_a (radL r) (by omega) (fun i hi=>by have:=rad_b h (v:=i) (by omega);omega)
  have hdl:=dimS_len (radL r)
  have hdb:∀v,v<r.d.length→0≤(dimS (radL r)).getD v default∧(dimS (radL r)).getD v default≤16:=fun v hv=>by
   have e:(dimS (radL r)).getD v default=(((radL r).getD v default).b.length:Int):=by simp[dimS,hl,hv]
   have:=rad_b h hv
   rw[e];omega
  generalize dimS (radL r)=D0 at hD hdl hdb⊢
  generalize radL r=L at hR hD hdl hl
  have hz:=topK_zero r.d D0
  repeat' first|refine s1 ?_|(refine kR ?_;first|refine F.c (hF) ?_|refine F.c (hR) ?_|refine F.c (hD) ?_)|fail
  refine F.loop (σ:=Nat) [4,13,14,15,16,17,18,19,20,21,22,23,24,25,26,27,28,29] (fun k=>[(13,.i k)]) (fun k=>[(2,.live false 1 (E true (topK r.d D0 k)))]) (fun k=>k≤r.d.length) (fun k=>r.d.length-k) 0 ⟨rfl,trivial⟩ ⟨obE (by rw[hz]),trivial⟩ (Nat.zero_le _) ?_
  rintro k k1
  have hkl:=topK_len r.d D0 k
  by_cases hk:k<r.d.length
  ·have hg:=topK_get (d:=r.d) (l:=D0) (k:=k) (by omega)
   have hs:=topK_set (d:=r.d) (l:=D0) (k:=k) (by omega)
   have hb:=hdb k hk
   have hd:0≤r.d.getD k default∧r.d.getD k default≤4:=allIn_spec c3 hk
   generalize topK r.d D0 k=X at hkl hg hs⊢
   rw[←hg] at hb hs
   have hi:In64 (r.d.getD k default-X.getD (0+k) default):=by rw[Nat.zero_add];unfold In64;omega
   repeat' first|refine s1 ?_|fail
   refine AW.draw 13 G.mixed (by kernel_rfl) ?_
   refine Pz (.p 0<|.p 1<|.p 2<|.l 3<|.p 4<|.p 5<|.l 6<|.p 7<|.p 8<|.p 9<|.l 10<|.p 11<|.p 12<|.o 13 false<|.n) ?_
   repeat' first|refine yS ?_|refine s1 ?_|fail
   any_goals refine lf ?_
   repeat' first|refine s1 ?_|fail
   exact⟨k+1,F.fit ⟨rfl,trivial⟩ ⟨obE (by rw[Nat.zero_add k,hs]),trivial⟩,by omega,by omega⟩
  ·obtain rfl:k=r.d.length:=by omega
   generalize topK r.d D0 r.d.length=X at hkl⊢
   have hXl:X.length=L.length:=by omega
   repeat' first|refine s1 ?_|fail
   (refine kZ ?_;exact F.ret rfl)
theorem specTopDims_a(r:Rep):AC Tryz.prog 70 [.agg (enc false r)] [.dt true 1 (E true (topD r))]:=by
 refine AC.go Tryz.func70 Tryz.ntmps70 rfl rfl fun w0 hw=>?_;simp[WfL,WfA,E_length,Enc.enc,In64] at hw
 have hR:=specRadicalOf_a r
 unfold topD
 cases h:isRep r with
 |false=>
  rw[show radP r=([],false) by unfold radP;rw[if_neg (by simp[h])]] at hR
  rw[if_neg (by simp)]
  repeat' first|refine s1 ?_|(refine kR ?_;first|refine F.c (hR) ?_)|fail
  refine F.loop (σ:=Nat) [5,6,13,14,15,16,17,18,19,20,21,22,23,24,25,26,27,28,29,30,31,32,33,34,35,36] (fun k=>[(5,.em),(6,.i 0)]) (fun _=>[]) (fun _=>True) (fun _=>0) 0 ⟨rfl,rfl,trivial⟩ trivial trivial ?_
  rintro k _
  repeat' first|refine s1 ?_|fail
  (refine kZ ?_;exact F.ret rfl)
 |true=>
  rw[show radP r=(radL r,true) by unfold radP;rw[if_pos h]] at hR
  rw[if_pos rfl]
  obtain⟨r1,r2,r3,r4⟩:=isRep_spec h
  obtain⟨c1,c2,c3,_⟩:=areDims_spec r2
  have h5:=okQ_spec c1
  have hl:(radL r).length=r.d.length:=radK_len r r.q.fr.length
  have hbv:=fun v hv=>rad_b h (v:=v) hv
  have hTl:=topK_len r.d (dimS (radL r)) r.d.length
  have hTt:∀k,k<r.d.length→(topK r.d (dimS (radL r)) r.d.length).take (k+1)=(topK r.d (dimS (radL r)) r.d.length).take k++[r.d.getD k default-(((radL r).getD k default).b.length:Int)]:=fun k hk=>by
   unfold topK
   rw[rowL_take _ (by rw[dimS_len];omega),if_pos hk]
   have e:(dimS (radL r)).getD k default=(((radL r).getD k default).b.length:Int):=by simp[dimS,hl,hk]
   rw[e]
  rw[dimS_len,hl] at hTl
  generalize topK r.d (dimS (radL r)) r.d.length=T at hTl hTt⊢
  generalize radL r=L at hR hl hbv hTt
  repeat' first|refine s1 ?_|(refine kR ?_;first|refine F.c (hR) ?_)|fail
  refine AW.lend (o:=1) rfl ?_
  refine AW.open 5 1 (.inr rfl) ?_
  refine F.loop (σ:=Nat) [5,6,13,14,15,16,17,18,19,20,21,22,23,24,25,26,27,28,29,30,31,32,33,34,35,36] (fun k=>[(5,.sl 2 k 0 k),(6,.i k)]) (fun k=>[(2,.live false 1 (E true (T.take k)))]) (fun k=>k≤r.d.length) (fun k=>r.d.length-k) 0 ⟨rfl,rfl,trivial⟩ ⟨rfl,trivial⟩ (Nat.zero_le _) ?_
  rintro k k1
  have hp:(T.take k).length=k:=by rw[List.length_take];omega
  by_cases hk:k<r.d.length
  ·have hts:=hTt k hk
   have hb:=hbv k hk
   have hd:0≤r.d.getD k default∧r.d.getD k default≤4:=allIn_spec c3 hk
   rw[←Nat.zero_add k] at hb
   have hi:In64 (r.d.getD k default-((L.getD (0+k) default).b.length:Int)):=by unfold In64;omega
   repeat' first|refine s1 ?_|fail
   refine AW.draw 14 G.mixed (by kernel_rfl) ?_
   refine Pz (.p 0<|.p 1<|.l 2<|.p 3<|.p 4<|.l 5<|.p 6<|.p 7<|.p 8<|.p 9<|.l 10<|.p 11<|.p 12<|.o 13 true<|.o 14 false<|.p 15<|.n) ?_
   repeat' first|refine yS ?_|refine s1 ?_|(refine kR ?_;first|refine F.a1 Int ?_)|fail
   any_goals refine lf ?_
   repeat' first|refine s1 ?_|fail
   exact⟨k+1,F.fit ⟨rfl,rfl,trivial⟩ ⟨obE (by rw[hts,Nat.zero_add k]),trivial⟩,by omega,by omega⟩
  ·obtain rfl:k=r.d.length:=by omega
   have e:T.take r.d.length=T:=List.take_of_length_le (by omega)
   rw[e]
   rw[←hTl]
   clear hp e
   repeat' first|refine s1 ?_|fail
   (refine kZ ?_;exact F.ret rfl)
theorem topD_len(r:Rep):(topD r).length≤1000:=by
 unfold topD
 by_cases h:isRep r=true
 ·rw[if_pos h,topK_len,dimS_len]
  obtain⟨r1,r2,r3,r4⟩:=isRep_spec h
  obtain⟨c1,c2,c3,_⟩:=areDims_spec r2
  have h5:=okQ_spec c1
  have hl:(radL r).length=r.d.length:=radK_len r r.q.fr.length
  omega
 ·rw[if_neg h];simp
end Go.Proofs.YtjmjamhhppoimaaGreat.V
