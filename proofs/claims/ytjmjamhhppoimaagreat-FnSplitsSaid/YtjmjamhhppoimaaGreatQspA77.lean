/- Texts that the proof needs: C2, A77. -/
import Derived.Test.YtjmjamhhppoimaaGreatQspB7
import Derived.Test.YtjmjamhhppoimaaGreatQspC1
namespace Go.Proofs.YtjmjamhhppoimaaGreat.V
open V.Enc (enc)
open Go.RowKit G D
set_option linter.unusedVariables false
set_option linter.unusedSimpArgs false
set_option maxHeartbeats 4000000
set_option maxRecDepth 4000
attribute [local irreducible] AW ARg ARA ARet MRet ASil AC AM
theorem l3Identity_a(n:Nat)(hn:n≤1000):AC Tryz.prog 215 [.i (n:Int)] [.agg (enc true (tm n n idF))]:=by
 refine AC.go Tryz.func215 Tryz.ntmps215 rfl rfl fun w0 hw=>?_;simp[WfL,WfA,E_length,Enc.enc,In64] at hw
 have hZ:=l3ZeroT_a n n (by omega) (by omega)
 repeat' first|refine s1 ?_|refine q1 ?_|(refine kR ?_;first|refine F.c (hZ) ?_)|fail
 refine F.loop (σ:=Nat) [4,8,9,10,11,12,13,14,15,16,17,18,19,20] (fun i=>[(4,.i i)]) (fun i=>[(1,.live false 1 (E true (tab n n (idK i))))]) (fun i=>i≤n) (fun i=>n-i) 0 ⟨rfl,trivial⟩ ⟨obE (by rw[idK_zero]),trivial⟩ (Nat.zero_le _) ?_
 rintro i i1
 by_cases hi:i<n
 ·obtain⟨t1,t2⟩:=tab_in (i:=i) (j:=i) (r:=n) (c:=n) hi hi (by omega) (by omega)
  repeat' first|refine s1 ?_|refine q1 ?_|fail
  exact⟨i+1,F.fit ⟨rfl,trivial⟩ ⟨obE (by rw[idK_set]),trivial⟩,by omega,by omega⟩
 ·obtain rfl:i=n:=by omega
  rw[idK_all]
  repeat' first|refine s1 ?_|refine q1 ?_|fail
  (refine kZ ?_;exact F.ret rfl)
end Go.Proofs.YtjmjamhhppoimaaGreat.V
namespace Go.Proofs.YtjmjamhhppoimaaGreat.V
open V.Enc (enc)
open Go.RowKit G D
set_option linter.unusedVariables false
set_option linter.unusedSimpArgs false
set_option maxHeartbeats 4000000
set_option maxRecDepth 4000
attribute [local irreducible] AW ARg ARA ARet MRet ASil AC AM ARI
theorem meetSpaces_a(p:Int)(a b:Spc)(ha:isSpc p a=true)(hb:isSpc p b=true)(hn:b.n=a.n):AC Tryz.prog 197 [.i p,.agg (enc false a),.agg (enc false b)] [.agg (enc true (metS p a b)),.b true]:=by
 refine AC.go Tryz.func197 Tryz.ntmps197 rfl rfl fun w0 hw=>?_;simp[WfL,WfA,E_length,Enc.enc,In64] at hw
 have hA:=specIsSpace_a p a
 have hB:=specIsSpace_a p b
 rw[ha] at hA
 rw[hb] at hB
 obtain⟨h1,h2,h3,h4⟩:=isSpc_spec ha
 obtain⟨_,_,g3,g4⟩:=isSpc_spec hb
 rw[hn] at g4
 have hp:=isF_pos h1
 have hv:=h4.app g4
 have hR:=l5Rows_a a.n.toNat (a.b++b.b) (by rw[List.length_append];omega) (by omega) hv.len
 rw[Int.toNat_of_nonneg h2.1] at hR
 have hTr:=l3Transpose_a (a.b++b.b).length a.n.toNat (vecF (a.b++b.b)) (by rw[List.length_append];omega) (by omega)
 have hK:=l4Kernel_a p a.n.toNat (a.b++b.b).length (fcF (a.b++b.b)) h1 (by omega) (by rw[List.length_append];omega) (fcF_bd hv)
 rw[show kerL p a.n.toNat (a.b++b.b).length (fcF (a.b++b.b))=metK p a b from rfl] at hK
 rw[show(fun i j=>vecF (a.b++b.b) j i)=fcF (a.b++b.b) from rfl] at hTr
 have hKl:=metK_le p a b
 have hKv:=metK_vec (a:=a) (b:=b) hp.1
 have hMt:=fun i hi=>metL_take (p:=p) (a:=a) (b:=b) (i:=i) hi
 have hMl:=metL_len p a b
 have hS:=l5Span_a p a.n.toNat (metL p a b) h1 (by omega) (by omega) (metL_vec hp.1)
 rw[Int.toNat_of_nonneg h2.1,show(⟨a.n,spanL p a.n.toNat (metL p a b)⟩:Spc)=metS p a b from rfl] at hS
 generalize metS p a b=MS at hS⊢
 generalize metL p a b=ML at hMt hMl hS
 generalize metK p a b=K at hK hKl hKv hMt hMl
 have hal:∀j,j<a.b.length→(a.b.getD j default).length=a.n.toNat:=h4.len
 have hab:∀j,j<a.b.length→∀t,t<a.n.toNat→0≤(a.b.getD j default).getD t default∧(a.b.getD j default).getD t default≤p-1:=fun j hj=>(h4 _ (gm hj)).2
 have hnn:a.n=(a.n.toNat:Int):=(Int.toNat_of_nonneg h2.1).symm
 rw[List.length_append] at hKv
 generalize hT:tm a.n.toNat (a.b++b.b).length (fcF (a.b++b.b))=T at hTr hK
 generalize hT0:tm (a.b++b.b).length a.n.toNat (vecF (a.b++b.b))=T0 at hR hTr
 generalize hN:a.n.toNat=n at*
 repeat' first|refine s1 ?_|refine q1 ?_|(refine kR ?_;first|refine F.c (hA) ?_|refine F.c (hB) ?_)|fail
 refine AW.freezeP (α:=Spc) (oo:=false) a 4 rfl rfl ?_
 refine AW.freezeP (α:=Spc) (oo:=false) b 5 rfl rfl ?_
 refine AW.drawI G.mixed (by kernel_rfl) (by rfl) ?_
 intro T w1 MP1 I0
 refine Pz (.p 0<|.l 1<|.p 3<|.l 4<|.p 6<|.l 7<|.a [(2,false,.a [(5,false,.a [(8,false,.a [(9,false,.a [(10,false,.o 11 false<|.o 12 false<|.n),(11,false,.o 10 false<|.o 12 false<|.n)]),(11,false,.o 9 false<|.o 10 false<|.o 12 false<|.n)]),(11,false,.o 8 false<|.o 9 false<|.o 10 false<|.o 12 false<|.n)]),(11,false,.o 5 false<|.o 8 false<|.o 9 false<|.o 10 false<|.o 12 false<|.n)]),(11,false,.o 2 false<|.o 5 false<|.o 8 false<|.o 9 false<|.o 10 false<|.o 12 false<|.n)]) ?_
 repeat' first|(refine yU (i:=5) ?_;first|refine s1 ?_|refine F.aLN (List Int) (oo:=false) ?_)|(refine yU (i:=8) ?_;first|refine s1 ?_|refine F.aL (List Int) (oo:=false) ?_)|refine xSQ ?_|refine s1 ?_|refine q1 ?_|refine xC ?_ ?_|exact trivial|(refine kR ?_;first|refine F.c (hR) ?_|refine F.c (hTr) ?_)|fail
 any_goals refine lf ?_
 all_goals
  repeat' first|refine s1 ?_|refine q1 ?_|(refine kR ?_;first|refine F.c (hK) ?_)|fail
  refine AW.lend (o:=7) rfl ?_
  refine AW.open 10 1 (.inr rfl) ?_
  refine F.loop (σ:=Nat) [10,11,12,13,14,48,49,50,51,52,53,54,55,56,57,58,59,60,61,62,63,64,65,66,67,68,69,70,71,72,73,74,75,76,77,78,79,80,81,82,83,84,85,86,87,88,89,90,91,92,93,94,95,96,97,98,99] (fun i=>[(10,.sl 8 i 0 i),(11,.i i)]) (fun i=>[(8,.live false 1 (E true (ML.take i)))]) (fun i=>i≤K.length) (fun i=>K.length-i) 0 ⟨rfl,rfl,trivial⟩ ⟨rfl,trivial⟩ (Nat.zero_le _) ?_
  rintro i i1
  have hp2:(ML.take i).length=i:=by rw[List.length_take];omega
  by_cases hi:i<K.length
  ·have hts:=hMt i hi
   have hkv:=hKv _ (gm (d:=default) hi)
   repeat' first|refine s1 ?_|refine q1 ?_|(refine kR ?_;first|refine F.mk (m:=n) Int rfl rfl hnn (mkB (by omega)) (by omega) rfl rfl ?_)|fail
   rw[show List.replicate n (0:Int)=cmbV p n a.b (K.getD i default) 0 from rfl]
   refine F.loop (σ:=Nat) [13,14,57,58,59,60,61,62,63,64,65,66,67,68,69,70,71,72,73,74,75,76,77,78,79,80,81,82,83,84,85,86,87,88,89,90,91,92,93,94,95] (fun j=>[(13,.i j)]) (fun j=>[(9,.live false 1 (E true (cmbV p n a.b (K.getD i default) j)))]) (fun j=>j≤a.b.length) (fun j=>a.b.length-j) 0 ⟨rfl,trivial⟩ ⟨rfl,trivial⟩ (Nat.zero_le _) ?_
   rintro j j1
   have hcl:=cmbV_len p n a.b (K.getD i default) j
   by_cases hj:j<a.b.length
   ·have hst:cmbV p n a.b (K.getD i default) (j+1)=addK p ((K.getD i default).getD j default) 0 (a.b.getD j default) (cmbV p n a.b (K.getD i default) j) n:=rfl
    have hcb:=fun t ht=>cmbV_bd (p:=p) (n:=n) (l:=a.b) (k:=K.getD i default) hp.1 j t ht
    have hkj:=hkv.2 j (by omega)
    have hlj:=hal j hj
    have hbj:=hab j hj
    have hki:j<(K.getD (0+i) default).length:=by rw[Nat.zero_add,hkv.1];omega
    rw[←Nat.zero_add i] at hkj
    generalize hX:cmbV p n a.b (K.getD i default) j=X at hcl hst hcb⊢
    repeat' first|refine s1 ?_|refine q1 ?_|fail
    refine F.loop (σ:=Nat) [14,64,65,66,67,68,69,70,71,72,73,74,75,76,77,78,79,80,81,82,83,84,85,86,87,88,89,90,91,92,93,94,95] (fun t=>[(14,.i t)]) (fun t=>[(9,.live false 1 (E true (addK p ((K.getD (0+i) default).getD j default) 0 (a.b.getD j default) X t)))]) (fun t=>t≤n) (fun t=>n-t) 0 ⟨rfl,trivial⟩ ⟨obE (by rw[addK_zero]),trivial⟩ (Nat.zero_le _) ?_
    rintro t t1
    have hkl:=addK_len p ((K.getD (0+i) default).getD j default) 0 (a.b.getD j default) X t
    by_cases ht:t<n
    ·have e1:=addK_at p ((K.getD (0+i) default).getD j default) 0 (a.b.getD j default) X (j:=t) (by omega)
     have e2:=addK_set p ((K.getD (0+i) default).getD j default) 0 (a.b.getD j default) X (j:=t) (by omega)
     have b1:=hcb t (by omega)
     have b2:=hbj t ht
     have b3:0≤(K.getD (0+i) default).getD j default*(a.b.getD j default).getD t default∧(K.getD (0+i) default).getD j default*(a.b.getD j default).getD t default≤1024*1024:=⟨Int.mul_nonneg hkj.1 b2.1,Int.mul_le_mul (by omega) (by omega) b2.1 (by omega)⟩
     have htb:t<(a.b.getD j default).length:=by omega
     rw[Nat.zero_add t] at e1 e2
     generalize addK p ((K.getD (0+i) default).getD j default) 0 (a.b.getD j default) X t=L at hkl e1 e2⊢
     rw[←e1] at b1 e2
     have hi1:In64 ((K.getD (0+i) default).getD j default*(a.b.getD j default).getD t default):=by unfold In64;omega
     have hi2:In64 (L.getD (0+t) default+(K.getD (0+i) default).getD j default*(a.b.getD j default).getD t default):=by rw[Nat.zero_add];unfold In64;omega
     have hM:=l2Mod_a p (L.getD (0+t) default+(K.getD (0+i) default).getD j default*(a.b.getD j default).getD t default) (by omega)
     repeat' first|refine s1 ?_|refine q1 ?_|fail
     refine AW.draw 26 G.mixed (by kernel_rfl) ?_
     refine Pz (.p 0<|.p 1<|.p 2<|.p 3<|.p 4<|.p 5<|.l 6<|.p 7<|.p 8<|.p 9<|.l 10<|.p 11<|.p 12<|.l 13<|.p 14<|.l 15<|.p 16<|.p 17<|.l 18<|.p 19<|.p 20<|.l 21<|.p 22<|.p 23<|.o 24 true<|.p 25<|.o 26 false<|.n) ?_
     repeat' first|refine ySQ ?_|refine s1 ?_|refine q1 ?_|(refine kR ?_;first|refine F.c (hM) ?_)|fail
     any_goals refine lf ?_
     repeat' first|refine s1 ?_|refine q1 ?_|fail
     exact⟨t+1,F.fit ⟨rfl,trivial⟩ ⟨obE (by rw[Nat.zero_add t,e2]),trivial⟩,by omega,by omega⟩
    ·obtain rfl:t=n:=by omega
     repeat' first|refine s1 ?_|refine q1 ?_|fail
     exact⟨j+1,F.fit ⟨rfl,trivial⟩ ⟨obE (by rw[hst,Nat.zero_add i]),trivial⟩,by omega,by omega⟩
   ·obtain rfl:j=a.b.length:=by omega
    generalize cmbV p n a.b (K.getD i default) a.b.length=X at hcl hts⊢
    repeat' first|refine s1 ?_|refine q1 ?_|(refine kR ?_;first|refine F.a1 (List Int) (a:=X) ?_)|fail
    exact⟨i+1,F.fit ⟨rfl,rfl,trivial⟩ ⟨obE (by rw[hts]),trivial⟩,by omega,by omega⟩
  ·obtain rfl:i=K.length:=by omega
   have e:ML.take K.length=ML:=List.take_of_length_le (by omega)
   rw[e]
   rw[←hMl]
   clear hp2 e
   repeat' first|refine s1 ?_|refine q1 ?_|(refine kR ?_;first|refine F.c (hS) ?_)|fail
   (refine kZ ?_;exact F.ret rfl)
theorem matL4Ker_a{p:Int}{m:Mat}(h:isMat p m=true):AC Tryz.prog 229 [.i p,.agg (enc false m)] [.dt true 1 (E true (kerL p m.r.toNat m.c.toNat (ent m)))]:=by
 obtain⟨h0,h1,h2,h3,h4⟩:=isMat_spec h
 have:=l4Kernel_a p m.r.toNat m.c.toNat (ent m) h0 (by omega) (by omega) (ent_bd h)
 rw[isMat_tm h] at this
 exact this
theorem kerL5_a{p:Int}{m:Mat}(h:isMat p m=true):AC Tryz.prog 210 [.i p,.i m.c,ar false (kerL p m.r.toNat m.c.toNat (ent m))] [.agg (enc true (kerS p m))]:=by
 obtain⟨h0,h1,h2,h3,h4⟩:=isMat_spec h
 have hp:=isF_pos h0
 have hl:=kerL_le p m.r.toNat m.c.toNat (ent m)
 have:=l5Span_a p m.c.toNat _ h0 (by omega) (by omega) (kerL_vec (r:=m.r.toNat) (c:=m.c.toNat) (f:=ent m) hp.1)
 rw[Int.toNat_of_nonneg h2.1] at this
 exact this
def pairL(g:Spc→Spc→Spc)(s t:List Spc):List Spc:=(List.range s.length).map fun v=>g (s.getD v default) (t.getD v default)
theorem pairL_len(g:Spc→Spc→Spc)(s t:List Spc):(pairL g s t).length=s.length:=by simp[pairL]
theorem pairL_get(g:Spc→Spc→Spc)(s t:List Spc){v:Nat}(hv:v<s.length):(pairL g s t).getD v default=g (s.getD v default) (t.getD v default):=by simp[pairL,hv]
theorem pairL_take(g:Spc→Spc→Spc)(s t:List Spc){v:Nat}(hv:v<s.length):(pairL g s t).take (v+1)=(pairL g s t).take v++[g (s.getD v default) (t.getD v default)]:=by
 simp only[pairL,←List.map_take,range_take hv,List.map_append,List.map_cons,List.map_nil]
def addP(r:Rep)(s t:List Spc):List Spc×Bool:=if isSub r s=true∧isSub r t=true then(pairL (addS r.p) s t,true) else([],false)
def metP(r:Rep)(s t:List Spc):List Spc×Bool:=if isSub r s=true∧isSub r t=true then(pairL (metS r.p) s t,true) else([],false)
theorem sub_pair{r:Rep}{s t:List Spc}(hs:isSub r s=true)(ht:isSub r t=true):t.length=s.length∧s.length≤5∧∀v,v<s.length→isSpc r.p (s.getD v default)=true∧isSpc r.p (t.getD v default)=true∧(t.getD v default).n=(s.getD v default).n:=by
 obtain⟨h1,h2,h3,h4⟩:=isSub_spec hs
 obtain⟨_,g2,g3,g4⟩:=isSub_spec ht
 obtain⟨r1,r2,r3,r4⟩:=isRep_spec h1
 obtain⟨c1,c2,c3,_⟩:=areDims_spec r2
 have h5:=okQ_spec c1
 refine⟨by omega,by omega,fun v hv=>?_⟩
 obtain⟨a1,a2⟩:=h3 v hv
 obtain⟨b1,b2⟩:=g3 v (by omega)
 exact⟨a1,b1,by rw[b2,a2]⟩
theorem specAddSubs_a(r:Rep)(s t:List Spc):AC Tryz.prog 46 [.agg (enc false r),ar false s,ar false t] [.dt true 2 (E true (addP r s t).1),.b (addP r s t).2]:=by
 refine AC.go Tryz.func46 Tryz.ntmps46 rfl rfl fun w0 hw=>?_;simp[WfL,WfA,E_length,Enc.enc,In64] at hw
 have hS:=specIsSub_a r s
 have hT:=specIsSub_a r t
 unfold addP
 cases hs:isSub r s with
 |false=>
  rw[hs] at hS
  rw[if_neg (by simp)]
  repeat' first|refine s1 ?_|(refine kR ?_;first|refine F.c (hS) ?_)|fail
  (refine kZ ?_;exact F.ret rfl)
 |true=>
  rw[hs] at hS
  cases ht:isSub r t with
  |false=>
   rw[ht] at hT
   rw[if_neg (by simp)]
   by_cases hst:s=t
   ·subst hst;rw[hs] at ht;cases ht
   ·repeat' first|refine s1 ?_|(refine kR ?_;first|refine F.c (hS) ?_|refine F.c (hT) ?_)|fail
    (refine kZ ?_;exact F.ret rfl)
  |true=>
   rw[ht] at hT
   rw[if_pos ⟨rfl,rfl⟩]
   obtain⟨l1,l2,l3⟩:=sub_pair hs ht
   have hll:=pairL_len (addS r.p) s t
   repeat' first|refine s1 ?_|(refine kR ?_;first|refine F.c (hS) ?_|refine F.c (hT) ?_)|fail
   refine AW.open 8 2 (.inr rfl) ?_
   refine F.loop (σ:=Nat) [8,9,10,11,24,25,26,27,28,29,30,31,32,33,34,35,36,37,38,39,40,41,42,43,44,45,46,47] (fun k=>[(8,.sl 1 k 0 k),(9,.i k)]) (fun k=>[(1,.live false 2 (E true ((pairL (addS r.p) s t).take k)))]) (fun k=>k≤s.length) (fun k=>s.length-k) 0 ⟨rfl,rfl,trivial⟩ ⟨rfl,trivial⟩ (Nat.zero_le _) ?_
   rintro k k1
   have hp:((pairL (addS r.p) s t).take k).length=k:=by rw[List.length_take];omega
   by_cases hk:k<s.length
   ·have hkt:k<t.length:=by omega
    obtain⟨n1,n2,n3⟩:=l3 k hk
    have hA:=addSpaces_a r.p _ _ n1 n2 n3
    have hts:=pairL_take (addS r.p) s t hk
    generalize addS r.p (s.getD k default) (t.getD k default)=G1 at hA hts
    repeat' first|refine s1 ?_|fail
    refine AW.draw 15 G.mixed (by kernel_rfl) ?_
    refine Pz (.p 0<|.l 1<|.p 2<|.p 3<|.p 4<|.l 5<|.p 6<|.p 7<|.p 8<|.l 9<|.a [(10,true,.p 11<|.p 12<|.p 13<|.o 14 true<|.o 15 false<|.p 16<|.n),(14,true,.o 10 true<|.p 11<|.p 12<|.p 13<|.o 15 false<|.p 16<|.n)]) ?_
    repeat' first|refine yS ?_|refine s1 ?_|refine yC ?_ ?_|exact trivial|(refine kR ?_;first|refine F.c (hA) ?_)|fail
    any_goals refine lf ?_
    all_goals
     repeat' first|refine s1 ?_|(refine kR ?_;first|refine F.a1 Spc (a:=G1) ?_)|fail
     exact⟨k+1,F.fit ⟨rfl,rfl,trivial⟩ ⟨obE (by rw[hts]),trivial⟩,by omega,by omega⟩
   ·obtain rfl:k=s.length:=by omega
    have e:(pairL (addS r.p) s t).take s.length=pairL (addS r.p) s t:=List.take_of_length_le (by omega)
    rw[e]
    clear hp e
    generalize pairL (addS r.p) s t=L at hll⊢
    rw[←hll]
    repeat' first|refine s1 ?_|fail
    (refine kZ ?_;exact F.ret rfl)
theorem specMeetSubs_a(r:Rep)(s t:List Spc):AC Tryz.prog 44 [.agg (enc false r),ar false s,ar false t] [.dt true 2 (E true (metP r s t).1),.b (metP r s t).2]:=by
 refine AC.go Tryz.func44 Tryz.ntmps44 rfl rfl fun w0 hw=>?_;simp[WfL,WfA,E_length,Enc.enc,In64] at hw
 have hS:=specIsSub_a r s
 have hT:=specIsSub_a r t
 unfold metP
 cases hs:isSub r s with
 |false=>
  rw[hs] at hS
  rw[if_neg (by simp)]
  repeat' first|refine s1 ?_|(refine kR ?_;first|refine F.c (hS) ?_)|fail
  (refine kZ ?_;exact F.ret rfl)
 |true=>
  rw[hs] at hS
  cases ht:isSub r t with
  |false=>
   rw[ht] at hT
   rw[if_neg (by simp)]
   by_cases hst:s=t
   ·subst hst;rw[hs] at ht;cases ht
   ·repeat' first|refine s1 ?_|(refine kR ?_;first|refine F.c (hS) ?_|refine F.c (hT) ?_)|fail
    (refine kZ ?_;exact F.ret rfl)
  |true=>
   rw[ht] at hT
   rw[if_pos ⟨rfl,rfl⟩]
   obtain⟨l1,l2,l3⟩:=sub_pair hs ht
   have hll:=pairL_len (metS r.p) s t
   repeat' first|refine s1 ?_|(refine kR ?_;first|refine F.c (hS) ?_|refine F.c (hT) ?_)|fail
   refine AW.open 8 2 (.inr rfl) ?_
   refine F.loop (σ:=Nat) [8,9,10,11,24,25,26,27,28,29,30,31,32,33,34,35,36,37,38,39,40,41,42,43,44,45,46,47] (fun k=>[(8,.sl 1 k 0 k),(9,.i k)]) (fun k=>[(1,.live false 2 (E true ((pairL (metS r.p) s t).take k)))]) (fun k=>k≤s.length) (fun k=>s.length-k) 0 ⟨rfl,rfl,trivial⟩ ⟨rfl,trivial⟩ (Nat.zero_le _) ?_
   rintro k k1
   have hp:((pairL (metS r.p) s t).take k).length=k:=by rw[List.length_take];omega
   by_cases hk:k<s.length
   ·have hkt:k<t.length:=by omega
    obtain⟨n1,n2,n3⟩:=l3 k hk
    have hA:=meetSpaces_a r.p _ _ n1 n2 n3
    have hts:=pairL_take (metS r.p) s t hk
    generalize metS r.p (s.getD k default) (t.getD k default)=G1 at hA hts
    repeat' first|refine s1 ?_|fail
    refine AW.draw 15 G.mixed (by kernel_rfl) ?_
    refine Pz (.p 0<|.l 1<|.p 2<|.p 3<|.p 4<|.l 5<|.p 6<|.p 7<|.p 8<|.l 9<|.a [(10,true,.p 11<|.p 12<|.p 13<|.o 14 true<|.o 15 false<|.p 16<|.n),(14,true,.o 10 true<|.p 11<|.p 12<|.p 13<|.o 15 false<|.p 16<|.n)]) ?_
    repeat' first|refine yS ?_|refine s1 ?_|refine yC ?_ ?_|exact trivial|(refine kR ?_;first|refine F.c (hA) ?_)|fail
    any_goals refine lf ?_
    all_goals
     repeat' first|refine s1 ?_|(refine kR ?_;first|refine F.a1 Spc (a:=G1) ?_)|fail
     exact⟨k+1,F.fit ⟨rfl,rfl,trivial⟩ ⟨obE (by rw[hts]),trivial⟩,by omega,by omega⟩
   ·obtain rfl:k=s.length:=by omega
    have e:(pairL (metS r.p) s t).take s.length=pairL (metS r.p) s t:=List.take_of_length_le (by omega)
    rw[e]
    clear hp e
    generalize pairL (metS r.p) s t=L at hll⊢
    rw[←hll]
    repeat' first|refine s1 ?_|fail
    (refine kZ ?_;exact F.ret rfl)
end Go.Proofs.YtjmjamhhppoimaaGreat.V
