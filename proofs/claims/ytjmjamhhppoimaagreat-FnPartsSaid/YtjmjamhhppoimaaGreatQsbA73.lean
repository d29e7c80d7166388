/- Texts that the proof needs: C2, A26, A73. -/
import Derived.Test.YtjmjamhhppoimaaGreatQsbB7
import Derived.Test.YtjmjamhhppoimaaGreatQsbA99
namespace Go.Proofs.YtjmjamhhppoimaaGreat.V
open V.Enc (enc)
open Go.RowKit G D
set_option linter.unusedVariables false
set_option linter.unusedSimpArgs false
set_option maxHeartbeats 4000000
set_option maxRecDepth 4000
attribute [local irreducible] AW ARg ARA ARet MRet ASil AC AM
theorem l3Identity_a(n:Nat)(hn:n≤1000):AC Tryz.prog 215 [.i (n:Int)] [.agg (enc true (tm n n idF))]:=by
 refine AC.go Tryz.func215 Tryz.ntmps215 rfl rfl fun w0 hw=>?_;simp[WfL,WfA,E_length,Enc.enc,In64] at hw
 have hZ:=l3ZeroT_a n n (by omega) (by omega)
 repeat' first|refine s1 ?_|refine q1 ?_|(refine kR ?_;first|refine F.c (hZ) ?_)|fail
 refine F.loop (σ:=Nat) [4,8,9,10,11,12,13,14,15,16,17,18,19,20] (fun i=>[(4,.i i)]) (fun i=>[(1,.live false 1 (E true (tab n n (idK i))))]) (fun i=>i≤n) (fun i=>n-i) 0 ⟨rfl,trivial⟩ ⟨obE (by rw[idK_zero]),trivial⟩ (Nat.zero_le _) ?_
 rintro i i1
 by_cases hi:i<n
 ·obtain⟨t1,t2⟩:=tab_in (i:=i) (j:=i) (r:=n) (c:=n) hi hi (by omega) (by omega)
  repeat' first|refine s1 ?_|refine q1 ?_|fail
  exact⟨i+1,F.fit ⟨rfl,trivial⟩ ⟨obE (by rw[idK_set]),trivial⟩,by omega,by omega⟩
 ·obtain rfl:i=n:=by omega
  rw[idK_all]
  repeat' first|refine s1 ?_|refine q1 ?_|fail
  (refine kZ ?_;exact F.ret rfl)
theorem wholeSub_a(r:Rep)(h:isRep r=true):AC Tryz.prog 56 [.agg (enc false r)] [.dt true 2 (E true (socK r 0)),.b true]:=by
 refine AC.go Tryz.func56 Tryz.ntmps56 rfl rfl fun w0 hw=>?_;simp[WfL,WfA,E_length,Enc.enc,In64] at hw
 have hR:=specIsRep_a r
 rw[h] at hR
 obtain⟨r1,r2,r3,r4⟩:=isRep_spec h
 obtain⟨c1,c2,c3,_⟩:=areDims_spec r2
 have h5:=okQ_spec c1
 have hp':=isF_pos r1
 repeat' first|refine s1 ?_|refine q1 ?_|fail
 refine AW.open 4 2 (.inr rfl) ?_
 refine F.loop (σ:=Nat) [4,5,7,8,9,10,11,12,13,14,15,16,17,18,19,20,21,22,23,24,25,26,27,28,29,30,31,32,33,34,35] (fun k=>[(4,.sl 1 k 0 k),(5,.i k)]) (fun k=>[(1,.live false 2 (E true ((r.d.take k).map fulS)))]) (fun k=>k≤r.d.length) (fun k=>r.d.length-k) 0 ⟨rfl,rfl,trivial⟩ ⟨rfl,trivial⟩ (Nat.zero_le _) ?_
 rintro k k1
 have hp:((r.d.take k).map fulS).length=k:=by simp;omega
 by_cases hk:k<r.d.length
 ·have hd:0≤r.d.getD k default∧r.d.getD k default≤4:=allIn_spec c3 hk
  have hI:=l3Identity_a (r.d.getD k default).toNat (by omega)
  have hB:=l5Basis_a r.p (r.d.getD k default).toNat (r.d.getD k default).toNat idF r1 (by omega) (by omega) (idF_bd hp'.1 _)
  rw[Int.toNat_of_nonneg hd.1] at hI
  rw[span_id r1] at hB
  have hts:=fulS_take hk
  have hfs:fulS (r.d.getD k default)=⟨r.d.getD k default,rowsL (r.d.getD k default).toNat (r.d.getD k default).toNat idF⟩:=rfl
  rw[hfs] at hts
  generalize (r.d.take k).map fulS=X at hts hp⊢
  generalize tm _ _ idF=T at hI hB
  generalize rowsL _ _ idF=RL at hB hts
  repeat' first|refine s1 ?_|refine q1 ?_|(refine kR ?_;first|refine F.c (hR) ?_)|fail
  refine AW.draw 17 G.mixed (by kernel_rfl) ?_
  refine Pz (.p 0<|.p 1<|.l 2<|.p 3<|.p 4<|.l 5<|.p 6<|.l 7<|.p 8<|.l 9<|.p 10<|.p 11<|.l 12<|.o 13 true<|.o 14 true<|.p 15<|.o 16 true<|.o 17 false<|.p 18<|.n) ?_
  repeat' first|refine ySQ ?_|refine s1 ?_|refine q1 ?_|(refine kR ?_;first|refine F.c (hI) ?_|refine F.c (hB) ?_|refine F.a1 Spc (a:=⟨r.d.getD k default,RL⟩) ?_)|fail
  all_goals
   refine lf ?_
   repeat' first|refine s1 ?_|refine q1 ?_|fail
   exact⟨k+1,F.fit ⟨rfl,rfl,trivial⟩ ⟨obE (by rw[hts]),trivial⟩,by omega,by omega⟩
 ·obtain rfl:k=r.d.length:=by omega
  clear hp
  rw[List.take_length,show r.d.map fulS=socK r 0 from rfl]
  have hL:=socK_len r 0
  generalize socK r 0=L at hL⊢
  rw[←hL]
  repeat' first|refine s1 ?_|refine q1 ?_|(refine kR ?_;first|refine F.c (hR) ?_)|fail
  (refine kZ ?_;exact F.ret rfl)
theorem wholeSub_no(r:Rep)(h:isRep r=false):AC Tryz.prog 56 [.agg (enc false r)] [.dt true 2 (E true ([]:List Spc)),.b false]:=by
 refine AC.go Tryz.func56 Tryz.ntmps56 rfl rfl fun w0 hw=>?_;simp[WfL,WfA,E_length,Enc.enc,In64] at hw
 have hR:=specIsRep_a r
 rw[h] at hR
 repeat' first|refine s1 ?_|refine q1 ?_|fail
 refine F.loop (σ:=Nat) [4,5,7,8,9,10,11,12,13,14,15,16,17,18,19,20,21,22,23,24,25,26,27,28,29,30,31,32,33,34,35] (fun k=>[(4,.em),(5,.i 0)]) (fun _=>[]) (fun _=>True) (fun _=>0) 0 ⟨rfl,rfl,trivial⟩ trivial trivial ?_
 rintro k _
 by_cases hd:0<r.d.length
 ·repeat' first|refine s1 ?_|refine q1 ?_|(refine kR ?_;first|refine F.c (hR) ?_)|fail
  (refine kZ ?_;exact F.ret rfl)
 ·repeat' first|refine s1 ?_|refine q1 ?_|(refine kR ?_;first|refine F.c (hR) ?_)|fail
  (refine kZ ?_;exact F.ret rfl)
end Go.Proofs.YtjmjamhhppoimaaGreat.V
namespace Go.Proofs.YtjmjamhhppoimaaGreat.V
open V.Enc (enc)
open Go.RowKit G D
set_option linter.unusedVariables false
set_option linter.unusedSimpArgs false
set_option maxHeartbeats 4000000
set_option maxRecDepth 4000
attribute [local irreducible] AW ARg ARA ARet MRet ASil AC AM ARI
theorem meetSpaces_a(p:Int)(a b:Spc)(ha:isSpc p a=true)(hb:isSpc p b=true)(hn:b.n=a.n):AC Tryz.prog 197 [.i p,.agg (enc false a),.agg (enc false b)] [.agg (enc true (metS p a b)),.b true]:=by
 refine AC.go Tryz.func197 Tryz.ntmps197 rfl rfl fun w0 hw=>?_;simp[WfL,WfA,E_length,Enc.enc,In64] at hw
 have hA:=specIsSpace_a p a
 have hB:=specIsSpace_a p b
 rw[ha] at hA
 rw[hb] at hB
 obtain⟨h1,h2,h3,h4⟩:=isSpc_spec ha
 obtain⟨_,_,g3,g4⟩:=isSpc_spec hb
 rw[hn] at g4
 have hp:=isF_pos h1
 have hv:=h4.app g4
 have hR:=l5Rows_a a.n.toNat (a.b++b.b) (by rw[List.length_append];omega) (by omega) hv.len
 rw[Int.toNat_of_nonneg h2.1] at hR
 have hTr:=l3Transpose_a (a.b++b.b).length a.n.toNat (vecF (a.b++b.b)) (by rw[List.length_append];omega) (by omega)
 have hK:=l4Kernel_a p a.n.toNat (a.b++b.b).length (fcF (a.b++b.b)) h1 (by omega) (by rw[List.length_append];omega) (fcF_bd hv)
 rw[show kerL p a.n.toNat (a.b++b.b).length (fcF (a.b++b.b))=metK p a b from rfl] at hK
 rw[show(fun i j=>vecF (a.b++b.b) j i)=fcF (a.b++b.b) from rfl] at hTr
 have hKl:=metK_le p a b
 have hKv:=metK_vec (a:=a) (b:=b) hp.1
 have hMt:=fun i hi=>metL_take (p:=p) (a:=a) (b:=b) (i:=i) hi
 have hMl:=metL_len p a b
 have hS:=l5Span_a p a.n.toNat (metL p a b) h1 (by omega) (by omega) (metL_vec hp.1)
 rw[Int.toNat_of_nonneg h2.1,show(⟨a.n,spanL p a.n.toNat (metL p a b)⟩:Spc)=metS p a b from rfl] at hS
 generalize metS p a b=MS at hS⊢
 generalize metL p a b=ML at hMt hMl hS
 generalize metK p a b=K at hK hKl hKv hMt hMl
 have hal:∀j,j<a.b.length→(a.b.getD j default).length=a.n.toNat:=h4.len
 have hab:∀j,j<a.b.length→∀t,t<a.n.toNat→0≤(a.b.getD j default).getD t default∧(a.b.getD j default).getD t default≤p-1:=fun j hj=>(h4 _ (gm hj)).2
 have hnn:a.n=(a.n.toNat:Int):=(Int.toNat_of_nonneg h2.1).symm
 rw[List.length_append] at hKv
 generalize hT:tm a.n.toNat (a.b++b.b).length (fcF (a.b++b.b))=T at hTr hK
 generalize hT0:tm (a.b++b.b).length a.n.toNat (vecF (a.b++b.b))=T0 at hR hTr
 generalize hN:a.n.toNat=n at*
 repeat' first|refine s1 ?_|refine q1 ?_|(refine kR ?_;first|refine F.c (hA) ?_|refine F.c (hB) ?_)|fail
 refine AW.freezeP (α:=Spc) (oo:=false) a 4 rfl rfl ?_
 refine AW.freezeP (α:=Spc) (oo:=false) b 5 rfl rfl ?_
 refine AW.drawI G.mixed (by kernel_rfl) (by rfl) ?_
 intro T w1 MP1 I0
 refine Pz (.p 0<|.l 1<|.p 3<|.l 4<|.p 6<|.l 7<|.a [(2,false,.a [(5,false,.a [(8,false,.a [(9,false,.a [(10,false,.o 11 false<|.o 12 false<|.n),(11,false,.o 10 false<|.o 12 false<|.n)]),(11,false,.o 9 false<|.o 10 false<|.o 12 false<|.n)]),(11,false,.o 8 false<|.o 9 false<|.o 10 false<|.o 12 false<|.n)]),(11,false,.o 5 false<|.o 8 false<|.o 9 false<|.o 10 false<|.o 12 false<|.n)]),(11,false,.o 2 false<|.o 5 false<|.o 8 false<|.o 9 false<|.o 10 false<|.o 12 false<|.n)]) ?_
 repeat' first|(refine yU (i:=5) ?_;first|refine s1 ?_|refine F.aLN (List Int) (oo:=false) ?_)|(refine yU (i:=8) ?_;first|refine s1 ?_|refine F.aL (List Int) (oo:=false) ?_)|refine xSQ ?_|refine s1 ?_|refine q1 ?_|refine xC ?_ ?_|exact trivial|(refine kR ?_;first|refine F.c (hR) ?_|refine F.c (hTr) ?_)|fail
 any_goals refine lf ?_
 all_goals
  repeat' first|refine s1 ?_|refine q1 ?_|(refine kR ?_;first|refine F.c (hK) ?_)|fail
  refine AW.lend (o:=7) rfl ?_
  refine AW.open 10 1 (.inr rfl) ?_
  refine F.loop (σ:=Nat) [10,11,12,13,14,48,49,50,51,52,53,54,55,56,57,58,59,60,61,62,63,64,65,66,67,68,69,70,71,72,73,74,75,76,77,78,79,80,81,82,83,84,85,86,87,88,89,90,91,92,93,94,95,96,97,98,99] (fun i=>[(10,.sl 8 i 0 i),(11,.i i)]) (fun i=>[(8,.live false 1 (E true (ML.take i)))]) (fun i=>i≤K.length) (fun i=>K.length-i) 0 ⟨rfl,rfl,trivial⟩ ⟨rfl,trivial⟩ (Nat.zero_le _) ?_
  rintro i i1
  have hp2:(ML.take i).length=i:=by rw[List.length_take];omega
  by_cases hi:i<K.length
  ·have hts:=hMt i hi
   have hkv:=hKv _ (gm (d:=default) hi)
   repeat' first|refine s1 ?_|refine q1 ?_|(refine kR ?_;first|refine F.mk (m:=n) Int rfl rfl hnn (mkB (by omega)) (by omega) rfl rfl ?_)|fail
   rw[show List.replicate n (0:Int)=cmbV p n a.b (K.getD i default) 0 from rfl]
   refine F.loop (σ:=Nat) [13,14,57,58,59,60,61,62,63,64,65,66,67,68,69,70,71,72,73,74,75,76,77,78,79,80,81,82,83,84,85,86,87,88,89,90,91,92,93,94,95] (fun j=>[(13,.i j)]) (fun j=>[(9,.live false 1 (E true (cmbV p n a.b (K.getD i default) j)))]) (fun j=>j≤a.b.length) (fun j=>a.b.length-j) 0 ⟨rfl,trivial⟩ ⟨rfl,trivial⟩ (Nat.zero_le _) ?_
   rintro j j1
   have hcl:=cmbV_len p n a.b (K.getD i default) j
   by_cases hj:j<a.b.length
   ·have hst:cmbV p n a.b (K.getD i default) (j+1)=addK p ((K.getD i default).getD j default) 0 (a.b.getD j default) (cmbV p n a.b (K.getD i default) j) n:=rfl
    have hcb:=fun t ht=>cmbV_bd (p:=p) (n:=n) (l:=a.b) (k:=K.getD i default) hp.1 j t ht
    have hkj:=hkv.2 j (by omega)
    have hlj:=hal j hj
    have hbj:=hab j hj
    have hki:j<(K.getD (0+i) default).length:=by rw[Nat.zero_add,hkv.1];omega
    rw[←Nat.zero_add i] at hkj
    generalize hX:cmbV p n a.b (K.getD i default) j=X at hcl hst hcb⊢
    repeat' first|refine s1 ?_|refine q1 ?_|fail
    refine F.loop (σ:=Nat) [14,64,65,66,67,68,69,70,71,72,73,74,75,76,77,78,79,80,81,82,83,84,85,86,87,88,89,90,91,92,93,94,95] (fun t=>[(14,.i t)]) (fun t=>[(9,.live false 1 (E true (addK p ((K.getD (0+i) default).getD j default) 0 (a.b.getD j default) X t)))]) (fun t=>t≤n) (fun t=>n-t) 0 ⟨rfl,trivial⟩ ⟨obE (by rw[addK_zero]),trivial⟩ (Nat.zero_le _) ?_
    rintro t t1
    have hkl:=addK_len p ((K.getD (0+i) default).getD j default) 0 (a.b.getD j default) X t
    by_cases ht:t<n
    ·have e1:=addK_at p ((K.getD (0+i) default).getD j default) 0 (a.b.getD j default) X (j:=t) (by omega)
     have e2:=addK_set p ((K.getD (0+i) default).getD j default) 0 (a.b.getD j default) X (j:=t) (by omega)
     have b1:=hcb t (by omega)
     have b2:=hbj t ht
     have b3:0≤(K.getD (0+i) default).getD j default*(a.b.getD j default).getD t default∧(K.getD (0+i) default).getD j default*(a.b.getD j default).getD t default≤1024*1024:=⟨Int.mul_nonneg hkj.1 b2.1,Int.mul_le_mul (by omega) (by omega) b2.1 (by omega)⟩
     have htb:t<(a.b.getD j default).length:=by omega
     rw[Nat.zero_add t] at e1 e2
     generalize addK p ((K.getD (0+i) default).getD j default) 0 (a.b.getD j default) X t=L at hkl e1 e2⊢
     rw[←e1] at b1 e2
     have hi1:In64 ((K.getD (0+i) default).getD j default*(a.b.getD j default).getD t default):=by unfold In64;omega
     have hi2:In64 (L.getD (0+t) default+(K.getD (0+i) default).getD j default*(a.b.getD j default).getD t default):=by rw[Nat.zero_add];unfold In64;omega
     have hM:=l2Mod_a p (L.getD (0+t) default+(K.getD (0+i) default).getD j default*(a.b.getD j default).getD t default) (by omega)
     repeat' first|refine s1 ?_|refine q1 ?_|fail
     refine AW.draw 26 G.mixed (by kernel_rfl) ?_
     refine Pz (.p 0<|.p 1<|.p 2<|.p 3<|.p 4<|.p 5<|.l 6<|.p 7<|.p 8<|.p 9<|.l 10<|.p 11<|.p 12<|.l 13<|.p 14<|.l 15<|.p 16<|.p 17<|.l 18<|.p 19<|.p 20<|.l 21<|.p 22<|.p 23<|.o 24 true<|.p 25<|.o 26 false<|.n) ?_
     repeat' first|refine ySQ ?_|refine s1 ?_|refine q1 ?_|(refine kR ?_;first|refine F.c (hM) ?_)|fail
     any_goals refine lf ?_
     repeat' first|refine s1 ?_|refine q1 ?_|fail
     exact⟨t+1,F.fit ⟨rfl,trivial⟩ ⟨obE (by rw[Nat.zero_add t,e2]),trivial⟩,by omega,by omega⟩
    ·obtain rfl:t=n:=by omega
     repeat' first|refine s1 ?_|refine q1 ?_|fail
     exact⟨j+1,F.fit ⟨rfl,trivial⟩ ⟨obE (by rw[hst,Nat.zero_add i]),trivial⟩,by omega,by omega⟩
   ·obtain rfl:j=a.b.length:=by omega
    generalize cmbV p n a.b (K.getD i default) a.b.length=X at hcl hts⊢
    repeat' first|refine s1 ?_|refine q1 ?_|(refine kR ?_;first|refine F.a1 (List Int) (a:=X) ?_)|fail
    exact⟨i+1,F.fit ⟨rfl,rfl,trivial⟩ ⟨obE (by rw[hts]),trivial⟩,by omega,by omega⟩
  ·obtain rfl:i=K.length:=by omega
   have e:ML.take K.length=ML:=List.take_of_length_le (by omega)
   rw[e]
   rw[←hMl]
   clear hp2 e
   repeat' first|refine s1 ?_|refine q1 ?_|(refine kR ?_;first|refine F.c (hS) ?_)|fail
   (refine kZ ?_;exact F.ret rfl)
end Go.Proofs.YtjmjamhhppoimaaGreat.V
namespace Go.Proofs.YtjmjamhhppoimaaGreat.V
open V.Enc (enc)
open Go.RowKit G D
set_option linter.unusedVariables false
set_option linter.unusedSimpArgs false
set_option maxHeartbeats 4000000
set_option maxRecDepth 4000
attribute [local irreducible] AW ARg ARA ARet MRet ASil AC AM
theorem implMor1_a(m:Mat):AC Tryz.prog 152 [.agg (enc false m)] [.b (!isZ m)]:=by
 refine AC.go Tryz.func152 Tryz.ntmps152 rfl rfl fun w0 hw=>?_;simp[WfL,WfA,E_length,Enc.enc,In64] at hw
 have hZ:=isZero_a m
 repeat' first|refine s1 ?_|(refine kR ?_;first|refine F.c (hZ) ?_)|fail
 (refine kZ ?_;exact F.ret rfl)
theorem implIsMorphism_a(a b:Rep)(f:List Mat):AC Tryz.prog 15 [.agg (enc false a),.agg (enc false b),ar false f] [.b (isMor a b f)]:=by
 refine AC.go Tryz.func15 Tryz.ntmps15 rfl rfl fun w0 hw=>?_;simp[WfL,WfA,E_length,Enc.enc,In64] at hw
 have hA:=implAreMatrices_a a b f
 unfold isMor
 cases ha:areM a b f with
 |false=>
  rw[ha] at hA
  repeat' first|refine s1 ?_|(refine kR ?_;first|refine F.c (hA) ?_)|fail
  refine F.ret ?_
  rfl
 |true=>
  rw[ha] at hA
  have hC:=coboundary_a a b f ha
  have hF:=ContainsFuncM_a (cobL a b f) 152 [] (fun m=>!isZ m) (fun _=>.nil) (fun x _=>implMor1_a x)
  have he:((List.range a.q.fr.length).all fun i=>sameM (arX a b f i) (arY a b f i))=!((cobL a b f).any fun m=>!isZ m):=by
   rw[←cobL_all ha,List.not_any_eq_all_not];simp
  rw[he]
  generalize ((cobL a b f).any fun m=>!isZ m)=Y at hF⊢
  generalize cobL a b f=L at hC hF
  repeat' first|refine s1 ?_|(refine kR ?_;first|refine F.c (hA) ?_|refine F.c (hC) ?_|refine F.c (hF) ?_)|fail
  refine F.ret ?_
  simp
def sameL(f g:List Mat):Bool:=decide (f.length=g.length)&&(List.range f.length).all fun v=>sameM (f.getD v default) (g.getD v default)
theorem specEqualMorphisms_a(f g:List Mat):AC Tryz.prog 12 [ar false f,ar false g] [.b (sameL f g)]:=by
 refine AC.go Tryz.func12 Tryz.ntmps12 rfl rfl fun w0 hw=>?_;simp[WfL,WfA,E_length,Enc.enc,In64] at hw
 by_cases hl:f.length=g.length
 ·repeat' first|refine s1 ?_|fail
  refine F.loop (σ:=Nat) [4,5,11,12,13,14,15,16,17,18,19,20,21,22,23,24,25,26] (fun k=>[(5,.i k)]) (fun _=>[]) (fun k=>k≤f.length∧∀j,j<k→sameM (f.getD j default) (g.getD j default)=true) (fun k=>f.length-k) 0 ⟨rfl,trivial⟩ trivial ⟨Nat.zero_le _,fun j hj=>by omega⟩ ?_
  rintro k ⟨g1,g2⟩
  by_cases hlt:k<f.length
  ·have hE:=specEqualMatrices_a (f.getD k default) (g.getD k default)
   cases hs:sameM (f.getD k default) (g.getD k default) with
   |true=>
    rw[hs] at hE
    repeat' first|refine s1 ?_|fail
    refine AW.draw 10 G.mixed (by kernel_rfl) ?_
    refine Pz (.p 0<|.p 1<|.p 2<|.l 3<|.p 4<|.p 5<|.p 6<|.l 7<|.o 8 true<|.p 9<|.n) ?_
    repeat' first|refine yS ?_|refine s1 ?_|(refine kR ?_;first|refine F.c (hE) ?_)|fail
    any_goals refine lf ?_
    repeat' first|refine s1 ?_|fail
    exact⟨k+1,F.fit ⟨rfl,trivial⟩ trivial,⟨by omega,snocP g2 hs⟩,by omega⟩
   |false=>
    rw[hs] at hE
    repeat' first|refine s1 ?_|fail
    refine AW.draw 10 G.mixed (by kernel_rfl) ?_
    refine Pz (.p 0<|.p 1<|.p 2<|.l 3<|.p 4<|.p 5<|.p 6<|.l 7<|.o 8 true<|.p 9<|.n) ?_
    repeat' first|refine yS ?_|refine s1 ?_|(refine kR ?_;first|refine F.c (hE) ?_)|fail
    any_goals refine lf ?_
    repeat' first|refine s1 ?_|fail
    refine F.ret ?_
    rw[sameL,all_no hlt hs,Bool.and_false]
  ·obtain rfl:k=f.length:=by omega
   repeat' first|refine s1 ?_|fail
   refine F.ret ?_
   rw[sameL,decide_eq_true hl,all_yes g2];rfl
 ·repeat' first|refine s1 ?_|fail
  refine F.ret ?_
  rw[sameL,decide_eq_false hl];rfl
theorem isMor_are{a b:Rep}{f:List Mat}(h:isMor a b f=true):areM a b f=true:=by
 simp only[isMor,Bool.and_eq_true] at h;exact h.1
def kerLs(p:Int)(f:List Mat):List Spc:=f.map (kerS p)
def imgLs(p:Int)(f:List Mat):List Spc:=f.map (imgS p)
theorem kernelSub_a(p:Int)(f:List Mat)(hf:∀v,v<f.length→isMat p (f.getD v default)=true)(hl:f.length≤1000):AC Tryz.prog 314 [.i p,ar false f] [.dt true 2 (E true (kerLs p f))]:=by
 refine AC.go Tryz.func314 Tryz.ntmps314 rfl rfl fun w0 hw=>?_;simp[WfL,WfA,E_length,Enc.enc,In64] at hw
 have hll:(kerLs p f).length=f.length:=by simp[kerLs]
 repeat' first|refine s1 ?_|fail
 refine AW.open 5 2 (.inl rfl) ?_
 refine F.loop (σ:=Nat) [5,7,10,11,12,13,14,15,16,17,18,19,20,21,22,23,24] (fun k=>[(5,.sl 0 k 0 k),(10,.i k)]) (fun k=>[(0,.live false 2 (E true ((kerLs p f).take k)))]) (fun k=>k≤f.length) (fun k=>f.length-k) 0 ⟨rfl,rfl,trivial⟩ ⟨rfl,trivial⟩ (Nat.zero_le _) ?_
 rintro k k1
 have hp:((kerLs p f).take k).length=k:=by rw[List.length_take];omega
 by_cases hk:k<f.length
 ·have hm:=hf k hk
  have hKe:=matKer_a hm
  have hSp:=kerSpan_a hm
  have hts:(kerLs p f).take (k+1)=(kerLs p f).take k++[kerS p (f.getD k default)]:=map_take _ hk
  generalize kerS p (f.getD k default)=KS at hSp hts
  generalize kerL _ _ _ _=KL at hKe hSp
  repeat' first|refine s1 ?_|fail
  refine AW.draw 9 G.mixed (by kernel_rfl) ?_
  refine Pz (.p 0<|.p 1<|.p 2<|.l 3<|.p 4<|.l 5<|.o 6 true<|.o 7 true<|.o 8 true<|.o 9 false<|.p 10<|.n) ?_
  repeat' first|refine yS ?_|refine s1 ?_|(refine kR ?_;first|refine F.c (hKe) ?_|refine F.c (hSp) ?_|refine F.a1 Spc (a:=KS) ?_)|fail
  all_goals
   refine lf ?_
   repeat' first|refine s1 ?_|fail
   exact⟨k+1,F.fit ⟨rfl,rfl,trivial⟩ ⟨obE (by rw[hts]),trivial⟩,by omega,by omega⟩
 ·obtain rfl:k=f.length:=by omega
  have e:(kerLs p f).take f.length=kerLs p f:=List.take_of_length_le (by omega)
  rw[e]
  clear hp e
  generalize kerLs p f=L at hll⊢
  rw[←hll]
  repeat' first|refine s1 ?_|fail
  (refine kZ ?_;exact F.ret rfl)
theorem imageSub_a(p:Int)(f:List Mat)(hf:∀v,v<f.length→isMat p (f.getD v default)=true)(hl:f.length≤1000):AC Tryz.prog 313 [.i p,ar false f] [.dt true 2 (E true (imgLs p f))]:=by
 refine AC.go Tryz.func313 Tryz.ntmps313 rfl rfl fun w0 hw=>?_;simp[WfL,WfA,E_length,Enc.enc,In64] at hw
 have hll:(imgLs p f).length=f.length:=by simp[imgLs]
 repeat' first|refine s1 ?_|fail
 refine AW.open 5 2 (.inl rfl) ?_
 refine F.loop (σ:=Nat) [5,7,10,11,12,13,14,15,16,17,18,19,20,21,22,23] (fun k=>[(5,.sl 0 k 0 k),(10,.i k)]) (fun k=>[(0,.live false 2 (E true ((imgLs p f).take k)))]) (fun k=>k≤f.length) (fun k=>f.length-k) 0 ⟨rfl,rfl,trivial⟩ ⟨rfl,trivial⟩ (Nat.zero_le _) ?_
 rintro k k1
 have hp:((imgLs p f).take k).length=k:=by rw[List.length_take];omega
 by_cases hk:k<f.length
 ·have hm:=hf k hk
  have hCo:=matCols_a hm
  have hSp:=imgSpan_a hm
  have hts:(imgLs p f).take (k+1)=(imgLs p f).take k++[imgS p (f.getD k default)]:=map_take _ hk
  generalize imgS p (f.getD k default)=IS at hSp hts
  generalize hRL:(rowsL (f.getD k default).c.toNat (f.getD k default).r.toNat fun k_1 i=>ent (f.getD k default) i k_1)=RL at hCo hSp
  repeat' first|refine s1 ?_|fail
  refine AW.draw 8 G.mixed (by kernel_rfl) ?_
  refine Pz (.p 0<|.p 1<|.p 2<|.l 3<|.l 4<|.o 5 true<|.o 6 true<|.o 7 true<|.o 8 false<|.p 9<|.n) ?_
  repeat' first|refine yS ?_|refine s1 ?_|(refine kR ?_;first|refine F.c (hCo) ?_|refine F.c (hSp) ?_|refine F.a1 Spc (a:=IS) ?_)|fail
  all_goals
   refine lf ?_
   repeat' first|refine s1 ?_|fail
   exact⟨k+1,F.fit ⟨rfl,rfl,trivial⟩ ⟨obE (by rw[hts]),trivial⟩,by omega,by omega⟩
 ·obtain rfl:k=f.length:=by omega
  have e:(imgLs p f).take f.length=imgLs p f:=List.take_of_length_le (by omega)
  rw[e]
  clear hp e
  generalize imgLs p f=L at hll⊢
  rw[←hll]
  repeat' first|refine s1 ?_|fail
  (refine kZ ?_;exact F.ret rfl)
theorem mor_ok{a b:Rep}{f:List Mat}(h:isMor a b f=true):f.length=a.d.length∧f.length≤5∧a.p=b.p∧b.d.length=a.d.length∧∀v,v<f.length→isMat a.p (f.getD v default)=true∧(f.getD v default).c=a.d.getD v default∧(f.getD v default).r=b.d.getD v default:=by
 obtain⟨a1,a2,a3⟩:=areM_spec (isMor_are h)
 have hh:=Fits.of a1
 have h5:=okQ_spec hh.ok
 have hda:=hh.da
 have hdb:=hh.db
 refine⟨by omega,by omega,hh.p,by omega,fun v hv=>?_⟩
 have f1:=a3 v hv
 simp only[fitV,Bool.and_eq_true,decide_eq_true_eq] at f1
 exact⟨f1.1.1,f1.1.2,f1.2⟩
end Go.Proofs.YtjmjamhhppoimaaGreat.V
