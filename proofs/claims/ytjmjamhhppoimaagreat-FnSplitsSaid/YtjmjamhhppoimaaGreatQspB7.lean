/- Texts that the proof needs: A72, A64, B7. -/
import Derived.Test.YtjmjamhhppoimaaGreatQspA71
namespace Go.Proofs.YtjmjamhhppoimaaGreat.V
open V.Enc (enc)
open Go.RowKit G D
set_option linter.unusedVariables false
set_option linter.unusedSimpArgs false
set_option maxHeartbeats 4000000
set_option maxRecDepth 4000
attribute [local irreducible] AW ARg ARA ARet MRet ASil AC AM ARI
theorem isVec_of{p:Int}{v:List Int}(hF:isF p=true)(hl:v.length≤64)(hb:∀j,j<v.length→0≤v.getD j default∧v.getD j default≤p-1):isVec p v=true:=by
 simp only[isVec,Bool.and_eq_true,decide_eq_true_eq]
 exact⟨⟨hF,hl⟩,allIn_all hb⟩
theorem specApply_a{p:Int}{m:Mat}{v:List Int}(hm:isMat p m=true)(hn:v.length=m.c.toNat)(hb:∀j,j<m.c.toNat→0≤v.getD j default∧v.getD j default≤p-1):AC Tryz.prog 138 [.i p,.agg (enc false m),ar false v] [.dt true 1 (E true (appV p m v)),.b true]:=by
 refine AC.go Tryz.func138 Tryz.ntmps138 rfl rfl fun w0 hw=>?_;simp[WfL,WfA,E_length,Enc.enc,In64] at hw
 obtain⟨h0,h1,h2,h3,h4⟩:=isMat_spec hm
 have hM:=specIsMatrix_a p m
 rw[hm] at hM
 have hV:=specIsVector_a p v
 rw[isVec_of h0 (by omega) (fun j hj=>hb j (by omega))] at hV
 have hT:=l3Multiply_a p m.r.toNat m.c.toNat 1 (ent m) (fcF [v]) h0 (by omega) (by omega) (by omega) (ent_bd hm) (fun i hi j hj=>by
  obtain rfl:j=0:=by omega
  exact hb i hi)
 rw[isMat_tm hm] at hT
 have e:tm m.r.toNat 1 (mulF p (ent m) (fcF [v]) m.c.toNat)=⟨(m.r.toNat:Int),1,appV p m v⟩:=by
  unfold tm appV
  rw[ent_fc];rfl
 have e0:tm m.c.toNat 1 (fcF [v])=⟨(v.length:Int),1,v⟩:=by
  unfold tm
  rw[tab_one,hn]
  congr 1
  exact rowL_of hn
 rw[e,e0] at hT
 have hcn:(v.length:Int)=m.c:=by omega
 generalize appV p m v=X at hT⊢
 repeat' first|refine s1 ?_|refine q1 ?_|(refine kR ?_;first|refine F.c (hM) ?_|refine F.c (hV) ?_)|fail
 refine AW.draw 12 G.mixed (by kernel_rfl) ?_
 refine Pz (.p 0<|.l 1<|.p 2<|.p 3<|.p 5<|.o 4 true<|.o 6 true<|.p 7<|.o 8 true<|.p 9<|.p 10<|.p 11<|.n) ?_
 repeat' first|refine yP (i:=9) ?_ (hs:=by exact(A.fldG ⟨Tryz.underlying112⟩ rfl (inferInstance:One Tryz.prog 24) rfl rfl))|(refine yU (i:=6) ?_;first|refine s1 ?_|refine F.aLN Int (oo:=true) ?_)|refine ySQ ?_|refine s1 ?_|refine q1 ?_|(refine kR ?_;first|refine F.c (hT) ?_)|fail
 any_goals refine lf ?_
 all_goals
  repeat' first|refine s1 ?_|refine q1 ?_|fail
  (refine kZ ?_;exact F.ret rfl)
theorem specImageOf_a{p:Int}{m:Mat}{s:Spc}(hm:isMat p m=true)(hs:isSpc p s=true)(hn:s.n=m.c):AC Tryz.prog 188 [.i p,.agg (enc false m),.agg (enc false s)] [.agg (enc true (imgSp p m s)),.b true]:=by
 refine AC.go Tryz.func188 Tryz.ntmps188 rfl rfl fun w0 hw=>?_;simp[WfL,WfA,E_length,Enc.enc,In64] at hw
 have hM:=specIsMatrix_a p m
 rw[hm] at hM
 have hSp:=specIsSpace_a p s
 rw[hs] at hSp
 obtain⟨h0,h1,h2,h3,h4⟩:=isMat_spec hm
 obtain⟨_,_,g3,g4⟩:=isSpc_spec hs
 have hp:=isF_pos h0
 have hll:=imgL_len p m s
 have hS:=l5Span_a p m.r.toNat (imgL p m s) h0 (by omega) (by omega) (imgL_vec (by omega) m s)
 rw[Int.toNat_of_nonneg h1.1,show(⟨m.r,spanL p m.r.toNat (imgL p m s)⟩:Spc)=imgSp p m s from rfl] at hS
 have hAp:=fun k (hk:k<s.b.length)=>specApply_a hm (v:=s.b.getD k default) (by rw[(g4 _ (gm hk)).1,hn]) (fun j hj=>(g4 _ (gm hk)).2 j (by rw[hn];exact hj))
 have hIt:=fun k (hk:k<s.b.length)=>imgL_take p m s hk
 generalize imgSp p m s=IM at hS⊢
 generalize imgL p m s=L at hll hS hIt
 repeat' first|refine s1 ?_|refine q1 ?_|(refine kR ?_;first|refine F.c (hM) ?_|refine F.c (hSp) ?_)|fail
 refine AW.open 8 1 (.inr rfl) ?_
 refine F.loop (σ:=Nat) [8,9,10,11,31,32,33,34,35,36,37,38,39,40,41,42,43,44,45,46,47,48,49,50,51,52] (fun k=>[(8,.sl 3 k 0 k),(9,.i k)]) (fun k=>[(3,.live false 1 (E true (L.take k)))]) (fun k=>k≤s.b.length) (fun k=>s.b.length-k) 0 ⟨rfl,rfl,trivial⟩ ⟨rfl,trivial⟩ (Nat.zero_le _) ?_
 rintro k k1
 have hp2:(L.take k).length=k:=by rw[List.length_take];omega
 by_cases hk:k<s.b.length
 ·have hA:=hAp k hk
  have hts:=hIt k hk
  generalize appV p m (s.b.getD k default)=X at hA hts
  repeat' first|refine s1 ?_|refine q1 ?_|fail
  refine AW.draw 13 G.mixed (by kernel_rfl) ?_
  refine Pz (.p 0<|.l 1<|.p 2<|.l 3<|.p 4<|.p 5<|.l 6<|.o 7 true<|.p 8<|.p 9<|.p 10<|.p 11<|.p 12<|.n) ?_
  repeat' first|refine ySQ ?_|refine s1 ?_|refine q1 ?_|(refine kR ?_;first|refine F.c (hA) ?_)|fail
  any_goals refine lf ?_
  all_goals
   repeat' first|refine s1 ?_|refine q1 ?_|(refine kR ?_;first|refine F.a1 (List Int) (a:=X) ?_)|fail
   exact⟨k+1,F.fit ⟨rfl,rfl,trivial⟩ ⟨obE (by rw[hts]),trivial⟩,by omega,by omega⟩
 ·obtain rfl:k=s.b.length:=by omega
  have e:L.take s.b.length=L:=List.take_of_length_le (by omega)
  rw[e]
  rw[←hll]
  clear hp2 e
  repeat' first|refine s1 ?_|refine q1 ?_|(refine kR ?_;first|refine F.c (hS) ?_)|fail
  (refine kZ ?_;exact F.ret rfl)
theorem specIsWithin_a(p:Int)(a b:Spc)(ha:isSpc p a=true)(hb:isSpc p b=true)(hn:b.n=a.n):AC Tryz.prog 189 [.i p,.agg (enc false a),.agg (enc false b)] [.b (inS p a b)]:=by
 refine AC.go Tryz.func189 Tryz.ntmps189 rfl rfl fun w0 hw=>?_;simp[WfL,WfA,E_length,Enc.enc,In64] at hw
 have hA:=addSpaces_a p a b ha hb hn
 have he:=within_eq ha hb hn
 generalize inS p a b=Y at he⊢
 generalize addS p a b=X at hA he
 have he2:decide ((X.b.length:Int)=(b.b.length:Int))=Y:=by
  rw[←he]
  exact decide_eq_decide.2 (by omega)
 repeat' first|refine s1 ?_|refine q1 ?_|(refine kR ?_;first|refine F.c (hA) ?_)|fail
 refine F.ret ?_
 rw[←he2]
theorem specIsSub_a(r:Rep)(s:List Spc):AC Tryz.prog 38 [.agg (enc false r),ar false s] [.b (isSub r s)]:=by
 refine AC.go Tryz.func38 Tryz.ntmps38 rfl rfl fun w0 hw=>?_;simp[WfL,WfA,E_length,Enc.enc,In64] at hw
 have hR:=specIsRep_a r
 unfold isSub
 cases hr:isRep r with
 |false=>
  rw[hr] at hR
  repeat' first|refine s1 ?_|refine q1 ?_|(refine kR ?_;first|refine F.c (hR) ?_)|fail
  refine F.ret ?_
  rfl
 |true=>
  rw[hr] at hR
  rw[Bool.true_and]
  obtain⟨r1,r2,r3,r4⟩:=isRep_spec hr
  obtain⟨c1,c2,c3,_⟩:=areDims_spec r2
  have h5:=okQ_spec c1
  by_cases hl:s.length=r.d.length
  ·rw[decide_eq_true hl,Bool.true_and]
   repeat' first|refine s1 ?_|refine q1 ?_|(refine kR ?_;first|refine F.c (hR) ?_)|fail
   refine F.loop (σ:=Nat) [4,5,20,21,22,23,24,25,26,27,28,29,30,31,32,33,34,35,36,37,38,39,40,41,42,43,44,45,46] (fun k=>[(5,.i k)]) (fun _=>[]) (fun k=>k≤s.length∧∀j,j<k→spcAt r s j=true) (fun k=>s.length-k) 0 ⟨rfl,trivial⟩ trivial ⟨Nat.zero_le _,fun j hj=>by omega⟩ ?_
   rintro k ⟨k1,k2⟩
   by_cases hk:k<s.length
   ·have hS:=specIsSpace_a r.p (s.getD k default)
    have hsp:spcAt r s k=(isSpc r.p (s.getD k default)&&decide ((s.getD k default).n=r.d.getD k default)):=rfl
    have hkd:k<r.d.length:=by omega
    cases hx:isSpc r.p (s.getD k default) with
    |false=>
     rw[hx] at hS hsp
     repeat' first|refine s1 ?_|refine q1 ?_|fail
     refine AW.draw 21 G.mixed (by kernel_rfl) ?_
     refine Pz (.p 0<|.l 1<|.p 2<|.p 3<|.p 4<|.l 5<|.o 6 true<|.p 7<|.p 8<|.g 34<|.k 9<|.k 10<|.k 11<|.k 12<|.j 13<|.k 14<|.j 15<|.k 16<|.k 17<|.j 18<|.k 19<|.p 20<|.n) ?_
     repeat' first|refine ySQ ?_|refine s1 ?_|refine q1 ?_|(refine yD ?_ ?_<;>intro hc<;>(try simp only[decide_eq_true_eq,decide_eq_false_iff_not,Bool.not_eq_true',Bool.not_eq_false'] at hc))|refine yG ?_|(refine kR ?_;first|refine F.c (hS) ?_)|fail
     any_goals refine lf ?_
     all_goals
      repeat' first|refine s1 ?_|refine q1 ?_|fail
      refine F.ret ?_
      rw[all_no hk hsp];rfl
    |true=>
     rw[hx] at hS hsp
     by_cases hd:(s.getD k default).n=r.d.getD k default
     ·repeat' first|refine s1 ?_|refine q1 ?_|fail
      refine AW.draw 21 G.mixed (by kernel_rfl) ?_
      refine Pz (.p 0<|.l 1<|.p 2<|.p 3<|.p 4<|.l 5<|.o 6 true<|.p 7<|.p 8<|.g 34<|.k 9<|.k 10<|.k 11<|.k 12<|.j 13<|.k 14<|.j 15<|.k 16<|.k 17<|.j 18<|.k 19<|.p 20<|.n) ?_
      repeat' first|refine ySQ ?_|refine s1 ?_|refine q1 ?_|(refine yD ?_ ?_<;>intro hc<;>(try simp only[decide_eq_true_eq,decide_eq_false_iff_not,Bool.not_eq_true',Bool.not_eq_false'] at hc))|refine yG ?_|(refine kR ?_;first|refine F.c (hS) ?_)|fail
      any_goals refine lf ?_
      all_goals
       repeat' first|refine s1 ?_|refine q1 ?_|fail
       exact⟨k+1,F.fit ⟨rfl,trivial⟩ trivial,⟨by omega,snocP k2 (by rw[hsp,decide_eq_true hd];rfl)⟩,by omega⟩
     ·repeat' first|refine s1 ?_|refine q1 ?_|fail
      refine AW.draw 21 G.mixed (by kernel_rfl) ?_
      refine Pz (.p 0<|.l 1<|.p 2<|.p 3<|.p 4<|.l 5<|.o 6 true<|.p 7<|.p 8<|.g 34<|.k 9<|.k 10<|.k 11<|.k 12<|.j 13<|.k 14<|.j 15<|.k 16<|.k 17<|.j 18<|.k 19<|.p 20<|.n) ?_
      repeat' first|refine ySQ ?_|refine s1 ?_|refine q1 ?_|(refine yD ?_ ?_<;>intro hc<;>(try simp only[decide_eq_true_eq,decide_eq_false_iff_not,Bool.not_eq_true',Bool.not_eq_false'] at hc))|refine yG ?_|(refine kR ?_;first|refine F.c (hS) ?_)|fail
      any_goals refine lf ?_
      all_goals
       repeat' first|refine s1 ?_|refine q1 ?_|fail
       refine F.ret ?_
       rw[all_no hk (by rw[hsp,decide_eq_false hd];rfl)];rfl
   ·obtain rfl:k=s.length:=by omega
    rw[all_yes k2,Bool.true_and]
    repeat' first|refine s1 ?_|refine q1 ?_|fail
    refine F.loop (σ:=Nat) [4,6,7,8,47,48,49,50,51,52,53,54,55,56,57,58,59,60,61,62,63,64,65,66,67,68,69,70,71,72,73,74,75,76,77,78,79,80,81,82,83,84,85,86,87] (fun k=>[(6,.i k)]) (fun _=>[]) (fun k=>k≤r.m.length∧∀j,j<k→subAt r s j=true) (fun k=>r.m.length-k) 0 ⟨rfl,trivial⟩ trivial ⟨Nat.zero_le _,fun j hj=>by omega⟩ ?_
    rintro k ⟨i1,i2⟩
    by_cases hk:k<r.m.length
    ·obtain⟨m1,m2,m3,m4,m5⟩:=arrow_ok hr hk
     have hF1:(r.q.fr.getD k default).toNat<s.length:=by omega
     have hT1:(r.q.to.getD k default).toNat<s.length:=by omega
     have hkf:k<r.q.fr.length:=by omega
     have hkt:k<r.q.to.length:=by omega
     have f1:=k2 _ hF1
     have t1:=k2 _ hT1
     simp only[spcAt,Bool.and_eq_true,decide_eq_true_eq] at f1 t1
     have hI:=specImageOf_a m1 f1.1 (by rw[f1.2,m4])
     have hW:=specIsWithin_a r.p (imgSp r.p (r.m.getD k default) (s.getD (r.q.fr.getD k default).toNat default)) (s.getD (r.q.to.getD k default).toNat default) (imgSp_ok m1 _) t1.1 (by rw[t1.2];exact m5.symm)
     have hsb:subAt r s k=inS r.p (imgSp r.p (r.m.getD k default) (s.getD (r.q.fr.getD k default).toNat default)) (s.getD (r.q.to.getD k default).toNat default):=rfl
     generalize imgSp r.p (r.m.getD k default) (s.getD (r.q.fr.getD k default).toNat default)=IM at hI hW hsb
     cases hx:inS r.p IM (s.getD (r.q.to.getD k default).toNat default) with
     |false=>
      rw[hx] at hW hsb
      repeat' first|refine s1 ?_|refine q1 ?_|fail
      refine AW.draw 21 G.mixed (by kernel_rfl) ?_
      refine Pz (.p 0<|.l 1<|.p 2<|.l 3<|.p 4<|.p 5<|.l 6<|.p 7<|.p 8<|.p 9<|.l 10<|.p 11<|.p 12<|.l 13<|.p 14<|.l 15<|.a [(16,true,.p 17<|.p 18<|.p 19<|.o 20 true<|.o 21 false<|.p 22<|.n),(20,true,.o 16 true<|.p 17<|.p 18<|.p 19<|.o 21 false<|.p 22<|.n)]) ?_
      repeat' first|refine ySQ ?_|refine s1 ?_|refine q1 ?_|refine yC ?_ ?_|exact trivial|(refine kR ?_;first|refine F.c (hI) ?_)|fail
      any_goals refine lf ?_
      all_goals
       repeat' first|refine s1 ?_|refine q1 ?_|fail
       refine AW.draw 14 G.mixed (by kernel_rfl) ?_
       refine Pz (.p 0<|.l 1<|.l 2<|.p 3<|.p 4<|.p 5<|.l 6<|.p 7<|.p 8<|.l 9<|.p 10<|.l 11<|.o 12 true<|.p 13<|.n) ?_
       repeat' first|refine ySQ ?_|refine s1 ?_|refine q1 ?_|(refine kR ?_;first|refine F.c (hW) ?_)|fail
       any_goals refine lf ?_
       all_goals
        repeat' first|refine s1 ?_|refine q1 ?_|fail
        refine F.ret ?_
        rw[all_no hk hsb]
     |true=>
      rw[hx] at hW hsb
      repeat' first|refine s1 ?_|refine q1 ?_|fail
      refine AW.draw 21 G.mixed (by kernel_rfl) ?_
      refine Pz (.p 0<|.l 1<|.p 2<|.l 3<|.p 4<|.p 5<|.l 6<|.p 7<|.p 8<|.p 9<|.l 10<|.p 11<|.p 12<|.l 13<|.p 14<|.l 15<|.a [(16,true,.p 17<|.p 18<|.p 19<|.o 20 true<|.o 21 false<|.p 22<|.n),(20,true,.o 16 true<|.p 17<|.p 18<|.p 19<|.o 21 false<|.p 22<|.n)]) ?_
      repeat' first|refine ySQ ?_|refine s1 ?_|refine q1 ?_|refine yC ?_ ?_|exact trivial|(refine kR ?_;first|refine F.c (hI) ?_)|fail
      any_goals refine lf ?_
      all_goals
       repeat' first|refine s1 ?_|refine q1 ?_|fail
       refine AW.draw 14 G.mixed (by kernel_rfl) ?_
       refine Pz (.p 0<|.l 1<|.l 2<|.p 3<|.p 4<|.p 5<|.l 6<|.p 7<|.p 8<|.l 9<|.p 10<|.l 11<|.o 12 true<|.p 13<|.n) ?_
       repeat' first|refine ySQ ?_|refine s1 ?_|refine q1 ?_|(refine kR ?_;first|refine F.c (hW) ?_)|fail
       any_goals refine lf ?_
       all_goals
        repeat' first|refine s1 ?_|refine q1 ?_|fail
        exact⟨k+1,F.fit ⟨rfl,trivial⟩ trivial,⟨by omega,snocP i2 hsb⟩,by omega⟩
    ·obtain rfl:k=r.m.length:=by omega
     repeat' first|refine s1 ?_|refine q1 ?_|fail
     refine F.ret ?_
     rw[all_yes i2]
  ·rw[decide_eq_false hl,Bool.false_and]
   repeat' first|refine s1 ?_|refine q1 ?_|(refine kR ?_;first|refine F.c (hR) ?_)|fail
   (refine kZ ?_;exact F.ret rfl)
theorem fcF_bd{p:Int}{n:Nat}{l:List (List Int)}(h:VecB p n l):BdF p n l.length (fcF l):=fun i hi j hj=>(h (l.getD j default) (gm hj)).2 i hi
theorem kerV_bd{p:Int}{c:Nat}{g:Nat→Nat→Int}{piv:List Nat}{k:Nat}(hp:2≤p):∀n,∀j,j<c→0≤(kerV p c g piv k n).getD j default∧(kerV p c g piv k n).getD j default≤p-1
 |0,j,hj=>by
  have:=unitL_get (k:=k) hj
  show 0≤(unitL c k).getD j default∧_
  rw[kerV,this]
  split<;>omega
 |n+1,j,hj=>by
  rw[kerV]
  by_cases e:piv.getD n 0=j
  ·subst e
   rw[set_get (by rw[kerV_len];exact hj)]
   exact mod_bd (by omega)
  ·have e2:((kerV p c g piv k n).set (piv.getD n 0) (-(g n k)%p)).getD j default=(kerV p c g piv k n).getD j default:=set_ne e _
   rw[e2]
   exact kerV_bd hp n j hj
theorem kerL_vec{p:Int}{r c:Nat}{f:Nat→Nat→Int}(hp:2≤p):VecB p c (kerL p r c f):=fun x hx=>by
 simp only[kerL,List.mem_map] at hx
 obtain⟨k,_,rfl⟩:=hx
 exact⟨kerV_len ..,fun j hj=>kerV_bd hp _ j hj⟩
theorem kerL_le(p:Int)(r c:Nat)(f:Nat→Nat→Int):(kerL p r c f).length≤c:=by
 rw[kerL,List.length_map];exact freeL_le ..
def cmbV(p:Int)(n:Nat)(l:List (List Int))(k:List Int):Nat→List Int
 |0=>List.replicate n 0
 |m+1=>addK p (k.getD m default) 0 (l.getD m default) (cmbV p n l k m) n
theorem cmbV_len(p:Int)(n:Nat)(l:List (List Int))(k:List Int):∀m,(cmbV p n l k m).length=n
 |0=>by simp[cmbV]
 |m+1=>by rw[cmbV,addK_len,cmbV_len p n l k m]
theorem cmbV_bd{p:Int}{n:Nat}{l:List (List Int)}{k:List Int}(hp:2≤p):∀m,∀j,j<n→0≤(cmbV p n l k m).getD j default∧(cmbV p n l k m).getD j default≤p-1
 |0,j,hj=>by
  have:(cmbV p n l k 0).getD j default=0:=by simp[cmbV,hj]
  rw[this];omega
 |m+1,j,hj=>by
  have hl:=cmbV_len p n l k m
  have e:(cmbV p n l k (m+1)).getD j default=((cmbV p n l k m).getD j default+k.getD m default*(l.getD m default).getD j default)%p:=by
   rw[cmbV]
   simp only[addK,List.getD_eq_getElem?_getD,List.getElem?_map,List.getElem?_range (show j<(cmbV p n l k m).length by omega),Option.map_some,Option.getD_some]
   rw[if_pos (by omega)]
   rfl
  rw[e]
  exact mod_bd (by omega)
def metK(p:Int)(a b:Spc):List (List Int):=kerL p a.n.toNat (a.b++b.b).length (fcF (a.b++b.b))
def metL(p:Int)(a b:Spc):List (List Int):=(metK p a b).map fun k=>cmbV p a.n.toNat a.b k a.b.length
def metS(p:Int)(a b:Spc):Spc:=⟨a.n,spanL p a.n.toNat (metL p a b)⟩
theorem metL_vec{p:Int}{a b:Spc}(hp:2≤p):VecB p a.n.toNat (metL p a b):=fun x hx=>by
 simp only[metL,List.mem_map] at hx
 obtain⟨k,_,rfl⟩:=hx
 exact⟨cmbV_len ..,fun j hj=>cmbV_bd hp _ j hj⟩
theorem metL_len(p:Int)(a b:Spc):(metL p a b).length=(metK p a b).length:=by simp[metL]
theorem metK_le(p:Int)(a b:Spc):(metK p a b).length≤a.b.length+b.b.length:=by
 have:=kerL_le p a.n.toNat (a.b++b.b).length (fcF (a.b++b.b))
 rw[List.length_append] at this
 unfold metK
 rw[List.length_append]
 exact this
theorem metS_ok{p:Int}{a b:Spc}(ha:isSpc p a=true):isSpc p (metS p a b)=true:=by
 obtain⟨h1,h2,h3,h4⟩:=isSpc_spec ha
 have hp:=isF_pos h1
 have:=isSpc_span h1 (show a.n.toNat≤8 by omega) (metL_vec (a:=a) (b:=b) hp.1).bd
 rw[Int.toNat_of_nonneg h2.1] at this
 exact this
def kerS(p:Int)(m:Mat):Spc:=⟨m.c,spanL p m.c.toNat (kerL p m.r.toNat m.c.toNat (ent m))⟩
theorem kerS_ok{p:Int}{m:Mat}(h:isMat p m=true):isSpc p (kerS p m)=true:=by
 obtain⟨h0,h1,h2,h3,h4⟩:=isMat_spec h
 have hp:=isF_pos h0
 have:=isSpc_span h0 (show m.c.toNat≤8 by omega) (kerL_vec (r:=m.r.toNat) (c:=m.c.toNat) (f:=ent m) hp.1).bd
 rw[Int.toNat_of_nonneg h2.1] at this
 exact this
def idF:Nat→Nat→Int:=fun i j=>if i=j then 1 else 0
theorem idF_bd{p:Int}(hp:2≤p)(n:Nat):BdF p n n idF:=fun i _ j _=>by
 unfold idF;split<;>omega
end Go.Proofs.YtjmjamhhppoimaaGreat.V
namespace Go.Proofs.YtjmjamhhppoimaaGreat.V
open V.Enc (enc)
open Go.RowKit G D
set_option linter.unusedVariables false
set_option linter.unusedSimpArgs false
set_option maxHeartbeats 4000000
set_option maxRecDepth 4000
attribute [local irreducible] AW ARg ARA ARet MRet ASil AC AM
theorem ker_take{p:Int}{c:Nat}{g:Nat→Nat→Int}{piv:List Nat}{j:Nat}(hj:j<(freeL c piv).length):((freeL c piv).map fun k=>kerV p c g piv k piv.length).take (j+1)=((freeL c piv).map fun k=>kerV p c g piv k piv.length).take j++[kerV p c g piv ((freeL c piv).getD j default) piv.length]:=by
 have e:(freeL c piv).getD j default=(freeL c piv)[j]:=by simp[hj]
 rw[List.take_succ_eq_append_getElem (by simpa using hj),e]
 simp
theorem kernel_a(p:Int)(r c:Nat)(f:Nat→Nat→Int)(hf:isF p=true)(hr:r≤1024)(hc:c≤1024)(hb:BdF p r c f):
  AC Tryz.prog 316 [.i p,.agg (enc false (tm r c f))] [.dt true 1 (E true (kerL p r c f))]:=by
 refine AC.go Tryz.func316 Tryz.ntmps316 rfl rfl fun w0 hw=>?_;simp[WfL,WfA,E_length,Enc.enc,In64] at hw
 have h5:=isF_pos hf
 have hR:=implReduce_a p r c f hf hr hc hb
 obtain⟨b1,b2,b3,b4⟩:=redK_bd (p:=p) (by omega) hb c
 unfold kerL
 generalize redK p r f c=R at hR b1 b2 b3 b4⊢
 obtain⟨g,piv⟩:=R
 dsimp only at hR b1 b2 b3 b4⊢
 have hFr:=freeColumns_a c piv (by omega)
 have hKt:=fun j hj=>ker_take (p:=p) (c:=c) (g:=g) (piv:=piv) (j:=j) hj
 have hKl:((freeL c piv).map fun k=>kerV p c g piv k piv.length).length=(freeL c piv).length:=by simp
 have hfl:=freeL_le c piv
 have hfm:=fun j (hj:j<(freeL c piv).length)=>(freeL_lt (c:=c) (piv:=piv) ((freeL c piv).getD j default) (by simp[hj])).1
 have hfi:=ints_len (freeL c piv)
 have hfg:=fun j (hj:j<(freeL c piv).length)=>ints_get (freeL c piv) hj
 generalize ((freeL c piv).map fun k=>kerV p c g piv k piv.length)=KL at hKt hKl⊢
 generalize freeL c piv=FL at hFr hKt hKl hfl hfm hfi hfg
 generalize ints FL=FI at hFr hfi hfg
 have hpl:=ints_len piv
 have hpg:=fun i (hi:i<piv.length)=>ints_get piv hi
 generalize ints piv=PI at hR hFr hpl hpg
 have hN:=tab_len r c g
 repeat' first|refine s1 ?_|refine q1 ?_|(refine kR ?_;first|refine F.c (hR) ?_|refine F.c (hFr) ?_)|fail
 refine AW.open 7 1 (.inl rfl) ?_
 refine F.loop (σ:=Nat) [7,9,10,11,12,24,25,26,27,28,29,30,31,32,33,34,35,36,37,38,39,40,41,42,43,44,45,46,47,48,49,50,51,52,53,54,55,56,57,58,59] (fun j=>[(7,.sl 5 j 0 j),(24,.i j)]) (fun j=>[(1,.live false 1 (E true (tab r c g))),(5,.live false 1 (E true (KL.take j)))]) (fun j=>j≤FL.length) (fun j=>FL.length-j) 0 ⟨rfl,rfl,trivial⟩ ⟨rfl,rfl,trivial⟩ (Nat.zero_le _) ?_
 rintro j j1
 have hp2:(KL.take j).length=j:=by rw[List.length_take];omega
 by_cases hj:j<FL.length
 ·have hf1:=hfg j hj
  have hq:=hfm j hj
  have hts:=hKt j hj
  generalize FL.getD j default=q at hf1 hq hts
  have hf2:FI.getD (0+j) default=(q:Int):=by rw[Nat.zero_add];exact hf1
  have hT:(FI.getD (0+j) default).toNat=q:=by rw[hf2];exact Int.toNat_natCast q
  have hf4:FI[j]?.getD default=(q:Int):=by rw[←List.getD_eq_getElem?_getD];exact hf1
  have hf5:FI[j]?.getD 0=(q:Int):=hf4
  repeat' first|refine s1 ?_|refine q1 ?_|(refine kR ?_;first|refine F.mk (m:=c) Int rfl rfl rfl (mkB (by omega)) (by omega) rfl rfl ?_)|fail
  have e0:(List.replicate c 0).set (0+(FI.getD (0+j) default).toNat) (1:Int)=kerV p c g piv q 0:=by rw[Nat.zero_add,hT];rfl
  rw[e0]
  clear e0
  refine F.loop (σ:=Nat) [11,12,36,37,38,39,40,41,42,43,44,45,46,47,48,49,50,51,52,53,54] (fun i=>[(36,.i i)]) (fun i=>[(1,.live false 1 (E true (tab r c g))),(6,.live false 1 (E true (kerV p c g piv q i)))]) (fun i=>i≤piv.length) (fun i=>piv.length-i) 0 ⟨rfl,trivial⟩ ⟨rfl,rfl,trivial⟩ (Nat.zero_le _) ?_
  rintro i i1
  by_cases hi:i<piv.length
  ·have hir:i<r:=by omega
   have hpi:=hpg i hi
   have hpq:piv.getD i default<c:=b4 _ (by simp[hi])
   have hst:kerV p c g piv q (i+1)=(kerV p c g piv q i).set (piv.getD i 0) (-(g i q)%p):=rfl
   rw[←neg_mod] at hst
   have hvl:=kerV_len p c g piv q i
   have hRw:=row_m r c i g _ hN hir hr hc
   have hpi':PI.getD (0+i) default=(piv.getD i default:Nat):=by rw[Nat.zero_add];exact hpi
   have hT2:(PI.getD (0+i) default).toNat=piv.getD i 0:=by rw[hpi'];exact Int.toNat_natCast _
   have hx:=b1 i hir (FI.getD (0+j) default).toNat (by omega)
   have hxq:g i (FI.getD (0+j) default).toNat=g i q:=by rw[hT]
   have hi64:In64 (p-g i (FI.getD (0+j) default).toNat):=by unfold In64;omega
   have hqc:(FI.getD (0+j) default).toNat<c:=by omega
   clear hpi
   generalize kerV p c g piv q i=X at hst hvl⊢
   rw[←hT2,←hxq] at hst
   repeat' first|refine s1 ?_|refine q1 ?_|(refine kR ?_;first|refine F.m [1] (hRw) ?_)|fail
   exact⟨i+1,F.fit ⟨rfl,trivial⟩ ⟨rfl,obE (by rw[hst,Nat.zero_add (PI.getD (0+i) default).toNat]),trivial⟩,by omega,by omega⟩
  ·obtain rfl:i=piv.length:=by omega
   have hvl:=kerV_len p c g piv q piv.length
   generalize kerV p c g piv q piv.length=X at hts hvl⊢
   repeat' first|refine s1 ?_|refine q1 ?_|(refine kR ?_;first|refine F.a1 (List Int) (a:=X) ?_)|fail
   exact⟨j+1,F.fit ⟨rfl,rfl,trivial⟩ ⟨rfl,obE (by rw[hts]),trivial⟩,by omega,by omega⟩
 ·obtain rfl:j=FL.length:=by omega
  have e:KL.take FL.length=KL:=List.take_of_length_le (by omega)
  rw[e]
  rw[←hKl]
  clear hp2 e
  repeat' first|refine s1 ?_|refine q1 ?_|fail
  (refine kZ ?_;exact F.ret rfl)
def idK(k:Nat):Nat→Nat→Int:=fun i j=>if i=j∧i<k then 1 else 0
theorem idK_zero:idK 0=fun _ _=>0:=by funext i j;simp[idK]
theorem idK_set(k:Nat):updF (idK k) k k 1=idK (k+1):=by
 funext i j
 simp only[idK,updF]
 by_cases h1:i=k
 ·subst h1
  by_cases h2:j=i
  ·subst h2;simp
  ·have:¬i=j:=fun h=>h2 h.symm
   simp[h2,this]
 ·have:i<k+1↔i<k:=by omega
  simp[h1,this]
theorem idK_all(n:Nat):tab n n (idK n)=tab n n idF:=tab_ext fun i hi j hj=>by simp[idK,idF,hi]
theorem identity_a(n:Nat)(hn:n≤1000):AC Tryz.prog 289 [.i (n:Int)] [.agg (enc true (tm n n idF))]:=by
 refine AC.go Tryz.func289 Tryz.ntmps289 rfl rfl fun w0 hw=>?_;simp[WfL,WfA,E_length,Enc.enc,In64] at hw
 have hZ:=zeroT_a n n (by omega) (by omega)
 repeat' first|refine s1 ?_|refine q1 ?_|(refine kR ?_;first|refine F.c (hZ) ?_)|fail
 refine F.loop (σ:=Nat) [4,9,10,11,12,13,14,15,16,17,18,19,20] (fun i=>[(9,.i i)]) (fun i=>[(1,.live false 1 (E true (tab n n (idK i))))]) (fun i=>i≤n) (fun i=>n-i) 0 ⟨rfl,trivial⟩ ⟨obE (by rw[idK_zero]),trivial⟩ (Nat.zero_le _) ?_
 rintro i i1
 by_cases hi:i<n
 ·obtain⟨t1,t2⟩:=tab_in (i:=i) (j:=i) (r:=n) (c:=n) hi hi (by omega) (by omega)
  repeat' first|refine s1 ?_|refine q1 ?_|fail
  exact⟨i+1,F.fit ⟨rfl,trivial⟩ ⟨obE (by rw[idK_set]),trivial⟩,by omega,by omega⟩
 ·obtain rfl:i=n:=by omega
  rw[idK_all]
  repeat' first|refine s1 ?_|refine q1 ?_|fail
  (refine kZ ?_;exact F.ret rfl)
theorem metL_take{p:Int}{a b:Spc}{i:Nat}(hi:i<(metK p a b).length):(metL p a b).take (i+1)=(metL p a b).take i++[cmbV p a.n.toNat a.b ((metK p a b).getD i default) a.b.length]:=by
 have e:(metK p a b).getD i default=(metK p a b)[i]:=by simp[hi]
 rw[metL,List.take_succ_eq_append_getElem (by simpa using hi),e]
 simp
theorem metK_vec{p:Int}{a b:Spc}(hp:2≤p):VecB p (a.b++b.b).length (metK p a b):=kerL_vec hp
theorem matKer_a{p:Int}{m:Mat}(h:isMat p m=true):AC Tryz.prog 316 [.i p,.agg (enc false m)] [.dt true 1 (E true (kerL p m.r.toNat m.c.toNat (ent m)))]:=by
 obtain⟨h0,h1,h2,h3,h4⟩:=isMat_spec h
 have:=kernel_a p m.r.toNat m.c.toNat (ent m) h0 (by omega) (by omega) (ent_bd h)
 rw[isMat_tm h] at this
 exact this
theorem kerSpan_a{p:Int}{m:Mat}(h:isMat p m=true):AC Tryz.prog 305 [.i p,.i m.c,ar false (kerL p m.r.toNat m.c.toNat (ent m))] [.agg (enc true (kerS p m))]:=by
 obtain⟨h0,h1,h2,h3,h4⟩:=isMat_spec h
 have hp:=isF_pos h0
 have hl:=kerL_le p m.r.toNat m.c.toNat (ent m)
 have:=span_a p m.c.toNat _ h0 (by omega) (by omega) (kerL_vec (r:=m.r.toNat) (c:=m.c.toNat) (f:=ent m) hp.1)
 rw[Int.toNat_of_nonneg h2.1] at this
 exact this
end Go.Proofs.YtjmjamhhppoimaaGreat.V
