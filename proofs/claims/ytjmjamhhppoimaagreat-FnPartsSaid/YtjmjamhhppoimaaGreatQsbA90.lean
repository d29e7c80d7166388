/- Texts that the proof needs: A90. -/
import Derived.Test.YtjmjamhhppoimaaGreatQsbA195
namespace Go.Proofs.YtjmjamhhppoimaaGreat.V
open V.Enc (enc)
open Go.RowKit G D
set_option linter.unusedVariables false
set_option linter.unusedSimpArgs false
set_option maxHeartbeats 4000000
set_option maxRecDepth 4000
attribute [local irreducible] AW ARg ARA ARet MRet ASil AC AM ARI
theorem isMat_bak{p:Int}{s:Spc}(h:isSpc p s=true):isMat p (bakM s)=true:=by
 obtain⟨h1,h2,h3,h4⟩:=isSpc_spec h
 have hp:=isF_pos h1
 have:=free_len h
 refine isMat_tab h1 (by omega) (by omega) fun i hi j hj=>?_
 unfold bakF
 split<;>omega
theorem pvC_len(n:Nat)(G1:Nat→Nat→Int)(l:List Nat):(pivC n G1 l).length=l.length:=by simp[pivC]
theorem pvC_take(n:Nat)(G1:Nat→Nat→Int){l:List Nat}{j:Nat}(hj:j<l.length):(pivC n G1 l).take (j+1)=(pivC n G1 l).take j++[rowL n fun t=>G1 t (l.getD j default)]:=map_take (fun k=>rowL n fun t=>G1 t k) hj
theorem pvC_get(n:Nat)(G1:Nat→Nat→Int){l:List Nat}{j:Nat}(hj:j<l.length):(pivC n G1 l).getD j default=rowL n fun t=>G1 t (l.getD j default):=by simp[pivC,hj]
theorem quotientRep_a(r:Rep)(s:List Spc)(h:isSub r s=true):AC Tryz.prog 186 [.agg (enc false r),ar false s] [.agg (enc true (quoR r s)),.dt true 3 (E true (prjL r.p s))]:=by
 refine AC.go Tryz.func186 Tryz.ntmps186 rfl rfl fun w0 hw=>?_;simp[WfL,WfA,E_length,Enc.enc,In64] at hw
 obtain⟨h1,h2,h3,h4⟩:=isSub_spec h
 obtain⟨r1,r2,r3,r4⟩:=isRep_spec h1
 obtain⟨c1,c2,c3,_⟩:=areDims_spec r2
 have h5:=okQ_spec c1
 have hp0:=isF_pos r1
 have hqb:=quoD_bd h
 have hdl:=quoD_len s
 have hdd:∀v,v<s.length→(quoD s).take (v+1)=(quoD s).take v++[(s.getD v default).n-((s.getD v default).b.length:Int)]:=fun v hv=>by
  obtain⟨a1,a2⟩:=h3 v hv
  have e:=free_len a1
  have e2:=(isSpc_spec a1).2.1
  have e3:((freeL (s.getD v default).n.toNat (leadN (s.getD v default))).length:Int)=(s.getD v default).n-((s.getD v default).b.length:Int):=by omega
  rw[quoD_take hv,e3]
 have hZ:=zeroRep_a r.p r.q (quoD s) c1 (by omega) (fun j hj=>by rw[quoD_get (by omega)];have:=(hqb j (by omega)).1;omega)
 have hzl:=zeroMs_len r.q (quoD s)
 have hml:=quoMs_len r s
 have hxy:(quoMs r s).length=(zeroMs r.q (quoD s)).length:=by omega
 have hmx:=mixL_len hxy
 have hms:=fun k hk=>mixL_set hxy (k:=k) hk
 have hm0:=mixL_zero (quoMs r s) (zeroMs r.q (quoD s))
 have hma:=mixL_all hxy
 have hil:=prjL_len r.p s
 have hit:=fun k hk=>prjL_take (p:=r.p) (s:=s) (k:=k) hk
 have hig:=fun v hv=>prjL_get (p:=r.p) (s:=s) (v:=v) hv
 unfold quoR
 have hsg:=fun i (hi:i<r.m.length)=>quoMs_get r s hi
 generalize quoMs r s=SM at hml hxy hmx hms hm0 hma hsg⊢
 generalize hZM:zeroMs r.q (quoD s)=ZM at hzl hxy hmx hms hm0 hma
 generalize prjL r.p s=IL at hil hit hig⊢
 generalize quoD s=DS at hZ hZM hdl hdd⊢
 have hzm:(zeroR r.p r.q DS).m.length=ZM.length:=by rw[←hZM]
 have hzm2:(zeroMs r.q DS).length=ZM.length:=by rw[←hZM]
 repeat' first|refine s1 ?_|refine q1 ?_|fail
 refine AW.open 6 1 (.inl rfl) ?_
 refine AW.open 7 3 (.inl rfl) ?_
 refine F.loop (σ:=Nat) [6,7,9,20,21,22,23,24,25,26,27,28,29,30,31,32,33,34,35,36,37,38,39,40] (fun v=>[(6,.sl 2 v 0 v),(7,.sl 3 v 0 v),(20,.i v)]) (fun v=>[(2,.live false 1 (E true (DS.take v))),(3,.live false 3 (E true (IL.take v)))]) (fun v=>v≤s.length) (fun v=>s.length-v) 0 ⟨rfl,rfl,rfl,trivial⟩ ⟨rfl,rfl,trivial⟩ (Nat.zero_le _) ?_
 rintro v v1
 have hp2:(DS.take v).length=v:=by rw[List.length_take];omega
 have hp3:(IL.take v).length=v:=by rw[List.length_take];omega
 by_cases hv:v<s.length
 ·obtain⟨a1,a2⟩:=h3 v hv
  have e2:=(isSpc_spec a1).2.1
  have hle:=isSpc_le a1
  have hin:In64 ((s.getD v default).n-((s.getD v default).b.length:Int)):=by unfold In64;omega
  have hPj:=projectionBy_a r.p (s.getD v default) a1
  have hti:=hit v hv
  have htd:=hdd v hv
  generalize prjM r.p (s.getD v default)=IM at hPj hti
  repeat' first|refine s1 ?_|refine q1 ?_|(refine kR ?_;first|refine F.c (hPj) ?_|refine F.a1 Int ?_|refine F.a1 Mat (a:=IM) ?_)|fail
  exact⟨v+1,F.fit ⟨rfl,rfl,rfl,trivial⟩ ⟨obE (by rw[htd]),obE (by rw[hti]),trivial⟩,by omega,by omega⟩
 ·obtain rfl:v=s.length:=by omega
  have e:IL.take s.length=IL:=List.take_of_length_le (by omega)
  have e2:DS.take s.length=DS:=List.take_of_length_le (by omega)
  rw[e,e2]
  clear hp2 hp3 e e2
  have hdl':s.length=DS.length:=by omega
  repeat' first|refine s1 ?_|refine q1 ?_|(refine kR ?_;first|refine F.c (hZ) ?_)|fail
  refine F.loop (σ:=Nat) [11,12,13,14,15,17,50,51,52,53,54,55,56,57,58,59,60,61,62,63,64,65,66,67,68,69,70,71,72,73,74,75,76,77,78,79,80,81,82,83,84,85,86,87,88,89,90,91,92,93,94,95,96,97,98,99,100,101,102] (fun k=>[(50,.i k)]) (fun k=>[(3,.live false 3 (E true IL)),(7,.live false 3 (E true (mixL SM ZM k)))]) (fun k=>k≤r.m.length) (fun k=>r.m.length-k) 0 ⟨rfl,trivial⟩ ⟨rfl,obE (by rw[hm0,←hZM]),trivial⟩ (Nat.zero_le _) ?_
  rintro k k1
  have hlk:=hmx k
  by_cases hk:k<r.m.length
  ·obtain⟨m1,m2,m3,m4,m5⟩:=arrow_ok h1 hk
   have hF1:(r.q.fr.getD k default).toNat<s.length:=by omega
   have hT1:(r.q.to.getD k default).toNat<s.length:=by omega
   have hkf:k<r.q.fr.length:=by omega
   have hkt:k<r.q.to.length:=by omega
   obtain⟨f1,f2⟩:=h3 _ hF1
   obtain⟨t1,t2⟩:=h3 _ hT1
   have hsk:=hms k (by omega)
   have hsgk:SM.getD k default=quoM r.p (r.m.getD k default) (s.getD (r.q.fr.getD k default).toNat default) (s.getD (r.q.to.getD k default).toNat default):=hsg k hk
   rw[hsgk] at hsk
   have hn1:=(isSpc_spec f1).2.1
   have hn2:=(isSpc_spec t1).2.1
   have hle1:=isSpc_le f1
   have hTm:=timesM_a (isMat_prj t1) m1 (by
    show((s.getD (r.q.to.getD k default).toNat default).n.toNat:Int)=(r.m.getD k default).r
    rw[m5,←t2];omega)
   rw[prj_mul r.p _ _ (by rw[t2,m5])] at hTm
   have hq:=quo_cols r.p (r.m.getD k default) (s.getD (r.q.fr.getD k default).toNat default) (s.getD (r.q.to.getD k default).toNat default)
   generalize mulF r.p (ent (prjM r.p (s.getD (r.q.to.getD k default).toNat default))) (ent (r.m.getD k default)) (r.m.getD k default).r.toNat=G1 at hTm hq
   rw[←hig _ hT1] at hTm
   have hLd:=leadings_a (s.getD (r.q.fr.getD k default).toNat default) (by omega)
   rw[leadL_ints f1] at hLd
   have hFr:=freeColumns_a (s.getD (r.q.fr.getD k default).toNat default).n.toNat (leadN (s.getD (r.q.fr.getD k default).toNat default)) (by omega)
   rw[Int.toNat_of_nonneg hn1.1] at hFr
   have hfm:=fun a (ha:a<(freeL (s.getD (r.q.fr.getD k default).toNat default).n.toNat (leadN (s.getD (r.q.fr.getD k default).toNat default))).length)=>(free_mem ha).1
   have hmc:(s.getD (r.q.fr.getD k default).toNat default).n.toNat=(r.m.getD k default).c.toNat:=by rw[f2,m4]
   have hb2:=(hqb _ hT1).1
   have hb1:=(hqb _ hF1).1
   have hmc2:=(isMat_spec m1).2.2.1
   generalize leadN (s.getD (r.q.fr.getD k default).toNat default)=LF at hLd hFr hfm hq hb1
   generalize freeL (s.getD (r.q.fr.getD k default).toNat default).n.toNat LF=FR at hFr hfm hq hb1
   generalize (freeL (s.getD (r.q.to.getD k default).toNat default).n.toNat (leadN (s.getD (r.q.to.getD k default).toNat default))).length=NB at hTm hq hb2
   have hcl:=pvC_len NB G1 FR
   have hct:=fun j (hj:j<FR.length)=>pvC_take NB G1 hj
   have hFC:=fromColumns_a NB (pivC NB G1 FR) (by omega) (by omega) (fun j hj=>by rw[hcl] at hj;rw[pvC_get NB G1 hj];exact rowL_len ..)
   rw[hq] at hFC
   have hCo:∀j,j<FR.length→AC Tryz.prog 148 [.agg (enc false (tm NB (r.m.getD k default).c.toNat G1)),.i ((ints FR).getD (0+j) default)] [.dt true 1 (E true (rowL NB fun t=>G1 t (FR.getD j default)))]:=fun j hj=>by
    rw[Nat.zero_add,ints_get _ hj]
    have:=hfm j hj
    exact column_a NB (r.m.getD k default).c.toNat _ G1 (by omega) (by omega) (by omega)
   have hil2:=ints_len FR
   generalize quoM r.p (r.m.getD k default) (s.getD (r.q.fr.getD k default).toNat default) (s.getD (r.q.to.getD k default).toNat default)=SA at hsk hFC
   generalize pivC NB G1 FR=CL at hcl hct hFC
   generalize hLDe:ints FR=LD at hFr hCo hil2
   have hwF:=(Int.toNat_of_nonneg m3.1).symm
   have hbI:(E true IL).length=s.length:=by rw[E_length,hil]
   have hwI:(r.q.to.getD k default).toNat<IL.length:=by omega
   have hself:IL.set (r.q.to.getD k default).toNat (IL.getD (r.q.to.getD k default).toNat default)=IL:=set_self hwI
   generalize mixL SM ZM k=X at hlk hsk⊢
   refine AW.takeE (α:=Mat) (o:=3) (k:=(r.q.to.getD k default).toNat) (j:=2) (ls:=IL) rfl hwI rfl (E_length _ _) ?_
   repeat' first|refine s1 ?_|refine q1 ?_|fail
   refine AW.draw 14 G.mixed (by kernel_rfl) ?_
   refine Pz (.p 0<|.l 1<|.p 2<|.p 3<|.p 4<|.l 5<|.p 6<|.p 7<|.l 8<|.p 9<|.l 10<|.l 11<|.a [(12,true,.o 13 true<|.o 14 false<|.n),(13,true,.o 12 true<|.o 14 false<|.n)]) ?_
   repeat' first|refine yP (i:=9) ?_ (hs:=by exact(A.idxT (k:=(r.q.to.getD k default).toNat) rfl rfl rfl hbI hwF (by omega)))|refine yL (i:=10) ?_ (hs:=by exact(A.ldSG (k:=(r.q.to.getD k default).toNat) rfl rfl hbI (by omega) (by omega) rfl rfl))|refine ySQ ?_|refine s1 ?_|refine q1 ?_|refine yC ?_ ?_|exact trivial|(refine kR ?_;first|refine F.c (hTm) ?_)|fail
   any_goals refine lf ?_
   all_goals
    refine AW.put (α:=Mat) (o:=3) (o2:=9) (k:=(r.q.to.getD k default).toNat) (j:=2) (v:=IL.getD (r.q.to.getD k default).toNat default) (x:=IL.getD (r.q.to.getD k default).toNat default) (ls:=IL) rfl rfl (E_length _ _) (E_pure _ _) rfl hwI rfl rfl ?_
    rw[hself]
    repeat' first|refine s1 ?_|refine q1 ?_|fail
    refine AW.draw 7 G.mixed (by kernel_rfl) ?_
    refine Pz (.p 0<|.l 1<|.l 2<|.p 6<|.o 3 true<|.o 4 true<|.p 5<|.n) ?_
    repeat' first|refine ySQ ?_|refine s1 ?_|refine q1 ?_|(refine kR ?_;first|refine F.c (hLd) ?_|refine F.c (hFr) ?_)|fail
    any_goals refine lf ?_
   all_goals
    repeat' first|refine s1 ?_|refine q1 ?_|fail
    refine AW.open 15 1 (.inl rfl) ?_
    refine F.loop (σ:=Nat) [15,17,83,84,85,86,87,88,89,90,91,92,93] (fun j=>[(15,.sl 16 j 0 j),(83,.i j)]) (fun j=>[(16,.live false 1 (E true (CL.take j)))]) (fun j=>j≤FR.length) (fun j=>FR.length-j) 0 ⟨rfl,rfl,trivial⟩ ⟨rfl,trivial⟩ (Nat.zero_le _) ?_
    rintro j j1
    have hp4:(CL.take j).length=j:=by rw[List.length_take];omega
    by_cases hj:j<FR.length
    ·have hC:=hCo j hj
     have hts:=hct j hj
     generalize (rowL NB fun t=>G1 t (FR.getD j default))=CO at hC hts
     repeat' first|refine s1 ?_|refine q1 ?_|(refine kR ?_;first|refine F.c (hC) ?_|refine F.a1 (List Int) (a:=CO) ?_)|fail
     exact⟨j+1,F.fit ⟨rfl,rfl,trivial⟩ ⟨obE (by rw[hts]),trivial⟩,by omega,by omega⟩
    ·obtain rfl:j=FR.length:=by omega
     have e:CL.take FR.length=CL:=List.take_of_length_le (by omega)
     rw[e]
     rw[←hcl]
     clear hp4 e
     repeat' first|refine s1 ?_|refine q1 ?_|fail
     refine AW.draw 8 G.mixed (by kernel_rfl) ?_
     refine Pz (.p 0<|.l 1<|.p 2<|.p 3<|.l 4<|.p 5<|.o 6 true<|.p 7<|.o 8 false<|.n) ?_
     repeat' first|(refine yU (i:=8) ?_;first|refine s1 ?_|(refine F.stGE (α:=Mat) (oo:=true) (v:=SA) rfl rfl rfl rfl rfl (by omega) (by omega) (.at1 rfl (.at1 rfl (.mv rfl (by simp) (E_length _ _) (E_pure _ _) .nil))) rfl rfl rfl rfl rfl ?_))|refine ySQ ?_|refine s1 ?_|refine q1 ?_|(refine kR ?_;first|refine F.c (hFC) ?_)|fail
     any_goals refine lf ?_
     all_goals
      rw[Nat.zero_add k]
      repeat' first|refine s1 ?_|refine q1 ?_|fail
      exact⟨k+1,F.fit ⟨rfl,trivial⟩ ⟨rfl,obE (by rw[hsk]),trivial⟩,by omega,by omega⟩
  ·obtain rfl:k=r.m.length:=by omega
   have hma':mixL SM ZM r.m.length=SM:=by rw[←hml];exact hma
   rw[hma'] at hlk⊢
   have hSl:SM.length=r.q.fr.length:=by omega
   repeat' first|refine s1 ?_|refine q1 ?_|fail
   (refine kZ ?_;exact F.ret rfl)
theorem implQuotientRep_a(r:Rep)(s:List Spc):AC Tryz.prog 64 [.agg (enc false r),ar false s] [.agg (enc true (quoP r s).1),.dt true 3 (E true (quoP r s).2.1),.b (quoP r s).2.2]:=by
 refine AC.go Tryz.func64 Tryz.ntmps64 rfl rfl fun w0 hw=>?_;simp[WfL,WfA,E_length,Enc.enc,In64] at hw
 have hS:=implIsSub_a r s
 unfold quoP
 cases hs:isSub r s with
 |false=>
  rw[hs] at hS
  rw[if_neg (by simp)]
  repeat' first|refine s1 ?_|refine q1 ?_|(refine kR ?_;first|refine F.c (hS) ?_)|fail
  (refine kZ ?_;exact F.ret rfl)
 |true=>
  rw[hs] at hS
  rw[if_pos rfl]
  have hR:=quotientRep_a r s hs
  generalize quoR r s=R at hR⊢
  generalize prjL r.p s=L at hR⊢
  repeat' first|refine s1 ?_|refine q1 ?_|(refine kR ?_;first|refine F.c (hS) ?_|refine F.c (hR) ?_)|fail
  (refine kZ ?_;exact F.ret rfl)
theorem specQuotientRep_a(r:Rep)(s:List Spc):AC Tryz.prog 65 [.agg (enc false r),ar false s] [.agg (enc true (quoP r s).1),.dt true 3 (E true (quoP r s).2.1),.b (quoP r s).2.2]:=by
 refine AC.go Tryz.func65 Tryz.ntmps65 rfl rfl fun w0 hw=>?_;simp[WfL,WfA,E_length,Enc.enc,In64] at hw
 have hS:=specIsSub_a r s
 unfold quoP
 cases h:isSub r s with
 |false=>
  rw[h] at hS
  rw[if_neg (by simp)]
  repeat' first|refine s1 ?_|refine q1 ?_|(refine kR ?_;first|refine F.c (hS) ?_)|fail
  (refine kZ ?_;exact F.ret rfl)
 |true=>
  rw[h] at hS
  rw[if_pos rfl]
  dsimp only
  obtain⟨h1,h2,h3,h4⟩:=isSub_spec h
  obtain⟨r1,r2,r3,r4⟩:=isRep_spec h1
  obtain⟨c1,c2,c3,_⟩:=areDims_spec r2
  have h5:=okQ_spec c1
  have hp0:=isF_pos r1
  have hqb:=quoD_bd h
  have hdl:=quoD_len s
  have hdd:∀v,v<s.length→(quoD s).take (v+1)=(quoD s).take v++[(prjM r.p (s.getD v default)).r]:=fun v hv=>quoD_take hv
  have hZ:=l8Zero_a r.p r.q (quoD s) c1 (by omega) (fun j hj=>by rw[quoD_get (by omega)];have:=(hqb j (by omega)).1;omega)
  have hzl:=zeroMs_len r.q (quoD s)
  have hml:=quoMs_len r s
  have hxy:(quoMs r s).length=(zeroMs r.q (quoD s)).length:=by omega
  have hmx:=mixL_len hxy
  have hms:=fun k hk=>mixL_set hxy (k:=k) hk
  have hm0:=mixL_zero (quoMs r s) (zeroMs r.q (quoD s))
  have hma:=mixL_all hxy
  have hil:=prjL_len r.p s
  have hit:=fun k hk=>prjL_take (p:=r.p) (s:=s) (k:=k) hk
  have hig:=fun v hv=>prjL_get (p:=r.p) (s:=s) (v:=v) hv
  have hbl:=bakL_len s
  have hbt:=fun k hk=>bakL_take (s:=s) (k:=k) hk
  have hbg:=fun v hv=>bakL_get (s:=s) (v:=v) hv
  unfold quoR
  have hsg:=fun i (hi:i<r.m.length)=>quoMs_get r s hi
  generalize quoMs r s=SM at hml hxy hmx hms hm0 hma hsg⊢
  generalize hZM:zeroMs r.q (quoD s)=ZM at hzl hxy hmx hms hm0 hma
  generalize prjL r.p s=IL at hil hit hig⊢
  generalize bakL s=BL at hbl hbt hbg
  generalize quoD s=DS at hZ hZM hdl hdd⊢
  have hzm:(zeroR r.p r.q DS).m.length=ZM.length:=by rw[←hZM]
  have hzm2:(zeroMs r.q DS).length=ZM.length:=by rw[←hZM]
  repeat' first|refine s1 ?_|refine q1 ?_|(refine kR ?_;first|refine F.c (hS) ?_)|fail
  refine AW.open 7 1 (.inr rfl) ?_
  refine AW.open 8 3 (.inr rfl) ?_
  refine AW.open 9 3 (.inr rfl) ?_
  refine F.loop (σ:=Nat) [7,8,9,10,11,12,24,25,26,27,28,29,30,31,32,33,34,35,36,37,38,39,40,41,42,43,44,45,46,47,48,49,50,51,52] (fun v=>[(7,.sl 2 v 0 v),(8,.sl 3 v 0 v),(9,.sl 4 v 0 v),(10,.i v)]) (fun v=>[(2,.live false 1 (E true (DS.take v))),(3,.live false 3 (E true (IL.take v))),(4,.live false 3 (E true (BL.take v)))]) (fun v=>v≤s.length) (fun v=>s.length-v) 0 ⟨rfl,rfl,rfl,rfl,trivial⟩ ⟨rfl,rfl,rfl,trivial⟩ (Nat.zero_le _) ?_
  rintro v v1
  have hp2:(DS.take v).length=v:=by rw[List.length_take];omega
  have hp3:(IL.take v).length=v:=by rw[List.length_take];omega
  have hp4:(BL.take v).length=v:=by rw[List.length_take];omega
  by_cases hv:v<s.length
  ·obtain⟨a1,a2⟩:=h3 v hv
   have hPj:=l12Project_a r.p (s.getD v default) a1
   have hti:=hit v hv
   have htb:=hbt v hv
   have htd:=hdd v hv
   generalize prjM r.p (s.getD v default)=PM at hPj hti htd
   generalize bakM (s.getD v default)=BM at hPj htb
   repeat' first|refine s1 ?_|refine q1 ?_|fail
   refine AW.draw 12 G.mixed (by kernel_rfl) ?_
   refine Pz (.p 0<|.l 1<|.p 2<|.p 3<|.p 4<|.l 5<|.a [(6,true,.p 7<|.p 8<|.p 9<|.a [(10,true,.o 11 true<|.o 12 false<|.o 13 false<|.n),(11,true,.o 10 true<|.o 12 false<|.o 13 false<|.n)]),(10,true,.a [(6,true,.p 7<|.p 8<|.p 9<|.o 11 true<|.o 12 false<|.o 13 false<|.n),(11,true,.o 6 true<|.p 7<|.p 8<|.p 9<|.o 12 false<|.o 13 false<|.n)]),(11,true,.a [(6,true,.p 7<|.p 8<|.p 9<|.o 10 true<|.o 12 false<|.o 13 false<|.n),(10,true,.o 6 true<|.p 7<|.p 8<|.p 9<|.o 12 false<|.o 13 false<|.n)])]) ?_
   repeat' first|refine ySQ ?_|refine s1 ?_|refine q1 ?_|refine yC ?_ ?_|exact trivial|(refine kR ?_;first|refine F.c (hPj) ?_)|fail
   any_goals refine lf ?_
   all_goals
    repeat' first|refine s1 ?_|refine q1 ?_|(refine kR ?_;first|refine F.a1 Int ?_|refine F.a1 Mat (a:=PM) ?_|refine F.a1 Mat (a:=BM) ?_)|fail
    exact⟨v+1,F.fit ⟨rfl,rfl,rfl,rfl,trivial⟩ ⟨obE (by rw[htd]),obE (by rw[hti]),obE (by rw[htb]),trivial⟩,by omega,by omega⟩
  ·obtain rfl:v=s.length:=by omega
   have e:IL.take s.length=IL:=List.take_of_length_le (by omega)
   have e2:DS.take s.length=DS:=List.take_of_length_le (by omega)
   have e3:BL.take s.length=BL:=List.take_of_length_le (by omega)
   rw[e,e2,e3]
   clear hp2 hp3 hp4 e e2 e3
   have hdl':s.length=DS.length:=by omega
   repeat' first|refine s1 ?_|refine q1 ?_|(refine kR ?_;first|refine F.c (hZ) ?_)|fail
   refine F.loop (σ:=Nat) [14,59,60,61,62,63,64,65,66,67,68,69,70,71,72,73,74,75,76,77,78,79,80,81,82,83,84,85,86,87,88,89,90,91,92,93,94,95,96,97,98] (fun k=>[(14,.i k)]) (fun k=>[(3,.live false 3 (E true IL)),(4,.live false 3 (E true BL)),(8,.live false 3 (E true (mixL SM ZM k)))]) (fun k=>k≤r.m.length) (fun k=>r.m.length-k) 0 ⟨rfl,trivial⟩ ⟨rfl,rfl,obE (by rw[hm0,←hZM]),trivial⟩ (Nat.zero_le _) ?_
   rintro k k1
   have hlk:=hmx k
   by_cases hk:k<r.m.length
   ·obtain⟨m1,m2,m3,m4,m5⟩:=arrow_ok h1 hk
    have hF1:(r.q.fr.getD k default).toNat<s.length:=by omega
    have hT1:(r.q.to.getD k default).toNat<s.length:=by omega
    have hkf:k<r.q.fr.length:=by omega
    have hkt:k<r.q.to.length:=by omega
    obtain⟨f1,f2⟩:=h3 _ hF1
    obtain⟨t1,t2⟩:=h3 _ hT1
    have hsk:=hms k (by omega)
    have hsgk:SM.getD k default=quoM r.p (r.m.getD k default) (s.getD (r.q.fr.getD k default).toNat default) (s.getD (r.q.to.getD k default).toNat default):=hsg k hk
    rw[hsgk] at hsk
    have hn1:=(isSpc_spec f1).2.1
    have hn2:=(isSpc_spec t1).2.1
    have e1:(prjM r.p (s.getD (r.q.to.getD k default).toNat default)).c=(r.m.getD k default).r:=by
     show((s.getD (r.q.to.getD k default).toNat default).n.toNat:Int)=(r.m.getD k default).r
     rw[m5,←t2];omega
    have hM1:=l3MulM_a (isMat_prj t1) m1 e1
    have hP1:=isMat_mul (isMat_prj t1) m1
    have hrc:=(mulM_rc (isMat_prj t1) m1).2
    have hM2:=l3MulM_a hP1 (isMat_bak f1) (by
     rw[hrc]
     show(r.m.getD k default).c=((s.getD (r.q.fr.getD k default).toNat default).n.toNat:Int)
     rw[m4,←f2];omega)
    rw[quo_eq (by rw[f2,m4]) (by rw[t2,m5])] at hM2
    rw[←hbg _ hF1] at hM2
    generalize quoM r.p (r.m.getD k default) (s.getD (r.q.fr.getD k default).toNat default) (s.getD (r.q.to.getD k default).toNat default)=SA at hsk hM2
    generalize mulM r.p (prjM r.p (s.getD (r.q.to.getD k default).toNat default)) (r.m.getD k default)=P1 at hM1 hM2
    rw[←hig _ hT1] at hM1
    have hwT:=(Int.toNat_of_nonneg m3.1).symm
    have hwF:=(Int.toNat_of_nonneg m2.1).symm
    have hbI:(E true IL).length=s.length:=by rw[E_length,hil]
    have hbB:(E true BL).length=s.length:=by rw[E_length,hbl]
    have hwI:(r.q.to.getD k default).toNat<IL.length:=by omega
    have hwB:(r.q.fr.getD k default).toNat<BL.length:=by omega
    have hself:IL.set (r.q.to.getD k default).toNat (IL.getD (r.q.to.getD k default).toNat default)=IL:=set_self hwI
    have hselfB:BL.set (r.q.fr.getD k default).toNat (BL.getD (r.q.fr.getD k default).toNat default)=BL:=set_self hwB
    generalize mixL SM ZM k=X at hlk hsk⊢
    refine AW.takeE (α:=Mat) (o:=3) (k:=(r.q.to.getD k default).toNat) (j:=2) (ls:=IL) rfl hwI rfl (E_length _ _) ?_
    refine AW.takeE (α:=Mat) (o:=4) (k:=(r.q.fr.getD k default).toNat) (j:=2) (ls:=BL) rfl hwB rfl (E_length _ _) ?_
    repeat' first|refine s1 ?_|refine q1 ?_|fail
    refine AW.draw 33 G.mixed (by kernel_rfl) ?_
    refine Pz (.p 0<|.l 1<|.p 2<|.p 3<|.l 4<|.p 5<|.l 6<|.p 7<|.p 8<|.p 9<|.l 10<|.p 11<|.p 12<|.l 13<|.p 14<|.l 15<|.p 16<|.l 17<|.p 18<|.p 19<|.l 20<|.p 22<|.p 23<|.p 24<|.l 25<|.p 26<|.p 27<|.l 28<|.p 29<|.l 30<|.o 21 true<|.o 31 true<|.p 32<|.o 33 false<|.n) ?_
    repeat' first|refine yP (i:=14) ?_ (hs:=by exact(A.idxT (k:=(r.q.to.getD k default).toNat) rfl rfl rfl hbI hwT (by omega)))|refine yL (i:=15) ?_ (hs:=by exact(A.ldSG (k:=(r.q.to.getD k default).toNat) rfl rfl hbI (by omega) (by omega) rfl rfl))|refine yP (i:=29) ?_ (hs:=by exact(A.idxT (k:=(r.q.fr.getD k default).toNat) rfl rfl rfl hbB hwF (by omega)))|refine yL (i:=30) ?_ (hs:=by exact(A.ldSG (k:=(r.q.fr.getD k default).toNat) rfl rfl hbB (by omega) (by omega) rfl rfl))|(refine yU (i:=21) ?_;first|refine s1 ?_|refine F.c (hM1) ?_)|(refine yU (i:=31) ?_;first|refine s1 ?_|refine F.c (hM2) ?_)|(refine yU (i:=33) ?_;first|refine s1 ?_|(refine F.stGE (α:=Mat) (oo:=true) (v:=SA) rfl rfl rfl rfl rfl (by omega) (by omega) (.at1 rfl (.at1 rfl (.mv rfl (by simp) (E_length _ _) (E_pure _ _) .nil))) rfl rfl rfl rfl rfl ?_))|refine ySQ ?_|refine s1 ?_|refine q1 ?_|fail
    any_goals refine lf ?_
    all_goals
     refine AW.put (α:=Mat) (o:=3) (o2:=10) (k:=(r.q.to.getD k default).toNat) (j:=2) (v:=IL.getD (r.q.to.getD k default).toNat default) (x:=IL.getD (r.q.to.getD k default).toNat default) (ls:=IL) rfl rfl (E_length _ _) (E_pure _ _) rfl hwI rfl rfl ?_
     rw[hself]
     refine AW.put (α:=Mat) (o:=4) (o2:=11) (k:=(r.q.fr.getD k default).toNat) (j:=2) (v:=BL.getD (r.q.fr.getD k default).toNat default) (x:=BL.getD (r.q.fr.getD k default).toNat default) (ls:=BL) rfl rfl (E_length _ _) (E_pure _ _) rfl hwB rfl rfl ?_
     rw[hselfB]
     rw[Nat.zero_add k]
     repeat' first|refine s1 ?_|refine q1 ?_|fail
     exact⟨k+1,F.fit ⟨rfl,trivial⟩ ⟨rfl,rfl,obE (by rw[hsk]),trivial⟩,by omega,by omega⟩
   ·obtain rfl:k=r.m.length:=by omega
    have hma':mixL SM ZM r.m.length=SM:=by rw[←hml];exact hma
    rw[hma'] at hlk⊢
    have hSl:SM.length=r.q.fr.length:=by omega
    repeat' first|refine s1 ?_|refine q1 ?_|fail
    (refine kZ ?_;exact F.ret rfl)
def seqP(r:Rep)(s:List Spc):Rep×Rep×List Mat×List Mat×Bool:=if isSub r s=true then(subR r s,quoR r s,incL s,prjL r.p s,true) else(⟨0,⟨0,[],[]⟩,[],[]⟩,⟨0,⟨0,[],[]⟩,[],[]⟩,[],[],false)
theorem implSequenceOf_a(r:Rep)(s:List Spc):AC Tryz.prog 36 [.agg (enc false r),ar false s] [.agg (enc true (seqP r s).1),.agg (enc true (seqP r s).2.1),.dt true 3 (E true (seqP r s).2.2.1),.dt true 3 (E true (seqP r s).2.2.2.1),.b (seqP r s).2.2.2.2]:=by
 refine AC.go Tryz.func36 Tryz.ntmps36 rfl rfl fun w0 hw=>?_;simp[WfL,WfA,E_length,Enc.enc,In64] at hw
 have hS:=implIsSub_a r s
 unfold seqP
 cases hs:isSub r s with
 |false=>
  rw[hs] at hS
  rw[if_neg (by simp)]
  repeat' first|refine s1 ?_|refine q1 ?_|(refine kR ?_;first|refine F.c (hS) ?_)|fail
  (refine kZ ?_;exact F.ret rfl)
 |true=>
  rw[hs] at hS
  rw[if_pos rfl]
  have hR:=subRep_a r s hs
  have hQ:=quotientRep_a r s hs
  generalize subR r s=R at hR⊢
  generalize incL s=L at hR⊢
  generalize quoR r s=R2 at hQ⊢
  generalize prjL r.p s=L2 at hQ⊢
  repeat' first|refine s1 ?_|refine q1 ?_|(refine kR ?_;first|refine F.c (hS) ?_|refine F.c (hR) ?_|refine F.c (hQ) ?_)|fail
  refine AW.draw 0 G.mixed (by kernel_rfl) ?_
  refine Pz (.p 2<|.p 3<|.a [(0,true,.a [(1,true,.o 4 false<|.o 5 false<|.p 6<|.p 7<|.p 8<|.n),(4,false,.o 1 true<|.o 5 false<|.p 6<|.p 7<|.p 8<|.n)]),(1,true,.o 0 true<|.o 4 false<|.o 5 false<|.p 6<|.p 7<|.p 8<|.n)]) ?_
  repeat' first|refine ySQ ?_|refine s1 ?_|refine q1 ?_|refine yC ?_ ?_|exact trivial|fail
  any_goals refine lf ?_
  all_goals
   repeat' first|refine s1 ?_|refine q1 ?_|fail
   (refine kZ ?_;exact F.ret rfl)
theorem specSequenceOf_a(r:Rep)(s:List Spc):AC Tryz.prog 37 [.agg (enc false r),ar false s] [.agg (enc true (seqP r s).1),.agg (enc true (seqP r s).2.1),.dt true 3 (E true (seqP r s).2.2.1),.dt true 3 (E true (seqP r s).2.2.2.1),.b (seqP r s).2.2.2.2]:=by
 refine AC.go Tryz.func37 Tryz.ntmps37 rfl rfl fun w0 hw=>?_;simp[WfL,WfA,E_length,Enc.enc,In64] at hw
 have hR:=specSubRep_a r s
 have hQ:=specQuotientRep_a r s
 unfold seqP
 unfold subP at hR
 unfold quoP at hQ
 cases hs:isSub r s with
 |false=>
  rw[hs,if_neg (by simp)] at hR
  rw[hs,if_neg (by simp)] at hQ
  dsimp only at hR hQ
  rw[if_neg (by simp)]
  repeat' first|refine s1 ?_|refine q1 ?_|(refine kR ?_;first|refine F.c (hR) ?_|refine F.c (hQ) ?_)|fail
  (refine kZ ?_;exact F.ret rfl)
 |true=>
  rw[hs,if_pos rfl] at hR
  rw[hs,if_pos rfl] at hQ
  dsimp only at hR hQ
  rw[if_pos rfl]
  generalize subR r s=R at hR⊢
  generalize incL s=L at hR⊢
  generalize quoR r s=R2 at hQ⊢
  generalize prjL r.p s=L2 at hQ⊢
  repeat' first|refine s1 ?_|refine q1 ?_|(refine kR ?_;first|refine F.c (hR) ?_|refine F.c (hQ) ?_)|fail
  refine AW.draw 0 G.mixed (by kernel_rfl) ?_
  refine Pz (.p 2<|.p 3<|.a [(0,true,.a [(1,true,.o 4 false<|.o 5 false<|.p 6<|.p 7<|.p 8<|.n),(4,false,.o 1 true<|.o 5 false<|.p 6<|.p 7<|.p 8<|.n)]),(1,true,.o 0 true<|.o 4 false<|.o 5 false<|.p 6<|.p 7<|.p 8<|.n)]) ?_
  repeat' first|refine ySQ ?_|refine s1 ?_|refine q1 ?_|refine yC ?_ ?_|exact trivial|fail
  any_goals refine lf ?_
  all_goals
   repeat' first|refine s1 ?_|refine q1 ?_|fail
   (refine kZ ?_;exact F.ret rfl)
end Go.Proofs.YtjmjamhhppoimaaGreat.V
