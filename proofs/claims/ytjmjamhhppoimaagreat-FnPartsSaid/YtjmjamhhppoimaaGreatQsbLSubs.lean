/- The law FnParts holds for every input. -/
import Derived.Test.YtjmjamhhppoimaaGreatQsbDown
import Derived.OpenShut
namespace Go.Proofs.YtjmjamhhppoimaaGreat
open V.Enc (enc)
open Go.ChangeShapes Go.WideShapes Go.ChangeAt Go.RowKit G D V
set_option linter.unusedVariables false
set_option linter.unusedSimpArgs false
set_option maxHeartbeats 8000000
set_option maxRecDepth 4000
attribute [local irreducible] V.AW V.ARg V.ARA V.ARet V.MRet V.ASil V.AC V.AM V.AMx V.AD V.ARI
theorem bE{a b:Bool}(h:a=b):AV.b a=AV.b b:=by rw[h]
theorem fnParts.ac(b:List UInt8):AC Tryz.prog 4 [ar false b] [.b true]:=by
 refine AC.go Tryz.func4 Tryz.ntmps4 rfl rfl fun w0 hw=>?_;simp[WfL,WfA,E_length,Enc.enc,In64] at hw
 have hB:=big_a b
 by_cases hl:(1048576:Int)<b.length
 ·rw[decide_eq_true hl] at hB
  repeat' first|refine s1 ?_|(refine kR ?_;first|refine F.c (hB) ?_)|fail
  (refine kZ ?_;exact F.ret rfl)
 ·rw[decide_eq_false hl] at hB
  have hl:b.length≤1048576:=by omega
  have hD1:=drawSequenceOf_x b hl
  have hD2:=drawMeetSubs_x b hl
  have hD3:=drawGeneratedSub_x b hl
  have hD4:=drawWholeSub_x b hl
  have hD5:=drawIsSub_x b hl
  have hD6:=drawEqualSubs_x b hl
  have hD7:=drawSubRep_x b hl
  repeat' first|refine AW.freezeP (α:=Rep) (oo:=false) r 3 rfl rfl ?_|refine s1 ?_|(refine kR ?_;first|refine F.c (hB) ?_|(refine F.x [] (hD1) ?_;rintro⟨r,s⟩ hs;refine F.xk ?_))|fail
  have hSi:=implSequenceOf_a r s
  have hSs:=specSequenceOf_a r s
  have hIs:=specIsSub_a r s
  have hTr:=implTotalOf_a r
  have hSd:=implSubDims_a r s
  have hq:=seq_facts r s
  generalize seqP r s=Q at hSi hSs hq
  obtain⟨A1,C1,f,g,c⟩:=Q
  dsimp only at hSi hSs hq
  have hE1:=equalReps_a A1
  have hE2:=equalReps_a C1
  have hM1:=specEqualMorphisms_a f f
  have hM2:=specEqualMorphisms_a g g
  rw[sameL_self] at hM1 hM2
  repeat' first|(refine AW.putV 5 2 rfl rfl rfl rfl (E_length _ _) (E_pure _ _) rfl ?_;refine AW.putV 5 3 rfl rfl rfl rfl (E_length _ _) (E_pure _ _) rfl ?_;refine AW.putV 5 4 rfl rfl rfl rfl (E_length _ _) (E_pure _ _) rfl ?_;refine AW.putV 5 5 rfl rfl rfl rfl (E_length _ _) (E_pure _ _) rfl ?_;refine AW.freezeP (α:=Rep) (oo:=true) A1 5 rfl rfl ?_)|(refine AW.putV 6 2 rfl rfl rfl rfl (E_length _ _) (E_pure _ _) rfl ?_;refine AW.putV 6 3 rfl rfl rfl rfl (E_length _ _) (E_pure _ _) rfl ?_;refine AW.putV 6 4 rfl rfl rfl rfl (E_length _ _) (E_pure _ _) rfl ?_;refine AW.putV 6 5 rfl rfl rfl rfl (E_length _ _) (E_pure _ _) rfl ?_;refine AW.freezeP (α:=Rep) (oo:=true) C1 6 rfl rfl ?_)|(refine AW.putV 10 2 rfl rfl rfl rfl (E_length _ _) (E_pure _ _) rfl ?_;refine AW.putV 10 3 rfl rfl rfl rfl (E_length _ _) (E_pure _ _) rfl ?_;refine AW.putV 10 4 rfl rfl rfl rfl (E_length _ _) (E_pure _ _) rfl ?_;refine AW.putV 10 5 rfl rfl rfl rfl (E_length _ _) (E_pure _ _) rfl ?_;refine AW.freezeP (α:=Rep) (oo:=true) A1 10 rfl rfl ?_)|(refine AW.putV 11 2 rfl rfl rfl rfl (E_length _ _) (E_pure _ _) rfl ?_;refine AW.putV 11 3 rfl rfl rfl rfl (E_length _ _) (E_pure _ _) rfl ?_;refine AW.putV 11 4 rfl rfl rfl rfl (E_length _ _) (E_pure _ _) rfl ?_;refine AW.putV 11 5 rfl rfl rfl rfl (E_length _ _) (E_pure _ _) rfl ?_;refine AW.freezeP (α:=Rep) (oo:=true) C1 11 rfl rfl ?_)|refine AW.freezeA (α:=Mat) (oo:=true) (ls:=f) 7 rfl rfl rfl ?_|refine AW.freezeA (α:=Mat) (oo:=true) (ls:=g) 8 rfl rfl rfl ?_|refine AW.freezeA (α:=Mat) (oo:=true) (ls:=f) 12 rfl rfl rfl ?_|refine AW.freezeA (α:=Mat) (oo:=true) (ls:=g) 13 rfl rfl rfl ?_|refine s1 ?_|(refine kR ?_;first|refine F.c (hSi) ?_|refine F.c (hSs) ?_)|fail
  refine AW.only [(0,.dt false 1 (E false b)),(2,.b false),(3,.ip (enc false r)),(4,.dt false 2 (E false s)),(5,.ip (enc false A1)),(6,.ip (enc false C1)),(7,.dt false 3 (E false f)),(8,.dt false 3 (E false g)),(9,.b c),(10,.ip (enc false A1)),(11,.ip (enc false C1)),(12,.dt false 3 (E false f)),(13,.dt false 3 (E false g)),(14,.b c)] [] _ ⟨rfl,rfl,rfl,rfl,rfl,rfl,rfl,rfl,rfl,rfl,rfl,rfl,rfl,rfl,trivial⟩ trivial rfl ?_
  refine F.cut (σ:=Unit) [85,86,87,88,89,90,91,92,93,94,95,96,97,98,99,100,101,102,103,104,105,106,107,108,109,110,111,112,113,114,115,116,117,118,119,120,121,122,123,124,125,126,127,128,129,130,131,132,133,134,135,136,137,138,139,140,141,142,143,144,145,146,147,148,149] (fun _=>[(149,.b false)]) (fun _=>[]) (fun _=>True) ?_ (fun _ _=>?_)
  ·rw[←hq.1] at hIs
   cases hc:c with
   |false=>
    as_aux_lemma=>
    rw[hc] at hIs
    refine AW.draw 65 G.mixed (by kernel_rfl) ?_
    refine Pz (.p 0<|.p 1<|.p 2<|.p 3<|.g 88<|.j 4<|.j 5<|.o 6 true<|.k 7<|.p 8<|.p 9<|.g 94<|.j 10<|.j 11<|.o 12 true<|.k 13<|.p 14<|.p 15<|.g 100<|.k 16<|.k 17<|.o 18 true<|.k 19<|.p 20<|.p 21<|.g 106<|.k 22<|.k 23<|.o 24 true<|.k 25<|.p 26<|.p 27<|.g 112<|.k 28<|.j 29<|.k 30<|.o 31 true<|.k 32<|.p 33<|.p 34<|.g 119<|.k 35<|.k 36<|.g 121<|.j 37<|.j 38<|.j 39<|.k 40<|.k 41<|.o 42 true<|.k 43<|.k 44<|.g 129<|.j 45<|.j 47<|.j 50<|.o 46 true<|.o 48 true<|.k 49<|.o 51 true<|.k 52<|.k 53<|.k 54<|.g 139<|.j 55<|.k 56<|.k 58<|.j 59<|.o 57 true<|.o 60 true<|.k 61<|.k 62<|.k 63<|.p 64<|.n) ?_
    repeat' first|refine yP (i:=2) ?_ (hs:=by exact(A.neqSame rfl rfl))|refine yP (i:=32) ?_ (hs:=by exact(A.neqSame rfl rfl))|(refine yU (i:=18) ?_;first|refine s1 ?_|refine F.c (hM1) ?_)|(refine yU (i:=24) ?_;first|refine s1 ?_|refine F.c (hM2) ?_)|refine yS ?_|refine s1 ?_|(refine yD ?_ ?_<;>intro hc<;>(try simp only[decide_eq_true_eq,decide_eq_false_iff_not,Bool.not_eq_true',Bool.not_eq_false'] at hc))|refine yG ?_|(refine kR ?_;first|refine F.c (hE1) ?_|refine F.c (hE2) ?_|refine F.c (hIs) ?_)|fail
    any_goals refine lf ?_
    all_goals
     repeat' first|refine s1 ?_|fail
     exact⟨(),F.fit ⟨rfl,trivial⟩ trivial,trivial⟩
   |true=>
    as_aux_lemma=>
    rw[hc] at hIs
    obtain⟨q1,q2,q3,q4,q5,q6,q7,q8,q9⟩:=hq.2 hc
    have hSh:=implIsShortExact_a A1 r C1 f g
    rw[q1] at hSh
    have hTA:=implTotalOf_a A1
    have hTC:=implTotalOf_a C1
    rw[if_pos q2] at hTA
    rw[if_pos q3] at hTC
    rw[if_pos q4,←q5] at hTr
    rw[if_pos q9,q6] at hSd
    have hSI:=sameInts_a A1.d A1.d
    rw[decide_eq_true rfl] at hSI
    generalize A1.d.sum=zA at*
    generalize C1.d.sum=zC at*
    refine AW.draw 65 G.mixed (by kernel_rfl) ?_
    refine Pz (.p 0<|.p 1<|.p 2<|.p 3<|.g 88<|.j 4<|.j 5<|.o 6 true<|.k 7<|.p 8<|.p 9<|.g 94<|.j 10<|.j 11<|.o 12 true<|.k 13<|.p 14<|.p 15<|.g 100<|.k 16<|.k 17<|.o 18 true<|.k 19<|.p 20<|.p 21<|.g 106<|.k 22<|.k 23<|.o 24 true<|.k 25<|.p 26<|.p 27<|.g 112<|.k 28<|.j 29<|.k 30<|.o 31 true<|.k 32<|.p 33<|.p 34<|.g 119<|.k 35<|.k 36<|.g 121<|.j 37<|.j 38<|.j 39<|.k 40<|.k 41<|.o 42 true<|.k 43<|.k 44<|.g 129<|.j 45<|.j 47<|.j 50<|.o 46 true<|.o 48 true<|.k 49<|.o 51 true<|.k 52<|.k 53<|.k 54<|.g 139<|.j 55<|.k 56<|.k 58<|.j 59<|.o 57 true<|.o 60 true<|.k 61<|.k 62<|.k 63<|.p 64<|.n) ?_
    repeat' first|refine yP (i:=2) ?_ (hs:=by exact(A.neqSame rfl rfl))|refine yP (i:=32) ?_ (hs:=by exact(A.neqSame rfl rfl))|(refine yU (i:=18) ?_;first|refine s1 ?_|refine F.c (hM1) ?_)|(refine yU (i:=24) ?_;first|refine s1 ?_|refine F.c (hM2) ?_)|(refine yU (i:=46) ?_;first|refine s1 ?_|refine F.c (hTA) ?_)|(refine yU (i:=48) ?_;first|refine s1 ?_|refine F.c (hTC) ?_)|(refine yU (i:=51) ?_;first|refine s1 ?_|refine F.c (hTr) ?_)|refine yS ?_|refine s1 ?_|(refine yD ?_ ?_<;>intro hc<;>(try simp only[decide_eq_true_eq,decide_eq_false_iff_not,Bool.not_eq_true',Bool.not_eq_false'] at hc))|refine yG ?_|(refine kR ?_;first|refine F.c (hE1) ?_|refine F.c (hE2) ?_|refine F.c (hIs) ?_|refine F.c (hSh) ?_|refine F.c (hSd) ?_|refine F.c (hSI) ?_)|fail
    any_goals refine lf ?_
    all_goals
     repeat' first|refine s1 ?_|fail
     exact⟨(),F.fit ⟨rfl,trivial⟩ trivial,trivial⟩
  ·clear hSi hSs hIs hTr hSd hq hE1 hE2 hM1 hM2
   as_aux_lemma=>
   repeat' first|refine AW.freezeP (α:=Rep) (oo:=false) x 15 rfl rfl ?_|refine s1 ?_|(refine kR ?_;first|(refine F.x [] (hD2) ?_;rintro⟨x,t,u⟩ ⟨ht,hu⟩;refine F.xk ?_))|fail
   have hMi:=implMeetSubs_a x t u
   have hMs:=specMeetSubs_a x t u
   have hAi:=implAddSubs_a x t u
   have hAs:=specAddSubs_a x t u
   have hf:=metadd_facts x t u
   have hm1:=metP_small x t u
   have hm2:=addP_small x t u
   have hDt:=implSubDims_a x t
   have hDu:=implSubDims_a x u
   generalize metP x t u=M1 at hMi hMs hf hm1
   obtain⟨m,c1⟩:=M1
   generalize addP x t u=M2 at hAi hAs hf hm2
   obtain⟨o,c2⟩:=M2
   dsimp only at hMi hMs hAi hAs hf hm1 hm2
   obtain⟨rfl,hf⟩:=hf
   have hSm:=specEqualSubs_a m m hm1
   have hSo:=specEqualSubs_a o o hm2
   rw[sameSL_refl] at hSm hSo
   repeat' first|refine AW.freezeA (α:=Spc) (oo:=true) (ls:=m) 18 rfl rfl rfl ?_|refine AW.freezeA (α:=Spc) (oo:=true) (ls:=m) 20 rfl rfl rfl ?_|refine AW.freezeA (α:=Spc) (oo:=true) (ls:=o) 22 rfl rfl rfl ?_|refine AW.freezeA (α:=Spc) (oo:=true) (ls:=o) 24 rfl rfl rfl ?_|refine s1 ?_|(refine kR ?_;first|refine F.c (hMi) ?_|refine F.c (hMs) ?_|refine F.c (hAi) ?_|refine F.c (hAs) ?_)|fail
   refine AW.only [(0,.dt false 1 (E false b)),(2,.b false),(15,.ip (enc false x)),(16,.dt false 2 (E false t)),(17,.dt false 2 (E false u)),(18,.dt false 2 (E false m)),(19,.b c1),(20,.dt false 2 (E false m)),(21,.b c1),(22,.dt false 2 (E false o)),(23,.b c1),(24,.dt false 2 (E false o)),(25,.b c1)] [] _ ⟨rfl,rfl,rfl,rfl,rfl,rfl,rfl,rfl,rfl,rfl,rfl,rfl,rfl,trivial⟩ trivial rfl ?_
   refine F.cut (σ:=Unit) [184,185,186,187,188,189,190,191,192,193,194,195,196,197,198,199,200,201,202,203,204,205,206,207,208,209,210,211,212,213,214,215,216,217,218,219,220,221,222,223,224,225,226,227,228,229,230,231,232,233,234,235,236,237,238,239] (fun _=>[(239,.b false)]) (fun _=>[]) (fun _=>True) ?_ (fun _ _=>?_)
   ·cases hc:c1 with
    |false=>
     as_aux_lemma=>
     refine AW.draw 56 G.mixed (by kernel_rfl) ?_
     refine Pz (.p 0<|.p 1<|.p 2<|.p 3<|.g 187<|.k 4<|.k 5<|.o 6 true<|.k 7<|.p 8<|.p 9<|.g 193<|.k 10<|.k 11<|.k 12<|.p 13<|.p 14<|.g 198<|.k 15<|.k 16<|.o 17 true<|.k 18<|.p 19<|.p 20<|.g 204<|.k 21<|.k 22<|.g 206<|.j 23<|.k 24<|.o 25 true<|.k 26<|.k 27<|.g 211<|.j 28<|.k 29<|.o 30 true<|.k 31<|.k 32<|.k 33<|.g 217<|.j 34<|.k 35<|.j 38<|.k 39<|.j 43<|.k 44<|.j 47<|.k 48<|.o 36 true<|.o 37 true<|.o 40 true<|.o 41 true<|.k 42<|.o 45 true<|.o 46 true<|.o 49 true<|.o 50 true<|.k 51<|.k 52<|.k 53<|.k 54<|.p 55<|.n) ?_
     repeat' first|refine yP (i:=2) ?_ (hs:=by exact(A.neqSame rfl rfl))|refine yP (i:=12) ?_ (hs:=by exact(A.neqSame rfl rfl))|(refine yU (i:=6) ?_;first|refine s1 ?_|refine F.c (hSm) ?_)|(refine yU (i:=17) ?_;first|refine s1 ?_|refine F.c (hSo) ?_)|refine yS ?_|refine s1 ?_|(refine yD ?_ ?_<;>intro hc<;>(try simp only[decide_eq_true_eq,decide_eq_false_iff_not,Bool.not_eq_true',Bool.not_eq_false'] at hc))|refine yG ?_|fail
     any_goals refine lf ?_
     all_goals
      repeat' first|refine s1 ?_|fail
      exact⟨(),F.fit ⟨rfl,trivial⟩ trivial,trivial⟩
    |true=>
     as_aux_lemma=>
     obtain⟨p1,p2,p3,p4,p5⟩:=hf hc
     have hIm:=implIsSub_a x m
     have hIo:=implIsSub_a x o
     have hDm:=implSubDims_a x m
     have hDo:=implSubDims_a x o
     rw[p1] at hIm
     rw[p2] at hIo
     rw[if_pos p1] at hDm
     rw[if_pos p2] at hDo
     rw[if_pos p3] at hDt
     rw[if_pos p4] at hDu
     have hTm:=dims_total p1
     have hTo:=dims_total p2
     have hTt:=dims_total p3
     have hTu:=dims_total p4
     obtain⟨m1,m2,m3,m4⟩:=hTm
     obtain⟨o1,o2,o3,o4⟩:=hTo
     obtain⟨t1,t2,t3,t4⟩:=hTt
     obtain⟨u1,u2,u3,u4⟩:=hTu
     have kM:=total_a (dimS m) m1 m2
     have kO:=total_a (dimS o) o1 o2
     have kT:=total_a (dimS t) t1 t2
     have kU:=total_a (dimS u) u1 u2
     generalize (dimS m).sum=sm at*
     generalize (dimS o).sum=so at*
     generalize (dimS t).sum=st at*
     generalize (dimS u).sum=su at*
     refine AW.draw 56 G.mixed (by kernel_rfl) ?_
     refine Pz (.p 0<|.p 1<|.p 2<|.p 3<|.g 187<|.k 4<|.k 5<|.o 6 true<|.k 7<|.p 8<|.p 9<|.g 193<|.k 10<|.k 11<|.k 12<|.p 13<|.p 14<|.g 198<|.k 15<|.k 16<|.o 17 true<|.k 18<|.p 19<|.p 20<|.g 204<|.k 21<|.k 22<|.g 206<|.j 23<|.k 24<|.o 25 true<|.k 26<|.k 27<|.g 211<|.j 28<|.k 29<|.o 30 true<|.k 31<|.k 32<|.k 33<|.g 217<|.j 34<|.k 35<|.j 38<|.k 39<|.j 43<|.k 44<|.j 47<|.k 48<|.o 36 true<|.o 37 true<|.o 40 true<|.o 41 true<|.k 42<|.o 45 true<|.o 46 true<|.o 49 true<|.o 50 true<|.k 51<|.k 52<|.k 53<|.k 54<|.p 55<|.n) ?_
     repeat' first|refine yP (i:=2) ?_ (hs:=by exact(A.neqSame rfl rfl))|refine yP (i:=12) ?_ (hs:=by exact(A.neqSame rfl rfl))|(refine yU (i:=6) ?_;first|refine s1 ?_|refine F.c (hSm) ?_)|(refine yU (i:=17) ?_;first|refine s1 ?_|refine F.c (hSo) ?_)|(refine yU (i:=25) ?_;first|refine s1 ?_|refine F.c (hIm) ?_)|(refine yU (i:=30) ?_;first|refine s1 ?_|refine F.c (hIo) ?_)|(refine yU (i:=36) ?_;first|refine s1 ?_|refine F.c (hDm) ?_)|(refine yU (i:=37) ?_;first|refine s1 ?_|refine F.c (kM) ?_)|(refine yU (i:=40) ?_;first|refine s1 ?_|refine F.c (hDo) ?_)|(refine yU (i:=41) ?_;first|refine s1 ?_|refine F.c (kO) ?_)|(refine yU (i:=45) ?_;first|refine s1 ?_|refine F.c (hDt) ?_)|(refine yU (i:=46) ?_;first|refine s1 ?_|refine F.c (kT) ?_)|(refine yU (i:=49) ?_;first|refine s1 ?_|refine F.c (hDu) ?_)|(refine yU (i:=50) ?_;first|refine s1 ?_|refine F.c (kU) ?_)|refine yS ?_|refine s1 ?_|(refine yD ?_ ?_<;>intro hc<;>(try simp only[decide_eq_true_eq,decide_eq_false_iff_not,Bool.not_eq_true',Bool.not_eq_false'] at hc))|refine yG ?_|fail
     any_goals refine lf ?_
     all_goals
      repeat' first|refine s1 ?_|fail
      exact⟨(),F.fit ⟨bE (by simp;omega),trivial⟩ trivial,trivial⟩
   ·clear hMi hMs hAi hAs hf hm1 hm2 hDt hDu hSm hSo
    as_aux_lemma=>
    repeat' first|refine AW.freezeP (α:=Rep) (oo:=false) e 26 rfl rfl ?_|refine AW.freezeA (α:=Int) (oo:=true) (ls:=y) 28 rfl rfl rfl ?_|refine s1 ?_|(refine kR ?_;first|(refine F.x [] (hD3) ?_;rintro⟨e,v,y⟩ hr;refine F.xk ?_))|fail
    have hGi:=implGeneratedSub_g e v y
    have hGs:=specGeneratedSub_g e v y
    have hgf:=@gen_facts e v y
    have hgm:=gen_small e v y
    generalize genP e v y=G1 at hGi hGs hgf hgm
    obtain⟨j,c3⟩:=G1
    dsimp only at hGi hGs hgf hgm
    have hSj:=specEqualSubs_a j j hgm
    rw[sameSL_refl] at hSj
    repeat' first|refine AW.freezeA (α:=Spc) (oo:=false) (ls:=j) 29 rfl rfl rfl ?_|refine AW.freezeA (α:=Spc) (oo:=false) (ls:=j) 31 rfl rfl rfl ?_|refine s1 ?_|(refine kR ?_;first|refine F.w (hGi) ?_|refine F.w (hGs) ?_)|fail
    refine AW.only [(0,.dt false 1 (E false b)),(2,.b false),(26,.ip (enc false e)),(27,.i v),(28,.dt false 1 (E false y)),(29,.dt false 2 (E false j)),(30,.b c3),(31,.dt false 2 (E false j)),(32,.b c3)] [] _ ⟨rfl,rfl,rfl,rfl,rfl,rfl,rfl,rfl,rfl,trivial⟩ trivial rfl ?_
    apply V.tailedT
    ·intro tail
     cases hc:c3 with
     |false=>
      refine AW.draw 29 G.mixed (by kernel_rfl) ?_
      refine Pz (.p 0<|.p 1<|.p 2<|.p 3<|.g 263<|.k 4<|.k 5<|.o 6 true<|.k 7<|.p 8<|.p 9<|.g 269<|.k 10<|.k 11<|.g 271<|.j 12<|.k 13<|.o 14 true<|.k 15<|.k 16<|.g 276<|.k 17<|.j 18<|.k 19<|.k 20<|.k 21<|.j 22<|.k 23<|.o 24 true<|.k 25<|.k 26<|.k 27<|.p 28<|.n) ?_
      repeat' first|refine yP (i:=2) ?_ (hs:=by exact(A.neqSame rfl rfl))|refine yS ?_|refine s1 ?_|(refine yD ?_ ?_<;>intro hc<;>(try simp only[decide_eq_true_eq,decide_eq_false_iff_not,Bool.not_eq_true',Bool.not_eq_false'] at hc))|refine yG ?_|(refine kR ?_;first|refine F.c (hSj) ?_)|fail
      any_goals refine lf ?_
      all_goals
       refine AW.only [(0,.dt false 1 (E false b)),(2,.b false),(288,.b false)] [] _ ⟨rfl,rfl,rfl,trivial⟩ trivial rfl ?_
       exact tail.t
     |true=>
      obtain⟨p1,⟨p2,p3⟩,p4,p5,p6,p7⟩:=hgf hc
      have hIj:=implIsSub_a e j
      rw[p1] at hIj
      have hIn:=inSpace_a e.p (j.getD v.toNat default) y p5 p4 p6
      rw[p7] at hIn
      refine AW.draw 29 G.mixed (by kernel_rfl) ?_
      refine Pz (.p 0<|.p 1<|.p 2<|.p 3<|.g 263<|.k 4<|.k 5<|.o 6 true<|.k 7<|.p 8<|.p 9<|.g 269<|.k 10<|.k 11<|.g 271<|.j 12<|.k 13<|.o 14 true<|.k 15<|.k 16<|.g 276<|.k 17<|.j 18<|.k 19<|.k 20<|.k 21<|.j 22<|.k 23<|.o 24 true<|.k 25<|.k 26<|.k 27<|.p 28<|.n) ?_
      repeat' first|refine yP (i:=2) ?_ (hs:=by exact(A.neqSame rfl rfl))|refine yS ?_|refine s1 ?_|(refine yD ?_ ?_<;>intro hc<;>(try simp only[decide_eq_true_eq,decide_eq_false_iff_not,Bool.not_eq_true',Bool.not_eq_false'] at hc))|refine yG ?_|(refine kR ?_;first|refine F.c (hSj) ?_|refine F.c (hIj) ?_|refine F.c (hIn) ?_)|fail
      any_goals refine lf ?_
      all_goals
       refine AW.only [(0,.dt false 1 (E false b)),(2,.b false),(288,.b false)] [] _ ⟨rfl,rfl,rfl,trivial⟩ trivial rfl ?_
       exact tail.t
    ·clear hGi hGs hgf hgm hSj
     as_aux_lemma=>
     repeat' first|(refine AW.putV 33 4 rfl rfl rfl rfl (E_length _ _) (E_pure _ _) rfl ?_;refine AW.putV 33 5 rfl rfl rfl rfl (E_length _ _) (E_pure _ _) rfl ?_;refine AW.freezeV (enc false z) 33 rfl rfl (repA_pure z) (repA_frz z) ?_)|refine s1 ?_|(refine kR ?_;first|(refine F.x [] (hD4) ?_;rintro z hz;refine F.xk ?_))|fail
     have hWi:=implWholeSub_a z
     have hWs:=specWholeSub_g z
     have hZi:=implZeroSub_a z
     have hZs:=specZeroSub_a z
     have hws:=whole_small z
     have hzs:=zero_small z
     generalize (if isRep z=true then socK z 0 else[])=W1 at hWi hWs hws
     generalize (if isRep z=true then radK z 0 else[])=Z1 at hZi hZs hzs
     generalize isRep z=cz at hWi hWs hZi hZs
     have hSw:=specEqualSubs_a W1 W1 hws
     have hSz:=specEqualSubs_a Z1 Z1 hzs
     rw[sameSL_refl] at hSw hSz
     repeat' first|refine AW.freezeA (α:=Spc) (oo:=true) (ls:=W1) 34 rfl rfl rfl ?_|refine AW.freezeA (α:=Spc) (oo:=true) (ls:=W1) 36 rfl rfl rfl ?_|refine AW.freezeA (α:=Spc) (oo:=true) (ls:=Z1) 38 rfl rfl rfl ?_|refine AW.freezeA (α:=Spc) (oo:=true) (ls:=Z1) 40 rfl rfl rfl ?_|refine AW.freezeP (α:=Rep) (oo:=false) d1 42 rfl rfl ?_|refine AW.freezeP (α:=Rep) (oo:=false) h1 46 rfl rfl ?_|refine s1 ?_|(refine kR ?_;first|refine F.c (hWi) ?_|refine F.c (hWs) ?_|refine F.c (hZi) ?_|refine F.c (hZs) ?_|(refine F.x [] (hD5) ?_;rintro⟨d1,e1⟩ hde;refine F.xk ?_)|(refine F.x [] (hD6) ?_;rintro⟨f1,g1⟩ ⟨hf1,hg1⟩;refine F.xk ?_)|(refine F.x [] (hD7) ?_;rintro⟨h1,i1⟩ hhi;refine F.xk ?_))|fail
     have hRi:=implSubRep_a h1 i1
     have hRs:=specSubRep_a h1 i1
     have hQi:=implQuotientRep_a h1 i1
     have hQs:=specQuotientRep_a h1 i1
     generalize subP h1 i1=P1 at hRi hRs
     obtain⟨R1,L1,c4⟩:=P1
     generalize quoP h1 i1=P2 at hQi hQs
     obtain⟨R2,L2,c5⟩:=P2
     dsimp only at hRi hRs hQi hQs
     have hU1:=implIsSub_a d1 e1
     have hU2:=specIsSub_a d1 e1
     generalize isSub d1 e1=c6 at hU1 hU2
     have hU3:=implEqualSubs_a f1 g1
     have hU4:=specEqualSubs_a f1 g1 hf1
     generalize sameSL f1 g1=c7 at hU3 hU4
     have hX1:=equalReps_a R1
     have hX2:=equalReps_a R2
     have hY1:=specEqualMorphisms_a L1 L1
     have hY2:=specEqualMorphisms_a L2 L2
     rw[sameL_self] at hY1 hY2
     repeat' first|(refine AW.putV 48 2 rfl rfl rfl rfl (E_length _ _) (E_pure _ _) rfl ?_;refine AW.putV 48 3 rfl rfl rfl rfl (E_length _ _) (E_pure _ _) rfl ?_;refine AW.putV 48 4 rfl rfl rfl rfl (E_length _ _) (E_pure _ _) rfl ?_;refine AW.putV 48 5 rfl rfl rfl rfl (E_length _ _) (E_pure _ _) rfl ?_;refine AW.freezeP (α:=Rep) (oo:=true) R1 48 rfl rfl ?_)|(refine AW.putV 51 2 rfl rfl rfl rfl (E_length _ _) (E_pure _ _) rfl ?_;refine AW.putV 51 3 rfl rfl rfl rfl (E_length _ _) (E_pure _ _) rfl ?_;refine AW.putV 51 4 rfl rfl rfl rfl (E_length _ _) (E_pure _ _) rfl ?_;refine AW.putV 51 5 rfl rfl rfl rfl (E_length _ _) (E_pure _ _) rfl ?_;refine AW.freezeP (α:=Rep) (oo:=true) R1 51 rfl rfl ?_)|(refine AW.putV 54 2 rfl rfl rfl rfl (E_length _ _) (E_pure _ _) rfl ?_;refine AW.putV 54 3 rfl rfl rfl rfl (E_length _ _) (E_pure _ _) rfl ?_;refine AW.putV 54 4 rfl rfl rfl rfl (E_length _ _) (E_pure _ _) rfl ?_;refine AW.putV 54 5 rfl rfl rfl rfl (E_length _ _) (E_pure _ _) rfl ?_;refine AW.freezeP (α:=Rep) (oo:=true) R2 54 rfl rfl ?_)|(refine AW.putV 57 2 rfl rfl rfl rfl (E_length _ _) (E_pure _ _) rfl ?_;refine AW.putV 57 3 rfl rfl rfl rfl (E_length _ _) (E_pure _ _) rfl ?_;refine AW.putV 57 4 rfl rfl rfl rfl (E_length _ _) (E_pure _ _) rfl ?_;refine AW.putV 57 5 rfl rfl rfl rfl (E_length _ _) (E_pure _ _) rfl ?_;refine AW.freezeP (α:=Rep) (oo:=true) R2 57 rfl rfl ?_)|refine AW.freezeA (α:=Mat) (oo:=true) (ls:=L1) 49 rfl rfl rfl ?_|refine AW.freezeA (α:=Mat) (oo:=true) (ls:=L1) 52 rfl rfl rfl ?_|refine AW.freezeA (α:=Mat) (oo:=true) (ls:=L2) 55 rfl rfl rfl ?_|refine AW.freezeA (α:=Mat) (oo:=true) (ls:=L2) 58 rfl rfl rfl ?_|refine s1 ?_|(refine kR ?_;first|refine F.c (hRi) ?_|refine F.c (hRs) ?_|refine F.c (hQi) ?_|refine F.c (hQs) ?_)|fail
     refine AW.only [(0,.dt false 1 (E false b)),(2,.b false),(34,.dt false 2 (E false W1)),(35,.b cz),(36,.dt false 2 (E false W1)),(37,.b cz),(38,.dt false 2 (E false Z1)),(39,.b cz),(40,.dt false 2 (E false Z1)),(41,.b cz),(42,.ip (enc false d1)),(43,.dt false 2 (E false e1)),(44,.dt false 2 (E false f1)),(45,.dt false 2 (E false g1)),(48,.ip (enc false R1)),(49,.dt false 3 (E false L1)),(50,.b c4),(51,.ip (enc false R1)),(52,.dt false 3 (E false L1)),(53,.b c4),(54,.ip (enc false R2)),(55,.dt false 3 (E false L2)),(56,.b c5),(57,.ip (enc false R2)),(58,.dt false 3 (E false L2)),(59,.b c5)] [] _ ⟨rfl,rfl,rfl,rfl,rfl,rfl,rfl,rfl,rfl,rfl,rfl,rfl,rfl,rfl,rfl,rfl,rfl,rfl,rfl,rfl,rfl,rfl,rfl,rfl,rfl,rfl,trivial⟩ trivial rfl ?_
     refine AW.draw 67 G.mixed (by kernel_rfl) ?_
     refine Pz (.p 0<|.p 1<|.p 2<|.p 3<|.g 357<|.k 4<|.k 5<|.o 6 true<|.p 7<|.p 8<|.g 362<|.k 9<|.k 10<|.k 11<|.p 12<|.p 13<|.g 367<|.k 14<|.k 15<|.o 16 true<|.p 17<|.p 18<|.g 372<|.j 19<|.k 20<|.j 22<|.k 23<|.o 21 true<|.o 24 true<|.k 25<|.p 26<|.p 27<|.g 381<|.k 28<|.k 29<|.k 31<|.k 32<|.o 30 true<|.o 33 true<|.k 34<|.p 35<|.p 36<|.g 390<|.k 37<|.k 38<|.k 39<|.p 40<|.p 41<|.g 395<|.j 42<|.j 43<|.o 44 true<|.p 45<|.p 46<|.g 400<|.k 47<|.k 48<|.o 49 true<|.p 50<|.p 51<|.g 405<|.k 52<|.k 53<|.k 54<|.p 55<|.p 56<|.g 410<|.j 57<|.j 58<|.o 59 true<|.p 60<|.p 61<|.g 415<|.k 62<|.k 63<|.o 64 true<|.p 65<|.p 66<|.n) ?_
     repeat' first|refine yP (i:=2) ?_ (hs:=by exact(A.eqlSame rfl rfl))|refine yP (i:=11) ?_ (hs:=by exact(A.eqlSame rfl rfl))|refine yP (i:=25) ?_ (hs:=by exact(A.eqlSame rfl rfl))|refine yP (i:=34) ?_ (hs:=by exact(A.eqlSame rfl rfl))|refine yP (i:=39) ?_ (hs:=by exact(A.eqlSame rfl rfl))|refine yP (i:=54) ?_ (hs:=by exact(A.eqlSame rfl rfl))|(refine yU (i:=6) ?_;first|refine s1 ?_|refine F.c (hSw) ?_)|(refine yU (i:=16) ?_;first|refine s1 ?_|refine F.c (hSz) ?_)|(refine yU (i:=33) ?_;first|refine s1 ?_|refine F.c (hU4) ?_)|(refine yU (i:=44) ?_;first|refine s1 ?_|refine F.c (hX1) ?_)|(refine yU (i:=49) ?_;first|refine s1 ?_|refine F.c (hY1) ?_)|(refine yU (i:=59) ?_;first|refine s1 ?_|refine F.c (hX2) ?_)|(refine yU (i:=64) ?_;first|refine s1 ?_|refine F.c (hY2) ?_)|refine yS ?_|refine s1 ?_|(refine yD ?_ ?_<;>intro hc<;>(try simp only[decide_eq_true_eq,decide_eq_false_iff_not,Bool.not_eq_true',Bool.not_eq_false'] at hc))|refine yG ?_|(refine kR ?_;first|refine F.c (hU1) ?_|refine F.c (hU2) ?_|refine F.c (hU3) ?_)|fail
     any_goals refine lf ?_
     all_goals
      repeat' first|refine s1 ?_|fail
      (refine kZ ?_;exact F.ret rfl)
theorem fnParts.walk(w:World)(x0:List UInt8)(v0:Value)(F0:List Nat)(h0:(listR u8R).V w x0 [v0] F0):Run Tryz.prog 4 [v0] w fun v w'=>v=.bool true∧Later w w':=
 (fnParts.ac x0).law (.cons (RdE.h h0) (.nil w))
namespace fnParts
theorem own:ownKnob Tryz.prog.godebug=none:=by kernel_rfl
theorem laidOut:laidOutB Tryz.prog=true:=by kernel_rfl
set_option maxRecDepth 100000 in
theorem lifted(os:Os)(started:os.Started)(H:Type)(enc:TypeId×Value→H):
  ReturnsInHanded {} Tryz.checked os 4 .any (Rows.fnPartsSpec.pre6 enc Tryz.prog Tryz.f4 Rows.fnPartsRow.domain false) (Rows.fnPartsSpec.post enc Tryz.prog Tryz.f4 false true false false):=by
 refine returnsInHanded_of_change (C:=Tryz.checked) own started (by kernel_rfl) Tryz.func4
  (ChangeSpec.witness6 (enc:=enc) (C:=Tryz.checked) false ⟨#[],#[.slice none 0 0],[]⟩ 8 (by kernel_rfl) (by kernel_rfl) (by kernel_rfl) (by kernel_rfl)) ?_
 intro W base args ds gs before hval0 hW hcnd _
 have hval:∀(j:Nat) t v,Tryz.f4.params[j]?=some t→args[j]?=some v→Value.okWide Tryz.prog W .any base t v:=hval0
 have hW':=hW
 obtain⟨p,q,hA0,hV,rfl,hfz,hnd⟩:=hW
 have hA:DataW.TrodAll enc Tryz.prog W 0 (fun _=>true) true Tryz.f4.params.toList args.toList ds p:=hA0
 rw[Tryz.params4] at hA hval
 obtain⟨v0,vs0,d0,ds0,p0,q0,hargs,rfl,rfl,h0,r0⟩:=trodAll_cons hA
 obtain⟨rfl,rfl,rfl⟩:=trodAll_nil r0
 obtain rfl:args=#[v0]:=by cases args;simp_all
 obtain⟨rfl,rfl⟩:=trodVars_none hV
 obtain⟨a0,len0,cap0,rfl⟩:=okWide_slice Tryz.underlying22 (hval 0 22 v0 rfl rfl)
 have k0:=h0
 have lt0:∀x∈p0,x.block<W.heap.size:=by obtain⟨m,hm⟩:=k0;exact DataW.trod_lt m _ _ _ hm
 obtain⟨x0,F0,R0⟩:=Rds.arg1 (inferInstance:Rds Tryz.prog 22 _) k0 rfl
 clear hA0 hval0
 refine(Run.calls (walk W x0 _ F0 R0)).mono fun e W' ⟨v,he,hv,bel⟩=>?_
 subst he
 subst hv
 exact⟨_,rfl,_,_,_,[],_,[],hW',trodAll_mk1 (shut_bool Tryz.underlying4 _),(trodAll_cons_mk (Below.trod laidOut (by kernel_rfl) (of_decide_eq_true (by kernel_rfl)) k0 bel lt0) trodAll_mk0),rfl,bel.frame _,fun h=>by cases h⟩
theorem down:V.downB Tryz.prog [] [8,205,325,207,324,234,232,380,381,169,168,394,382,336,235,334,375,302,136,163,236,322,282,209,371,218,377,161,318,378,328,214,210,134,231,311,312,187,219,138,188,200,211,307,184,35,140,250,365,367,296,284,167,173,141,129,283,127,373,374,320,319,397,392,370,143,366,147,398,395,389,317,355,305,330,175,331,223,202,264,133,266,131,204,376,326,327,212,321,203,48,176,293,142,308,185,393,372,310,289,265,309,148,186,36,162,82,189,38,217,220,63,329,221,65,37,172,171,139,29,12,298,154,149,295,151,294,150,297,153,152,15,332,313,316,314,222,66,190,300,315,191,192,39,40,41,16,193,42,354,263,196,195,194,43,229,197,44,199,198,45,46,201,47,49,301,335,233,323,206,208,50,128,216,177,51,52,53,54,213,55,215,56,57,58,59,60,61,62,64,4]=true:=by kernel_rfl
theorem rec0:Program.recurses Tryz.pinned.checked.prog 4=Program.unfollowed Tryz.pinned.checked.prog 4:=V.recurses_down _ down (by kernel_rfl)
theorem unf:Program.unfollowed Tryz.pinned.checked.prog 4=Rows.fnPartsRow.unfollowed:=by kernel_rfl
theorem inp:Program.inPlace Tryz.pinned.checked.prog 4=Rows.fnPartsRow.inPlace:=by kernel_rfl
theorem vnm:Program.varsNamed Tryz.pinned.checked.prog 4=Rows.fnPartsRow.named:=by kernel_rfl
theorem closed:joinedFacts Tryz.pinned.checked.prog 4 Tryz.f4 Rows.fnPartsSpec Rows.fnPartsRow=true:=by
 unfold joinedFacts
 rw[rec0,unf,inp,vnm]
 change _=_
 kernel_rfl
theorem over:Rows.fnPartsRow.holds Tryz.pinned (OpenSpec.ofChange Rows.fnPartsSpec):=
 OpenClaim.holds_of_wide 4 Tryz.f4 rfl rfl rfl rfl rfl rfl rfl ⟨rfl,rfl,rfl,rfl,rfl⟩ rfl rfl rfl rfl rfl (by kernel_rfl) Tryz.func4 closed
  (of_decide_eq_true (by kernel_rfl)) (by unfold Func.isWrapper;first|(rw[if_pos (by decide+kernel)];kernel_rfl)|(rw[if_neg (by decide+kernel)];exact⟨rfl,rfl⟩))
  (fun os started H enc _=>lifted os started H enc)
theorem proved:Rows.FnPartsSaid:=over
end fnParts
end Go.Proofs.YtjmjamhhppoimaaGreat
