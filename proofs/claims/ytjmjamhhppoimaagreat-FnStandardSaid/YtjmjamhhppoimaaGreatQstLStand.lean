/- The law FnStandard holds for every input. -/
import Derived.Test.YtjmjamhhppoimaaGreatQstDown
import Derived.OpenShut
namespace Go.Proofs.YtjmjamhhppoimaaGreat
open V.Enc (enc)
open Go.ChangeShapes Go.WideShapes Go.ChangeAt Go.RowKit G D V
set_option linter.unusedVariables false
set_option linter.unusedSimpArgs false
set_option maxHeartbeats 8000000
set_option maxRecDepth 4000
attribute [local irreducible] V.AW V.ARg V.ARA V.ARet V.MRet V.ASil V.AC V.AM V.AMx V.AD V.ARI
theorem fnStandard.ac(b:List UInt8):AC Tryz.prog 3 [ar false b] [.b true]:=by
 refine AC.go Tryz.func3 Tryz.ntmps3 rfl rfl fun w0 hw=>?_;simp[WfL,WfA,E_length,Enc.enc,In64] at hw
 have hB:=big_a b
 by_cases hl:(1048576:Int)<b.length
 ·rw[decide_eq_true hl] at hB
  repeat' first|refine s1 ?_|(refine kR ?_;first|refine F.c (hB) ?_)|fail
  (refine kZ ?_;exact F.ret rfl)
 ·rw[decide_eq_false hl] at hB
  have hl:b.length≤1048576:=by omega
  have hD:=drawMapFromProjective_x b hl
  have hD2:=drawProjectiveRep_x b hl
  have hD3:=drawProjectiveDims_x b hl
  have hD4:=drawElementOfMap_x b hl
  repeat' first|refine AW.freezeP (α:=Rep) (oo:=false) r 3 rfl rfl ?_|refine AW.freezeA (α:=Int) (oo:=true) (ls:=x) 5 rfl rfl rfl ?_|refine s1 ?_|(refine kR ?_;first|refine F.c (hB) ?_|(refine F.x [] (hD) ?_;rintro⟨r,v,x⟩ hr;refine F.xk ?_))|fail
  have hMi:=implMapFromProjective_a r v x
  have hMs:=specMapFromProjective_a r v x
  have hfac:=@std_facts r v x
  have hinj:=@inj_facts r v x
  have hEl:=fun f=>implElementOfMap_a r v f
  generalize mfpP r v x=M at hMi hMs hfac hinj
  obtain⟨g,c⟩:=M
  dsimp only at hMi hMs hfac hinj
  have hEq:=specEqualMorphisms_a g g
  rw[show sameL g g=true by simp[sameL,sameM]] at hEq
  repeat' first|refine AW.freezeA (α:=Mat) (oo:=true) (ls:=g) 6 rfl rfl rfl ?_|refine AW.freezeA (α:=Mat) (oo:=true) (ls:=g) 8 rfl rfl rfl ?_|refine s1 ?_|(refine kR ?_;first|refine F.sil (A.neqSame rfl rfl) rfl rfl ?_|refine F.c (hMi) ?_|refine F.c (hMs) ?_|refine F.c (hEq) ?_)|fail
  refine F.cut (σ:=Unit) [2,10,11,12,13,14,15,72,73,74,75,76,77,78,79,80,81,82,83,84,85,86,87,88,89,90,91,92,93,94,95,96,97,98,99,100,101,102,103,104,105,106,107,108,109,110,111,112,113,114,115,116,117,118,119,120,121,122,123,124,125,126,127,128,129,130,131,132,133,134,135,136,137,138,139,140,141,142,143,144,145,146,147,148,149,150,151] (fun _=>[]) (fun _=>[]) (fun _=>True) ?_ (fun _ _=>?_)
  ·cases hs:c with
   |false=>
    repeat' first|refine s1 ?_|fail
    exact⟨(),F.fit trivial trivial,trivial⟩
   |true=>
    obtain⟨f1,f2,f3,f4,f5,f6,f7,f8⟩:=hfac hs
    have hPr:=implProjectiveRep_a r.p r.q v
    rw[f1] at hPr
    have hElg:=hEl g
    rw[f3] at hElg
    generalize projR r.p r.q v=PP at hPr f2 f4 f5 f6
    dsimp only at hPr hElg
    have hMor:=implIsMorphism_a PP r g
    rw[f2] at hMor
    have hHom:=implHomDim_a PP r
    have hExt:=implExtDim_a PP r
    rw[f5] at hExt
    have hInd:=implIsIndecomposable_a PP
    have hSI:=sameInts_a x x
    rw[decide_eq_true rfl] at hSI
    have hIn:=implInjectiveRep_a r.p r.q v
    have hinj':=hinj hs
    generalize homD PP r=z at hHom f4
    generalize indI PP=k at hInd f6
    generalize injP r.p r.q v=I at hIn hinj'
    obtain⟨I,ci⟩:=I
    dsimp only at hIn hinj'
    repeat' first|(refine AW.putV 10 2 rfl rfl rfl rfl (E_length _ _) (E_pure _ _) rfl ?_;refine AW.putV 10 3 rfl rfl rfl rfl (E_length _ _) (E_pure _ _) rfl ?_;refine AW.putV 10 4 rfl rfl rfl rfl (E_length _ _) (E_pure _ _) rfl ?_;refine AW.putV 10 5 rfl rfl rfl rfl (E_length _ _) (E_pure _ _) rfl ?_;refine AW.freezeP (α:=Rep) (oo:=true) PP 10 rfl rfl ?_)|refine AW.freezeA (α:=Int) (oo:=true) (ls:=x) 12 rfl rfl rfl ?_|refine s1 ?_|(refine kR ?_;first|refine F.c (hPr) ?_|refine F.c (hElg) ?_)|fail
    refine AW.draw 37 G.mixed (by kernel_rfl) ?_
    refine Pz (.l 0<|.l 1<|.p 2<|.o 3 true<|.p 4<|.p 5<|.g 93<|.k 6<|.k 7<|.p 8<|.p 9<|.g 97<|.k 10<|.k 11<|.o 12 true<|.k 13<|.p 14<|.p 15<|.g 103<|.j 16<|.j 17<|.k 19<|.j 20<|.k 21<|.k 22<|.j 23<|.o 18 true<|.k 24<|.p 25<|.p 26<|.g 114<|.j 27<|.j 28<|.o 29 true<|.k 30<|.p 31<|.p 32<|.g 120<|.j 33<|.o 34 true<|.k 35<|.p 36<|.n) ?_
    repeat' first|refine yS ?_|refine s1 ?_|(refine yD ?_ ?_<;>intro hc<;>(try simp only[decide_eq_true_eq,decide_eq_false_iff_not,Bool.not_eq_true',Bool.not_eq_false'] at hc))|refine yG ?_|(refine kR ?_;first|refine F.c (hMor) ?_|refine F.c (hSI) ?_|refine F.c (hHom) ?_|refine F.c (hExt) ?_|refine F.c (hInd) ?_)|fail
    any_goals refine lf ?_
    all_goals
     repeat' first|(refine AW.putV 14 2 rfl rfl rfl rfl (E_length _ _) (E_pure _ _) rfl ?_;refine AW.putV 14 3 rfl rfl rfl rfl (E_length _ _) (E_pure _ _) rfl ?_;refine AW.putV 14 4 rfl rfl rfl rfl (E_length _ _) (E_pure _ _) rfl ?_;refine AW.putV 14 5 rfl rfl rfl rfl (E_length _ _) (E_pure _ _) rfl ?_;refine AW.freezeP (α:=Rep) (oo:=true) I 14 rfl rfl ?_)|refine s1 ?_|(refine kR ?_;first|refine F.c (hIn) ?_)|fail
     cases hsi:ci with
     |false=>
      refine AW.draw 18 G.mixed (by kernel_rfl) ?_
      refine Pz (.p 0<|.p 1<|.g 135<|.j 2<|.j 3<|.k 5<|.j 6<|.k 7<|.k 8<|.j 9<|.o 4 true<|.k 10<|.k 11<|.g 145<|.j 12<|.j 13<|.o 14 true<|.k 15<|.k 16<|.p 17<|.n) ?_
      repeat' first|refine yS ?_|refine s1 ?_|(refine yD ?_ ?_<;>intro hc<;>(try simp only[decide_eq_true_eq,decide_eq_false_iff_not,Bool.not_eq_true',Bool.not_eq_false'] at hc))|refine yG ?_|fail
      any_goals refine lf ?_
      all_goals
       repeat' first|refine s1 ?_|fail
       exact⟨(),F.fit trivial trivial,trivial⟩
     |true=>
      obtain⟨g1,g2⟩:=hinj' hsi
      have hHom2:=implHomDim_a r I
      have hExt2:=implExtDim_a r I
      rw[g2] at hExt2
      generalize homD r I=z2 at hHom2 g1
      refine AW.draw 18 G.mixed (by kernel_rfl) ?_
      refine Pz (.p 0<|.p 1<|.g 135<|.j 2<|.j 3<|.k 5<|.j 6<|.k 7<|.k 8<|.j 9<|.o 4 true<|.k 10<|.k 11<|.g 145<|.j 12<|.j 13<|.o 14 true<|.k 15<|.k 16<|.p 17<|.n) ?_
      repeat' first|refine yS ?_|refine s1 ?_|(refine yD ?_ ?_<;>intro hc<;>(try simp only[decide_eq_true_eq,decide_eq_false_iff_not,Bool.not_eq_true',Bool.not_eq_false'] at hc))|refine yG ?_|(refine kR ?_;first|refine F.c (hHom2) ?_|refine F.c (hExt2) ?_)|fail
      any_goals refine lf ?_
      all_goals
       repeat' first|refine s1 ?_|fail
       exact⟨(),F.fit trivial trivial,trivial⟩
  ·clear hMi hMs hfac hinj hEl hEq
   repeat' first|refine AW.freezeP (α:=Quiv) (oo:=false) q 17 rfl rfl ?_|refine s1 ?_|(refine kR ?_;first|(refine F.x [] (hD2) ?_;rintro⟨a,q,w⟩ hq;refine F.xk ?_))|fail
   have hPi:=implProjectiveRep_a a q w
   have hPs:=specProjectiveRep_a a q w
   have hIi:=implInjectiveRep_a a q w
   have hIs:=specInjectiveRep_a a q w
   have hSi:=implSimpleRep_a a q w
   have hSs:=specSimpleRep_a a q w
   have hsim:=@simple_sim a q w
   generalize projP a q w=R1 at hPi hPs
   obtain⟨B1,c1⟩:=R1
   generalize injP a q w=R2 at hIi hIs
   obtain⟨B2,c2⟩:=R2
   generalize simpleR a q w=R3 at hSi hSs hsim
   obtain⟨B3,c3⟩:=R3
   dsimp only at hPi hPs hIi hIs hSi hSs hsim
   have hE1:=equalReps_a B1
   have hE2:=equalReps_a B2
   have hE3:=equalReps_a B3
   have hSim:=implIsSimple_a B3
   repeat' first|(refine AW.putV 19 2 rfl rfl rfl rfl (E_length _ _) (E_pure _ _) rfl ?_;refine AW.putV 19 3 rfl rfl rfl rfl (E_length _ _) (E_pure _ _) rfl ?_;refine AW.putV 19 4 rfl rfl rfl rfl (E_length _ _) (E_pure _ _) rfl ?_;refine AW.putV 19 5 rfl rfl rfl rfl (E_length _ _) (E_pure _ _) rfl ?_;refine AW.freezeP (α:=Rep) (oo:=true) B1 19 rfl rfl ?_)|(refine AW.putV 21 2 rfl rfl rfl rfl (E_length _ _) (E_pure _ _) rfl ?_;refine AW.putV 21 3 rfl rfl rfl rfl (E_length _ _) (E_pure _ _) rfl ?_;refine AW.putV 21 4 rfl rfl rfl rfl (E_length _ _) (E_pure _ _) rfl ?_;refine AW.putV 21 5 rfl rfl rfl rfl (E_length _ _) (E_pure _ _) rfl ?_;refine AW.freezeP (α:=Rep) (oo:=true) B1 21 rfl rfl ?_)|(refine AW.putV 23 2 rfl rfl rfl rfl (E_length _ _) (E_pure _ _) rfl ?_;refine AW.putV 23 3 rfl rfl rfl rfl (E_length _ _) (E_pure _ _) rfl ?_;refine AW.putV 23 4 rfl rfl rfl rfl (E_length _ _) (E_pure _ _) rfl ?_;refine AW.putV 23 5 rfl rfl rfl rfl (E_length _ _) (E_pure _ _) rfl ?_;refine AW.freezeP (α:=Rep) (oo:=true) B2 23 rfl rfl ?_)|(refine AW.putV 25 2 rfl rfl rfl rfl (E_length _ _) (E_pure _ _) rfl ?_;refine AW.putV 25 3 rfl rfl rfl rfl (E_length _ _) (E_pure _ _) rfl ?_;refine AW.putV 25 4 rfl rfl rfl rfl (E_length _ _) (E_pure _ _) rfl ?_;refine AW.putV 25 5 rfl rfl rfl rfl (E_length _ _) (E_pure _ _) rfl ?_;refine AW.freezeP (α:=Rep) (oo:=true) B2 25 rfl rfl ?_)|(refine AW.putV 27 2 rfl rfl rfl rfl (E_length _ _) (E_pure _ _) rfl ?_;refine AW.putV 27 3 rfl rfl rfl rfl (E_length _ _) (E_pure _ _) rfl ?_;refine AW.putV 27 4 rfl rfl rfl rfl (E_length _ _) (E_pure _ _) rfl ?_;refine AW.putV 27 5 rfl rfl rfl rfl (E_length _ _) (E_pure _ _) rfl ?_;refine AW.freezeP (α:=Rep) (oo:=true) B3 27 rfl rfl ?_)|(refine AW.putV 29 2 rfl rfl rfl rfl (E_length _ _) (E_pure _ _) rfl ?_;refine AW.putV 29 3 rfl rfl rfl rfl (E_length _ _) (E_pure _ _) rfl ?_;refine AW.putV 29 4 rfl rfl rfl rfl (E_length _ _) (E_pure _ _) rfl ?_;refine AW.putV 29 5 rfl rfl rfl rfl (E_length _ _) (E_pure _ _) rfl ?_;refine AW.freezeP (α:=Rep) (oo:=true) B3 29 rfl rfl ?_)|refine AW.freezeP (α:=Quiv) (oo:=false) q2 31 rfl rfl ?_|refine AW.freezeP (α:=Rep) (oo:=false) r2 33 rfl rfl ?_|refine AW.freezeA (α:=Mat) (oo:=true) (ls:=m2) 35 rfl rfl rfl ?_|refine s1 ?_|(refine kR ?_;first|refine F.c (hPi) ?_|refine F.c (hPs) ?_|refine F.c (hIi) ?_|refine F.c (hIs) ?_|refine F.c (hSi) ?_|refine F.c (hSs) ?_|(refine F.x [] (hD3) ?_;rintro⟨q2,w2⟩ hq2;refine F.xk ?_)|(refine F.x [] (hD4) ?_;rintro⟨r2,v2,m2⟩ hr2;refine F.xk ?_))|fail
   have hLi:=implElementOfMap_a r2 v2 m2
   have hLs:=specElementOfMap_a r2 v2 m2
   generalize elP r2 v2 m2=R4 at hLi hLs
   obtain⟨y,c4⟩:=R4
   dsimp only at hLi hLs
   have hSy:=sameInts_a y y
   rw[decide_eq_true rfl] at hSy
   have hA1:=implProjectiveDims_a q2 w2
   have hA2:=specProjectiveDims_a q2 w2
   have hA3:=implInjectiveDims_a q2 w2
   have hA4:=specInjectiveDims_a q2 w2
   generalize projD q2 w2=L1 at hA1 hA2
   generalize injD q2 w2=L2 at hA3 hA4
   have hS1:=sameInts_a L1 L1
   have hS2:=sameInts_a L2 L2
   rw[decide_eq_true rfl] at hS1 hS2
   repeat' first|refine AW.freezeA (α:=Int) (oo:=true) (ls:=y) 36 rfl rfl rfl ?_|refine AW.freezeA (α:=Int) (oo:=true) (ls:=y) 38 rfl rfl rfl ?_|refine s1 ?_|(refine kR ?_;first|refine F.c (hLi) ?_|refine F.c (hLs) ?_)|fail
   cases c3 with
   |false=>
    refine AW.draw 65 G.mixed (by kernel_rfl) ?_
    refine Pz (.p 0<|.p 1<|.p 2<|.p 3<|.g 228<|.j 4<|.j 5<|.o 6 true<|.p 7<|.p 8<|.g 233<|.k 9<|.k 10<|.k 11<|.p 12<|.p 13<|.g 238<|.j 14<|.j 15<|.o 16 true<|.p 17<|.p 18<|.g 243<|.k 19<|.k 20<|.k 21<|.p 22<|.p 23<|.g 248<|.j 24<|.j 25<|.o 26 true<|.p 27<|.p 28<|.g 253<|.k 29<|.k 30<|.k 31<|.g 256<|.j 32<|.o 33 true<|.k 34<|.p 35<|.p 36<|.g 261<|.j 37<|.k 38<|.j 40<|.k 41<|.o 39 true<|.o 42 true<|.o 43 true<|.p 44<|.p 45<|.g 270<|.j 46<|.k 47<|.j 49<|.k 50<|.o 48 true<|.o 51 true<|.o 52 true<|.p 53<|.p 54<|.g 279<|.k 55<|.k 56<|.k 57<|.p 58<|.p 59<|.g 284<|.k 60<|.k 61<|.o 62 true<|.p 63<|.p 64<|.n) ?_
    repeat' first|refine yP (i:=2) ?_ (hs:=by exact(A.eqlSame rfl rfl))|refine yP (i:=11) ?_ (hs:=by exact(A.eqlSame rfl rfl))|refine yP (i:=21) ?_ (hs:=by exact(A.eqlSame rfl rfl))|refine yP (i:=57) ?_ (hs:=by exact(A.eqlSame rfl rfl))|refine yS ?_|refine s1 ?_|(refine yD ?_ ?_<;>intro hc<;>(try simp only[decide_eq_true_eq,decide_eq_false_iff_not,Bool.not_eq_true',Bool.not_eq_false'] at hc))|refine yG ?_|(refine kR ?_;first|refine F.c (hE1) ?_|refine F.c (hE2) ?_|refine F.c (hE3) ?_|refine F.c (hA1) ?_|refine F.c (hA2) ?_|refine F.c (hA3) ?_|refine F.c (hA4) ?_|refine F.c (hS1) ?_|refine F.c (hS2) ?_|refine F.c (hSy) ?_)|fail
    any_goals refine lf ?_
    all_goals
     repeat' first|refine s1 ?_|fail
     (refine kZ ?_;exact F.ret rfl)
   |true=>
    rw[hsim rfl] at hSim
    refine AW.draw 65 G.mixed (by kernel_rfl) ?_
    refine Pz (.p 0<|.p 1<|.p 2<|.p 3<|.g 228<|.j 4<|.j 5<|.o 6 true<|.p 7<|.p 8<|.g 233<|.k 9<|.k 10<|.k 11<|.p 12<|.p 13<|.g 238<|.j 14<|.j 15<|.o 16 true<|.p 17<|.p 18<|.g 243<|.k 19<|.k 20<|.k 21<|.p 22<|.p 23<|.g 248<|.j 24<|.j 25<|.o 26 true<|.p 27<|.p 28<|.g 253<|.k 29<|.k 30<|.k 31<|.g 256<|.j 32<|.o 33 true<|.k 34<|.p 35<|.p 36<|.g 261<|.j 37<|.k 38<|.j 40<|.k 41<|.o 39 true<|.o 42 true<|.o 43 true<|.p 44<|.p 45<|.g 270<|.j 46<|.k 47<|.j 49<|.k 50<|.o 48 true<|.o 51 true<|.o 52 true<|.p 53<|.p 54<|.g 279<|.k 55<|.k 56<|.k 57<|.p 58<|.p 59<|.g 284<|.k 60<|.k 61<|.o 62 true<|.p 63<|.p 64<|.n) ?_
    repeat' first|refine yP (i:=2) ?_ (hs:=by exact(A.eqlSame rfl rfl))|refine yP (i:=11) ?_ (hs:=by exact(A.eqlSame rfl rfl))|refine yP (i:=21) ?_ (hs:=by exact(A.eqlSame rfl rfl))|refine yP (i:=57) ?_ (hs:=by exact(A.eqlSame rfl rfl))|refine yS ?_|refine s1 ?_|(refine yD ?_ ?_<;>intro hc<;>(try simp only[decide_eq_true_eq,decide_eq_false_iff_not,Bool.not_eq_true',Bool.not_eq_false'] at hc))|refine yG ?_|(refine kR ?_;first|refine F.c (hE1) ?_|refine F.c (hE2) ?_|refine F.c (hE3) ?_|refine F.c (hSim) ?_|refine F.c (hA1) ?_|refine F.c (hA2) ?_|refine F.c (hA3) ?_|refine F.c (hA4) ?_|refine F.c (hS1) ?_|refine F.c (hS2) ?_|refine F.c (hSy) ?_)|fail
    any_goals refine lf ?_
    all_goals
     repeat' first|refine s1 ?_|fail
     (refine kZ ?_;exact F.ret rfl)
theorem fnStandard.walk(w:World)(x0:List UInt8)(v0:Value)(F0:List Nat)(h0:(listR u8R).V w x0 [v0] F0):Run Tryz.prog 3 [v0] w fun v w'=>v=.bool true∧Later w w':=
 (fnStandard.ac x0).law (.cons (RdE.h h0) (.nil w))
namespace fnStandard
theorem own:ownKnob Tryz.prog.godebug=none:=by kernel_rfl
theorem laidOut:laidOutB Tryz.prog=true:=by kernel_rfl
set_option maxRecDepth 100000 in
theorem lifted(os:Os)(started:os.Started)(H:Type)(enc:TypeId×Value→H):
  ReturnsInHanded {} Tryz.checked os 3 .any (Rows.fnStandardSpec.pre6 enc Tryz.prog Tryz.f3 Rows.fnStandardRow.domain false) (Rows.fnStandardSpec.post enc Tryz.prog Tryz.f3 false true false false):=by
 refine returnsInHanded_of_change (C:=Tryz.checked) own started (by kernel_rfl) Tryz.func3
  (ChangeSpec.witness6 (enc:=enc) (C:=Tryz.checked) false ⟨#[],#[.slice none 0 0],[]⟩ 8 (by kernel_rfl) (by kernel_rfl) (by kernel_rfl) (by kernel_rfl)) ?_
 intro W base args ds gs before hval0 hW hcnd _
 have hval:∀(j:Nat) t v,Tryz.f3.params[j]?=some t→args[j]?=some v→Value.okWide Tryz.prog W .any base t v:=hval0
 have hW':=hW
 obtain⟨p,q,hA0,hV,rfl,hfz,hnd⟩:=hW
 have hA:DataW.TrodAll enc Tryz.prog W 0 (fun _=>true) true Tryz.f3.params.toList args.toList ds p:=hA0
 rw[Tryz.params3] at hA hval
 obtain⟨v0,vs0,d0,ds0,p0,q0,hargs,rfl,rfl,h0,r0⟩:=trodAll_cons hA
 obtain⟨rfl,rfl,rfl⟩:=trodAll_nil r0
 obtain rfl:args=#[v0]:=by cases args;simp_all
 obtain⟨rfl,rfl⟩:=trodVars_none hV
 obtain⟨a0,len0,cap0,rfl⟩:=okWide_slice Tryz.underlying22 (hval 0 22 v0 rfl rfl)
 have k0:=h0
 have lt0:∀x∈p0,x.block<W.heap.size:=by obtain⟨m,hm⟩:=k0;exact DataW.trod_lt m _ _ _ hm
 obtain⟨x0,F0,R0⟩:=Rds.arg1 (inferInstance:Rds Tryz.prog 22 _) k0 rfl
 clear hA0 hval0
 refine(Run.calls (walk W x0 _ F0 R0)).mono fun e W' ⟨v,he,hv,bel⟩=>?_
 subst he
 subst hv
 exact⟨_,rfl,_,_,_,[],_,[],hW',trodAll_mk1 (shut_bool Tryz.underlying4 _),(trodAll_cons_mk (Below.trod laidOut (by kernel_rfl) (of_decide_eq_true (by kernel_rfl)) k0 bel lt0) trodAll_mk0),rfl,bel.frame _,fun h=>by cases h⟩
theorem rec0:Program.recurses Tryz.pinned.checked.prog 3=true:=V.recurses_at 286 286 (by kernel_rfl) (by kernel_rfl) (by kernel_rfl)
theorem unf:Program.unfollowed Tryz.pinned.checked.prog 3=Rows.fnStandardRow.unfollowed:=by kernel_rfl
theorem inp:Program.inPlace Tryz.pinned.checked.prog 3=Rows.fnStandardRow.inPlace:=by kernel_rfl
theorem vnm:Program.varsNamed Tryz.pinned.checked.prog 3=Rows.fnStandardRow.named:=by kernel_rfl
theorem closed:joinedFacts Tryz.pinned.checked.prog 3 Tryz.f3 Rows.fnStandardSpec Rows.fnStandardRow=true:=by
 unfold joinedFacts
 rw[rec0,unf,inp,vnm]
 change _=_
 kernel_rfl
theorem over:Rows.fnStandardRow.holds Tryz.pinned (OpenSpec.ofChange Rows.fnStandardSpec):=
 OpenClaim.holds_of_wide 3 Tryz.f3 rfl rfl rfl rfl rfl rfl rfl ⟨rfl,rfl,rfl,rfl,rfl⟩ rfl rfl rfl rfl rfl (by kernel_rfl) Tryz.func3 closed
  (of_decide_eq_true (by kernel_rfl)) (by unfold Func.isWrapper;first|(rw[if_pos (by decide+kernel)];kernel_rfl)|(rw[if_neg (by decide+kernel)];exact⟨rfl,rfl⟩))
  (fun os started H enc _=>lifted os started H enc)
theorem proved:Rows.FnStandardSaid:=over
end fnStandard
end Go.Proofs.YtjmjamhhppoimaaGreat
