/- The law FnRadicals holds for every input. -/
import Derived.Test.YtjmjamhhppoimaaGreatQraDown
import Derived.OpenShut
namespace Go.Proofs.YtjmjamhhppoimaaGreat
open V.Enc (enc)
open Go.ChangeShapes Go.WideShapes Go.ChangeAt Go.RowKit G D V
set_option linter.unusedVariables false
set_option linter.unusedSimpArgs false
set_option maxHeartbeats 8000000
set_option maxRecDepth 4000
attribute [local irreducible] V.AW V.ARg V.ARA V.ARet V.MRet V.ASil V.AC V.AM V.AMx V.AD V.ARI
theorem fnRadicals.ac(b:List UInt8):AC Tryz.prog 5 [ar false b] [.b true]:=by
 refine AC.go Tryz.func5 Tryz.ntmps5 rfl rfl fun w0 hw=>?_;simp[WfL,WfA,E_length,Enc.enc,In64] at hw
 have hB:=big_a b
 by_cases hl:(1048576:Int)<b.length
 ·rw[decide_eq_true hl] at hB
  repeat' first|refine s1 ?_|(refine kR ?_;first|refine F.c (hB) ?_)|fail
  (refine kZ ?_;exact F.ret rfl)
 ·rw[decide_eq_false hl] at hB
  have hl:b.length≤1048576:=by omega
  have hD1:=drawTopDims_x b hl
  have hD2:=drawIsSimple_x b hl
  have hD3:=drawIsSemisimple_x b hl
  repeat' first|(refine AW.putV 3 4 rfl rfl rfl rfl (E_length _ _) (E_pure _ _) rfl ?_;refine AW.putV 3 5 rfl rfl rfl rfl (E_length _ _) (E_pure _ _) rfl ?_;refine AW.freezeV (enc false r) 3 rfl rfl (repA_pure r) (repA_frz r) ?_)|refine s1 ?_|(refine kR ?_;first|refine F.c (hB) ?_|(refine F.x [] (hD1) ?_;rintro r hr;refine F.xk ?_))|fail
  have hTi:=implTopDims_a r
  have hTs:=specTopDims_a r
  have hSi:=implSocleDims_a r
  have hSs:=specSocleDims_a r
  have hKi:=implCoverDims_a r
  have hKs:=specCoverDims_a r
  have hth:=fun v hv=>@top_hom r v hv
  have hsl:=@socD_topl r
  have hTl:=topD_len r
  generalize topD r=T at hTi hTs hth hsl hTl
  generalize socD r=S at hSi hSs hth hsl
  generalize covD r=K at hKi hKs
  have hIT:=sameInts_a T T
  have hIS:=sameInts_a S S
  have hIK:=sameInts_a K K
  rw[decide_eq_true rfl] at hIT hIS hIK
  repeat' first|refine AW.freezeA (α:=Int) (oo:=true) (ls:=T) 4 rfl rfl rfl ?_|refine AW.freezeA (α:=Int) (oo:=true) (ls:=S) 5 rfl rfl rfl ?_|refine s1 ?_|(refine kR ?_;first|refine F.c (hTi) ?_|refine F.c (hSi) ?_)|fail
  refine AW.only [(0,.dt false 1 (E false b)),(2,.b false),(3,.ip (enc false r)),(4,.dt false 1 (E false T)),(5,.dt false 1 (E false S))] [] _ ⟨rfl,rfl,rfl,rfl,rfl,trivial⟩ trivial rfl ?_
  refine F.cut (σ:=Unit) [33,34,35,36,37,38,39,40,41,42,43,44,45,46,47,48,49,50,51,52] (fun _=>[(52,.b false)]) (fun _=>[]) (fun _=>True) ?_ (fun _ _=>?_)
  ·refine AW.draw 20 G.mixed (by kernel_rfl) ?_
   refine Pz (.p 0<|.l 1<|.o 2 true<|.o 3 true<|.p 4<|.p 5<|.g 38<|.k 6<|.j 7<|.o 8 true<|.o 9 true<|.k 10<|.p 11<|.p 12<|.g 45<|.j 13<|.j 15<|.o 14 true<|.o 16 true<|.o 17 true<|.k 18<|.p 19<|.n) ?_
   repeat' first|(refine yU (i:=2) ?_;first|refine s1 ?_|refine F.c (hTs) ?_)|(refine yU (i:=3) ?_;first|refine s1 ?_|refine F.c (hIT) ?_)|(refine yU (i:=8) ?_;first|refine s1 ?_|refine F.c (hSs) ?_)|(refine yU (i:=9) ?_;first|refine s1 ?_|refine F.c (hIS) ?_)|(refine yU (i:=17) ?_;first|refine s1 ?_|refine F.c (hIK) ?_)|refine yS ?_|refine s1 ?_|(refine yD ?_ ?_<;>intro hc<;>(try simp only[decide_eq_true_eq,decide_eq_false_iff_not,Bool.not_eq_true',Bool.not_eq_false'] at hc))|refine yG ?_|(refine kR ?_;first|refine F.c (hKi) ?_|refine F.c (hKs) ?_)|fail
   any_goals refine lf ?_
   all_goals
    repeat' first|refine s1 ?_|fail
    exact⟨(),F.fit ⟨rfl,trivial⟩ trivial,trivial⟩
  ·clear hTi hTs hSi hSs hKi hKs hIT hIS hIK
   have hQ:=specIsAcyclic_a r.q
   have hlf:=lay_facts r
   generalize (orderQ r.q).2=ac at hQ hlf
   repeat' first|refine s1 ?_|fail
   refine F.loop (σ:=Nat) [2,6,7,8,53,54,55,56,57,58,59,60,61,62,63,64,65,66,67,68,69,70,71,72,73,74,75,76,77,78,79,80,81,82,83,84,85,86,87,88,89,90] (fun k=>[(6,.i k)]) (fun _=>[]) (fun k=>k≤T.length) (fun k=>T.length-k) 0 ⟨rfl,trivial⟩ trivial (Nat.zero_le _) ?_
   rintro k k1
   by_cases hk:k<T.length∧ac=true
   ·obtain⟨hk,hac⟩:=hk
    rw[hac] at hQ
    have hS2:=specSimpleRep_a r.p r.q k
    obtain⟨e1,e2⟩:=hth k hk
    have hkS:k<S.length:=by rw[hsl (by omega)];exact hk
    generalize simpleR r.p r.q (k:Int)=SR at hS2 e1 e2
    obtain⟨X,cx⟩:=SR
    dsimp only at hS2 e1 e2
    have hH1:=implHomDim_a r X
    have hH2:=implHomDim_a X r
    rw[e1] at hH1
    rw[e2] at hH2
    repeat' first|(refine AW.putV 7 2 rfl rfl rfl rfl (E_length _ _) (E_pure _ _) rfl ?_;refine AW.putV 7 3 rfl rfl rfl rfl (E_length _ _) (E_pure _ _) rfl ?_;refine AW.putV 7 4 rfl rfl rfl rfl (E_length _ _) (E_pure _ _) rfl ?_;refine AW.putV 7 5 rfl rfl rfl rfl (E_length _ _) (E_pure _ _) rfl ?_;refine AW.freezeP (α:=Rep) (oo:=true) X 7 rfl rfl ?_)|refine s1 ?_|(refine kR ?_;first|refine F.c (hQ) ?_|refine F.c (hS2) ?_)|fail
    refine AW.draw 18 G.mixed (by kernel_rfl) ?_
    refine Pz (.l 0<|.l 1<|.p 3<|.p 4<|.p 5<|.l 6<|.o 2 true<|.p 7<|.p 8<|.g 81<|.j 9<|.j 10<|.k 12<|.k 13<|.k 14<|.j 15<|.o 11 true<|.k 16<|.p 17<|.n) ?_
    repeat' first|refine yP (i:=7) ?_ (hs:=by exact(A.neqSame rfl rfl))|refine yP (i:=16) ?_ (hs:=by exact(A.neqSame rfl rfl))|refine yS ?_|refine s1 ?_|(refine yD ?_ ?_<;>intro hc<;>(try simp only[decide_eq_true_eq,decide_eq_false_iff_not,Bool.not_eq_true',Bool.not_eq_false'] at hc))|refine yG ?_|(refine kR ?_;first|refine F.c (hH1) ?_|refine F.c (hH2) ?_)|fail
    any_goals refine lf ?_
    all_goals
     repeat' first|refine s1 ?_|fail
     exact⟨k+1,F.fit ⟨rfl,trivial⟩ trivial,by show k+1≤T.length;omega,by show T.length-(k+1)<T.length-k;omega⟩
   ·apply V.tailedT
    ·intro tail
     by_cases hk2:k<T.length
     ·have hac:ac=false:=by
       cases hc:ac with
       |true=>exact absurd ⟨hk2,hc⟩ hk
       |false=>rfl
      have hQ':=hQ
      rw[hac] at hQ'
      repeat' first|(refine AW.only [(0,.dt false 1 (E false b)),(3,.ip (enc false r)),(61,.b false),(53,.i k)] [] _ ⟨rfl,rfl,rfl,rfl,trivial⟩ trivial rfl ?_;refine AW.only [(0,.dt false 1 (E false b)),(3,.ip (enc false r)),(61,.b false)] [] _ ⟨rfl,rfl,rfl,trivial⟩ trivial rfl ?_)|refine s1 ?_|(refine kR ?_;first|refine F.c (hQ') ?_)|fail
      exact tail.t
     ·repeat' first|(refine AW.only [(0,.dt false 1 (E false b)),(3,.ip (enc false r)),(61,.b false),(53,.i k)] [] _ ⟨rfl,rfl,rfl,rfl,trivial⟩ trivial rfl ?_;refine AW.only [(0,.dt false 1 (E false b)),(3,.ip (enc false r)),(61,.b false)] [] _ ⟨rfl,rfl,rfl,trivial⟩ trivial rfl ?_)|refine s1 ?_|fail
      exact tail.t
    ·have hRi:=implRadicalOf_a r
     have hRs:=specRadicalOf_a r
     have hOi:=implSocleOf_a r
     have hOs:=specSocleOf_a r
     have hLi:=implRadicalLayers_a r
     have hLs:=specRadicalLayers_a r
     have hrf:=radP_facts r
     have hlt:=layP_okT r
     have hTr:=implTotalOf_a r
     have hIr:=specIsRep_a r
     generalize radP r=P1 at hRi hRs hrf
     obtain⟨R1,c1⟩:=P1
     generalize socP r=P2 at hOi hOs hrf
     obtain⟨C1,c2⟩:=P2
     generalize layP r=P3 at hLi hLs hlf hlt
     obtain⟨LL,c3⟩:=P3
     dsimp only at hRi hRs hOi hOs hLi hLs hrf hlf hlt
     obtain⟨rfl,rfl,hm1,hm2,hsub⟩:=hrf
     have hE1:=specEqualSubs_a R1 R1 hm1
     have hE2:=specEqualSubs_a C1 C1 hm2
     rw[sameSL_refl] at hE1 hE2
     have hE3:=sameLists_a LL LL
     rw[decide_eq_true rfl] at hE3
     have hU1:=implIsSub_a r R1
     have hU2:=implIsSub_a r C1
     repeat' first|refine AW.freezeA (α:=Spc) (oo:=true) (ls:=R1) 9 rfl rfl rfl ?_|refine AW.freezeA (α:=Spc) (oo:=true) (ls:=R1) 11 rfl rfl rfl ?_|refine AW.freezeA (α:=Spc) (oo:=true) (ls:=C1) 13 rfl rfl rfl ?_|refine AW.freezeA (α:=Spc) (oo:=true) (ls:=C1) 15 rfl rfl rfl ?_|refine AW.freezeA (α:=(List Int)) (oo:=true) (ls:=LL) 17 rfl rfl rfl ?_|refine AW.freezeA (α:=(List Int)) (oo:=true) (ls:=LL) 19 rfl rfl rfl ?_|(refine AW.only [(0,.dt false 1 (E false b)),(3,.ip (enc false r)),(9,.dt false 2 (E false R1)),(10,.b (isRep r)),(11,.dt false 2 (E false R1)),(12,.b (isRep r)),(13,.dt false 2 (E false C1)),(14,.b (isRep r)),(15,.dt false 2 (E false C1)),(16,.b (isRep r)),(17,.dt false 1 (E false LL)),(18,.b c3),(19,.dt false 1 (E false LL)),(20,.b c3),(120,.b c3)] [] _ ⟨rfl,rfl,rfl,rfl,rfl,rfl,rfl,rfl,rfl,rfl,rfl,rfl,rfl,rfl,rfl,trivial⟩ trivial rfl ?_;refine AW.only [(0,.dt false 1 (E false b)),(3,.ip (enc false r)),(9,.dt false 2 (E false R1)),(10,.b (isRep r)),(11,.dt false 2 (E false R1)),(12,.b (isRep r)),(13,.dt false 2 (E false C1)),(14,.b (isRep r)),(15,.dt false 2 (E false C1)),(16,.b (isRep r)),(17,.dt false 1 (E false LL)),(18,.b c3),(19,.dt false 1 (E false LL)),(20,.b c3)] [] _ ⟨rfl,rfl,rfl,rfl,rfl,rfl,rfl,rfl,rfl,rfl,rfl,rfl,rfl,rfl,trivial⟩ trivial rfl ?_;refine F.cut (σ:=Unit) [121,122,123,124,125,126,127,128,129,130,131,132,133,134,135,136,137,138,139,140,141,142,143,144,145,146,147,148,149,150,151,152,153,154,155,156,157,158,159,160,161,162,163,164,165,166] (fun _=>[(166,.b false)]) (fun _=>[]) (fun _=>True) ?_ (fun _ _=>?_))|refine s1 ?_|(refine kR ?_;first|refine F.c (hRi) ?_|refine F.c (hRs) ?_|refine F.c (hOi) ?_|refine F.c (hOs) ?_|refine F.c (hLi) ?_|refine F.c (hLs) ?_)|fail
     ·cases hc:isRep r with
      |false=>
       cases c3<;>
       ·repeat' first|refine s1 ?_|(refine kR ?_;first|refine F.sil (A.neqSame rfl rfl) rfl rfl ?_|refine F.c (hE1) ?_|refine F.c (hE2) ?_|refine F.c (hE3) ?_)|fail
        exact⟨(),F.fit ⟨rfl,trivial⟩ trivial,trivial⟩
      |true=>
       obtain⟨u1,u2⟩:=hsub hc
       rw[u1] at hU1
       rw[u2] at hU2
       cases c3<;>
       ·repeat' first|refine s1 ?_|(refine kR ?_;first|refine F.sil (A.neqSame rfl rfl) rfl rfl ?_|refine F.c (hE1) ?_|refine F.c (hE2) ?_|refine F.c (hE3) ?_|refine F.c (hU1) ?_|refine F.c (hU2) ?_)|fail
        exact⟨(),F.fit ⟨rfl,trivial⟩ trivial,trivial⟩
     ·clear hRi hRs hOi hOs hLi hLs hE1 hE2 hE3 hU1 hU2 hsub hm1 hm2
      obtain⟨h9,hok⟩:=hlt
      refine F.loop (σ:=Nat) [21,22,167,168,169,170,171,172,173,174,175,176,177,178,179] (fun k=>[(21,.i (totK LL k)),(22,.i k)]) (fun _=>[]) (fun k=>k≤LL.length) (fun k=>LL.length-k) 0 ⟨rfl,rfl,trivial⟩ trivial (Nat.zero_le _) ?_
      rintro k k1
      by_cases hk:k<LL.length
      ·have ht:=total_a (LL.getD k default) (hok k hk).1 (hok k hk).2
       have hb:=totK_bd h9 hok k k1
       have hn:=totK_next hk
       have hs:=(hok k hk).sum
       generalize totK LL k=z at hb hn⊢
       repeat' first|refine s1 ?_|(refine kR ?_;first|refine F.c (ht) ?_)|fail
       exact⟨k+1,F.fit ⟨iE (by omega),rfl,trivial⟩ trivial,by show k+1≤LL.length;omega,by show LL.length-(k+1)<LL.length-k;omega⟩
      ·obtain rfl:k=LL.length:=by omega
       rw[totK_full]
       generalize hzz:(LL.map List.sum).sum=zz at hlf⊢
       apply V.tailedT
       ·intro tail
        obtain⟨l1,l2⟩:=hlf
        cases hc3:c3 with
        |true=>
         obtain⟨l3,l4⟩:=l1 hc3
         have hTr':=hTr
         have hIr':=hIr
         have hQ':=hQ
         rw[l3] at hIr'
         rw[if_pos l3,←l4] at hTr'
         cases hac:ac<;>
         ·rw[hac] at hQ'
          repeat' first|(refine AW.only [(0,.dt false 1 (E false b)),(199,.b false),(181,.b true)] [] _ ⟨rfl,rfl,rfl,trivial⟩ trivial rfl ?_;refine AW.only [(0,.dt false 1 (E false b)),(199,.b false)] [] _ ⟨rfl,rfl,trivial⟩ trivial rfl ?_)|refine s1 ?_|(refine kR ?_;first|refine F.c (hTr') ?_|refine F.c (hIr') ?_|refine F.c (hQ') ?_)|fail
          exact tail.t
        |false=>
         have hIr':=hIr
         have hQ':=hQ
         cases hc:isRep r with
         |false=>
          rw[hc] at hIr'
          repeat' first|(refine AW.only [(0,.dt false 1 (E false b)),(199,.b false),(181,.b false)] [] _ ⟨rfl,rfl,rfl,trivial⟩ trivial rfl ?_;refine AW.only [(0,.dt false 1 (E false b)),(199,.b false)] [] _ ⟨rfl,rfl,trivial⟩ trivial rfl ?_)|refine s1 ?_|(refine kR ?_;first|refine F.c (hIr') ?_)|fail
          exact tail.t
         |true=>
          rw[hc] at hIr'
          cases hac:ac with
          |true=>exact absurd (l2 hc hac) (by rw[hc3];decide)
          |false=>
           rw[hac] at hQ'
           repeat' first|(refine AW.only [(0,.dt false 1 (E false b)),(199,.b false),(181,.b false)] [] _ ⟨rfl,rfl,rfl,trivial⟩ trivial rfl ?_;refine AW.only [(0,.dt false 1 (E false b)),(199,.b false)] [] _ ⟨rfl,rfl,trivial⟩ trivial rfl ?_)|refine s1 ?_|(refine kR ?_;first|refine F.c (hIr') ?_|refine F.c (hQ') ?_)|fail
           exact tail.t
       ·clear hlf hok hTr hIr hQ
        repeat' first|refine AW.freezeP (α:=Rep) (oo:=false) e 23 rfl rfl ?_|refine AW.freezeP (α:=Rep) (oo:=false) f 24 rfl rfl ?_|refine s1 ?_|(refine kR ?_;first|(refine F.x [] (hD2) ?_;rintro e he;refine F.xk ?_)|(refine F.x [] (hD3) ?_;rintro f hf;refine F.xk ?_))|fail
        have hBi:=implIsSimple_a e
        have hBs:=specIsSimple_a e
        have hJ:=implIsIndecomposable_a e
        have hsi:=@sim_ind e
        have hMi:=implIsSemisimple_a f
        have hMs:=specIsSemisimple_a f
        generalize simB e=cb at hBi hBs hsi
        generalize indI e=z at hJ hsi
        generalize isSemi f=cm at hMi hMs
        refine AW.only [(23,.ip (enc false e)),(24,.ip (enc false f))] [] _ ⟨rfl,rfl,trivial⟩ trivial rfl ?_
        cases cb with
        |false=>
         refine AW.draw 23 G.mixed (by kernel_rfl) ?_
         refine Pz (.l 0<|.l 2<|.o 1 true<|.o 3 true<|.p 4<|.p 5<|.g 209<|.j 6<|.o 7 true<|.k 8<|.k 9<|.g 213<|.j 10<|.o 11 true<|.k 12<|.k 13<|.p 14<|.p 15<|.g 219<|.j 16<|.j 18<|.o 17 true<|.o 19 true<|.k 20<|.p 21<|.p 22<|.n) ?_
         repeat' first|refine yP (i:=4) ?_ (hs:=by exact(A.eqlSame rfl rfl))|refine yP (i:=20) ?_ (hs:=by exact(A.eqlSame rfl rfl))|refine yS ?_|refine s1 ?_|(refine yD ?_ ?_<;>intro hc<;>(try simp only[decide_eq_true_eq,decide_eq_false_iff_not,Bool.not_eq_true',Bool.not_eq_false'] at hc))|refine yG ?_|(refine kR ?_;first|refine F.c (hBi) ?_|refine F.c (hBs) ?_|refine F.c (hMi) ?_|refine F.c (hMs) ?_)|fail
         any_goals refine lf ?_
         all_goals
          repeat' first|refine s1 ?_|fail
          (refine kZ ?_;exact F.ret rfl)
        |true=>
         have hz:z≠0:=hsi rfl
         refine AW.draw 23 G.mixed (by kernel_rfl) ?_
         refine Pz (.l 0<|.l 2<|.o 1 true<|.o 3 true<|.p 4<|.p 5<|.g 209<|.j 6<|.o 7 true<|.k 8<|.k 9<|.g 213<|.j 10<|.o 11 true<|.k 12<|.k 13<|.p 14<|.p 15<|.g 219<|.j 16<|.j 18<|.o 17 true<|.o 19 true<|.k 20<|.p 21<|.p 22<|.n) ?_
         repeat' first|refine yP (i:=4) ?_ (hs:=by exact(A.eqlSame rfl rfl))|refine yP (i:=20) ?_ (hs:=by exact(A.eqlSame rfl rfl))|refine yS ?_|refine s1 ?_|(refine yD ?_ ?_<;>intro hc<;>(try simp only[decide_eq_true_eq,decide_eq_false_iff_not,Bool.not_eq_true',Bool.not_eq_false'] at hc))|refine yG ?_|(refine kR ?_;first|refine F.c (hBi) ?_|refine F.c (hBs) ?_|refine F.c (hJ) ?_|refine F.c (hMi) ?_|refine F.c (hMs) ?_)|fail
         any_goals refine lf ?_
         all_goals
          repeat' first|refine s1 ?_|fail
          (refine kZ ?_;exact F.ret rfl)
theorem fnRadicals.walk(w:World)(x0:List UInt8)(v0:Value)(F0:List Nat)(h0:(listR u8R).V w x0 [v0] F0):Run Tryz.prog 5 [v0] w fun v w'=>v=.bool true∧Later w w':=
 (fnRadicals.ac x0).law (.cons (RdE.h h0) (.nil w))
namespace fnRadicals
theorem own:ownKnob Tryz.prog.godebug=none:=by kernel_rfl
theorem laidOut:laidOutB Tryz.prog=true:=by kernel_rfl
set_option maxRecDepth 100000 in
theorem lifted(os:Os)(started:os.Started)(H:Type)(enc:TypeId×Value→H):
  ReturnsInHanded {} Tryz.checked os 5 .any (Rows.fnRadicalsSpec.pre6 enc Tryz.prog Tryz.f5 Rows.fnRadicalsRow.domain false) (Rows.fnRadicalsSpec.post enc Tryz.prog Tryz.f5 false true false false):=by
 refine returnsInHanded_of_change (C:=Tryz.checked) own started (by kernel_rfl) Tryz.func5
  (ChangeSpec.witness6 (enc:=enc) (C:=Tryz.checked) false ⟨#[],#[.slice none 0 0],[]⟩ 8 (by kernel_rfl) (by kernel_rfl) (by kernel_rfl) (by kernel_rfl)) ?_
 intro W base args ds gs before hval0 hW hcnd _
 have hval:∀(j:Nat) t v,Tryz.f5.params[j]?=some t→args[j]?=some v→Value.okWide Tryz.prog W .any base t v:=hval0
 have hW':=hW
 obtain⟨p,q,hA0,hV,rfl,hfz,hnd⟩:=hW
 have hA:DataW.TrodAll enc Tryz.prog W 0 (fun _=>true) true Tryz.f5.params.toList args.toList ds p:=hA0
 rw[Tryz.params5] at hA hval
 obtain⟨v0,vs0,d0,ds0,p0,q0,hargs,rfl,rfl,h0,r0⟩:=trodAll_cons hA
 obtain⟨rfl,rfl,rfl⟩:=trodAll_nil r0
 obtain rfl:args=#[v0]:=by cases args;simp_all
 obtain⟨rfl,rfl⟩:=trodVars_none hV
 obtain⟨a0,len0,cap0,rfl⟩:=okWide_slice Tryz.underlying22 (hval 0 22 v0 rfl rfl)
 have k0:=h0
 have lt0:∀x∈p0,x.block<W.heap.size:=by obtain⟨m,hm⟩:=k0;exact DataW.trod_lt m _ _ _ hm
 obtain⟨x0,F0,R0⟩:=Rds.arg1 (inferInstance:Rds Tryz.prog 22 _) k0 rfl
 clear hA0 hval0
 refine(Run.calls (walk W x0 _ F0 R0)).mono fun e W' ⟨v,he,hv,bel⟩=>?_
 subst he
 subst hv
 exact⟨_,rfl,_,_,_,[],_,[],hW',trodAll_mk1 (shut_bool Tryz.underlying4 _),(trodAll_cons_mk (Below.trod laidOut (by kernel_rfl) (of_decide_eq_true (by kernel_rfl)) k0 bel lt0) trodAll_mk0),rfl,bel.frame _,fun h=>by cases h⟩
theorem rec0:Program.recurses Tryz.pinned.checked.prog 5=true:=V.recurses_at 286 286 (by kernel_rfl) (by kernel_rfl) (by kernel_rfl)
theorem unf:Program.unfollowed Tryz.pinned.checked.prog 5=Rows.fnRadicalsRow.unfollowed:=by kernel_rfl
theorem inp:Program.inPlace Tryz.pinned.checked.prog 5=Rows.fnRadicalsRow.inPlace:=by kernel_rfl
theorem vnm:Program.varsNamed Tryz.pinned.checked.prog 5=Rows.fnRadicalsRow.named:=by kernel_rfl
theorem closed:joinedFacts Tryz.pinned.checked.prog 5 Tryz.f5 Rows.fnRadicalsSpec Rows.fnRadicalsRow=true:=by
 unfold joinedFacts
 rw[rec0,unf,inp,vnm]
 change _=_
 kernel_rfl
theorem over:Rows.fnRadicalsRow.holds Tryz.pinned (OpenSpec.ofChange Rows.fnRadicalsSpec):=
 OpenClaim.holds_of_wide 5 Tryz.f5 rfl rfl rfl rfl rfl rfl rfl ⟨rfl,rfl,rfl,rfl,rfl⟩ rfl rfl rfl rfl rfl (by kernel_rfl) Tryz.func5 closed
  (of_decide_eq_true (by kernel_rfl)) (by unfold Func.isWrapper;first|(rw[if_pos (by decide+kernel)];kernel_rfl)|(rw[if_neg (by decide+kernel)];exact⟨rfl,rfl⟩))
  (fun os started H enc _=>lifted os started H enc)
theorem proved:Rows.FnRadicalsSaid:=over
end fnRadicals
end Go.Proofs.YtjmjamhhppoimaaGreat
