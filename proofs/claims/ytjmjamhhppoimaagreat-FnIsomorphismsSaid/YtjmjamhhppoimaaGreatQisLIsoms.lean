/- The law FnIsomorphisms holds for every input. -/
import Derived.Test.YtjmjamhhppoimaaGreatQisA210
import Derived.Test.YtjmjamhhppoimaaGreatQisDown
import Derived.OpenShut
namespace Go.Proofs.YtjmjamhhppoimaaGreat
open V.Enc (enc)
open Go.ChangeShapes Go.WideShapes Go.ChangeAt Go.RowKit G D V
set_option linter.unusedVariables false
set_option linter.unusedSimpArgs false
set_option maxHeartbeats 8000000
set_option maxRecDepth 4000
attribute [local irreducible] V.AW V.ARg V.ARA V.ARet V.MRet V.ASil V.AC V.AM V.AMx V.AD V.ARI
theorem bE{a b:Bool}(h:a=b):AV.b a=AV.b b:=by rw[h]
theorem fnIsomorphisms.ac(b:List UInt8):AC Tryz.prog 6 [ar false b] [.b true]:=by
 refine AC.go Tryz.func6 Tryz.ntmps6 rfl rfl fun w0 hw=>?_;simp[WfL,WfA,E_length,Enc.enc,In64] at hw
 have hB:=big_a b
 by_cases hl:(1048576:Int)<b.length
 ·rw[decide_eq_true hl] at hB
  repeat' first|refine s1 ?_|(refine kR ?_;first|refine F.c (hB) ?_)|fail
  (refine kZ ?_;exact F.ret rfl)
 ·rw[decide_eq_false hl] at hB
  have hl:b.length≤1048576:=by omega
  have hD1:=drawAreIsomorphic_x b hl
  have hD2:=drawHaveSameHoms_x b hl
  have hD3:=drawHomRow_x b hl
  have hD4:=drawIsSummand_x b hl
  repeat' first|refine AW.freezeP (α:=Rep) (oo:=false) a1 3 rfl rfl ?_|refine AW.freezeP (α:=Rep) (oo:=false) b1 4 rfl rfl ?_|refine s1 ?_|(refine kR ?_;first|refine F.c (hB) ?_|(refine F.x [] (hD1) ?_;rintro⟨a1,b1⟩ ha;refine F.xk ?_))|fail
  have hAi:=implAreIsomorphic_a a1 b1
  have hAs:=specAreIsomorphic_a a1 b1
  have hFi:=implFindIsomorphism_a a1 b1
  have hFs:=specFindIsomorphism_a a1 b1
  have hCi:=implCountIsomorphisms_a a1 b1
  have hCs:=specCountIsomorphisms_a a1 b1
  have hCa:=implCountIsomorphisms_a a1 a1
  have hAo:=implAreIsomorphic_a b1 a1
  have f1:=@iso_found a1 b1
  have f2:=@iso_count a1 b1
  have f3:=iso_both a1 b1
  have hIs:=fun f=>implIsIsomorphism_g a1 b1 f
  generalize fisP a1 b1=FP at hFi hFs f1
  obtain⟨f,c⟩:=FP
  generalize arI a1 b1=n at hAi hAs f1 f2 f3
  generalize arI b1 a1=o at hAo f3
  generalize cisB a1 b1=cc at hCi hCs f2
  generalize cisB a1 a1=ca at hCa f2
  dsimp only at hFi hFs f1
  have hEq:=specEqualMorphisms_a f f
  rw[sameL_self] at hEq
  have hIf:=hIs f
  repeat' first|refine AW.freezeA (α:=Mat) (oo:=true) (ls:=f) 6 rfl rfl rfl ?_|refine AW.freezeA (α:=Mat) (oo:=true) (ls:=f) 8 rfl rfl rfl ?_|(refine AW.only [(0,.dt false 1 (E false b)),(2,.b false),(3,.ip (enc false a1)),(4,.ip (enc false b1)),(5,.i n),(6,.dt false 3 (E false f)),(7,.b c),(8,.dt false 3 (E false f)),(9,.b c),(10,.i cc),(44,.i cc)] [] _ ⟨rfl,rfl,rfl,rfl,rfl,rfl,rfl,rfl,rfl,rfl,rfl,trivial⟩ trivial rfl ?_;refine AW.only [(0,.dt false 1 (E false b)),(2,.b false),(3,.ip (enc false a1)),(4,.ip (enc false b1)),(5,.i n),(6,.dt false 3 (E false f)),(7,.b c),(8,.dt false 3 (E false f)),(9,.b c),(10,.i cc)] [] _ ⟨rfl,rfl,rfl,rfl,rfl,rfl,rfl,rfl,rfl,rfl,trivial⟩ trivial rfl ?_;refine F.cut (σ:=Unit) [45,46,47,48,49,50,51,52,53,54,55,56,57,58,59,60,61,62,63,64,65,66,67,68,69,70,71,72,73,74,75,76,77,78,79,80,81,82,83,84,85,86,87,88,89,90,91,92,93,94,95,96,97,98,99,100,101,102,103,104,105,106,107] (fun _=>[(107,.b false)]) (fun _=>[]) (fun _=>True) ?_ (fun _ _=>?_))|(refine AW.only [(0,.dt false 1 (E false b)),(2,.b false),(5,.i n),(11,.i o),(110,.i o)] [] _ ⟨rfl,rfl,rfl,rfl,rfl,trivial⟩ trivial rfl ?_;refine AW.only [(0,.dt false 1 (E false b)),(2,.b false),(5,.i n),(11,.i o)] [] _ ⟨rfl,rfl,rfl,rfl,trivial⟩ trivial rfl ?_;refine F.cut (σ:=Unit) [111,112,113,114,115,116,117,118,119,120,121] (fun _=>[(121,.b false)]) (fun _=>[]) (fun _=>True) ?_ (fun _ _=>?_))|refine s1 ?_|(refine kR ?_;first|refine F.c (hAi) ?_|refine F.c (hFi) ?_|refine F.c (hFs) ?_|refine F.c (hCi) ?_|refine F.c (hAo) ?_)|fail
  ·cases hc:c with
   |false=>
    by_cases h0:n=0
    ·repeat' first|refine s1 ?_|(refine kR ?_;first|refine F.sil (A.neqSame rfl rfl) rfl rfl ?_|refine F.c (hAs) ?_|refine F.c (hEq) ?_|refine F.c (hCs) ?_)|fail
     first|exact⟨(),F.fit ⟨rfl,trivial⟩ trivial,trivial⟩|exact⟨(),F.fit ⟨bE (by simp[f4]),trivial⟩ trivial,trivial⟩
    ·by_cases h1:n=1
     ·by_cases h2:0≤cc
      ·have f4:=f2 h1 h2
       repeat' first|refine s1 ?_|(refine kR ?_;first|refine F.sil (A.neqSame rfl rfl) rfl rfl ?_|refine F.c (hAs) ?_|refine F.c (hEq) ?_|refine F.c (hCs) ?_|refine F.c (hCa) ?_)|fail
       first|exact⟨(),F.fit ⟨rfl,trivial⟩ trivial,trivial⟩|exact⟨(),F.fit ⟨bE (by simp[f4]),trivial⟩ trivial,trivial⟩
      ·repeat' first|refine s1 ?_|(refine kR ?_;first|refine F.sil (A.neqSame rfl rfl) rfl rfl ?_|refine F.c (hAs) ?_|refine F.c (hEq) ?_|refine F.c (hCs) ?_)|fail
       first|exact⟨(),F.fit ⟨rfl,trivial⟩ trivial,trivial⟩|exact⟨(),F.fit ⟨bE (by simp[f4]),trivial⟩ trivial,trivial⟩
     ·repeat' first|refine s1 ?_|(refine kR ?_;first|refine F.sil (A.neqSame rfl rfl) rfl rfl ?_|refine F.c (hAs) ?_|refine F.c (hEq) ?_|refine F.c (hCs) ?_)|fail
      first|exact⟨(),F.fit ⟨rfl,trivial⟩ trivial,trivial⟩|exact⟨(),F.fit ⟨bE (by simp[f4]),trivial⟩ trivial,trivial⟩
   |true=>
    obtain⟨h1,g1⟩:=f1 hc
    rw[g1] at hIf
    by_cases h2:0≤cc
    ·have f4:=f2 h1 h2
     repeat' first|refine s1 ?_|(refine kR ?_;first|refine F.sil (A.neqSame rfl rfl) rfl rfl ?_|refine F.c (hAs) ?_|refine F.c (hEq) ?_|refine F.c (hIf) ?_|refine F.c (hCs) ?_|refine F.c (hCa) ?_)|fail
     first|exact⟨(),F.fit ⟨rfl,trivial⟩ trivial,trivial⟩|exact⟨(),F.fit ⟨bE (by simp[f4]),trivial⟩ trivial,trivial⟩
    ·repeat' first|refine s1 ?_|(refine kR ?_;first|refine F.sil (A.neqSame rfl rfl) rfl rfl ?_|refine F.c (hAs) ?_|refine F.c (hEq) ?_|refine F.c (hIf) ?_|refine F.c (hCs) ?_)|fail
     first|exact⟨(),F.fit ⟨rfl,trivial⟩ trivial,trivial⟩|exact⟨(),F.fit ⟨bE (by simp[f4]),trivial⟩ trivial,trivial⟩
  ·by_cases h1:0≤n
   ·by_cases h2:0≤o
    ·have f4:=f3 h1 h2
     repeat' first|refine s1 ?_|fail
     first|exact⟨(),F.fit ⟨rfl,trivial⟩ trivial,trivial⟩|exact⟨(),F.fit ⟨bE (by simp[f4]),trivial⟩ trivial,trivial⟩
    ·repeat' first|refine s1 ?_|fail
     first|exact⟨(),F.fit ⟨rfl,trivial⟩ trivial,trivial⟩|exact⟨(),F.fit ⟨bE (by simp[f4]),trivial⟩ trivial,trivial⟩
   ·repeat' first|refine s1 ?_|fail
    first|exact⟨(),F.fit ⟨rfl,trivial⟩ trivial,trivial⟩|exact⟨(),F.fit ⟨bE (by simp[f4]),trivial⟩ trivial,trivial⟩
  ·clear hAi hAs hFi hFs hCi hCs hCa hAo f1 f2 f3 hIs hEq hIf
   repeat' first|refine AW.freezeP (α:=Rep) (oo:=false) x 12 rfl rfl ?_|refine AW.freezeP (α:=Rep) (oo:=false) y 13 rfl rfl ?_|refine AW.freezeA (α:=Rep) (oo:=false) (ls:=l) 14 rfl rfl rfl ?_|refine s1 ?_|(refine kR ?_;first|(refine F.x [] (hD2) ?_;rintro⟨x,y,l⟩ hx;refine F.xk ?_))|fail
   have hHi:=implHaveSameHoms_a x y l
   have hHs:=specHaveSameHoms_a x y l
   have hAx:=specAreIsomorphic_a x y
   have f5:=fun h=>iso_same (a:=x) (b:=y) h l
   generalize sameH x y l=m at hHi hHs f5
   generalize arI x y=n2 at hAx f5
   repeat' first|(refine AW.only [(0,.dt false 1 (E false b)),(2,.b false),(12,.ip (enc false x)),(13,.ip (enc false y)),(14,.dt false 6 (E false l)),(15,.b m),(131,.b m)] [] _ ⟨rfl,rfl,rfl,rfl,rfl,rfl,rfl,trivial⟩ trivial rfl ?_;refine AW.only [(0,.dt false 1 (E false b)),(2,.b false),(12,.ip (enc false x)),(13,.ip (enc false y)),(14,.dt false 6 (E false l)),(15,.b m)] [] _ ⟨rfl,rfl,rfl,rfl,rfl,rfl,trivial⟩ trivial rfl ?_;refine F.cut (σ:=Unit) [132,133,134,135,136,137,138,139,140,141,142,143,144,145,146,147] (fun _=>[(147,.b false)]) (fun _=>[]) (fun _=>True) ?_ (fun _ _=>?_))|refine s1 ?_|(refine kR ?_;first|refine F.c (hHi) ?_)|fail
   ·by_cases h1:n2=1
    ·obtain rfl:=f5 h1
     repeat' first|refine s1 ?_|(refine kR ?_;first|refine F.sil (A.neqSame rfl rfl) rfl rfl ?_|refine F.c (hHs) ?_|refine F.c (hAx) ?_)|fail
     first|exact⟨(),F.fit ⟨rfl,trivial⟩ trivial,trivial⟩|exact⟨(),F.fit ⟨bE (by simp[f4]),trivial⟩ trivial,trivial⟩
    ·cases m with
     |false=>
      repeat' first|refine s1 ?_|(refine kR ?_;first|refine F.sil (A.neqSame rfl rfl) rfl rfl ?_|refine F.c (hHs) ?_|refine F.c (hAx) ?_)|fail
      first|exact⟨(),F.fit ⟨rfl,trivial⟩ trivial,trivial⟩|exact⟨(),F.fit ⟨bE (by simp[f4]),trivial⟩ trivial,trivial⟩
     |true=>
      repeat' first|refine s1 ?_|(refine kR ?_;first|refine F.sil (A.neqSame rfl rfl) rfl rfl ?_|refine F.c (hHs) ?_|refine F.c (hAx) ?_)|fail
      first|exact⟨(),F.fit ⟨rfl,trivial⟩ trivial,trivial⟩|exact⟨(),F.fit ⟨bE (by simp[f4]),trivial⟩ trivial,trivial⟩
   ·clear hHi hHs hAx f5
    repeat' first|refine AW.freezeP (α:=Rep) (oo:=false) d 16 rfl rfl ?_|refine AW.freezeA (α:=Rep) (oo:=false) (ls:=h) 17 rfl rfl rfl ?_|refine AW.freezeP (α:=Rep) (oo:=false) e 18 rfl rfl ?_|refine AW.freezeP (α:=Rep) (oo:=false) i 19 rfl rfl ?_|refine s1 ?_|(refine kR ?_;first|(refine F.x [] (hD3) ?_;rintro⟨d,h⟩ hd;refine F.xk ?_)|(refine F.x [] (hD4) ?_;rintro⟨e,i⟩ he;refine F.xk ?_))|fail
    have hRi:=implHomRow_a d h
    have hRs:=specHomRow_a d h
    have hSi:=implIsSummand_a e i
    have hSs:=specIsSummand_a e i
    generalize homRow d h=L1 at hRi hRs
    generalize smdI e i=z at hSi hSs
    have hSL:=sameInts_a L1 L1
    rw[decide_eq_true rfl] at hSL
    refine AW.only [(2,.b false),(16,.ip (enc false d)),(17,.dt false 6 (E false h)),(18,.ip (enc false e)),(19,.ip (enc false i))] [] _ ⟨rfl,rfl,rfl,rfl,rfl,trivial⟩ trivial rfl ?_
    refine AW.draw 17 G.mixed (by kernel_rfl) ?_
    refine Pz (.l 0<|.p 1<|.l 3<|.p 4<|.o 2 true<|.o 5 true<|.o 6 true<|.p 7<|.g 165<|.j 8<|.j 9<|.j 11<|.j 12<|.o 10 true<|.o 13 true<|.k 14<|.p 15<|.p 16<|.n) ?_
    repeat' first|refine yP (i:=14) ?_ (hs:=by exact(A.eqlSame rfl rfl))|refine yS ?_|refine s1 ?_|(refine yD ?_ ?_<;>intro hc<;>(try simp only[decide_eq_true_eq,decide_eq_false_iff_not,Bool.not_eq_true',Bool.not_eq_false'] at hc))|refine yG ?_|(refine kR ?_;first|refine F.c (hRi) ?_|refine F.c (hRs) ?_|refine F.c (hSL) ?_|refine F.c (hSi) ?_|refine F.c (hSs) ?_)|fail
    any_goals refine lf ?_
    all_goals
     repeat' first|refine s1 ?_|fail
     refine F.ret ?_;simp
theorem fnIsomorphisms.walk(w:World)(x0:List UInt8)(v0:Value)(F0:List Nat)(h0:(listR u8R).V w x0 [v0] F0):Run Tryz.prog 6 [v0] w fun v w'=>v=.bool true∧Later w w':=
 (fnIsomorphisms.ac x0).law (.cons (RdE.h h0) (.nil w))
namespace fnIsomorphisms
theorem own:ownKnob Tryz.prog.godebug=none:=by kernel_rfl
theorem laidOut:laidOutB Tryz.prog=true:=by kernel_rfl
set_option maxRecDepth 100000 in
theorem lifted(os:Os)(started:os.Started)(H:Type)(enc:TypeId×Value→H):
  ReturnsInHanded {} Tryz.checked os 6 .any (Rows.fnIsomorphismsSpec.pre6 enc Tryz.prog Tryz.f6 Rows.fnIsomorphismsRow.domain false) (Rows.fnIsomorphismsSpec.post enc Tryz.prog Tryz.f6 false true false false):=by
 refine returnsInHanded_of_change (C:=Tryz.checked) own started (by kernel_rfl) Tryz.func6
  (ChangeSpec.witness6 (enc:=enc) (C:=Tryz.checked) false ⟨#[],#[.slice none 0 0],[]⟩ 8 (by kernel_rfl) (by kernel_rfl) (by kernel_rfl) (by kernel_rfl)) ?_
 intro W base args ds gs before hval0 hW hcnd _
 have hval:∀(j:Nat) t v,Tryz.f6.params[j]?=some t→args[j]?=some v→Value.okWide Tryz.prog W .any base t v:=hval0
 have hW':=hW
 obtain⟨p,q,hA0,hV,rfl,hfz,hnd⟩:=hW
 have hA:DataW.TrodAll enc Tryz.prog W 0 (fun _=>true) true Tryz.f6.params.toList args.toList ds p:=hA0
 rw[Tryz.params6] at hA hval
 obtain⟨v0,vs0,d0,ds0,p0,q0,hargs,rfl,rfl,h0,r0⟩:=trodAll_cons hA
 obtain⟨rfl,rfl,rfl⟩:=trodAll_nil r0
 obtain rfl:args=#[v0]:=by cases args;simp_all
 obtain⟨rfl,rfl⟩:=trodVars_none hV
 obtain⟨a0,len0,cap0,rfl⟩:=okWide_slice Tryz.underlying22 (hval 0 22 v0 rfl rfl)
 have k0:=h0
 have lt0:∀x∈p0,x.block<W.heap.size:=by obtain⟨m,hm⟩:=k0;exact DataW.trod_lt m _ _ _ hm
 obtain⟨x0,F0,R0⟩:=Rds.arg1 (inferInstance:Rds Tryz.prog 22 _) k0 rfl
 clear hA0 hval0
 refine(Run.calls (walk W x0 _ F0 R0)).mono fun e W' ⟨v,he,hv,bel⟩=>?_
 subst he
 subst hv
 exact⟨_,rfl,_,_,_,[],_,[],hW',trodAll_mk1 (shut_bool Tryz.underlying4 _),(trodAll_cons_mk (Below.trod laidOut (by kernel_rfl) (of_decide_eq_true (by kernel_rfl)) k0 bel lt0) trodAll_mk0),rfl,bel.frame _,fun h=>by cases h⟩
theorem rec0:Program.recurses Tryz.pinned.checked.prog 6=true:=V.recurses_at 290 290 (by kernel_rfl) (by kernel_rfl) (by kernel_rfl)
theorem unf:Program.unfollowed Tryz.pinned.checked.prog 6=Rows.fnIsomorphismsRow.unfollowed:=by kernel_rfl
theorem inp:Program.inPlace Tryz.pinned.checked.prog 6=Rows.fnIsomorphismsRow.inPlace:=by kernel_rfl
theorem vnm:Program.varsNamed Tryz.pinned.checked.prog 6=Rows.fnIsomorphismsRow.named:=by kernel_rfl
theorem closed:joinedFacts Tryz.pinned.checked.prog 6 Tryz.f6 Rows.fnIsomorphismsSpec Rows.fnIsomorphismsRow=true:=by
 unfold joinedFacts
 rw[rec0,unf,inp,vnm]
 change _=_
 kernel_rfl
theorem over:Rows.fnIsomorphismsRow.holds Tryz.pinned (OpenSpec.ofChange Rows.fnIsomorphismsSpec):=
 OpenClaim.holds_of_wide 6 Tryz.f6 rfl rfl rfl rfl rfl rfl rfl ⟨rfl,rfl,rfl,rfl,rfl⟩ rfl rfl rfl rfl rfl (by kernel_rfl) Tryz.func6 closed
  (of_decide_eq_true (by kernel_rfl)) (by unfold Func.isWrapper;first|(rw[if_pos (by decide+kernel)];kernel_rfl)|(rw[if_neg (by decide+kernel)];exact⟨rfl,rfl⟩))
  (fun os started H enc _=>lifted os started H enc)
theorem proved:Rows.FnIsomorphismsSaid:=over
end fnIsomorphisms
end Go.Proofs.YtjmjamhhppoimaaGreat
