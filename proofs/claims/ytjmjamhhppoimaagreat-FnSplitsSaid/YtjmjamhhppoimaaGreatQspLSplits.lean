/- The law FnSplits holds for every input. -/
import Derived.Test.YtjmjamhhppoimaaGreatQspDown
import Derived.OpenShut
namespace Go.Proofs.YtjmjamhhppoimaaGreat
open V.Enc (enc)
open Go.ChangeShapes Go.WideShapes Go.ChangeAt Go.RowKit G D V
set_option linter.unusedVariables false
set_option linter.unusedSimpArgs false
set_option maxHeartbeats 8000000
set_option maxRecDepth 4000
attribute [local irreducible] V.AW V.ARg V.ARA V.ARet V.MRet V.ASil V.AC V.AM V.AMx V.AD V.ARI
theorem fnSplits.ac(b:List UInt8):AC Tryz.prog 7 [ar false b] [.b true]:=by
 refine AC.go Tryz.func7 Tryz.ntmps7 rfl rfl fun w0 hw=>?_;simp[WfL,WfA,E_length,Enc.enc,In64] at hw
 have hB:=big_a b
 by_cases hl:(1048576:Int)<b.length
 ·rw[decide_eq_true hl] at hB
  repeat' first|refine s1 ?_|(refine kR ?_;first|refine F.c (hB) ?_)|fail
  (refine kZ ?_;exact F.ret rfl)
 ·rw[decide_eq_false hl] at hB
  have hl:b.length≤1048576:=by omega
  have hD1:=drawFindSplit_x b hl
  have hD2:=drawSplitBy_x b hl
  have hD3:=drawIsComplementPair_x b hl
  have hD4:=drawIsIdempotent_x b hl
  have hD5:=drawIdempotentOf_x b hl
  have hD6:=drawIsDecomposition_x b hl
  repeat' first|refine AW.freezeP (α:=Rep) (oo:=false) r 3 rfl rfl ?_|refine s1 ?_|(refine kR ?_;first|refine F.c (hB) ?_|(refine F.x [] (hD1) ?_;rintro r hr;refine F.xk ?_))|fail
  have hFi:=implFindSplit_a r
  have hFs:=specFindSplit_a r
  have hNi:=implIsIndecomposable_a r
  have hNs:=specIsIndecomposable_a r
  have hff:=fssP_facts r
  generalize fssP r=FP at hFi hFs hff
  obtain⟨s,t,c⟩:=FP
  generalize indI r=n at hNi hNs hff
  dsimp only at hFi hFs hff
  obtain⟨⟨hm1,hm2⟩,hff⟩:=hff
  have hE1:=specEqualSubs_a s s hm1
  have hE2:=specEqualSubs_a t t hm2
  rw[sameSL_refl] at hE1 hE2
  have hCp:=implIsComplementPair_a r s t
  have hIm:=implIdempotentOf_a r s t
  repeat' first|refine AW.freezeA (α:=Spc) (oo:=true) (ls:=s) 4 rfl rfl rfl ?_|refine AW.freezeA (α:=Spc) (oo:=true) (ls:=t) 5 rfl rfl rfl ?_|refine AW.freezeA (α:=Spc) (oo:=true) (ls:=s) 7 rfl rfl rfl ?_|refine AW.freezeA (α:=Spc) (oo:=true) (ls:=t) 8 rfl rfl rfl ?_|(refine AW.only [(0,.dt false 1 (E false b)),(2,.b false),(3,.ip (enc false r)),(4,.dt false 2 (E false s)),(5,.dt false 2 (E false t)),(6,.b c),(7,.dt false 2 (E false s)),(8,.dt false 2 (E false t)),(9,.b c),(10,.i n),(57,.i n)] [] _ ⟨rfl,rfl,rfl,rfl,rfl,rfl,rfl,rfl,rfl,rfl,rfl,trivial⟩ trivial rfl ?_;refine AW.only [(0,.dt false 1 (E false b)),(2,.b false),(3,.ip (enc false r)),(4,.dt false 2 (E false s)),(5,.dt false 2 (E false t)),(6,.b c),(7,.dt false 2 (E false s)),(8,.dt false 2 (E false t)),(9,.b c),(10,.i n)] [] _ ⟨rfl,rfl,rfl,rfl,rfl,rfl,rfl,rfl,rfl,rfl,trivial⟩ trivial rfl ?_;refine F.cut (σ:=Unit) [58,59,60,61,62,63,64,65,66,67,68,69,70,71,72,73,74,75,76,77,78,79,80,81,82,83,84,85,86,87,88,89,90,91,92] (fun _=>[(92,.b false)]) (fun _=>[]) (fun _=>True) ?_ (fun _ _=>?_))|refine s1 ?_|(refine kR ?_;first|refine F.c (hFi) ?_|refine F.c (hFs) ?_|refine F.c (hNi) ?_)|fail
  ·cases hc:c with
   |false=>
    repeat' first|refine s1 ?_|(refine kR ?_;first|refine F.sil (A.neqSame rfl rfl) rfl rfl ?_|refine F.c (hE1) ?_|refine F.c (hE2) ?_|refine F.c (hNs) ?_)|fail
    exact⟨(),F.fit ⟨rfl,trivial⟩ trivial,trivial⟩
   |true=>
    obtain⟨h1,h2,_⟩:=hff hc
    subst h1
    rw[h2] at hCp
    repeat' first|refine s1 ?_|(refine kR ?_;first|refine F.sil (A.neqSame rfl rfl) rfl rfl ?_|refine F.c (hE1) ?_|refine F.c (hE2) ?_|refine F.c (hNs) ?_|refine F.c (hCp) ?_)|fail
    exact⟨(),F.fit ⟨rfl,trivial⟩ trivial,trivial⟩
  ·refine F.cut (σ:=Unit) [11,12,13,14,15,16,94,95,96,97,98,99,100,101,102,103,104,105,106,107,108,109,110,111,112,113,114,115,116,117,118,119,120,121,122,123,124,125,126,127,128,129,130,131,132] (fun _=>[]) (fun _=>[]) (fun _=>True) ?_ (fun _ _=>?_)
   ·cases hc:c with
    |false=>
     repeat' first|refine s1 ?_|fail
     exact⟨(),F.fit trivial trivial,trivial⟩
    |true=>
     obtain⟨h1,h2,f,h3,h4,h5,h6⟩:=hff hc
     rw[h3] at hIm
     dsimp only at hIm
     have hId:=implIsIdempotent_a r f
     rw[h4] at hId
     have hK:=specKernelSub_a r r f
     have hG:=specImageSub_a r r f
     rw[h5] at hK
     rw[h6] at hG
     generalize (kerP r r f).2=c5 at hK
     generalize (imgP r r f).2=c6 at hG
     repeat' first|refine AW.freezeA (α:=Mat) (oo:=true) (ls:=f) 11 rfl rfl rfl ?_|refine AW.freezeA (α:=Spc) (oo:=true) (ls:=s) 13 rfl rfl rfl ?_|refine AW.freezeA (α:=Spc) (oo:=true) (ls:=t) 15 rfl rfl rfl ?_|refine s1 ?_|(refine kR ?_;first|refine F.c (hIm) ?_|refine F.c (hId) ?_|refine F.c (hK) ?_|refine F.c (hG) ?_|refine F.c (hE1) ?_|refine F.c (hE2) ?_)|fail
     exact⟨(),F.fit trivial trivial,trivial⟩
   ·clear hFi hFs hNi hNs hff hm1 hm2 hE1 hE2 hCp hIm
    repeat' first|refine AW.freezeP (α:=Rep) (oo:=false) a 17 rfl rfl ?_|refine s1 ?_|(refine kR ?_;first|(refine F.x [] (hD2) ?_;rintro⟨a,f⟩ ha;refine F.xk ?_))|fail
    have hSi:=implSplitBy_a a f
    have hSs:=specSplitBy_a a f
    have hsm:=spP_small a f
    generalize spP a f=SP at hSi hSs hsm
    obtain⟨s1',t1',c1⟩:=SP
    dsimp only at hSi hSs hsm
    have hE1:=specEqualSubs_a s1' s1' hsm.1
    have hE2:=specEqualSubs_a t1' t1' hsm.2
    rw[sameSL_refl] at hE1 hE2
    repeat' first|refine AW.freezeA (α:=Spc) (oo:=true) (ls:=s1') 19 rfl rfl rfl ?_|refine AW.freezeA (α:=Spc) (oo:=true) (ls:=t1') 20 rfl rfl rfl ?_|refine AW.freezeA (α:=Spc) (oo:=true) (ls:=s1') 22 rfl rfl rfl ?_|refine AW.freezeA (α:=Spc) (oo:=true) (ls:=t1') 23 rfl rfl rfl ?_|refine AW.freezeP (α:=Rep) (oo:=false) g 25 rfl rfl ?_|refine AW.freezeP (α:=Rep) (oo:=false) j 28 rfl rfl ?_|refine AW.freezeP (α:=Rep) (oo:=false) l 30 rfl rfl ?_|refine s1 ?_|(refine kR ?_;first|refine F.c (hSi) ?_|refine F.c (hSs) ?_|(refine F.x [] (hD3) ?_;rintro⟨g,h,i⟩ hg;refine F.xk ?_)|(refine F.x [] (hD4) ?_;rintro⟨j,k⟩ hj;refine F.xk ?_)|(refine F.x [] (hD5) ?_;rintro⟨l,m,o⟩ hl5;refine F.xk ?_))|fail
    have hIi:=implIdempotentOf_a l m o
    have hIs:=specIdempotentOf_a l m o
    generalize idmP l m o=IP at hIi hIs
    obtain⟨p,c2⟩:=IP
    dsimp only at hIi hIs
    have hEq:=specEqualMorphisms_a p p
    rw[sameL_self] at hEq
    repeat' first|refine AW.freezeA (α:=Mat) (oo:=true) (ls:=p) 33 rfl rfl rfl ?_|refine AW.freezeA (α:=Mat) (oo:=true) (ls:=p) 35 rfl rfl rfl ?_|refine AW.freezeP (α:=Rep) (oo:=false) x 37 rfl rfl ?_|refine s1 ?_|(refine kR ?_;first|refine F.c (hIi) ?_|refine F.c (hIs) ?_|(refine F.x [] (hD6) ?_;rintro⟨x,y,z⟩ hx;refine F.xk ?_))|fail
    have hPi:=implIsComplementPair_a g h i
    have hPs:=specIsComplementPair_a g h i
    have hJi:=implIsIdempotent_a j k
    have hJs:=specIsIdempotent_a j k
    have hQi:=implIsDecomposition_a x y z
    have hQs:=specIsDecomposition_a x y z
    generalize cmpB g h i=c3 at hPi hPs
    generalize isIdem j k=c4 at hJi hJs
    generalize decP x y z=c5 at hQi hQs
    refine AW.only [(2,.b false),(19,.dt false 2 (E false s1')),(20,.dt false 2 (E false t1')),(21,.b c1),(22,.dt false 2 (E false s1')),(23,.dt false 2 (E false t1')),(24,.b c1),(25,.ip (enc false g)),(26,.dt false 2 (E false h)),(27,.dt false 2 (E false i)),(28,.ip (enc false j)),(29,.dt false 3 (E false k)),(33,.dt false 3 (E false p)),(34,.b c2),(35,.dt false 3 (E false p)),(36,.b c2),(37,.ip (enc false x)),(38,.dt false 6 (E false y)),(39,.dt false 3 (E false z))] [] _ ⟨rfl,rfl,rfl,rfl,rfl,rfl,rfl,rfl,rfl,rfl,rfl,rfl,rfl,rfl,rfl,rfl,rfl,rfl,rfl,trivial⟩ trivial rfl ?_
    refine AW.draw 55 G.mixed (by kernel_rfl) ?_
    refine Pz (.p 0<|.p 1<|.p 2<|.p 3<|.g 192<|.k 4<|.k 5<|.o 6 true<|.p 7<|.p 8<|.g 197<|.k 9<|.k 10<|.o 11 true<|.p 12<|.p 13<|.g 202<|.j 14<|.k 15<|.k 16<|.j 18<|.k 19<|.k 20<|.o 17 true<|.o 21 true<|.k 22<|.p 23<|.p 24<|.g 213<|.j 25<|.k 26<|.j 28<|.k 29<|.o 27 true<|.o 30 true<|.k 31<|.p 32<|.p 33<|.g 222<|.k 34<|.k 35<|.k 36<|.p 37<|.p 38<|.g 227<|.k 39<|.k 40<|.o 41 true<|.p 42<|.p 43<|.g 232<|.j 44<|.k 45<|.k 46<|.j 48<|.k 49<|.k 50<|.o 47 true<|.o 51 true<|.k 52<|.p 53<|.p 54<|.n) ?_
    repeat' first|refine yP (i:=2) ?_ (hs:=by exact(A.eqlSame rfl rfl))|refine yP (i:=22) ?_ (hs:=by exact(A.eqlSame rfl rfl))|refine yP (i:=31) ?_ (hs:=by exact(A.eqlSame rfl rfl))|refine yP (i:=36) ?_ (hs:=by exact(A.eqlSame rfl rfl))|refine yP (i:=52) ?_ (hs:=by exact(A.eqlSame rfl rfl))|(refine yU (i:=6) ?_;first|refine s1 ?_|refine F.c (hE1) ?_)|(refine yU (i:=11) ?_;first|refine s1 ?_|refine F.c (hE2) ?_)|refine yS ?_|refine s1 ?_|(refine yD ?_ ?_<;>intro hc<;>(try simp only[decide_eq_true_eq,decide_eq_false_iff_not,Bool.not_eq_true',Bool.not_eq_false'] at hc))|refine yG ?_|(refine kR ?_;first|refine F.c (hPi) ?_|refine F.c (hPs) ?_|refine F.c (hJi) ?_|refine F.c (hJs) ?_|refine F.c (hEq) ?_|refine F.c (hQi) ?_|refine F.c (hQs) ?_)|fail
    any_goals refine lf ?_
    all_goals
     repeat' first|refine s1 ?_|fail
     (refine kZ ?_;exact F.ret rfl)
theorem fnSplits.walk(w:World)(x0:List UInt8)(v0:Value)(F0:List Nat)(h0:(listR u8R).V w x0 [v0] F0):Run Tryz.prog 7 [v0] w fun v w'=>v=.bool true∧Later w w':=
 (fnSplits.ac x0).law (.cons (RdE.h h0) (.nil w))
namespace fnSplits
theorem own:ownKnob Tryz.prog.godebug=none:=by kernel_rfl
theorem laidOut:laidOutB Tryz.prog=true:=by kernel_rfl
set_option maxRecDepth 100000 in
theorem lifted(os:Os)(started:os.Started)(H:Type)(enc:TypeId×Value→H):
  ReturnsInHanded {} Tryz.checked os 7 .any (Rows.fnSplitsSpec.pre6 enc Tryz.prog Tryz.f7 Rows.fnSplitsRow.domain false) (Rows.fnSplitsSpec.post enc Tryz.prog Tryz.f7 false true false false):=by
 refine returnsInHanded_of_change (C:=Tryz.checked) own started (by kernel_rfl) Tryz.func7
  (ChangeSpec.witness6 (enc:=enc) (C:=Tryz.checked) false ⟨#[],#[.slice none 0 0],[]⟩ 8 (by kernel_rfl) (by kernel_rfl) (by kernel_rfl) (by kernel_rfl)) ?_
 intro W base args ds gs before hval0 hW hcnd _
 have hval:∀(j:Nat) t v,Tryz.f7.params[j]?=some t→args[j]?=some v→Value.okWide Tryz.prog W .any base t v:=hval0
 have hW':=hW
 obtain⟨p,q,hA0,hV,rfl,hfz,hnd⟩:=hW
 have hA:DataW.TrodAll enc Tryz.prog W 0 (fun _=>true) true Tryz.f7.params.toList args.toList ds p:=hA0
 rw[Tryz.params7] at hA hval
 obtain⟨v0,vs0,d0,ds0,p0,q0,hargs,rfl,rfl,h0,r0⟩:=trodAll_cons hA
 obtain⟨rfl,rfl,rfl⟩:=trodAll_nil r0
 obtain rfl:args=#[v0]:=by cases args;simp_all
 obtain⟨rfl,rfl⟩:=trodVars_none hV
 obtain⟨a0,len0,cap0,rfl⟩:=okWide_slice Tryz.underlying22 (hval 0 22 v0 rfl rfl)
 have k0:=h0
 have lt0:∀x∈p0,x.block<W.heap.size:=by obtain⟨m,hm⟩:=k0;exact DataW.trod_lt m _ _ _ hm
 obtain⟨x0,F0,R0⟩:=Rds.arg1 (inferInstance:Rds Tryz.prog 22 _) k0 rfl
 clear hA0 hval0
 refine(Run.calls (walk W x0 _ F0 R0)).mono fun e W' ⟨v,he,hv,bel⟩=>?_
 subst he
 subst hv
 exact⟨_,rfl,_,_,_,[],_,[],hW',trodAll_mk1 (shut_bool Tryz.underlying4 _),(trodAll_cons_mk (Below.trod laidOut (by kernel_rfl) (of_decide_eq_true (by kernel_rfl)) k0 bel lt0) trodAll_mk0),rfl,bel.frame _,fun h=>by cases h⟩
theorem rec0:Program.recurses Tryz.pinned.checked.prog 7=true:=V.recurses_at 350 350 (by kernel_rfl) (by kernel_rfl) (by kernel_rfl)
theorem unf:Program.unfollowed Tryz.pinned.checked.prog 7=Rows.fnSplitsRow.unfollowed:=by kernel_rfl
theorem inp:Program.inPlace Tryz.pinned.checked.prog 7=Rows.fnSplitsRow.inPlace:=by kernel_rfl
theorem vnm:Program.varsNamed Tryz.pinned.checked.prog 7=Rows.fnSplitsRow.named:=by kernel_rfl
theorem closed:joinedFacts Tryz.pinned.checked.prog 7 Tryz.f7 Rows.fnSplitsSpec Rows.fnSplitsRow=true:=by
 unfold joinedFacts
 rw[rec0,unf,inp,vnm]
 change _=_
 kernel_rfl
theorem over:Rows.fnSplitsRow.holds Tryz.pinned (OpenSpec.ofChange Rows.fnSplitsSpec):=
 OpenClaim.holds_of_wide 7 Tryz.f7 rfl rfl rfl rfl rfl rfl rfl ⟨rfl,rfl,rfl,rfl,rfl⟩ rfl rfl rfl rfl rfl (by kernel_rfl) Tryz.func7 closed
  (of_decide_eq_true (by kernel_rfl)) (by unfold Func.isWrapper;first|(rw[if_pos (by decide+kernel)];kernel_rfl)|(rw[if_neg (by decide+kernel)];exact⟨rfl,rfl⟩))
  (fun os started H enc _=>lifted os started H enc)
theorem proved:Rows.FnSplitsSaid:=over
end fnSplits
end Go.Proofs.YtjmjamhhppoimaaGreat
