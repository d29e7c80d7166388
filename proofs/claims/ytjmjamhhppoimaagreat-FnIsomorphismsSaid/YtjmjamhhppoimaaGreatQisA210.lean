/- Texts that the proof needs: A210. -/
import Derived.Test.YtjmjamhhppoimaaGreatQisA122
import Derived.Test.YtjmjamhhppoimaaGreatQisA95
namespace Go.Proofs.YtjmjamhhppoimaaGreat.V
open V.Enc (enc)
open Go.RowKit G D
set_option linter.unusedVariables false
set_option linter.unusedSimpArgs false
set_option maxHeartbeats 4000000
set_option maxRecDepth 4000
attribute [local irreducible] AW ARg ARA ARet MRet ASil AC AM AMx ACx AD ARI
theorem sumP_rep(x y:Rep):(sumP x y).1.d.length≤1000∧((sumP x y).2=true→isRep (sumP x y).1=true):=by
 unfold sumP
 split
 ·rename_i h
  have:=rep_len h.2
  exact⟨by dsimp only;omega,fun _=>h.2⟩
 ·exact⟨by decide,fun h=>by cases h⟩
theorem l16Rep_x(b:List UInt8)(hl:b.length≤1048576):AD Tryz.prog 258 [] b (fun r:Rep=>isRep r=true) (fun r=>[.agg (enc false r)]):=by
 refine AD.go Tryz.func258 Tryz.ntmps258 rfl rfl fun i h hi w0 mp hw=>?_;simp[WfL,WfA,E_length,Enc.enc,In64] at hw
 have hP:=l8Prime_x b hl
 have hA:=l6Acyclic_ok b hl
 have hO:=fun n=>l1Once_x b hl n
 have h1:=fun p q=>l8Of_x b hl p q 1 (by omega)
 have h2:=fun p q=>l8Of_x b hl p q 2 (by omega)
 have hC:=fun r hr=>l9Changes_x b hl r hr
 have hX:=fun r g=>changeBasis_x r g
 repeat' first|(refine AW.putV 4 1 rfl rfl rfl rfl (E_length _ _) (E_pure _ _) rfl ?_;refine AW.putV 4 2 rfl rfl rfl rfl (E_length _ _) (E_pure _ _) rfl ?_;refine AW.freezeP (α:=Quiv) (oo:=true) q 4 rfl rfl ?_)|(refine AW.putV 5 4 rfl rfl rfl rfl (E_length _ _) (E_pure _ _) rfl ?_;refine AW.putV 5 5 rfl rfl rfl rfl (E_length _ _) (E_pure _ _) rfl ?_;refine AW.freezeV (enc false a) 5 rfl rfl (repA_pure a) (repA_frz a) ?_)|refine s1 ?_|(refine kR ?_;first|(refine F.dr 0 (hP) (by assumption) ?_;intro p i1 k1 hp hi1;refine F.xk ?_)|(refine F.dr 0 (hA) (by assumption) ?_;intro q i2 k2 hq hi2;refine F.xk ?_)|(refine F.dr 0 ((h1 _ _)) (by assumption) ?_;intro a i3 k3 ha hi3;refine F.xk ?_)|(refine F.dr 0 ((hO _)) (by assumption) ?_;intro c i4 k4 hc4 hi4;refine F.xk ?_))|fail
 obtain⟨a1,a2,a3,a4,a5,a6⟩:=ha
 have hF:isF p=true:=isF_spec.2 (by omega)
 have har:=a4 hF hq (by omega)
 refine AW.only [(0,.pt 0 1 0 0),(2,.pt 1 1 0 0),(3,.i p),(4,.ip (enc false q)),(5,.ip (enc false a)),(20,.b c)] [(0,.live false 3 (curO b i4 k4)),(1,.live false 6 cellR)] _ ⟨rfl,rfl,rfl,rfl,rfl,rfl,trivial⟩ ⟨rfl,rfl,trivial⟩ rfl ?_
 refine F.cut (σ:=Int×Int) [6,7,8,9,10,21,22,23,24,25,26,27,28,29,30,31,32,33,34,35,36,37,38,39,40,41,42,43] (fun _=>[]) (fun s=>[(0,.live false 3 (curO b s.1 s.2))]) (fun s=>okI b s.1) ?_ (fun s hs=>?_)
 ·cases c with
  |false=>
   repeat' first|refine s1 ?_|fail
   exact⟨(i4,k4),F.fit trivial ⟨rfl,trivial⟩,hi4⟩
  |true=>
   repeat' first|(refine AW.putV 6 4 rfl rfl rfl rfl (E_length _ _) (E_pure _ _) rfl ?_;refine AW.putV 6 5 rfl rfl rfl rfl (E_length _ _) (E_pure _ _) rfl ?_;refine AW.freezeV (enc false e) 6 rfl rfl (repA_pure e) (repA_frz e) ?_)|refine s1 ?_|(refine kR ?_;first|(refine F.dr 0 ((h1 _ _)) (by assumption) ?_;intro e i5 k5 he hi5;refine F.xk ?_))|fail
   have hS:=specDirectSum_a a e
   have hsf:=sumP_rep a e
   generalize sumP a e=S at hS hsf
   obtain⟨s,c1⟩:=S
   dsimp only at hS hsf
   repeat' first|(refine AW.putV 7 2 rfl rfl rfl rfl (E_length _ _) (E_pure _ _) rfl ?_;refine AW.putV 7 3 rfl rfl rfl rfl (E_length _ _) (E_pure _ _) rfl ?_;refine AW.putV 7 4 rfl rfl rfl rfl (E_length _ _) (E_pure _ _) rfl ?_;refine AW.putV 7 5 rfl rfl rfl rfl (E_length _ _) (E_pure _ _) rfl ?_;refine AW.freezeP (α:=Rep) (oo:=true) s 7 rfl rfl ?_)|refine s1 ?_|(refine kR ?_;first|refine F.c (hS) ?_)|fail
   refine AW.drawI G.mixed (by kernel_rfl) (by rfl) ?_
   intro T w1 MP1 I0
   refine Pz (.l 0<|.p 1<|.l 2<|.a [(3,false,.h 3<|.a [(4,false,.p 5<|.p 6<|.p 7<|.o 8 false<|.o 9 false<|.p 10<|.n),(8,false,.o 4 false<|.p 5<|.p 6<|.p 7<|.o 9 false<|.p 10<|.n)]),(8,false,.o 3 false<|.h 3<|.o 4 false<|.p 5<|.p 6<|.p 7<|.o 9 false<|.p 10<|.n)]) ?_
   repeat' first|(refine yU (i:=3) ?_;first|refine s1 ?_|(refine F.dr 0 ((hC s hsf.1)) (by assumption) ?_;intro g i6 k6 hg hi6;refine F.xk ?_))|(refine yH (i:=3) ?_ (fun h=>(iz (α:=Mat) (oo:=true) (ls:=g) 35 rfl rfl rfl h)))|(refine yU (i:=4) ?_;first|refine s1 ?_|(refine F.x [] ((hX s g)) ?_;rintro⟨x,c2⟩ hx;refine F.xk ?_))|refine xS ?_|refine s1 ?_|refine xC ?_ ?_|exact trivial|fail
   any_goals refine lf ?_
   all_goals
    (refine AW.putV 9 2 rfl rfl rfl rfl (E_length _ _) (E_pure _ _) rfl ?_;refine AW.putV 9 3 rfl rfl rfl rfl (E_length _ _) (E_pure _ _) rfl ?_;refine AW.putV 9 4 rfl rfl rfl rfl (E_length _ _) (E_pure _ _) rfl ?_;refine AW.putV 9 5 rfl rfl rfl rfl (E_length _ _) (E_pure _ _) rfl ?_;refine AW.freezeP (α:=Rep) (oo:=true) x 9 rfl rfl ?_)
    cases c1 with
    |false=>
     repeat' first|refine s1 ?_|fail
     exact⟨(i6,k6),F.fit trivial ⟨rfl,trivial⟩,hi6⟩
    |true=>
     cases c2 with
     |false=>
      repeat' first|refine s1 ?_|fail
      exact⟨(i6,k6),F.fit trivial ⟨rfl,trivial⟩,hi6⟩
     |true=>
      repeat' first|refine s1 ?_|fail
      exact F.rd x (hx rfl) hi6 (F.retM rfl ⟨rfl,trivial⟩)
 ·obtain⟨i7,k7⟩:=s
  dsimp only at hs⊢
  repeat' first|refine s1 ?_|(refine kR ?_;first|(refine F.dr 0 ((hO _)) (by assumption) ?_;intro c3 i8 k8 hc8 hi8;refine F.xk ?_))|fail
  cases c3 with
  |true=>
   repeat' first|(refine F.freezeG (α:=Int) (oo:=true) (ls:=e.d) 49 4 rfl rfl rfl rfl ?_;refine F.freezeG (α:=Mat) (oo:=true) (ls:=e.m) 49 5 rfl rfl rfl rfl ?_)|refine s1 ?_|(refine kR ?_;first|(refine F.dr 0 ((h2 _ _)) (by assumption) ?_;intro e i9 k9 he hi9;refine F.xk ?_))|fail
   exact F.rd e (he.2.2.2.1 hF hq (by omega)) hi9 (F.retM rfl ⟨rfl,trivial⟩)
  |false=>
   repeat' first|refine s1 ?_|fail
   exact F.rd a har hi8 (F.retM rfl ⟨rfl,trivial⟩)
theorem l17Pair_x(b:List UInt8)(hl:b.length≤1048576):AMx Tryz.prog 242 [ar false b] [] (fun x:Rep×Rep=>isRep x.1=true) two (fun _=>[]):=by
 refine AMx.go Tryz.func242 Tryz.ntmps242 rfl rfl fun w0 mp hw=>?_;simp[WfL,WfA,E_length,Enc.enc,In64] at hw
 have hN:=l1New_p b hl
 have hA:=l16Rep_x b hl
 have hO:=fun n=>l1Once_x b hl n
 have hC:=fun r hr=>l9Changes_x b hl r hr
 have hX:=fun r g=>changeBasis_x r g
 have hi0:okI b 0:=⟨Int.le_refl _,by omega⟩
 repeat' first|refine AW.freezeP (α:=Rep) (oo:=false) r 5 rfl rfl ?_|refine s1 ?_|(refine kR ?_;first|refine F.p (hN) ?_|(refine F.dr 2 (hA) (by assumption) ?_;intro r i1 k1 hr hi1;refine F.xk ?_))|fail
 obtain⟨d1,d2,d3,d4⟩:=rep_len hr
 apply V.tailedO (b:=b) (p:=fun _:Rep×Bool=>True)
 ·intro tail
  refine AW.drawI G.mixed (by kernel_rfl) (by rfl) ?_
  intro T w1 MP1 I0
  refine Pz (.l 0<|.p 1<|.l 2<|.a [(3,false,.h 3<|.a [(4,false,.p 5<|.p 6<|.p 7<|.o 8 false<|.o 9 false<|.p 10<|.n),(8,false,.o 4 false<|.p 5<|.p 6<|.p 7<|.o 9 false<|.p 10<|.n)]),(8,false,.o 3 false<|.h 3<|.o 4 false<|.p 5<|.p 6<|.p 7<|.o 9 false<|.p 10<|.n)]) ?_
  repeat' first|(refine yU (i:=3) ?_;first|refine s1 ?_|(refine F.dr 2 ((hC r (by omega))) (by assumption) ?_;intro g i2 k2 hg hi2;refine F.xk ?_))|(refine yH (i:=3) ?_ (fun h=>(iz (α:=Mat) (oo:=true) (ls:=g) 18 rfl rfl rfl h)))|(refine yU (i:=4) ?_;first|refine s1 ?_|(refine F.x [] ((hX r g)) ?_;rintro x hx;refine F.xk ?_))|refine xS ?_|refine s1 ?_|refine xC ?_ ?_|exact trivial|fail
  any_goals refine lf ?_
  all_goals
   (refine AW.putV 6 2 rfl rfl rfl rfl (E_length _ _) (E_pure _ _) rfl ?_;refine AW.putV 6 3 rfl rfl rfl rfl (E_length _ _) (E_pure _ _) rfl ?_;refine AW.putV 6 4 rfl rfl rfl rfl (E_length _ _) (E_pure _ _) rfl ?_;refine AW.putV 6 5 rfl rfl rfl rfl (E_length _ _) (E_pure _ _) rfl ?_;refine AW.freezeP (α:=Rep) (oo:=true) x.1 6 rfl rfl ?_)
   refine AW.only [(2,.pt 0 1 0 0),(3,.pt 1 1 0 0),(4,.pt 2 1 0 0),(5,.ip (enc false r)),(6,.ip (enc false x.1)),(7,.b x.2)] [(0,.live false 6 cellR),(1,.live false 6 cellR),(2,.live false 3 (curO b i2 k2))] 10 ⟨rfl,rfl,rfl,rfl,rfl,rfl,trivial⟩ ⟨rfl,rfl,rfl,trivial⟩ rfl ?_
   exact(tail x i2 k2 trivial hi2).t
 ·rintro⟨x,c⟩ i2 k2 _ hi2
  dsimp only
  apply V.tailedC (b:=b)
  ·intro tail
   cases hc:c with
   |false=>
    repeat' first|(refine AW.only [(2,.pt 0 1 0 0),(3,.pt 1 1 0 0),(4,.pt 2 1 0 0),(5,.ip (enc false r)),(23,.b false),(26,.b false)] [(0,.live false 6 cellR),(1,.live false 6 cellR),(2,.live false 3 (curO b i2 k2))] 10 ⟨rfl,rfl,rfl,rfl,rfl,rfl,trivial⟩ ⟨rfl,rfl,rfl,trivial⟩ rfl ?_;refine AW.only [(2,.pt 0 1 0 0),(3,.pt 1 1 0 0),(4,.pt 2 1 0 0),(5,.ip (enc false r)),(26,.b false)] [(0,.live false 6 cellR),(1,.live false 6 cellR),(2,.live false 3 (curO b i2 k2))] 10 ⟨rfl,rfl,rfl,rfl,rfl,trivial⟩ ⟨rfl,rfl,rfl,trivial⟩ rfl ?_)|refine s1 ?_|fail
    have hi3:=hi2;generalize i2=i3 at hi3⊢;generalize k2=h3;exact(tail i3 h3 hi3).t
   |true=>
    repeat' first|refine s1 ?_|(refine kR ?_;first|(refine F.dr 2 ((hO _)) (by assumption) ?_;intro c4 i4 k4 hc4 hi4;refine F.xk ?_))|fail
    cases c4 with
    |true=>
     repeat' first|refine s1 ?_|fail
     refine AW.drawI G.mixed (by kernel_rfl) (by rfl) ?_
     intro T w1 MP1 I0
     refine Pz (.l 0<|.l 1<|.o 2 false<|.o 3 false<|.n) ?_
     repeat' first|refine xS ?_|refine s1 ?_|fail
     any_goals refine lf ?_
     all_goals
      repeat' first|refine s1 ?_|fail
      exact F.rx (r,x) hr (F.retM rfl trivial)
    |false=>
     refine AW.only [(2,.pt 0 1 0 0),(3,.pt 1 1 0 0),(4,.pt 2 1 0 0),(5,.ip (enc false r)),(26,.b false)] [(0,.live false 6 cellR),(1,.live false 6 cellR),(2,.live false 3 (curO b i4 k4))] 10 ⟨rfl,rfl,rfl,rfl,rfl,trivial⟩ ⟨rfl,rfl,rfl,trivial⟩ rfl ?_
     repeat' first|refine s1 ?_|fail
     exact(tail i4 k4 hi4).t
  ·intro i5 h5 hi5
   have hr':=isRep_spec hr
   have hdb:∀j,j<r.d.length→0≤r.d.getD j default∧r.d.getD j default≤4:=fun j hj=>rep_dim hr hj
   have hsm:smallD r.d:=⟨d1,fun j hj=>by have:=hdb j hj;omega⟩
   have hZ:=l8Zero_a r.p r.q r.d d4 d3 (fun j hj=>by have:=hdb j hj;omega)
   have hR:=fun a c ha hc=>l3Random_x b hl r.p a c ha hc
   have hzl:(zeroMs r.q r.d).length≤6:=by rw[zeroMs_len];have:=okQ_spec d4;omega
   have hz:mapsB r.p (zeroMs r.q r.d) (zeroMs r.q r.d):=mapsB_zero r.p r.q r.d hsm
   repeat' first|refine s1 ?_|(refine kR ?_;first|refine F.c (hZ) ?_)|fail
   refine AW.only [(2,.pt 0 1 0 0),(3,.pt 1 1 0 0),(4,.pt 2 1 0 0),(5,.ip (enc false r)),(8,.pt 14 1 0 0),(9,.i 0)] [(0,.live false 6 cellR),(1,.live false 6 cellR),(2,.live false 3 (curO b i5 h5)),(10,.live false 1 (E true r.q.fr)),(11,.live false 1 (E true r.q.to)),(12,.live false 1 (E true r.d)),(13,.live false 3 (E true (zeroMs r.q r.d))),(14,.live false 6 [[.i r.p,.i r.q.n,.sl 10 r.q.fr.length 0 r.q.fr.length,.sl 11 r.q.to.length 0 r.q.to.length,.sl 12 r.d.length 0 r.d.length,.sl 13 (zeroMs r.q r.d).length 0 (zeroMs r.q r.d).length]])] 15 ⟨rfl,rfl,rfl,rfl,rfl,rfl,trivial⟩ ⟨rfl,rfl,rfl,rfl,rfl,rfl,rfl,rfl,trivial⟩ rfl ?_
   refine F.loop (σ:=Nat×List Mat×Int×Int) [9,36,37,38,39,40,41,42,43,44,45,46,47,48,49,50,51,52,53,54,55,56,57,58,59,60,61,62] (fun x=>[(9,.i x.1)]) (fun x=>[(2,.live false 3 (curO b x.2.2.1 x.2.2.2)),(13,.live false 3 (E true x.2.1))]) (fun x=>x.1≤(zeroMs r.q r.d).length∧x.2.1.length=(zeroMs r.q r.d).length∧mapsB r.p (zeroMs r.q r.d) x.2.1∧okI b x.2.2.1) (fun x=>(zeroMs r.q r.d).length-x.1) (0,zeroMs r.q r.d,i5,h5) ⟨rfl,trivial⟩ ⟨rfl,rfl,trivial⟩ ⟨Nat.zero_le _,rfl,hz,hi5⟩ ?_
   rintro⟨k,ms,i3,h3⟩ ⟨k1,k2,k3,hi3⟩
   dsimp only at k1 k2 k3 hi3⊢
   by_cases hk:k<(zeroMs r.q r.d).length
   ·have hkb:0≤(ms.getD (0+k) default).r∧(ms.getD (0+k) default).r≤1024∧0≤(ms.getD (0+k) default).c∧(ms.getD (0+k) default).c≤1024:=by
     rw[Nat.zero_add]
     obtain⟨h1,h2,_⟩:=k3.2 k (by omega)
     rw[h1,h2,zeroMs_at r.q r.d (by rw[←zeroMs_len r.q r.d];exact hk)]
     have g1:=gI_bd hsm (r.q.to.getD k default)
     have g2:=gI_bd hsm (r.q.fr.getD k default)
     exact⟨g1.1,g1.2,g2.1,g2.2⟩
    repeat' first|refine s1 ?_|fail
    refine AW.drawI G.mixed (by kernel_rfl) (by rfl) ?_
    intro T w1 MP1 I0
    refine Pz (.p 0<|.p 2<|.p 3<|.p 4<|.l 5<|.p 6<|.p 8<|.p 12<|.p 14<|.a [(1,false,.a [(7,false,.p 9<|.p 10<|.a [(11,false,.o 13 false<|.p 15<|.p 16<|.o 17 false<|.o 18 false<|.p 19<|.o 20 false<|.n),(13,false,.p 15<|.p 16<|.a [(11,false,.o 17 false<|.o 18 false<|.p 19<|.o 20 false<|.n),(17,false,.o 11 false<|.o 18 false<|.p 19<|.o 20 false<|.n)])]),(13,false,.p 15<|.p 16<|.a [(7,false,.p 9<|.p 10<|.a [(11,false,.o 17 false<|.o 18 false<|.p 19<|.o 20 false<|.n),(17,false,.o 11 false<|.o 18 false<|.p 19<|.o 20 false<|.n)]),(17,false,.o 7 false<|.p 9<|.p 10<|.o 11 false<|.o 18 false<|.p 19<|.o 20 false<|.n)])]),(7,false,.p 9<|.p 10<|.a [(1,false,.a [(11,false,.o 13 false<|.p 15<|.p 16<|.o 17 false<|.o 18 false<|.p 19<|.o 20 false<|.n),(13,false,.p 15<|.p 16<|.a [(11,false,.o 17 false<|.o 18 false<|.p 19<|.o 20 false<|.n),(17,false,.o 11 false<|.o 18 false<|.p 19<|.o 20 false<|.n)])]),(11,false,.a [(1,false,.o 13 false<|.p 15<|.p 16<|.o 17 false<|.o 18 false<|.p 19<|.o 20 false<|.n),(13,false,.p 15<|.p 16<|.a [(1,false,.o 17 false<|.o 18 false<|.p 19<|.o 20 false<|.n),(17,false,.a [(1,false,.o 18 false<|.p 19<|.o 20 false<|.n),(18,false,.o 1 false<|.p 19<|.o 20 false<|.n)])])]),(13,false,.p 15<|.p 16<|.a [(1,false,.a [(11,false,.o 17 false<|.o 18 false<|.p 19<|.o 20 false<|.n),(17,false,.o 11 false<|.o 18 false<|.p 19<|.o 20 false<|.n)]),(11,false,.a [(1,false,.o 17 false<|.o 18 false<|.p 19<|.o 20 false<|.n),(17,false,.a [(1,false,.o 18 false<|.p 19<|.o 20 false<|.n),(18,false,.o 1 false<|.p 19<|.o 20 false<|.n)])]),(17,false,.a [(1,false,.o 11 false<|.o 18 false<|.p 19<|.o 20 false<|.n),(11,false,.a [(1,false,.o 18 false<|.p 19<|.o 20 false<|.n),(18,false,.o 1 false<|.p 19<|.o 20 false<|.n)])])])]),(13,false,.p 15<|.p 16<|.a [(1,false,.a [(7,false,.p 9<|.p 10<|.a [(11,false,.o 17 false<|.o 18 false<|.p 19<|.o 20 false<|.n),(17,false,.o 11 false<|.o 18 false<|.p 19<|.o 20 false<|.n)]),(17,false,.o 7 false<|.p 9<|.p 10<|.o 11 false<|.o 18 false<|.p 19<|.o 20 false<|.n)]),(7,false,.p 9<|.p 10<|.a [(1,false,.a [(11,false,.o 17 false<|.o 18 false<|.p 19<|.o 20 false<|.n),(17,false,.o 11 false<|.o 18 false<|.p 19<|.o 20 false<|.n)]),(11,false,.a [(1,false,.o 17 false<|.o 18 false<|.p 19<|.o 20 false<|.n),(17,false,.a [(1,false,.o 18 false<|.p 19<|.o 20 false<|.n),(18,false,.o 1 false<|.p 19<|.o 20 false<|.n)])]),(17,false,.a [(1,false,.o 11 false<|.o 18 false<|.p 19<|.o 20 false<|.n),(11,false,.a [(1,false,.o 18 false<|.p 19<|.o 20 false<|.n),(18,false,.o 1 false<|.p 19<|.o 20 false<|.n)])])]),(17,false,.a [(1,false,.o 7 false<|.p 9<|.p 10<|.o 11 false<|.o 18 false<|.p 19<|.o 20 false<|.n),(7,false,.p 9<|.p 10<|.a [(1,false,.o 11 false<|.o 18 false<|.p 19<|.o 20 false<|.n),(11,false,.a [(1,false,.o 18 false<|.p 19<|.o 20 false<|.n),(18,false,.o 1 false<|.p 19<|.o 20 false<|.n)])])])])]) ?_
    repeat' first|(refine yU (i:=18) ?_;first|refine s1 ?_|(refine F.dr 2 ((hR _ _ ⟨hkb.1,hkb.2.1⟩ hkb.2.2)) (by assumption) ?_;intro M i6 h6 hM hi6;refine F.xk ?_))|(refine yU (i:=20) ?_;first|refine s1 ?_|(refine F.stGE (α:=Mat) (oo:=true) (v:=M) rfl rfl rfl rfl rfl (by omega) (by omega) (.at1 rfl (.at1 rfl (.mv rfl (by simp) (E_length _ _) (E_pure _ _) .nil))) rfl rfl rfl rfl rfl ?_))|refine xS ?_|refine s1 ?_|refine xC ?_ ?_|exact trivial|fail
    any_goals refine lf ?_
    all_goals
     rw[Nat.zero_add k] at hM⊢
     repeat' first|refine s1 ?_|fail
     exact⟨(k+1,ms.set k M,i6,h6),F.fit ⟨rfl,trivial⟩ ⟨rfl,obE rfl,trivial⟩,⟨by show k+1≤(zeroMs r.q r.d).length;omega,by simp;omega,k3.set (by omega) hM.1 hM.2.1 hM.2.2.2,hi6⟩,by show(zeroMs r.q r.d).length-(k+1)<(zeroMs r.q r.d).length-k;omega⟩
   ·obtain rfl:k=(zeroMs r.q r.d).length:=by omega
    repeat' first|refine s1 ?_|fail
    refine AW.putV 8 2 rfl rfl rfl rfl (E_length _ _) (E_pure _ _) rfl ?_
    refine AW.putV 8 3 rfl rfl rfl rfl (E_length _ _) (E_pure _ _) rfl ?_
    refine AW.putV 8 4 rfl rfl rfl rfl (E_length _ _) (E_pure _ _) rfl ?_
    refine AW.putV 8 5 rfl rfl rfl rfl ((E_length _ _).trans k2) (E_pure _ _) rfl ?_
    refine AW.freezeP (α:=Rep) (oo:=true) ⟨r.p,r.q,r.d,ms⟩ 8 rfl rfl ?_
    refine AW.drawI G.mixed (by kernel_rfl) (by rfl) ?_
    intro T w1 MP1 I0
    refine Pz (.l 0<|.l 1<|.o 2 false<|.o 3 false<|.n) ?_
    repeat' first|refine xS ?_|refine s1 ?_|fail
    any_goals refine lf ?_
    all_goals
     repeat' first|refine s1 ?_|fail
     exact F.rx (r,⟨r.p,r.q,r.d,ms⟩) hr (F.retM rfl trivial)
theorem drawAreIsomorphic_x(b:List UInt8)(hl:b.length≤1048576):AMx Tryz.prog 88 [ar false b] [] (fun _:Rep×Rep=>True) two (fun _=>[]):=by
 refine AMx.go Tryz.func88 Tryz.ntmps88 rfl rfl fun w0 mp hw=>?_;simp[WfL,WfA,E_length,Enc.enc,In64] at hw
 have hB:=l17Pair_x b hl
 repeat' first|refine AW.freezeP (α:=Rep) (oo:=false) x 4 rfl rfl ?_|refine AW.freezeP (α:=Rep) (oo:=false) y 5 rfl rfl ?_|refine s1 ?_|(refine kR ?_;first|(refine F.x [] (hB) ?_;rintro⟨x,y⟩ hx;refine F.xk ?_))|fail
 refine AW.drawI G.mixed (by kernel_rfl) (by rfl) ?_
 intro T w1 MP1 I0
 refine Pz (.l 0<|.l 1<|.o 2 false<|.o 3 false<|.n) ?_
 repeat' first|refine xS ?_|refine s1 ?_|fail
 any_goals refine lf ?_
 all_goals
  repeat' first|refine s1 ?_|fail
  exact F.rx (x,y) trivial (F.retM rfl trivial)
abbrev haveV(x:Rep×Rep×List Rep):List AV:=[.agg (enc false x.1),.agg (enc false x.2.1),.dt true 6 (E false x.2.2)]
theorem drawHaveSameHoms_x(b:List UInt8)(hl:b.length≤1048576):AMx Tryz.prog 96 [ar false b] [] (fun x:Rep×Rep×List Rep=>x.2.2.length≤6) haveV (fun _=>[]):=by
 refine AMx.go Tryz.func96 Tryz.ntmps96 rfl rfl fun w0 mp hw=>?_;simp[WfL,WfA,E_length,Enc.enc,In64] at hw
 have hB:=l17Pair_x b hl
 repeat' first|refine AW.freezeP (α:=Rep) (oo:=false) x 5 rfl rfl ?_|refine AW.freezeP (α:=Rep) (oo:=false) y 6 rfl rfl ?_|refine s1 ?_|(refine kR ?_;first|(refine F.x [] (hB) ?_;rintro⟨x,y⟩ hx;refine F.xk ?_))|fail
 have hx:isRep x=true:=hx
 obtain⟨d1,d2,d3,d4⟩:=rep_len hx
 have hI:=fun v=>specInjectiveRep_a x.p x.q v
 refine AW.open 7 6 (.inr rfl) ?_
 refine AW.only [(2,.pt 0 1 0 0),(3,.pt 1 1 0 0),(4,.nl),(5,.ip (enc false x)),(6,.ip (enc false y)),(7,.sl 4 0 0 0),(8,.i 0)] [(0,.live false 6 cellR),(1,.live false 6 cellR),(4,.live false 6 (E false ([]:List Rep)))] 5 ⟨rfl,rfl,rfl,rfl,rfl,rfl,rfl,trivial⟩ ⟨rfl,rfl,rfl,trivial⟩ rfl ?_
 refine F.loop (σ:=Nat×List Rep) [7,8,9,10,17,18,19,20,21,22,23,24,25,26,27,28,29,30,31,32,33,34,35,36,37] (fun s=>[(7,.sl 4 s.2.length 0 s.2.length),(8,.i s.1)]) (fun s=>[(4,.live false 6 (E false s.2))]) (fun s=>s.1≤x.d.length∧s.2.length≤s.1) (fun s=>x.d.length-s.1) (0,[]) ⟨rfl,rfl,trivial⟩ ⟨rfl,trivial⟩ ⟨Nat.zero_le _,Nat.le_refl _⟩ ?_
 rintro⟨k,l⟩ ⟨k1,k2⟩
 dsimp only at k1 k2⊢
 by_cases hk:k<x.d.length
 ·have hIk:=hI k
  generalize injP x.p x.q (k:Int)=IP at hIk
  obtain⟨z,c⟩:=IP
  dsimp only at hIk
  repeat' first|(refine AW.putV 9 2 rfl rfl rfl rfl (E_length _ _) (E_pure _ _) rfl ?_;refine AW.putV 9 3 rfl rfl rfl rfl (E_length _ _) (E_pure _ _) rfl ?_;refine AW.putV 9 4 rfl rfl rfl rfl (E_length _ _) (E_pure _ _) rfl ?_;refine AW.putV 9 5 rfl rfl rfl rfl (E_length _ _) (E_pure _ _) rfl ?_;refine AW.freezeP (α:=Rep) (oo:=true) z 9 rfl rfl ?_)|refine s1 ?_|(refine kR ?_;first|refine F.c (hIk) ?_)|fail
  cases c with
  |false=>
   repeat' first|refine s1 ?_|fail
   exact⟨(k+1,l),F.fit ⟨rfl,rfl,trivial⟩ ⟨rfl,trivial⟩,⟨by show k+1≤x.d.length;omega,by show l.length≤k+1;omega⟩,by show x.d.length-(k+1)<x.d.length-k;omega⟩
  |true=>
   repeat' first|refine s1 ?_|(refine kR ?_;first|refine F.a1 Rep (oo:=false) (a:=z) ?_)|fail
   exact⟨(k+1,l++[z]),F.fit ⟨slE (by simp),rfl,trivial⟩ ⟨obE rfl,trivial⟩,⟨by show k+1≤x.d.length;omega,by simp;omega⟩,by show x.d.length-(k+1)<x.d.length-k;omega⟩
 ·obtain rfl:k=x.d.length:=by omega
  repeat' first|refine s1 ?_|fail
  refine AW.drawI G.mixed (by kernel_rfl) (by rfl) ?_
  intro T w1 MP1 I0
  refine Pz (.l 0<|.l 1<|.p 2<|.l 3<|.o 4 false<|.o 5 false<|.o 6 false<|.o 7 false<|.p 8<|.n) ?_
  repeat' first|(refine yU (i:=5) ?_;first|refine s1 ?_|refine F.a1 Rep (oo:=false) (a:=x) ?_)|refine xS ?_|refine s1 ?_|fail
  any_goals refine lf ?_
  all_goals
   repeat' first|refine s1 ?_|fail
   exact F.rx (x,y,l++[x]) (by show(l++[x]).length≤6;simp;omega) (F.retM rfl trivial)
abbrev rowV(x:Rep×List Rep):List AV:=[.agg (enc false x.1),.dt true 6 (E false x.2)]
theorem drawHomRow_x(b:List UInt8)(hl:b.length≤1048576):AMx Tryz.prog 99 [ar false b] [] (fun _:Rep×List Rep=>True) rowV (fun _=>[]):=by
 refine AMx.go Tryz.func99 Tryz.ntmps99 rfl rfl fun w0 mp hw=>?_;simp[WfL,WfA,E_length,Enc.enc,In64] at hw
 have hB:=drawHaveSameHoms_x b hl
 repeat' first|refine AW.freezeP (α:=Rep) (oo:=false) x 4 rfl rfl ?_|refine AW.freezeP (α:=Rep) (oo:=false) y 5 rfl rfl ?_|refine s1 ?_|(refine kR ?_;first|(refine F.x [] (hB) ?_;rintro⟨x,y,l⟩ hx;refine F.xk ?_))|fail
 have hx:l.length≤6:=hx
 refine AW.drawI G.mixed (by kernel_rfl) (by rfl) ?_
 intro T w1 MP1 I0
 refine Pz (.l 0<|.p 1<|.l 2<|.o 3 false<|.o 4 false<|.o 5 false<|.p 6<|.n) ?_
 repeat' first|(refine yU (i:=4) ?_;first|refine s1 ?_|refine F.a1 Rep (oo:=false) (a:=y) ?_)|refine xS ?_|refine s1 ?_|fail
 any_goals refine lf ?_
 all_goals
  repeat' first|refine s1 ?_|fail
  exact F.rx (x,l++[y]) trivial (F.retM rfl trivial)
theorem psP_pos{r:Rep}(h:(psP r).2.2=true):0<(psP r).1.length∧(psP r).1.length≤8:=by
 refine⟨?_,psP_len r⟩
 by_cases g:isRep r=true∧r.d.sum≠0
 ·obtain⟨hr,h0⟩:=g
  cases hk:(ptP r).2.2 with
  |false=>rw[psP_no2 hk] at h;cases h
  |true=>
   rw[psP_yes hr h0 hk]
   have hsm:=rep_sum hr
   exact(pt_ok r.d.sum.toNat r hr (by omega)).pos hk
 ·rw[psP_no1 g] at h;cases h
theorem drawIsSummand_x(b:List UInt8)(hl:b.length≤1048576):AMx Tryz.prog 100 [ar false b] [] (fun _:Rep×Rep=>True) two (fun _=>[]):=by
 refine AMx.go Tryz.func100 Tryz.ntmps100 rfl rfl fun w0 mp hw=>?_;simp[WfL,WfA,E_length,Enc.enc,In64] at hw
 have hN:=l1New_p b hl
 have hA:=l16Rep_x b hl
 have hO:=fun n=>l1Once_x b hl n
 have hB:=fun n=>l1Below_x b hl n
 have hi0:okI b 0:=⟨Int.le_refl _,by omega⟩
 repeat' first|refine AW.freezeP (α:=Rep) (oo:=false) r 5 rfl rfl ?_|refine s1 ?_|(refine kR ?_;first|refine F.p (hN) ?_|(refine F.dr 2 (hA) (by assumption) ?_;intro r i1 k1 hr hi1;refine F.xk ?_))|fail
 have hPm:=specPartsOf_m r
 have hpp:=@psP_pos r
 generalize psP r=PP at hPm hpp
 obtain⟨l,f,c⟩:=PP
 dsimp only at hPm hpp
 repeat' first|refine AW.freezeA (α:=Rep) (oo:=false) (ls:=l) 6 rfl rfl rfl ?_|refine AW.freezeA (α:=Mat) (oo:=true) (ls:=f) 7 rfl rfl rfl ?_|(refine AW.only [(2,.pt 0 1 0 0),(3,.pt 1 1 0 0),(4,.pt 2 1 0 0),(5,.ip (enc false r)),(6,.dt false 6 (E false l)),(8,.b c),(20,.b c)] [(0,.live false 6 cellR),(1,.live false 6 cellR),(2,.live false 3 (curO b i1 k1))] _ ⟨rfl,rfl,rfl,rfl,rfl,rfl,rfl,trivial⟩ ⟨rfl,rfl,rfl,trivial⟩ rfl ?_;refine AW.only [(2,.pt 0 1 0 0),(3,.pt 1 1 0 0),(4,.pt 2 1 0 0),(5,.ip (enc false r)),(6,.dt false 6 (E false l)),(8,.b c)] [(0,.live false 6 cellR),(1,.live false 6 cellR),(2,.live false 3 (curO b i1 k1))] _ ⟨rfl,rfl,rfl,rfl,rfl,rfl,trivial⟩ ⟨rfl,rfl,rfl,trivial⟩ rfl ?_)|refine s1 ?_|(refine kR ?_;first|refine F.w (hPm) ?_)|fail
 apply V.tailedC (b:=b)
 ·intro tail
  cases hc:c with
  |false=>
   repeat' first|(refine AW.only [(2,.pt 0 1 0 0),(3,.pt 1 1 0 0),(4,.pt 2 1 0 0),(5,.ip (enc false r)),(22,.b false),(26,.b false)] [(0,.live false 6 cellR),(1,.live false 6 cellR),(2,.live false 3 (curO b i1 k1))] _ ⟨rfl,rfl,rfl,rfl,rfl,rfl,trivial⟩ ⟨rfl,rfl,rfl,trivial⟩ rfl ?_;refine AW.only [(2,.pt 0 1 0 0),(3,.pt 1 1 0 0),(4,.pt 2 1 0 0),(5,.ip (enc false r)),(26,.b false)] [(0,.live false 6 cellR),(1,.live false 6 cellR),(2,.live false 3 (curO b i1 k1))] _ ⟨rfl,rfl,rfl,rfl,rfl,trivial⟩ ⟨rfl,rfl,rfl,trivial⟩ rfl ?_)|refine s1 ?_|fail
   have hi3:=hi1;generalize i1=i3 at hi3⊢;generalize k1=h3;exact(tail i3 h3 hi3).t
  |true=>
   have hp:=hpp hc
   repeat' first|refine s1 ?_|(refine kR ?_;first|(refine F.dr 2 ((hO _)) (by assumption) ?_;intro c4 i4 k4 hc4 hi4;refine F.xk ?_))|fail
   cases c4 with
   |true=>
    refine AW.only [(2,.pt 0 1 0 0),(3,.pt 1 1 0 0),(4,.pt 2 1 0 0),(5,.ip (enc false r)),(26,.b false)] [(0,.live false 6 cellR),(1,.live false 6 cellR),(2,.live false 3 (curO b i4 k4))] _ ⟨rfl,rfl,rfl,rfl,rfl,trivial⟩ ⟨rfl,rfl,rfl,trivial⟩ rfl ?_
    repeat' first|refine s1 ?_|fail
    exact(tail i4 k4 hi4).t
   |false=>
    repeat' first|refine s1 ?_|fail
    refine AW.drawI G.mixed (by kernel_rfl) (by rfl) ?_
    intro T w1 MP1 I0
    refine Pz (.p 0<|.p 1<|.p 2<|.p 3<|.l 7<|.o 4 false<|.p 5<|.o 6 false<|.o 8 false<|.o 9 false<|.n) ?_
    repeat' first|(refine yU (i:=4) ?_;first|refine s1 ?_|(refine F.dr 2 ((hB (l.length:Int))) (by assumption) ?_;intro v i6 h6 hv hi6;(replace hv:=hv.1 (by omega);obtain⟨k,rfl⟩:∃k:Nat,v=k:=⟨v.toNat,by omega⟩);refine F.xk ?_))|refine xS ?_|refine s1 ?_|fail
    any_goals refine lf ?_
    all_goals
     repeat' first|refine s1 ?_|fail
     exact F.rx (l.getD k default,r) trivial (F.retM rfl trivial)
 ·intro i5 h5 hi5
  have hS:=fun v=>specSimpleRep_a r.p r.q v
  refine AW.drawI G.mixed (by kernel_rfl) (by rfl) ?_
  intro T w1 MP1 I0
  refine Pz (.p 0<|.l 1<|.p 2<|.l 3<|.p 4<|.a [(5,false,.a [(6,false,.p 7<|.p 8<|.p 9<|.o 10 false<|.o 11 false<|.p 12<|.n),(10,false,.o 6 false<|.p 7<|.p 8<|.p 9<|.o 11 false<|.p 12<|.n)]),(10,false,.o 5 false<|.o 6 false<|.p 7<|.p 8<|.p 9<|.o 11 false<|.p 12<|.n)]) ?_
  repeat' first|(refine yU (i:=5) ?_;first|refine s1 ?_|(refine F.dr 2 ((hB 3)) (by assumption) ?_;intro v i6 h6 hv hi6;refine F.xk ?_))|(refine yU (i:=6) ?_;first|refine s1 ?_|refine F.c ((hS v)) ?_)|refine xS ?_|refine s1 ?_|refine xC ?_ ?_|exact trivial|fail
  any_goals refine lf ?_
  all_goals
   generalize (simpleR r.p r.q v).1=z
   (refine AW.putV 9 2 rfl rfl rfl rfl (E_length _ _) (E_pure _ _) rfl ?_;refine AW.putV 9 3 rfl rfl rfl rfl (E_length _ _) (E_pure _ _) rfl ?_;refine AW.putV 9 4 rfl rfl rfl rfl (E_length _ _) (E_pure _ _) rfl ?_;refine AW.putV 9 5 rfl rfl rfl rfl (E_length _ _) (E_pure _ _) rfl ?_;refine AW.freezeP (α:=Rep) (oo:=true) z 9 rfl rfl ?_)
   repeat' first|refine s1 ?_|fail
   refine AW.drawI G.mixed (by kernel_rfl) (by rfl) ?_
   intro T w1 MP1 I0
   refine Pz (.l 0<|.l 1<|.o 2 false<|.o 3 false<|.n) ?_
   repeat' first|refine xS ?_|refine s1 ?_|fail
   any_goals refine lf ?_
   all_goals
    repeat' first|refine s1 ?_|fail
    exact F.rx (z,r) trivial (F.retM rfl trivial)
end Go.Proofs.YtjmjamhhppoimaaGreat.V
