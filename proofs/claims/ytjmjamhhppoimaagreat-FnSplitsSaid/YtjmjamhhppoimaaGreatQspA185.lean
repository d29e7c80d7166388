/- Texts that the proof needs: A183, A185. -/
import Derived.Test.YtjmjamhhppoimaaGreatQspA111
import Derived.Test.YtjmjamhhppoimaaGreatQspA114
namespace Go.Proofs.YtjmjamhhppoimaaGreat.V
open V.Enc (enc)
open Go.RowKit G D
set_option linter.unusedVariables false
set_option linter.unusedSimpArgs false
set_option maxHeartbeats 4000000
set_option maxRecDepth 4000
attribute [local irreducible] AW ARg ARA ARet MRet ASil AC AM AMx ACx AD ARI
def isInvt(p:Int)(m:Mat):Bool:=isMat p m&&decide (m.r=m.c)&&decide (rankM p m=m.r)
theorem isInvertible_a(p:Int)(m:Mat):AC Tryz.prog 384 [.i p,.agg (enc false m)] [.b (isInvt p m)]:=by
 refine AC.go Tryz.func384 Tryz.ntmps384 rfl rfl fun w0 hw=>?_;simp[WfL,WfA,E_length,Enc.enc,In64] at hw
 have hM:=specIsMatrix_a p m
 have hR:=specRankOf_a p m
 unfold isInvt
 generalize rankM p m=k at hR⊢
 cases hm:isMat p m with
 |false=>
  rw[hm] at hM
  repeat' first|refine s1 ?_|fail
  refine AW.draw 19 G.mixed (by kernel_rfl) ?_
  refine Pz (.p 0<|.l 1<|.o 2 true<|.p 3<|.g 8<|.k 4<|.j 5<|.k 6<|.j 7<|.k 8<|.p 9<|.p 10<|.g 15<|.k 11<|.j 12<|.k 14<|.j 15<|.o 13 true<|.k 16<|.p 17<|.p 18<|.n) ?_
  repeat' first|refine yS ?_|refine s1 ?_|(refine yD ?_ ?_<;>intro hc<;>(try simp only[decide_eq_true_eq,decide_eq_false_iff_not,Bool.not_eq_true',Bool.not_eq_false'] at hc))|refine yG ?_|(refine kR ?_;first|refine F.c (hM) ?_)|fail
  any_goals refine lf ?_
  all_goals
   repeat' first|refine s1 ?_|fail
   (refine kZ ?_;exact F.ret rfl)
 |true=>
  rw[hm] at hM
  by_cases hrc:m.r=m.c
  ·rw[decide_eq_true hrc]
   repeat' first|refine s1 ?_|fail
   refine AW.draw 19 G.mixed (by kernel_rfl) ?_
   refine Pz (.p 0<|.l 1<|.o 2 true<|.p 3<|.g 8<|.k 4<|.j 5<|.k 6<|.j 7<|.k 8<|.p 9<|.p 10<|.g 15<|.k 11<|.j 12<|.k 14<|.j 15<|.o 13 true<|.k 16<|.p 17<|.p 18<|.n) ?_
   repeat' first|refine yS ?_|refine s1 ?_|(refine yD ?_ ?_<;>intro hc<;>(try simp only[decide_eq_true_eq,decide_eq_false_iff_not,Bool.not_eq_true',Bool.not_eq_false'] at hc))|refine yG ?_|(refine kR ?_;first|refine F.c (hM) ?_|refine F.c (hR) ?_)|fail
   any_goals refine lf ?_
   all_goals
    repeat' first|refine s1 ?_|fail
    (refine kZ ?_;exact F.ret rfl)
  ·rw[decide_eq_false hrc]
   repeat' first|refine s1 ?_|fail
   refine AW.draw 19 G.mixed (by kernel_rfl) ?_
   refine Pz (.p 0<|.l 1<|.o 2 true<|.p 3<|.g 8<|.k 4<|.j 5<|.k 6<|.j 7<|.k 8<|.p 9<|.p 10<|.g 15<|.k 11<|.j 12<|.k 14<|.j 15<|.o 13 true<|.k 16<|.p 17<|.p 18<|.n) ?_
   repeat' first|refine yS ?_|refine s1 ?_|(refine yD ?_ ?_<;>intro hc<;>(try simp only[decide_eq_true_eq,decide_eq_false_iff_not,Bool.not_eq_true',Bool.not_eq_false'] at hc))|refine yG ?_|(refine kR ?_;first|refine F.c (hM) ?_)|fail
   any_goals refine lf ?_
   all_goals
    repeat' first|refine s1 ?_|fail
    (refine kZ ?_;exact F.ret rfl)
def areCh(r:Rep)(g:List Mat):Bool:=isRep r&&decide (g.length=r.d.length)&&decide (∀v,v<g.length→isInvt r.p (g.getD v default)=true∧(g.getD v default).r=r.d.getD v default)
theorem areChanges_a(r:Rep)(g:List Mat):AC Tryz.prog 383 [.agg (enc false r),ar false g] [.b (areCh r g)]:=by
 refine AC.go Tryz.func383 Tryz.ntmps383 rfl rfl fun w0 hw=>?_;simp[WfL,WfA,E_length,Enc.enc,In64] at hw
 have hR:=specIsRep_a r
 have hI:=fun v=>isInvertible_a r.p (g.getD v default)
 unfold areCh
 cases hr:isRep r with
 |false=>
  rw[hr] at hR
  repeat' first|refine s1 ?_|(refine kR ?_;first|refine F.c (hR) ?_)|fail
  (refine kZ ?_;exact F.ret rfl)
 |true=>
  rw[hr] at hR
  by_cases hl:g.length=r.d.length
  ·rw[decide_eq_true hl]
   repeat' first|refine s1 ?_|(refine kR ?_;first|refine F.c (hR) ?_)|fail
   refine AW.freezeP (α:=Rep) (oo:=false) r 2 rfl rfl ?_
   refine F.loop (σ:=Nat) [4,5,17,18,19,20,21,22,23,24,25,26,27,28,29,30,31,32,33,34,35,36,37,38,39,40,41,42,43] (fun k=>[(5,.i k)]) (fun _=>[]) (fun k=>k≤g.length∧∀v,v<k→isInvt r.p (g.getD v default)=true∧(g.getD v default).r=r.d.getD v default) (fun k=>g.length-k) 0 ⟨rfl,trivial⟩ trivial ⟨Nat.zero_le _,fun v hv=>absurd hv (Nat.not_lt_zero _)⟩ ?_
   rintro k ⟨k1,k2⟩
   by_cases hk:k<g.length
   ·have hIk:=hI k
    cases hi:isInvt r.p (g.getD k default) with
    |false=>
     rw[hi] at hIk
     have e:decide (∀v,v<g.length→isInvt r.p (g.getD v default)=true∧(g.getD v default).r=r.d.getD v default)=false:=decide_eq_false fun h=>by have:=(h k hk).1;rw[hi] at this;cases this
     rw[e]
     repeat' first|refine s1 ?_|fail
     refine AW.draw 21 G.mixed (by kernel_rfl) ?_
     refine Pz (.p 0<|.l 1<|.p 2<|.p 3<|.p 4<|.l 5<|.o 6 true<|.p 7<|.p 8<|.g 31<|.k 9<|.k 10<|.k 11<|.k 12<|.j 13<|.k 14<|.j 15<|.k 16<|.k 17<|.j 18<|.k 19<|.p 20<|.n) ?_
     repeat' first|refine yS ?_|refine s1 ?_|(refine yD ?_ ?_<;>intro hc<;>(try simp only[decide_eq_true_eq,decide_eq_false_iff_not,Bool.not_eq_true',Bool.not_eq_false'] at hc))|refine yG ?_|(refine kR ?_;first|refine F.c (hIk) ?_)|fail
     any_goals refine lf ?_
     all_goals
      repeat' first|refine s1 ?_|fail
      (refine kZ ?_;exact F.ret rfl)
    |true=>
     rw[hi] at hIk
     by_cases hd:(g.getD k default).r=r.d.getD k default
     ·repeat' first|refine s1 ?_|fail
      refine AW.draw 21 G.mixed (by kernel_rfl) ?_
      refine Pz (.p 0<|.l 1<|.p 2<|.p 3<|.p 4<|.l 5<|.o 6 true<|.p 7<|.p 8<|.g 31<|.k 9<|.k 10<|.k 11<|.k 12<|.j 13<|.k 14<|.j 15<|.k 16<|.k 17<|.j 18<|.k 19<|.p 20<|.n) ?_
      repeat' first|refine yS ?_|refine s1 ?_|(refine yD ?_ ?_<;>intro hc<;>(try simp only[decide_eq_true_eq,decide_eq_false_iff_not,Bool.not_eq_true',Bool.not_eq_false'] at hc))|refine yG ?_|(refine kR ?_;first|refine F.c (hIk) ?_)|fail
      any_goals refine lf ?_
      all_goals
       repeat' first|refine s1 ?_|fail
       exact⟨k+1,F.fit ⟨rfl,trivial⟩ trivial,⟨by omega,fun v hv=>by rcases Nat.lt_succ_iff_lt_or_eq.1 hv with h|h;exact k2 v h;rw[h];exact⟨hi,hd⟩⟩,by omega⟩
     ·have e:decide (∀v,v<g.length→isInvt r.p (g.getD v default)=true∧(g.getD v default).r=r.d.getD v default)=false:=decide_eq_false fun h=>hd (h k hk).2
      rw[e]
      repeat' first|refine s1 ?_|fail
      refine AW.draw 21 G.mixed (by kernel_rfl) ?_
      refine Pz (.p 0<|.l 1<|.p 2<|.p 3<|.p 4<|.l 5<|.o 6 true<|.p 7<|.p 8<|.g 31<|.k 9<|.k 10<|.k 11<|.k 12<|.j 13<|.k 14<|.j 15<|.k 16<|.k 17<|.j 18<|.k 19<|.p 20<|.n) ?_
      repeat' first|refine yS ?_|refine s1 ?_|(refine yD ?_ ?_<;>intro hc<;>(try simp only[decide_eq_true_eq,decide_eq_false_iff_not,Bool.not_eq_true',Bool.not_eq_false'] at hc))|refine yG ?_|(refine kR ?_;first|refine F.c (hIk) ?_)|fail
      any_goals refine lf ?_
      all_goals
       repeat' first|refine s1 ?_|fail
       (refine kZ ?_;exact F.ret rfl)
   ·have e:decide (∀v,v<g.length→isInvt r.p (g.getD v default)=true∧(g.getD v default).r=r.d.getD v default)=true:=decide_eq_true fun v hv=>k2 v (by omega)
    rw[e]
    repeat' first|refine s1 ?_|fail
    (refine kZ ?_;exact F.ret rfl)
  ·rw[decide_eq_false hl]
   repeat' first|refine s1 ?_|(refine kR ?_;first|refine F.c (hR) ?_)|fail
   (refine kZ ?_;exact F.ret rfl)
theorem fitM_set{r:Rep}{ms:List Mat}{k:Nat}{Y:Mat}(h:∀j,j<r.m.length→fitM ⟨r.p,r.q,r.d,ms⟩ j=true)(hk:k<ms.length)(h1:isMat r.p Y=true)(h2:Y.c=r.d.getD (r.q.fr.getD k default).toNat default)(h3:Y.r=r.d.getD (r.q.to.getD k default).toNat default):∀j,j<r.m.length→fitM ⟨r.p,r.q,r.d,ms.set k Y⟩ j=true:=fun j hj=>by
 by_cases e:k=j
 ·subst e
  simp only[fitM,Bool.and_eq_true,decide_eq_true_eq]
  rw[set_get hk]
  exact⟨⟨h1,h2⟩,h3⟩
 ·have:=h j hj
  simp only[fitM] at this⊢
  rw[set_ne e]
  exact this
theorem changeBasis_x(r:Rep)(g:List Mat):AMx Tryz.prog 338 [.agg (enc false r),ar false g] [] (fun x:Rep×Bool=>x.2=true→isRep x.1=true) (fun x=>[.agg (enc true x.1),.b x.2]) (fun _=>[]):=by
 refine AMx.go Tryz.func338 Tryz.ntmps338 rfl rfl fun w0 mp hw=>?_;simp[WfL,WfA,E_length,Enc.enc,In64] at hw
 have hA:=areChanges_a r g
 cases ha:areCh r g with
 |false=>
  rw[ha] at hA
  repeat' first|refine s1 ?_|(refine kR ?_;first|refine F.c (hA) ?_)|fail
  exact F.rx (noR,false) (fun h=>by cases h) (F.retM rfl trivial)
 |true=>
  rw[ha] at hA
  simp only[areCh,Bool.and_eq_true,decide_eq_true_eq] at ha
  obtain⟨⟨hr,hgl⟩,hg⟩:=ha
  have hC:=l8Copy_a r hr
  obtain⟨r1,r2,r3,r4⟩:=isRep_spec hr
  obtain⟨c1,c2,c3,c4⟩:=areDims_spec r2
  have h5:=okQ_spec c1
  have hgm:∀v,v<g.length→isMat r.p (g.getD v default)=true∧(g.getD v default).r=(g.getD v default).c∧rankM r.p (g.getD v default)=(g.getD v default).r∧(g.getD v default).r=r.d.getD v default:=fun v hv=>by
   obtain⟨h1,h2⟩:=hg v hv
   simp only[isInvt,Bool.and_eq_true,decide_eq_true_eq] at h1
   exact⟨h1.1.1,h1.1.2,h1.2,h2⟩
  repeat' first|refine s1 ?_|(refine kR ?_;first|refine F.c (hA) ?_|refine F.c (hC) ?_)|fail
  refine AW.freezeP (α:=Rep) (oo:=false) r 2 rfl rfl ?_
  refine AW.only [(1,.dt false 3 (E false g)),(2,.ip (enc false r)),(4,.pt 1 1 0 0),(5,.b false),(6,.pt 6 1 0 0),(7,.i 0)] [(1,.live false 6 [[.i 0,.i 0,.nl,.nl,.nl,.nl]]),(2,.live false 1 (E true r.q.fr)),(3,.live false 1 (E true r.q.to)),(4,.live false 1 (E true r.d)),(5,.live false 3 (E true r.m)),(6,.live false 6 [[.i r.p,.i r.q.n,.sl 2 r.q.fr.length 0 r.q.fr.length,.sl 3 r.q.to.length 0 r.q.to.length,.sl 4 r.d.length 0 r.d.length,.sl 5 r.m.length 0 r.m.length]])] 7 ⟨rfl,rfl,rfl,rfl,rfl,rfl,trivial⟩ ⟨rfl,rfl,rfl,rfl,rfl,rfl,trivial⟩ rfl ?_
  refine F.loop (σ:=Nat×List Mat) [7,8,9,17,18,19,20,21,22,23,24,25,26,27,28,29,30,31,32,33,34,35,36,37,38,39,40,41,42,43,44,45,46,47,48,49,50,51,52,53,54,55,56,57,58,59,60,61,62,63] (fun x=>[(7,.i x.1)]) (fun x=>[(1,.live false 6 [[.i 0,.i 0,.nl,.nl,.nl,.nl]]),(2,.live false 1 (E true r.q.fr)),(3,.live false 1 (E true r.q.to)),(4,.live false 1 (E true r.d)),(5,.live false 3 (E true x.2)),(6,.live false 6 [[.i r.p,.i r.q.n,.sl 2 r.q.fr.length 0 r.q.fr.length,.sl 3 r.q.to.length 0 r.q.to.length,.sl 4 r.d.length 0 r.d.length,.sl 5 r.m.length 0 r.m.length]])]) (fun x=>x.1≤r.m.length∧x.2.length=r.m.length∧∀j,j<r.m.length→fitM ⟨r.p,r.q,r.d,x.2⟩ j=true) (fun x=>r.m.length-x.1) (0,r.m) ⟨rfl,trivial⟩ ⟨rfl,rfl,rfl,rfl,rfl,rfl,trivial⟩ ⟨Nat.zero_le _,rfl,r4⟩ ?_
  rintro⟨k,ms⟩ ⟨k1,k2,k3⟩
  dsimp only at k1 k2 k3⊢
  by_cases hk:k<r.m.length
  ·obtain⟨a1,⟨a2,a3⟩,⟨a4,a5⟩,a6,a7⟩:=arrow_ok hr hk
   obtain⟨f1,f2,f3,f4⟩:=hgm (r.q.fr.getD k default).toNat (by omega)
   obtain⟨t1,t2,t3,t4⟩:=hgm (r.q.to.getD k default).toNat (by omega)
   have hI:=l4Inverse_a r.p (g.getD (r.q.fr.getD k default).toNat default).r.toNat (ent (g.getD (r.q.fr.getD k default).toNat default)) r1 (by have:=(isMat_spec f1).2.1;omega) (by have:=ent_bd f1;rw[←f2] at this;exact this) (by
    have h:=f3
    rw[rankM,if_pos f1,redM,←f2] at h
    have:=(isMat_spec f1).2.1
    omega)
   have hiM:=isMat_tab r1 (show(g.getD (r.q.fr.getD k default).toNat default).r.toNat≤8 by have:=(isMat_spec f1).2.1;omega) (show(g.getD (r.q.fr.getD k default).toNat default).r.toNat≤8 by have:=(isMat_spec f1).2.1;omega) (invF_bd r1 (by have:=ent_bd f1;rw[←f2] at this;exact this))
   have e0:tm (g.getD (r.q.fr.getD k default).toNat default).r.toNat (g.getD (r.q.fr.getD k default).toNat default).r.toNat (ent (g.getD (r.q.fr.getD k default).toNat default))=g.getD (r.q.fr.getD k default).toNat default:=by
    have:=isMat_tm f1
    rwa [←f2] at this
   rw[e0] at hI
   have hir:(tm (g.getD (r.q.fr.getD k default).toNat default).r.toNat (g.getD (r.q.fr.getD k default).toNat default).r.toNat (invF r.p (g.getD (r.q.fr.getD k default).toNat default).r.toNat (ent (g.getD (r.q.fr.getD k default).toNat default)))).r=(g.getD (r.q.fr.getD k default).toNat default).r:=Int.toNat_of_nonneg (isMat_spec f1).2.1.1
   have hic:(tm (g.getD (r.q.fr.getD k default).toNat default).r.toNat (g.getD (r.q.fr.getD k default).toNat default).r.toNat (invF r.p (g.getD (r.q.fr.getD k default).toNat default).r.toNat (ent (g.getD (r.q.fr.getD k default).toNat default)))).c=(g.getD (r.q.fr.getD k default).toNat default).r:=hir
   generalize tm (g.getD (r.q.fr.getD k default).toNat default).r.toNat (g.getD (r.q.fr.getD k default).toNat default).r.toNat (invF r.p (g.getD (r.q.fr.getD k default).toNat default).r.toNat (ent (g.getD (r.q.fr.getD k default).toNat default)))=IV at hI hiM hir hic
   have hX:=l3MulM_a t1 a1 (by rw[←t2,t4,a7])
   have hXm:=isMat_mul t1 a1
   have hXc:(mulM r.p (g.getD (r.q.to.getD k default).toNat default) (r.m.getD k default)).c=(r.m.getD k default).c:=Int.toNat_of_nonneg (isMat_spec a1).2.2.1.1
   have hXr:=(mulM_rc t1 a1).1
   generalize mulM r.p (g.getD (r.q.to.getD k default).toNat default) (r.m.getD k default)=XM at hX hXm hXc hXr
   have hY:=l3MulM_a hXm hiM (by rw[hXc,hir,f4,a6])
   have hk3:=fitM_set (Y:=mulM r.p XM IV) k3 (by omega:k<ms.length) (isMat_mul hXm hiM) ((mulM_rc hXm hiM).2.trans (hic.trans f4)) ((mulM_rc hXm hiM).1.trans (hXr.trans t4))
   generalize mulM r.p XM IV=YM at hY hk3
   repeat' first|refine s1 ?_|fail
   apply V.tailedT
   ·intro tail
    refine AW.draw 16 G.mixed (by kernel_rfl) ?_
    refine Pz (.p 0<|.l 1<|.p 2<|.p 3<|.p 4<|.l 5<|.p 6<|.p 7<|.l 8<|.p 9<|.l 10<|.a [(11,true,.p 12<|.p 13<|.p 14<|.o 15 true<|.o 16 false<|.p 17<|.n),(15,true,.o 11 true<|.p 12<|.p 13<|.p 14<|.o 16 false<|.p 17<|.n)]) ?_
    repeat' first|refine yS ?_|refine s1 ?_|refine yC ?_ ?_|exact trivial|(refine kR ?_;first|refine F.c (hI) ?_)|fail
    any_goals refine lf ?_
    all_goals
     refine AW.putV 8 2 rfl rfl rfl rfl (E_length _ _) (E_pure _ _) rfl ?_
     refine AW.freezeP (α:=Mat) (oo:=true) IV 8 rfl rfl ?_
     refine AW.only [(1,.dt false 3 (E false g)),(2,.ip (enc false r)),(4,.pt 1 1 0 0),(5,.b false),(6,.pt 6 1 0 0),(7,.i k),(8,.ip (enc false IV))] [(1,.live false 6 [[.i 0,.i 0,.nl,.nl,.nl,.nl]]),(2,.live false 1 (E true r.q.fr)),(3,.live false 1 (E true r.q.to)),(4,.live false 1 (E true r.d)),(5,.live false 3 (E true ms)),(6,.live false 6 [[.i r.p,.i r.q.n,.sl 2 r.q.fr.length 0 r.q.fr.length,.sl 3 r.q.to.length 0 r.q.to.length,.sl 4 r.d.length 0 r.d.length,.sl 5 r.m.length 0 r.m.length]])] 9 ⟨rfl,rfl,rfl,rfl,rfl,rfl,rfl,trivial⟩ ⟨rfl,rfl,rfl,rfl,rfl,rfl,trivial⟩ rfl ?_
     exact tail.t
   ·refine AW.drawI G.mixed (by kernel_rfl) (by rfl) ?_
    intro T w1 MP1 I0
    refine Pz (.p 0<|.p 2<|.p 3<|.l 4<|.p 5<|.l 6<|.p 7<|.p 8<|.p 9<|.l 10<|.p 11<|.p 12<|.l 13<|.p 14<|.l 15<|.p 16<|.l 17<|.p 18<|.p 19<|.l 20<|.l 22<|.a [(1,false,.o 21 false<|.o 23 false<|.p 24<|.o 25 false<|.n),(21,false,.a [(1,false,.o 23 false<|.p 24<|.o 25 false<|.n),(23,false,.o 1 false<|.p 24<|.o 25 false<|.n)])]) ?_
    repeat' first|(refine yU (i:=21) ?_;first|refine s1 ?_|refine F.c (hX) ?_)|(refine yU (i:=23) ?_;first|refine s1 ?_|refine F.c (hY) ?_)|(refine yU (i:=25) ?_;first|refine s1 ?_|(refine F.stGE (α:=Mat) (oo:=true) (v:=YM) rfl rfl rfl rfl rfl (by omega) (by omega) (.at1 rfl (.at1 rfl (.mv rfl (by simp) (E_length _ _) (E_pure _ _) .nil))) rfl rfl rfl rfl rfl ?_))|refine xS ?_|refine s1 ?_|refine xC ?_ ?_|exact trivial|fail
    any_goals refine lf ?_
    all_goals
     rw[Nat.zero_add k]
     repeat' first|refine s1 ?_|fail
     exact⟨(k+1,ms.set k YM),F.fit ⟨rfl,trivial⟩ ⟨rfl,rfl,rfl,rfl,obE rfl,rfl,trivial⟩ (ha:=by repeat first|exact AgrA.refl|exact AgrA.lit rfl|refine AgrA.put rfl ?_|refine AgrA.upd rfl ?_|refine AgrA.head rfl rfl ?_) (hh:=by repeat first|exact AgrH.refl|exact AgrH.lit rfl|refine AgrH.upd rfl ?_|refine AgrH.head rfl ?_|refine AgrH.addO (by simp<;>omega) ?_),⟨by show k+1≤r.m.length;omega,by simp;omega,hk3⟩,by show r.m.length-(k+1)<r.m.length-k;omega⟩
  ·obtain rfl:k=r.m.length:=by omega
   repeat' first|refine s1 ?_|fail
   refine F.rx (⟨r.p,r.q,r.d,ms⟩,true) (fun _=>?_) (F.retM rfl trivial)
   simp only[isRep,Bool.and_eq_true,decide_eq_true_eq,List.all_eq_true]
   exact⟨⟨⟨r1,r2⟩,k2.trans r3⟩,fun j hj=>k3 j (k2▸(by simpa using hj:j<ms.length))⟩
theorem l9Changes_x(b:List UInt8)(hl:b.length≤1048576)(r:Rep)(hrd:r.d.length≤1000):AD Tryz.prog 339 [.agg (enc false r)] b (fun _:List Mat=>True) (fun g=>[.dt true 3 (E true g)]):=by
 refine AD.go Tryz.func339 Tryz.ntmps339 rfl rfl fun i h hi w0 mp hw=>?_;simp[WfL,WfA,E_length,Enc.enc,In64] at hw
 have hR:=fun p a c ha hc=>l3Random_x b hl p a c ha hc
 have hI:=fun p m=>isInvertible_a p m
 have hO:=l1Once_x b hl 12
 have hA:=fun p=>l3Any_x b hl p
 have hid:=fun n hn=>l3Identity_a n hn
 repeat' first|refine s1 ?_|fail
 refine AW.freezeP (α:=Rep) (oo:=false) r 3 rfl rfl ?_
 refine AW.open 5 3 (.inr rfl) ?_
 refine AW.only [(0,.pt 0 1 0 0),(3,.ip (enc false r)),(5,.sl 2 0 0 0),(6,.i 0)] [(0,.live false 3 (curO b i h)),(2,.live false 3 (E true ([]:List Mat)))] 3 ⟨rfl,rfl,rfl,rfl,trivial⟩ ⟨rfl,rfl,trivial⟩ rfl ?_
 refine F.loop (σ:=Nat×List Mat×Int×Int) [5,6,7,8,10,11,12,13,14,15,16,17,18,19,20,21,22,23,24,25,26,27,28,29,30,31,32,33,34,35,36,37,38,39,40] (fun x=>[(5,.sl 2 x.1 0 x.1),(6,.i x.1)]) (fun x=>[(0,.live false 3 (curO b x.2.2.1 x.2.2.2)),(2,.live false 3 (E true x.2.1))]) (fun x=>x.1≤r.d.length∧x.2.1.length=x.1∧okI b x.2.2.1) (fun x=>r.d.length-x.1) (0,[],i,h) ⟨rfl,rfl,trivial⟩ ⟨rfl,rfl,trivial⟩ ⟨Nat.zero_le _,rfl,hi⟩ ?_
 rintro⟨k,g,i2,h2⟩ ⟨k1,k2,hi2⟩
 dsimp only at k1 k2 hi2⊢
 by_cases hk:k<r.d.length
 ·obtain⟨n,hn⟩:∃n:Nat,max 0 (min 4 (r.d.getD k default))=n:=⟨(max 0 (min 4 (r.d.getD k default))).toNat,by omega⟩
  have hn4:n≤4:=by omega
  have hRn:=hR r.p n n (by omega) (by omega)
  have hidn:=hid n (by omega)
  repeat' first|rw[hn]|refine s1 ?_|(refine kR ?_;first|refine F.sil (A.min2 rfl rfl) rfl rfl ?_|refine F.sil (A.max2 rfl rfl) rfl rfl ?_|(refine F.dr 0 (hRn) (by assumption) ?_;intro M i6 h6 hM hi6;refine F.xk ?_))|fail
  have hIM:=hI r.p M
  cases hv:isInvt r.p M with
  |true=>
   rw[hv] at hIM
   repeat' first|refine s1 ?_|(refine kR ?_;first|refine F.c (hIM) ?_|refine F.a1 Mat (a:=M) ?_)|fail
   exact⟨(k+1,g++[M],i6,h6),F.fit ⟨rfl,rfl,trivial⟩ ⟨rfl,obE rfl,trivial⟩,⟨by show k+1≤r.d.length;omega,by simp;omega,hi6⟩,by show r.d.length-(k+1)<r.d.length-k;omega⟩
  |false=>
   rw[hv] at hIM
   repeat' first|refine s1 ?_|(refine kR ?_;first|refine F.c (hIM) ?_|refine F.c (hidn) ?_|refine F.a1 Mat (a:=tm n n idF) ?_)|fail
   exact⟨(k+1,g++[tm n n idF],i6,h6),F.fit ⟨rfl,rfl,trivial⟩ ⟨rfl,obE rfl,trivial⟩,⟨by show k+1≤r.d.length;omega,by simp;omega,hi6⟩,by show r.d.length-(k+1)<r.d.length-k;omega⟩
 ·obtain rfl:k=r.d.length:=by omega
  by_cases hk0:0<r.d.length
  ·repeat' first|refine s1 ?_|(refine kR ?_;first|(refine F.dr 0 (hO) (by assumption) ?_;intro c i3 h3 hc3 hi3;refine F.xk ?_))|fail
   cases c with
   |true=>
    repeat' first|refine s1 ?_|(refine kR ?_;first|(refine F.dr 0 ((hA _)) (by assumption) ?_;intro M i4 h4 hM hi4;refine F.xk ?_)|refine F.stGE (α:=Mat) (oo:=true) (v:=M) rfl rfl rfl rfl rfl (by omega) (by omega) (.at1 rfl (.at1 rfl (.mv rfl (by simp) (E_length _ _) (E_pure _ _) .nil))) rfl rfl rfl rfl rfl ?_)|fail
    exact F.rd (g.set (0+0) M) trivial hi4 (F.retM rfl ⟨rfl,trivial⟩)
   |false=>
    repeat' first|refine s1 ?_|fail
    exact F.rd g trivial hi3 (F.retM rfl ⟨rfl,trivial⟩)
  ·repeat' first|refine s1 ?_|fail
   exact F.rd g trivial hi2 (F.retM rfl ⟨rfl,trivial⟩)
end Go.Proofs.YtjmjamhhppoimaaGreat.V
namespace Go.Proofs.YtjmjamhhppoimaaGreat.V
open Go.RowKit G D
set_option linter.unusedVariables false
set_option linter.unusedSimpArgs false
set_option maxHeartbeats 4000000
set_option maxRecDepth 4000
theorem tailedC{b:List UInt8}{T:Int→Int→Prop}{G:Prop}(h:(∀i h,okI b i→Tl (T i h))→G)(t:∀i h,okI b i→T i h):G:=h fun i h hi=>⟨t i h hi⟩
attribute [local irreducible] AW ARg ARA ARet MRet ASil AC AM AMx ACx AD ARI
end Go.Proofs.YtjmjamhhppoimaaGreat.V
