/- Texts that the proof needs: A86. -/
import Derived.Test.YtjmjamhhppoimaaGreatQraA100
import Derived.Test.YtjmjamhhppoimaaGreatQraA85
namespace Go.Proofs.YtjmjamhhppoimaaGreat.V
open V.Enc (enc)
open Go.RowKit G D
set_option linter.unusedVariables false
set_option linter.unusedSimpArgs false
set_option maxHeartbeats 4000000
set_option maxRecDepth 4000
section
variable {P : Program} {n : Nat} {w0 : World} {MP : Fr} {Q : Exit → St → Prop} {E : Nat → AV} {hp : Nat → Ob} {nx : Nat}
theorem F.putC{lb:Bool}{ops:Array Oper}{os:List Oper}{o k j sz sz2 m o2:Nat}{xs:List (List AV)}{cs:List AV}{ys:List (List AV)}(ho:hp o=.live false sz xs)(hk:xs[k]?=some cs)(hj:cs[j]?=some (.sl o2 m 0 m))(ho2:hp o2=.live false sz2 ys)(hm:ys.length=m)(hpu:ys.flatten.all pureB=true)(hne:(updA hp o2 .dead) o=.live false sz xs)
  (h:ARg P n w0 MP lb ops os Q ⟨E,updA (updA hp o2 .dead) o (.live false sz (xs.set k (cs.set j (.dt true sz2 ys)))),nx⟩):ARg P n w0 MP lb ops os Q ⟨E,hp,nx⟩:=
 ARg.ghost (fun E' w hs=>Sim.put (st:=⟨E,hp,nx⟩) ho (k:=k) (c:=cs) (j:=j) (a:=.sl o2 m 0 m) (a':=.dt true sz2 ys) hk hj rfl (.mv ho2 rfl hm hpu .nil) hne hs) h
theorem dpC{m0 fuel:Nat}{listed:Array Bool}{ops:Array Oper}{o k j sz sz2 m o2:Nat}{xs:List (List AV)}{cs:List AV}{ys:List (List AV)}(ho:hp o=.live false sz xs)(hk:xs[k]?=some cs)(hj:cs[j]?=some (.sl o2 m 0 m))(ho2:hp o2=.live false sz2 ys)(hm:ys.length=m)(hpu:ys.flatten.all pureB=true)(hne:(updA hp o2 .dead) o=.live false sz xs)
  (h:ARA P n w0 MP m0 ops fuel listed Q ⟨E,updA (updA hp o2 .dead) o (.live false sz (xs.set k (cs.set j (.dt true sz2 ys)))),nx⟩):ARA P n w0 MP m0 ops fuel listed Q ⟨E,hp,nx⟩:=
 ARA.ghost (fun E' w hs=>Sim.put (st:=⟨E,hp,nx⟩) ho (k:=k) (c:=cs) (j:=j) (a:=.sl o2 m 0 m) (a':=.dt true sz2 ys) hk hj rfl (.mv ho2 rfl hm hpu .nil) hne hs) h
theorem dsh{α:Type}[Enc α]{m0 fuel:Nat}{listed:Array Bool}{ops:Array Oper}(o:Nat){sz:Nat}{l:Bool}{ls:List α}(hh:hp o=.live l sz (V.E true ls))(h:ARA P n w0 MP m0 ops fuel listed Q ⟨E,updA hp o (.live false sz (V.E false ls)),nx⟩):ARA P n w0 MP m0 ops fuel listed Q ⟨E,hp,nx⟩:=
 ARA.ghost (fun E' w hs=>Sim.share (st:=⟨E,hp,nx⟩) hh hs) h
end
attribute [local irreducible] AW ARg ARA ARet MRet ASil AC AM ARI
theorem take_sum{d:List Int}{k:Nat}(h:k<d.length):(d.take (k+1)).sum=(d.take k).sum+d.getD k default:=by
 have e:d.getD k default=d[k]:=by simp[h]
 rw[List.take_succ_eq_append_getElem h,List.sum_append,e]
 simp
theorem take_sum_bd{d:List Int}(h:∀j,j<d.length→0≤d.getD j default∧d.getD j default≤4):∀k,k≤d.length→0≤(d.take k).sum∧(d.take k).sum≤4*k
 |0,_=>by simp
 |k+1,hk=>by
  have h1:=take_sum_bd h k (by omega)
  have h2:=h k (by omega)
  rw[take_sum (by omega)]
  push_cast
  omega
theorem totalOf_a(r:Rep)(h:isRep r=true):AC Tryz.prog 230 [.agg (enc false r)] [.i r.d.sum]:=by
 refine AC.go Tryz.func230 Tryz.ntmps230 rfl rfl fun w0 hw=>?_;simp[WfL,WfA,E_length,Enc.enc,In64] at hw
 have hF:=specIsRep_a r
 rw[h] at hF
 obtain⟨r1,r2,r3,r4⟩:=isRep_spec h
 obtain⟨c1,c2,c3,c4⟩:=areDims_spec r2
 have h5:=okQ_spec c1
 have hd:∀j,j<r.d.length→0≤r.d.getD j default∧r.d.getD j default≤4:=fun j hj=>allIn_spec c3 hj
 have hb:=take_sum_bd hd
 repeat' first|refine s1 ?_|(refine kR ?_;first|refine F.c (hF) ?_)|fail
 refine F.loop (σ:=Nat) [3,4,8,9,10,11,12,13,14,15,16,17,18,19,20,21] (fun k=>[(3,.i (r.d.take k).sum),(4,.i k)]) (fun _=>[]) (fun k=>k≤r.d.length) (fun k=>r.d.length-k) 0 ⟨rfl,rfl,trivial⟩ trivial (Nat.zero_le _) ?_
 rintro k k1
 have hbk:=hb k k1
 by_cases hk:k<r.d.length
 ·have hs:=take_sum hk
  have hdk:=hd k hk
  have hi:In64 ((r.d.take k).sum+r.d.getD k default):=by unfold In64;omega
  repeat' first|refine s1 ?_|fail
  exact⟨k+1,F.fit ⟨iE (by rw[hs]),rfl,trivial⟩ trivial,by omega,by omega⟩
 ·obtain rfl:k=r.d.length:=by omega
  rw[List.take_length]
  repeat' first|refine s1 ?_|fail
  (refine kZ ?_;exact F.ret rfl)
structure LayS (r0:Rep) (f:Nat) (x:Rep) (out:List (List Int)):Prop where
 ok:isRep x=true
 eq:layR 9 r0 []=layR f x out
 ln:out.length+f=9
theorem LayS.next{r0 x:Rep}{f:Nat}{out:List (List Int)}(h:LayS r0 (f+1) x out)(hs:x.d.sum≠0):LayS r0 f (radR x) (out++[topD x]):=by
 refine⟨radR_ok h.ok,?_,by have:=h.ln;simp;omega⟩
 rw[h.eq,layR,if_neg hs]
theorem LayS.fin{r0 x:Rep}{f:Nat}{out:List (List Int)}(h:LayS r0 (f+1) x out)(hs:x.d.sum=0):layR 9 r0 []=(out,true):=by
 rw[h.eq,layR,if_pos hs]
theorem implRadicalLayers_a(r:Rep):AC Tryz.prog 79 [.agg (enc false r)] [.dt true 1 (E true (layP r).1),.b (layP r).2]:=by
 refine AC.go Tryz.func79 Tryz.ntmps79 rfl rfl fun w0 hw=>?_;simp[WfL,WfA,E_length,Enc.enc,In64] at hw
 have hF:=implIsRep_a r
 unfold layP
 cases h:isRep r with
 |false=>
  rw[h] at hF
  rw[if_neg (by simp)]
  repeat' first|refine s1 ?_|(refine kR ?_;first|refine F.c (hF) ?_)|fail
  (refine kZ ?_;exact F.ret rfl)
 |true=>
  rw[h] at hF
  rw[if_pos rfl]
  have hst:=LayI.start h
  repeat' first|refine s1 ?_|(refine kR ?_;first|refine F.c (hF) ?_)|fail
  refine AW.open 4 1 (.inl rfl) ?_
  refine F.loop (σ:=Nat×Rep×List (List Int)) [2,3,4,5,9,10,11,12,13,14,15,16,17,18,19,20,21,22,23,24,25,26,27,28] (fun s=>[(4,.sl 1 s.2.2.length 0 s.2.2.length)]) (fun s=>[(0,.live false 6 (E false [s.2.1])),(1,.live false 1 (E true s.2.2))]) (fun s=>LayI r s.1 s.2.1 s.2.2) (fun s=>s.1) (9,r,[]) ⟨rfl,trivial⟩ ⟨rfl,rfl,trivial⟩ hst ?_
  rintro⟨f,x,out⟩ hI
  dsimp only at hI⊢
  have hx:=hI.ok
  obtain⟨r1,r2,r3,r4⟩:=isRep_spec hx
  obtain⟨c1,c2,c3,c4⟩:=areDims_spec r2
  have h5:=okQ_spec c1
  have hd:∀j,j<x.d.length→0≤x.d.getD j default∧x.d.getD j default≤4:=fun j hj=>allIn_spec c3 hj
  have hS:=sumOf_a x.d (by omega) (fun j hj=>by have:=hd j hj;omega)
  have hsum:=rep_sum hx
  have hlt:=hI.lt
  have hle:=hI.le
  have hln:=hI.ln
  by_cases h0:x.d.sum=0
  ·have hfin:=hI.fin h0
   rw[h0] at hS
   rw[hfin]
   repeat' first|refine s1 ?_|(refine kR ?_;first|refine F.c (hS) ?_)|fail
   (refine kZ ?_;exact F.ret rfl)
  ·have hT:=implTopDims_a x
   obtain⟨t1,t2⟩:=topD_bd hx
   have hTS:=sumOf_a (topD x) (by omega) (fun j hj=>by have:=t2 j hj;omega)
   by_cases h1:(topD x).sum=0
   ·have hbad:=hI.bad h0 h1
    rw[h1] at hTS
    rw[hbad]
    generalize topD x=T at hT hTS
    repeat' first|refine s1 ?_|(refine kR ?_;first|refine F.c (hS) ?_|refine F.c (hT) ?_|refine F.c (hTS) ?_)|fail
    (refine kZ ?_;exact F.ret rfl)
   ·have hnx:=hI.next h0 h1
    have hR:=radical_a x hx
    have hSub:=subRep_a x (radL x) (rad_sub hx)
    rw[show subR x (radL x)=radR x from rfl] at hSub
    generalize topD x=T at hT hTS hnx h1
    generalize radR x=Y at hSub hnx
    generalize radL x=L at hR hSub
    generalize incL L=IL at hSub
    repeat' first|refine s1 ?_|(refine kR ?_;first|refine F.c (hS) ?_|refine F.c (hT) ?_|refine F.c (hTS) ?_|refine F.a1 (List Int) (a:=T) ?_)|fail
    refine AW.draw 7 G.mixed (by kernel_rfl) ?_
    refine Pz (.l 0<|.l 1<|.o 2 true<|.o 3 true<|.p 4<|.p 5<|.p 6<|.o 7 false<|.h 7<|.n) ?_
    repeat' first|(refine yH (i:=7) ?_ (fun h=>(dpC (o:=0) (k:=0) (j:=2) (o2:=5) rfl rfl rfl rfl (E_length _ _) (E_pure _ _) rfl (dpC (o:=0) (k:=0) (j:=3) (o2:=6) rfl rfl rfl rfl (E_length _ _) (E_pure _ _) rfl (dpC (o:=0) (k:=0) (j:=4) (o2:=7) rfl rfl rfl rfl (E_length _ _) (E_pure _ _) rfl (dpC (o:=0) (k:=0) (j:=5) (o2:=8) rfl rfl rfl rfl (E_length _ _) (E_pure _ _) rfl (dsh (α:=Rep) (ls:=[Y]) 0 rfl h)))))))|refine yS ?_|refine s1 ?_|(refine kR ?_;first|refine F.c (hR) ?_|refine F.c (hSub) ?_)|fail
    any_goals refine lf ?_
    all_goals
     repeat' first|refine s1 ?_|fail
     exact⟨(f-1,Y,out++[T]),F.fit ⟨slE (by simp),trivial⟩ ⟨rfl,rfl,trivial⟩,hnx,by dsimp only;omega⟩
theorem specRadicalLayers_a(r:Rep):AC Tryz.prog 80 [.agg (enc false r)] [.dt true 1 (E true (layP r).1),.b (layP r).2]:=by
 refine AC.go Tryz.func80 Tryz.ntmps80 rfl rfl fun w0 hw=>?_;simp[WfL,WfA,E_length,Enc.enc,In64] at hw
 have hF:=specIsRep_a r
 unfold layP
 cases h:isRep r with
 |false=>
  rw[h] at hF
  rw[if_neg (by simp)]
  repeat' first|refine s1 ?_|fail
  refine F.loop (σ:=Nat) [2,3,4,6,7,8,11,12,13,14,15,16,17,18,19,20,21,22,23,24,25,26,27,28,29,30,31,32,33,34,35,36,37,38,39] (fun k=>[(4,.em),(6,.i 0)]) (fun _=>[]) (fun _=>True) (fun _=>0) 0 ⟨rfl,rfl,trivial⟩ trivial trivial ?_
  rintro k _
  repeat' first|refine s1 ?_|(refine kR ?_;first|refine F.c (hF) ?_)|fail
  (refine kZ ?_;exact F.ret rfl)
 |true=>
  rw[h] at hF
  rw[if_pos rfl]
  have hst:LayS r 9 r []:=⟨h,rfl,rfl⟩
  repeat' first|refine s1 ?_|fail
  refine AW.open 4 1 (.inr rfl) ?_
  refine F.loop (σ:=Nat×Rep×List (List Int)) [2,3,4,6,7,8,11,12,13,14,15,16,17,18,19,20,21,22,23,24,25,26,27,28,29,30,31,32,33,34,35,36,37,38,39] (fun s=>[(4,.sl 2 s.2.2.length 0 s.2.2.length),(6,.i (s.2.2.length:Nat))]) (fun s=>[(1,.live false 6 (E false [s.2.1])),(2,.live false 1 (E true s.2.2))]) (fun s=>LayS r s.1 s.2.1 s.2.2) (fun s=>s.1) (9,r,[]) ⟨rfl,rfl,trivial⟩ ⟨rfl,rfl,trivial⟩ hst ?_
  rintro⟨f,x,out⟩ hI
  dsimp only at hI⊢
  have hx:=hI.ok
  have hln:=hI.ln
  have hsum:=rep_sum hx
  have hS:=totalOf_a x hx
  cases f with
  |zero=>
   have he:layR 9 r []=([],false):=by rw[hI.eq];rfl
   rw[he]
   repeat' first|refine s1 ?_|(refine kR ?_;first|refine F.c (hF) ?_)|fail
   (refine kZ ?_;exact F.ret rfl)
  |succ f=>
   by_cases h0:x.d.sum=0
   ·have hfin:=hI.fin h0
    rw[h0] at hS
    rw[hfin]
    repeat' first|refine s1 ?_|(refine kR ?_;first|refine F.c (hF) ?_|refine F.c (hS) ?_)|fail
    (refine kZ ?_;exact F.ret rfl)
   ·have hT:=specTopDims_a x
    have hR:=specRadicalOf_a x
    rw[show radP x=(radL x,true) by unfold radP;rw[if_pos hx]] at hR
    dsimp only at hR
    have hSub:=specSubRep_a x (radL x)
    rw[show subP x (radL x)=(radR x,incL (radL x),true) by unfold subP;rw[if_pos (rad_sub hx)];rfl] at hSub
    dsimp only at hSub
    have hnx:=hI.next h0
    generalize topD x=T at hT hnx
    generalize radR x=Y at hSub hnx
    generalize radL x=L at hR hSub
    generalize incL L=IL at hSub
    repeat' first|refine s1 ?_|(refine kR ?_;first|refine F.c (hF) ?_|refine F.c (hS) ?_|refine F.c (hT) ?_|refine F.c (hR) ?_|refine F.a1 (List Int) (a:=T) ?_)|fail
    refine kR ?_
    refine F.c hSub ?_
    refine s1 ?_
    refine s1 ?_
    refine s1 ?_
    refine s1 ?_
    refine s1 ?_
    refine F.putC (o:=1) (k:=0) (j:=2) (o2:=6) rfl rfl rfl rfl (E_length _ _) (E_pure _ _) rfl ?_
    refine F.putC (o:=1) (k:=0) (j:=3) (o2:=7) rfl rfl rfl rfl (E_length _ _) (E_pure _ _) rfl ?_
    refine F.putC (o:=1) (k:=0) (j:=4) (o2:=8) rfl rfl rfl rfl (E_length _ _) (E_pure _ _) rfl ?_
    refine F.putC (o:=1) (k:=0) (j:=5) (o2:=9) rfl rfl rfl rfl (E_length _ _) (E_pure _ _) rfl ?_
    refine F.share (α:=Rep) (ls:=[Y]) 1 rfl ?_
    repeat' first|refine s1 ?_|fail
    exact⟨(f,Y,out++[T]),F.fit ⟨slE (by simp),iE (by simp),trivial⟩ ⟨rfl,rfl,trivial⟩,hnx,by dsimp only;omega⟩
end Go.Proofs.YtjmjamhhppoimaaGreat.V
