/- Texts that the proof needs: A164, A6. -/
import Derived.Test.YtjmjamhhppoimaaGreatQstA163
namespace Go.Proofs.YtjmjamhhppoimaaGreat.V
open V.Enc (enc)
open Go.RowKit G D
set_option linter.unusedVariables false
set_option linter.unusedSimpArgs false
set_option maxHeartbeats 4000000
set_option maxRecDepth 4000
attribute [local irreducible] AW ARg ARA ARet MRet ASil AC AM AMx ACx AD
theorem l6Acyclic_x(b:List UInt8)(hl:b.length≤1048576):AD Tryz.prog 334 [] b (lenQ 100) (fun q=>[.agg (enc true q)]):=by
 refine AD.go Tryz.func334 Tryz.ntmps334 rfl rfl fun i h hi w0 mp hw=>?_;simp[WfL,WfA,E_length,Enc.enc,In64] at hw
 have hO:=l1Once_x b hl 2
 have hN:=l6Names_a
 have hB:=fun n=>l1Below_x b hl n
 have hP:=fun s=>specNamedQuiver_x s
 repeat' first|refine s1 ?_|(refine kR ?_;first|(refine F.dr 0 (hO) (by assumption) ?_;intro c i2 h2 hx hi2;refine F.xk ?_))|fail
 cases c with
 |true=>
  have hL:nameL.length=12:=rfl
  generalize nameL=L at hN hL
  repeat' first|refine s1 ?_|(refine kR ?_;first|refine F.c (hN) ?_|(refine F.dr 0 ((hB _)) (by assumption) ?_;intro x i3 h3 hx3 hi3;refine F.xk ?_))|fail
  obtain⟨k,rfl⟩:∃k:Nat,x=k:=⟨x.toNat,by have:=hx3.1 (by omega);omega⟩
  have hk:=hx3.1 (by omega)
  clear hx3
  repeat' first|refine s1 ?_|(refine kR ?_;first|(refine F.x [] ((hP _)) ?_;rintro⟨q,c⟩ hq;refine F.xk ?_))|fail
  exact F.rd q hq hi3 (F.retM rfl ⟨rfl,trivial⟩)
 |false=>
  repeat' first|refine s1 ?_|(refine kR ?_;first|(refine F.dr 0 ((hB _)) (by assumption) ?_;intro v i3 h3 hv hi3;replace hv:=hv.1 (by omega);refine F.xk ?_))|fail
  rename_i V iV hV hVi hVb
  generalize hW:1+V=W
  have hWb:1≤W∧W≤4:=by omega
  refine AW.only [(0,.pt 0 1 0 0),(2,.pt 1 1 0 0),(5,.pt 2 1 0 0),(6,.i v)] [(0,.live false 3 (curO b i3 h3)),(1,.live false 3 [[.i 0,.nl,.nl]]),(2,.live false 3 [[.i W,.em,.em]])] 3 ⟨rfl,rfl,rfl,rfl,trivial⟩ ⟨rfl,rfl,rfl,trivial⟩ rfl ?_
  clear hVb hW hVi
  refine AW.openV (o:=2) (j:=1) 1 rfl rfl (.inr rfl) rfl ?_
  refine AW.openV (o:=2) (j:=2) 1 rfl rfl (.inr rfl) rfl ?_
  refine F.loop (σ:=Nat×List Int×List Int×Int×Int) [6,7,28,29,30,31,32,33,34,35,36,37,38,39,40,41,42,43,44,45,46,47,48,49,50,51,52,53,54,55,56,57,58,59,60,61,62] (fun x=>[(6,.i (v-x.1))]) (fun x=>[(0,.live false 3 (curO b x.2.2.2.1 x.2.2.2.2)),(2,.live false 3 [[.i W,.sl 3 x.1 0 x.1,.sl 4 x.1 0 x.1]]),(3,.live false 1 (E true x.2.1)),(4,.live false 1 (E true x.2.2.1))]) (fun x=>(x.1:Int)≤v∧x.2.1.length=x.1∧x.2.2.1.length=x.1∧okI b x.2.2.2.1) (fun x=>v.toNat-x.1) (0,[],[],i3,h3) ⟨iE (by simp),trivial⟩ ⟨rfl,rfl,rfl,rfl,trivial⟩ ⟨by simp;omega,rfl,rfl,hi3⟩ ?_
  rintro⟨k,fr,to,i4,h4⟩ ⟨k1,k2,k3,hi4⟩
  dsimp only at k1 k2 k3 hi4⊢
  by_cases hk:0<v-k
  ·by_cases hW1:1<W
   ·repeat' first|refine s1 ?_|(refine kR ?_;first|(refine F.dr 0 ((hB _)) (by assumption) ?_;intro a i5 h5 ha hi5;replace ha:=ha.1 (by omega);refine F.xk ?_)|refine F.a1 Int ?_)|fail
    refine AW.draw 1 G.mixed (by kernel_rfl) ?_
    refine Pz (.p 0<|.p 2<|.p 3<|.p 4<|.p 5<|.p 8<|.a [(1,true,.o 6 true<|.p 7<|.p 9<|.o 10 false<|.p 11<|.o 12 true<|.o 13 false<|.p 14<|.o 15 false<|.n),(6,true,.p 7<|.p 9<|.a [(1,true,.o 10 false<|.p 11<|.o 12 true<|.o 13 false<|.p 14<|.o 15 false<|.n),(10,false,.p 11<|.a [(1,true,.o 12 true<|.o 13 false<|.p 14<|.o 15 false<|.n),(12,true,.o 1 true<|.o 13 false<|.p 14<|.o 15 false<|.n)])])]) ?_
    repeat' first|(refine yU (i:=10) ?_;first|refine s1 ?_|(refine F.dr 0 ((hB _)) (by assumption) ?_;intro e i6 h6 he hi6;replace he:=he.1 (by omega);refine F.xk ?_))|(refine yU (i:=13) ?_;first|refine s1 ?_|refine F.a1 Int ?_)|refine yS ?_|refine s1 ?_|refine yC ?_ ?_|exact trivial|fail
    any_goals refine lf ?_
    all_goals
     repeat' first|refine s1 ?_|fail
     exact⟨(k+1,fr++[a],to++[a+1+e],i6,h6),F.fit ⟨iE (by omega),trivial⟩ ⟨rfl,rfl,obE rfl,obE rfl,trivial⟩,⟨by show((k+1:Nat):Int)≤v;omega,by simp;omega,by simp;omega,hi6⟩,by show v.toNat-(k+1)<v.toNat-k;omega⟩
   ·repeat' first|refine s1 ?_|fail
    exact F.rd ⟨W,fr,to⟩ ⟨by show fr.length≤100;omega,by show to.length≤100;omega⟩ hi4 (F.retM rfl ⟨rfl,trivial⟩)
  ·repeat' first|refine s1 ?_|fail
   exact F.rd ⟨W,fr,to⟩ ⟨by show fr.length≤100;omega,by show to.length≤100;omega⟩ hi4 (F.retM rfl ⟨rfl,trivial⟩)
theorem l6Any_x(b:List UInt8)(hl:b.length≤1048576):AD Tryz.prog 233 [] b (lenQ 101) (fun q=>[.agg (enc true q)]):=by
 refine AD.go Tryz.func233 Tryz.ntmps233 rfl rfl fun i h hi w0 mp hw=>?_;simp[WfL,WfA,E_length,Enc.enc,In64] at hw
 have hA:=l6Acyclic_x b hl
 have hB:=fun n=>l1Below_x b hl n
 have hP:=fun s=>specNamedQuiver_x s
 have hS:=l1Pick_x b hl [⟨#[108,111,111,112]⟩,⟨#[99,105,114,99,108,101]⟩] (by decide) (by decide)
 have hI:=l1PickInt_x b hl [0,6,-1,2] (by decide) (by decide)
 repeat' first|refine s1 ?_|(refine kR ?_;first|(refine F.dr 0 (hA) (by assumption) ?_;intro q i2 h2 hq hi2;refine F.xk ?_)|(refine F.dr 0 ((hB _)) (by assumption) ?_;intro x i3 h3 hx hi3;refine F.xk ?_))|fail
 by_cases h0:x=0
 ·repeat' first|refine s1 ?_|(refine kR ?_;first|refine F.litN (xs:=V.E true ([⟨#[108,111,111,112]⟩,⟨#[99,105,114,99,108,101]⟩]:List ByteArray)) rfl rfl rfl rfl rfl rfl rfl rfl ?_)|fail
  refine F.freezeA (α:=ByteArray) (oo:=true) (ls:=[⟨#[108,111,111,112]⟩,⟨#[99,105,114,99,108,101]⟩]) 12 rfl rfl rfl ?_
  repeat' first|refine s1 ?_|(refine kR ?_;first|(refine F.dr 0 (hS) (by assumption) ?_;intro s i4 h4 hs hi4;refine F.xk ?_)|(refine F.x [] ((hP s)) ?_;rintro⟨q2,c⟩ hq2;refine F.xk ?_))|fail
  exact F.rd q2 ⟨by have:=hq2.1;dsimp only at this;omega,by have:=hq2.2;dsimp only at this;omega⟩ hi4 (F.retM rfl ⟨rfl,trivial⟩)
 ·by_cases h1:x=1
  ·repeat' first|refine s1 ?_|(refine kR ?_;first|refine F.litN (xs:=V.E true ([0,6,-1,2]:List Int)) rfl rfl rfl rfl rfl rfl rfl rfl ?_)|fail
   refine F.freezeA (α:=Int) (oo:=true) (ls:=[0,6,-1,2]) 20 rfl rfl rfl ?_
   repeat' first|refine s1 ?_|(refine kR ?_;first|(refine F.dr 0 (hI) (by assumption) ?_;intro v i4 h4 hs hi4;refine F.xk ?_))|fail
   exact F.rd ⟨v,q.fr,q.to⟩ ⟨by have:=hq.1;show q.fr.length≤101;omega,by have:=hq.2;show q.to.length≤101;omega⟩ hi4 (F.retM rfl ⟨rfl,trivial⟩)
  ·by_cases h2':x=2
   ·have hq1:=hq.1
    repeat' first|refine s1 ?_|fail
    refine AW.draw 1 G.mixed (by kernel_rfl) ?_
    refine Pz (.p 0<|.p 2<|.a [(1,true,.o 3 false<|.p 4<|.o 5 true<|.o 6 false<|.p 7<|.o 8 false<|.n),(3,false,.p 4<|.a [(1,true,.o 5 true<|.o 6 false<|.p 7<|.o 8 false<|.n),(5,true,.o 1 true<|.o 6 false<|.p 7<|.o 8 false<|.n)])]) ?_
    repeat' first|(refine yU (i:=3) ?_;first|refine s1 ?_|(refine F.dr 0 ((hB _)) (by assumption) ?_;intro e i6 h6 he hi6;replace he:=he.1 (by omega);refine F.xk ?_))|(refine yU (i:=6) ?_;first|refine s1 ?_|refine F.a1 Int ?_)|refine yS ?_|refine s1 ?_|refine yC ?_ ?_|exact trivial|fail
    any_goals refine lf ?_
    all_goals
     repeat' first|refine s1 ?_|fail
     exact F.rd ⟨q.n,q.fr++[e-1],q.to⟩ ⟨by show(q.fr++[e-1]).length≤101;simp;omega,by have:=hq.2;show q.to.length≤101;omega⟩ (by assumption) (F.retM rfl ⟨rfl,trivial⟩)
   ·repeat' first|refine s1 ?_|fail
    exact F.rd q ⟨by have:=hq.1;omega,by have:=hq.2;omega⟩ hi3 (F.retM rfl ⟨rfl,trivial⟩)
end Go.Proofs.YtjmjamhhppoimaaGreat.V
namespace Go.Proofs.YtjmjamhhppoimaaGreat.V
open V.Enc (enc)
open Go.RowKit G D
set_option linter.unusedVariables false
set_option linter.unusedSimpArgs false
set_option maxHeartbeats 400000
def isF(p:Int):Bool:=decide (p=2)||decide (p=3)||decide (p=5)
theorem isF_spec{p:Int}:isF p=true↔p=2∨p=3∨p=5:=by simp[isF,or_assoc]
def isVec(p:Int)(v:List Int):Bool:=isF p&&decide (v.length≤64)&&allIn 0 (p-1) v
def isMat(p:Int)(m:Mat):Bool:=decide (0≤m.r∧m.r≤8)&&decide (0≤m.c∧m.c≤8)&&decide ((m.m.length:Int)=m.r*m.c)&&isVec p m.m
theorem implIsField_a(p:Int):AC Tryz.prog 140 [.i p] [.b (isF p)]:=by
 refine AC.go Tryz.func140 Tryz.ntmps140 rfl rfl fun w0 hw=>?_;simp[WfL,WfA,E_length,Enc.enc,In64] at hw
 repeat' first|refine s1 ?_|(refine s2 ?_ ?_<;>intro hc<;>(try simp only[decide_eq_true_eq,decide_eq_false_iff_not,Bool.not_eq_true',Bool.not_eq_false'] at hc))|fail
 all_goals
  refine F.ret ?_
  simp[isF, *]
theorem specIsField_a(p:Int):AC Tryz.prog 161 [.i p] [.b (isF p)]:=by
 refine AC.go Tryz.func161 Tryz.ntmps161 rfl rfl fun w0 hw=>?_;simp[WfL,WfA,E_length,Enc.enc,In64] at hw
 repeat' first|refine s1 ?_|(refine s2 ?_ ?_<;>intro hc<;>(try simp only[decide_eq_true_eq,decide_eq_false_iff_not,Bool.not_eq_true',Bool.not_eq_false'] at hc))|fail
 all_goals
  refine F.ret ?_
  simp[isF, *]
theorem implIsVector_a(p:Int)(v:List Int):AC Tryz.prog 129 [.i p,ar false v] [.b (isVec p v)]:=by
 refine AC.go Tryz.func129 Tryz.ntmps129 rfl rfl fun w0 hw=>?_;simp[WfL,WfA,E_length,Enc.enc,In64] at hw
 have hF:=implIsField_a p
 cases hf:isF p with
 |true=>
  rw[hf] at hF
  have h3:=isF_spec.mp hf
  repeat' first|refine s1 ?_|(refine kR ?_;first|refine F.c (hF) ?_|(refine jCf 284 ?_;refine F.c (allWithin_a _ _ _) ?_))|(refine s2 ?_ ?_<;>intro hc<;>(try simp only[decide_eq_true_eq,decide_eq_false_iff_not,Bool.not_eq_true',Bool.not_eq_false'] at hc))|fail
  all_goals
   refine F.ret ?_
   simp[isVec, *]<;>omega
 |false=>
  rw[hf] at hF
  repeat' first|refine s1 ?_|(refine kR ?_;first|refine F.c (hF) ?_)|fail
  refine F.ret ?_
  simp[isVec,hf]
theorem allIn_no{lo hi:Int}{xs:List Int}{k:Nat}(hk:k<xs.length)(h:¬(lo≤xs.getD k default∧xs.getD k default≤hi)):allIn lo hi xs=false:=by
 rw[←Bool.not_eq_true]
 intro ha
 exact h (allIn_spec ha hk)
theorem allIn_all{lo hi:Int}{xs:List Int}(h:∀j,j<xs.length→lo≤xs.getD j default∧xs.getD j default≤hi):allIn lo hi xs=true:=by
 simp only[allIn,List.all_eq_true,Bool.and_eq_true,decide_eq_true_eq]
 intro x hx
 obtain⟨i,hi,rfl⟩:=List.mem_iff_getElem.mp hx
 have:=h i hi
 simpa[hi] using this
theorem snocP{p:Nat→Prop}{k:Nat}(h:∀j,j<k→p j)(hk:p k):∀j,j<k+1→p j:=fun j hj=>by
 rcases Nat.lt_or_ge j k with h1|h1
 ·exact h j h1
 ·obtain rfl:j=k:=by omega
  exact hk
theorem all_no{n k:Nat}{f:Nat→Bool}(hk:k<n)(h:f k=false):(List.range n).all f=false:=by
 rw[←Bool.not_eq_true,List.all_eq_true]
 intro ha
 have:=ha k (by simpa using hk)
 rw[h] at this;cases this
theorem all_yes{n:Nat}{f:Nat→Bool}(h:∀j,j<n→f j=true):(List.range n).all f=true:=by
 rw[List.all_eq_true]
 exact fun x hx=>h x (by simpa using hx)
theorem specIsVector_a(p:Int)(v:List Int):AC Tryz.prog 134 [.i p,ar false v] [.b (isVec p v)]:=by
 refine AC.go Tryz.func134 Tryz.ntmps134 rfl rfl fun w0 hw=>?_;simp[WfL,WfA,E_length,Enc.enc,In64] at hw
 have hF:=specIsField_a p
 cases hf:isF p with
 |true=>
  rw[hf] at hF
  have h3:=isF_spec.mp hf
  by_cases hl:v.length≤64
  ·repeat' first|refine s1 ?_|(refine kR ?_;first|refine F.c (hF) ?_)|fail
   refine F.loop (σ:=Nat) [4,5,14,15,16,17,18,19,20,21,22,23,24,25,26,27] (fun k=>[(5,.i k)]) (fun _=>[]) (fun k=>k≤v.length∧∀j,j<k→0≤v.getD j default∧v.getD j default≤p-1) (fun k=>v.length-k) 0 ⟨rfl,trivial⟩ trivial ⟨Nat.zero_le _,fun j hj=>by omega⟩ ?_
   rintro k ⟨h1,h2⟩
   by_cases hlt:k<v.length
   ·by_cases hx:0≤v.getD k default∧v.getD k default≤p-1
    ·repeat' first|refine s1 ?_|(refine kR ?_;first|(refine jCf 169 ?_;refine F.c (l1In_a _ _ _) ?_))|fail
     exact⟨k+1,F.fit ⟨rfl,trivial⟩ trivial,⟨by omega,snocP h2 hx⟩,by omega⟩
    ·repeat' first|refine s1 ?_|(refine kR ?_;first|(refine jCf 169 ?_;refine F.c (l1In_a _ _ _) ?_))|fail
     refine F.ret ?_
     rw[isVec,allIn_no hlt hx,Bool.and_false]
   ·repeat' first|refine s1 ?_|fail
    refine F.ret ?_
    rw[isVec,hf,allIn_all (fun j hj=>h2 j (by omega)),decide_eq_true hl];rfl
  ·repeat' first|refine s1 ?_|(refine kR ?_;first|refine F.c (hF) ?_)|fail
   refine F.ret ?_
   rw[isVec,hf,decide_eq_false hl];rfl
 |false=>
  rw[hf] at hF
  repeat' first|refine s1 ?_|(refine kR ?_;first|refine F.c (hF) ?_)|fail
  refine F.ret ?_
  simp[isVec,hf]
theorem mul8{a b:Int}(ha:0≤a∧a≤8)(hb:0≤b∧b≤8):0≤a*b∧a*b≤64:=by
 refine⟨Int.mul_nonneg ha.1 hb.1,?_⟩
 have:=Int.mul_le_mul ha.2 hb.2 hb.1 (by omega:(0:Int)≤8)
 omega
theorem implIsMatrix_a(p:Int)(m:Mat):AC Tryz.prog 283 [.i p,.agg (enc false m)] [.b (isMat p m)]:=by
 refine AC.go Tryz.func283 Tryz.ntmps283 rfl rfl fun w0 hw=>?_;simp[WfL,WfA,E_length,Enc.enc,In64] at hw
 by_cases hr:0≤m.r∧m.r≤8
 ·by_cases hc':0≤m.c∧m.c≤8
  ·have h8:=mul8 hr hc'
   have hi:In64 (m.r*m.c):=by unfold In64;omega
   by_cases hl:(m.m.length:Int)=m.r*m.c
   ·repeat' first|refine s1 ?_|(refine kR ?_;first|(refine jCf 250 ?_;refine F.c (within_a _ _ _) ?_)|(refine jCf 129 ?_;refine F.c (implIsVector_a _ _) ?_))|fail
    refine F.ret ?_
    simp[isMat, *]
   ·repeat' first|refine s1 ?_|(refine kR ?_;first|(refine jCf 250 ?_;refine F.c (within_a _ _ _) ?_))|fail
    refine F.ret ?_
    simp[isMat, *]
  ·repeat' first|refine s1 ?_|(refine kR ?_;first|(refine jCf 250 ?_;refine F.c (within_a _ _ _) ?_))|fail
   refine F.ret ?_
   rw[isMat,decide_eq_false hc'];simp
 ·repeat' first|refine s1 ?_|(refine kR ?_;first|(refine jCf 250 ?_;refine F.c (within_a _ _ _) ?_))|fail
  refine F.ret ?_
  rw[isMat,decide_eq_false hr];simp
theorem specIsMatrix_a(p:Int)(m:Mat):AC Tryz.prog 231 [.i p,.agg (enc false m)] [.b (isMat p m)]:=by
 refine AC.go Tryz.func231 Tryz.ntmps231 rfl rfl fun w0 hw=>?_;simp[WfL,WfA,E_length,Enc.enc,In64] at hw
 by_cases hr:0≤m.r∧m.r≤8
 ·by_cases hc':0≤m.c∧m.c≤8
  ·have h8:=mul8 hr hc'
   have hi:In64 (m.r*m.c):=by unfold In64;omega
   by_cases hl:(m.m.length:Int)=m.r*m.c
   ·repeat' first|refine s1 ?_|(refine kR ?_;first|(refine jCf 169 ?_;refine F.c (l1In_a _ _ _) ?_)|(refine jCf 134 ?_;refine F.c (specIsVector_a _ _) ?_))|fail
    refine F.ret ?_
    simp[isMat, *]
   ·repeat' first|refine s1 ?_|(refine kR ?_;first|(refine jCf 169 ?_;refine F.c (l1In_a _ _ _) ?_))|fail
    refine F.ret ?_
    simp[isMat, *]
  ·repeat' first|refine s1 ?_|(refine kR ?_;first|(refine jCf 169 ?_;refine F.c (l1In_a _ _ _) ?_))|fail
   refine F.ret ?_
   rw[isMat,decide_eq_false hc'];simp
 ·repeat' first|refine s1 ?_|(refine kR ?_;first|(refine jCf 169 ?_;refine F.c (l1In_a _ _ _) ?_))|fail
  refine F.ret ?_
  rw[isMat,decide_eq_false hr];simp
theorem l6Same_a(xs ys:List Int):AC Tryz.prog 172 [ar false xs,ar false ys] [.b (decide (xs=ys))]:=by
 refine AC.go Tryz.func172 Tryz.ntmps172 rfl rfl fun w0 hw=>?_;simp[WfL,WfA,E_length,Enc.enc,In64] at hw
 by_cases hl:xs.length=ys.length
 ·repeat' first|refine s1 ?_|fail
  refine F.loop (σ:=Nat) [4,5,11,12,13,14,15,16,17,18,19,20,21,22,23,24,25] (fun k=>[(5,.i k)]) (fun _=>[]) (fun k=>k≤xs.length∧∀j,j<k→xs.getD j default=ys.getD j default) (fun k=>xs.length-k) 0 ⟨rfl,trivial⟩ trivial ⟨Nat.zero_le _,fun j hj=>by omega⟩ ?_
  rintro k ⟨h1,h2⟩
  by_cases hlt:k<xs.length
  ·repeat' first|refine s1 ?_|fail
   refine AW.draw 9 G.mixed (by kernel_rfl) ?_
   refine Pz (.p 0<|.p 1<|.p 2<|.l 3<|.p 4<|.p 5<|.p 6<|.l 7<|.p 8<|.n) ?_
   repeat' first|refine yS ?_|refine s1 ?_|fail
   any_goals refine lf ?_
   by_cases he:xs.getD k default=ys.getD k default
   ·repeat' first|refine s1 ?_|fail
    refine⟨k+1,F.fit ⟨rfl,trivial⟩ trivial,⟨by omega,fun j hj=>?_⟩,by omega⟩
    rcases Nat.lt_or_ge j k with h|h
    ·exact h2 j h
    ·obtain rfl:j=k:=by omega
     exact he
   ·repeat' first|refine s1 ?_|fail
    refine F.ret ?_
    rw[decide_eq_false fun h=>he (by rw[h])]
  ·repeat' first|refine s1 ?_|fail
   refine F.ret ?_
   rw[decide_eq_true (List.ext_getElem hl fun i hi hi'=>by have:=h2 i (by omega);simpa[hi,hi'] using this)]
 ·repeat' first|refine s1 ?_|fail
  refine F.ret ?_
  rw[decide_eq_false fun h=>hl (by rw[h])]
theorem equal_a(xs ys:List Int):AC Tryz.prog 175 [ar false xs,ar false ys] [.b (decide (xs=ys))]:=by
 refine AC.go Tryz.func175 Tryz.ntmps175 rfl rfl fun w0 hw=>?_;simp[WfL,WfA,E_length,Enc.enc,In64] at hw
 by_cases hl:xs.length=ys.length
 ·repeat' first|refine s1 ?_|fail
  refine F.loop (σ:=Nat) [4,5,13,14,15,16,17,18,19,20,21,22,23,24,25] (fun k=>[(13,.i k)]) (fun _=>[]) (fun k=>k≤xs.length∧∀j,j<k→xs.getD j default=ys.getD j default) (fun k=>xs.length-k) 0 ⟨rfl,trivial⟩ trivial ⟨Nat.zero_le _,fun j hj=>by omega⟩ ?_
  rintro k ⟨h1,h2⟩
  by_cases hlt:k<xs.length
  ·repeat' first|refine s1 ?_|fail
   refine AW.draw 9 G.mixed (by kernel_rfl) ?_
   refine Pz (.p 0<|.p 1<|.p 2<|.l 3<|.p 4<|.p 5<|.p 6<|.l 7<|.p 8<|.n) ?_
   repeat' first|refine yS ?_|refine s1 ?_|fail
   any_goals refine lf ?_
   by_cases he:xs.getD k default=ys.getD k default
   ·repeat' first|refine s1 ?_|fail
    refine⟨k+1,F.fit ⟨rfl,trivial⟩ trivial,⟨by omega,fun j hj=>?_⟩,by omega⟩
    rcases Nat.lt_or_ge j k with h|h
    ·exact h2 j h
    ·obtain rfl:j=k:=by omega
     exact he
   ·repeat' first|refine s1 ?_|fail
    refine F.ret ?_
    rw[decide_eq_false fun h=>he (by rw[h])]
  ·repeat' first|refine s1 ?_|fail
   refine F.ret ?_
   rw[decide_eq_true (List.ext_getElem hl fun i hi hi'=>by have:=h2 i (by omega);simpa[hi,hi'] using this)]
 ·repeat' first|refine s1 ?_|fail
  refine F.ret ?_
  rw[decide_eq_false fun h=>hl (by rw[h])]
def sameQ(a b:Quiv):Bool:=decide (a.n=b.n)&&decide (a.fr=b.fr)&&decide (a.to=b.to)
theorem implEqualQuivers_a(a b:Quiv):AC Tryz.prog 298 [.agg (enc false a),.agg (enc false b)] [.b (sameQ a b)]:=by
 refine AC.go Tryz.func298 Tryz.ntmps298 rfl rfl fun w0 hw=>?_;simp[WfL,WfA,E_length,Enc.enc,In64] at hw
 repeat' first|refine s1 ?_|(refine kR ?_;first|(refine jCf 175 ?_;refine F.c (equal_a _ _) ?_))|(refine s2 ?_ ?_<;>intro hc<;>(try simp only[decide_eq_true_eq,decide_eq_false_iff_not,Bool.not_eq_true',Bool.not_eq_false'] at hc))|fail
 all_goals
  refine F.ret ?_
  simp[sameQ, *]
theorem specEqualQuivers_a(a b:Quiv):AC Tryz.prog 171 [.agg (enc false a),.agg (enc false b)] [.b (sameQ a b)]:=by
 refine AC.go Tryz.func171 Tryz.ntmps171 rfl rfl fun w0 hw=>?_;simp[WfL,WfA,E_length,Enc.enc,In64] at hw
 repeat' first|refine s1 ?_|(refine kR ?_;first|(refine jCf 172 ?_;refine F.c (l6Same_a _ _) ?_))|(refine s2 ?_ ?_<;>intro hc<;>(try simp only[decide_eq_true_eq,decide_eq_false_iff_not,Bool.not_eq_true',Bool.not_eq_false'] at hc))|fail
 all_goals
  refine F.ret ?_
  simp[sameQ, *]
theorem sum_take{xs:List Int}{k:Nat}(hk:k<xs.length):(xs.take (k+1)).sum=(xs.take k).sum+xs.getD k default:=by
 rw[List.take_succ_eq_append_getElem hk,List.sum_append];simp[hk]
theorem sum_bd{xs:List Int}{B:Int}(hB:0≤B)(h:∀j,j<xs.length→-B≤xs.getD j default∧xs.getD j default≤B):∀k,k≤xs.length→-(k*B)≤(xs.take k).sum∧(xs.take k).sum≤k*B
 |0,_=>by simp
 |k+1,hk=>by
  have h1:=sum_bd hB h k (by omega)
  have h2:=h k (by omega)
  rw[sum_take (by omega)]
  have:((k+1:Nat):Int)*B=k*B+B:=by push_cast;rw[Int.add_mul,Int.one_mul]
  omega
theorem sumOf_a(xs:List Int)(hl:xs.length≤1048576)(h:∀j,j<xs.length→-1048576≤xs.getD j default∧xs.getD j default≤1048576):AC Tryz.prog 173 [ar false xs] [.i xs.sum]:=by
 refine AC.go Tryz.func173 Tryz.ntmps173 rfl rfl fun w0 hw=>?_;simp[WfL,WfA,E_length,Enc.enc,In64] at hw
 repeat' first|refine s1 ?_|fail
 refine F.loop (σ:=Nat) [3,5,8,9,10,11,12,13,14,15] (fun k=>[(3,.i (xs.take k).sum),(8,.i k)]) (fun _=>[]) (fun k=>k≤xs.length) (fun k=>xs.length-k) 0 ⟨rfl,rfl,trivial⟩ trivial (Nat.zero_le _) ?_
 rintro k h1
 have hb:=sum_bd (by decide) h k h1
 by_cases hlt:k<xs.length
 ·have h2:=h k hlt
  have hi:In64 ((xs.take k).sum+xs.getD k default):=by unfold In64;omega
  repeat' first|refine s1 ?_|fail
  exact⟨k+1,F.fit ⟨iE (sum_take hlt).symm,rfl,trivial⟩ trivial,by omega,by omega⟩
 ·obtain rfl:k=xs.length:=by omega
  rw[List.take_length] at hb⊢
  repeat' first|refine s1 ?_|fail
  exact F.ret rfl
def areDims(q:Quiv)(d:List Int):Bool:=okQ q&&decide ((d.length:Int)=q.n)&&allIn 0 4 d&&decide (d.sum≤8)
theorem implAreDims_a(q:Quiv)(d:List Int):AC Tryz.prog 141 [.agg (enc false q),ar false d] [.b (areDims q d)]:=by
 refine AC.go Tryz.func141 Tryz.ntmps141 rfl rfl fun w0 hw=>?_;simp[WfL,WfA,E_length,Enc.enc,In64] at hw
 have hQ:=implIsQuiver_a q
 cases hq:okQ q with
 |false=>
  rw[hq] at hQ
  repeat' first|refine s1 ?_|(refine kR ?_;first|refine F.c (hQ) ?_)|fail
  refine F.ret ?_
  simp[areDims,hq]
 |true=>
  rw[hq] at hQ
  have h5:=okQ_spec hq
  by_cases hl:(d.length:Int)=q.n
  ·have hA:=allWithin_a d 0 4
   cases ha:allIn 0 4 d with
   |false=>
    rw[ha] at hA
    repeat' first|refine s1 ?_|(refine kR ?_;first|refine F.c (hQ) ?_|refine F.c (hA) ?_)|fail
    refine F.ret ?_
    simp[areDims,ha]
   |true=>
    rw[ha] at hA
    have hS:=sumOf_a d (by omega) (fun j hj=>by have:=allIn_spec ha hj;simp only[show(default:Int)=0 from rfl];omega)
    repeat' first|refine s1 ?_|(refine kR ?_;first|refine F.c (hQ) ?_|refine F.c (hA) ?_|refine F.c (hS) ?_)|fail
    refine F.ret ?_
    simp[areDims, *]
  ·repeat' first|refine s1 ?_|(refine kR ?_;first|refine F.c (hQ) ?_)|fail
   refine F.ret ?_
   rw[areDims,decide_eq_false hl];simp
theorem specAreDims_a(q:Quiv)(d:List Int):AC Tryz.prog 162 [.agg (enc false q),ar false d] [.b (areDims q d)]:=by
 refine AC.go Tryz.func162 Tryz.ntmps162 rfl rfl fun w0 hw=>?_;simp[WfL,WfA,E_length,Enc.enc,In64] at hw
 have hQ:=specIsQuiver_a q
 cases hq:okQ q with
 |false=>
  rw[hq] at hQ
  repeat' first|refine s1 ?_|(refine kR ?_;first|refine F.c (hQ) ?_)|fail
  refine F.ret ?_
  simp[areDims,hq]
 |true=>
  rw[hq] at hQ
  have h5:=okQ_spec hq
  by_cases hl:(d.length:Int)=q.n
  ·repeat' first|refine s1 ?_|(refine kR ?_;first|refine F.c (hQ) ?_)|fail
   refine F.loop (σ:=Nat) [4,5,6,17,18,19,20,21,22,23,24,25,26,27,28,29,30,31,32,33,34] (fun k=>[(5,.i (d.take k).sum),(6,.i k)]) (fun _=>[]) (fun k=>k≤d.length∧(-(k*4)≤(d.take k).sum∧(d.take k).sum≤k*4)∧∀j,j<k→0≤d.getD j default∧d.getD j default≤4) (fun k=>d.length-k) 0 ⟨rfl,rfl,trivial⟩ trivial ⟨Nat.zero_le _,by simp,fun j hj=>by omega⟩ ?_
   rintro k ⟨h1,hb,h2⟩
   by_cases hlt:k<d.length
   ·by_cases hx:0≤d.getD k default∧d.getD k default≤4
    ·repeat' first|refine s1 ?_|(refine kR ?_;first|(refine jCf 169 ?_;refine F.c (l1In_a _ _ _) ?_))|fail
     exact⟨k+1,F.fit ⟨iE (sum_take hlt).symm,rfl,trivial⟩ trivial,⟨by omega,by rw[sum_take hlt];push_cast;omega,snocP h2 hx⟩,by omega⟩
    ·repeat' first|refine s1 ?_|(refine kR ?_;first|(refine jCf 169 ?_;refine F.c (l1In_a _ _ _) ?_))|fail
     refine F.ret ?_
     rw[areDims,allIn_no hlt hx];simp
   ·obtain rfl:k=d.length:=by omega
    rw[List.take_length] at hb⊢
    repeat' first|refine s1 ?_|fail
    refine F.ret ?_
    rw[areDims,hq,allIn_all h2,decide_eq_true hl];rfl
  ·repeat' first|refine s1 ?_|(refine kR ?_;first|refine F.c (hQ) ?_)|fail
   refine F.ret ?_
   rw[areDims,decide_eq_false hl];simp
end Go.Proofs.YtjmjamhhppoimaaGreat.V
