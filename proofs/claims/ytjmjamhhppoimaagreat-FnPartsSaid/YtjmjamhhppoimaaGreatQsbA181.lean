/- Texts that the proof needs: A181. -/
import Derived.Test.YtjmjamhhppoimaaGreatQsbA180
import Derived.Test.YtjmjamhhppoimaaGreatQsbA8
namespace Go.Proofs.YtjmjamhhppoimaaGreat.V
open V.Enc (enc)
open Go.RowKit G D
set_option linter.unusedVariables false
set_option linter.unusedSimpArgs false
set_option maxHeartbeats 4000000
set_option maxRecDepth 4000
attribute [local irreducible] AW ARg ARA ARet MRet ASil AC AM AMx ACx AD
theorem zeroM_bd{r c:Int}(hr:0≤r∧r≤1024)(hc:0≤c∧c≤1024):(zeroM r c).m.length≤1048576:=by
 obtain⟨a,rfl⟩:∃a:Nat,r=a:=⟨r.toNat,by omega⟩
 obtain⟨d,rfl⟩:∃d:Nat,c=d:=⟨c.toNat,by omega⟩
 have h1:a*d≤1024*1024:=Nat.mul_le_mul (by omega) (by omega)
 simp only[zeroM,List.length_replicate]
 omega
def inF(p:Int)(l:List Int):Prop:=isF p=true→∀j,j<l.length→0≤l.getD j default∧l.getD j default≤p-1
theorem inF.zero(p:Int)(n:Nat):inF p (List.replicate n 0):=fun h j hj=>by
 have:=isF_pos h
 have e:(List.replicate n (0:Int)).getD j default=0:=by
  have hj:j<n:=by simpa using hj
  simp[hj]
 rw[e];omega
theorem inF.set{p:Int}{l:List Int}(h:inF p l)(k:Nat){x:Int}(hx:belowI (max 1 (min 5 p)) x):inF p (l.set k x):=fun hF j hj=>by
 have hp:=isF_pos hF
 rw[List.length_set] at hj
 have hb:=hx.1 (by omega)
 by_cases e:k=j
 ·subst e
  have e2:(l.set k x).getD k default=x:=by simp[hj]
  rw[e2];omega
 ·have:=h hF j hj
  simpa[List.getD_eq_getElem?_getD,List.getElem?_set_ne e] using this
theorem inF.mat{p r c:Int}{l:List Int}(h:inF p l)(hr:0≤r∧r≤1024)(hc:0≤c∧c≤1024)(hl:l.length=(r*c).toNat)(hF:isF p=true)(h1:r≤8)(h2:c≤8):isMat p ⟨r,c,l⟩=true:=by
 have h0:0≤r*c:=Int.mul_nonneg hr.1 hc.1
 have h3:r*c≤8*8:=Int.mul_le_mul h1 h2 hc.1 (by omega)
 simp only[isMat,isVec,Bool.and_eq_true,decide_eq_true_eq]
 exact⟨⟨⟨⟨hr.1,h1⟩,⟨hc.1,h2⟩⟩,by omega⟩,⟨hF,by omega⟩,allIn_all (h hF)⟩
theorem l3Random_x(b:List UInt8)(hl:b.length≤1048576)(p r c:Int)(hr:0≤r∧r≤1024)(hc:0≤c∧c≤1024):AD Tryz.prog 236 [.i p,.i r,.i c] b (fun m:Mat=>m.r=r∧m.c=c∧m.m.length≤1048576∧(isF p=true→r≤8→c≤8→isMat p m=true)) (fun m=>[.agg (enc true m)]):=by
 refine AD.go Tryz.func236 Tryz.ntmps236 rfl rfl fun i h hi w0 mp hw=>?_;simp[WfL,WfA,E_length,Enc.enc,In64] at hw
 have hZ:=l3Zero_a r c hr hc
 have hB:=fun n=>l1Below_x b hl n
 have hL:=zeroM_bd hr hc
 have hzr:(zeroM r c).r=r:=rfl
 have hzc:(zeroM r c).c=c:=rfl
 have hz0:(zeroM r c).m.length=(r*c).toNat∧inF p (zeroM r c).m:=⟨by simp,inF.zero p _⟩
 generalize zeroM r c=z at hZ hL hzr hzc hz0
 obtain⟨zr,zc,zm⟩:=z
 dsimp only at hL hzr hzc hz0
 subst hzr hzc
 repeat' first|refine s1 ?_|(refine kR ?_;first|refine F.c (hZ) ?_)|fail
 refine F.loop (σ:=Nat×List Int×Int×Int) [10,14,15,16,17,18,19,20,21,22,23,24,25,26,27,28,29] (fun x=>[(10,.i x.1)]) (fun x=>[(0,.live false 3 (curO b x.2.2.1 x.2.2.2)),(2,.live false 1 (E true x.2.1))]) (fun x=>x.1≤zm.length∧x.2.1.length=zm.length∧inF p x.2.1∧okI b x.2.2.1) (fun x=>zm.length-x.1) (0,zm,i,h) ⟨rfl,trivial⟩ ⟨rfl,rfl,trivial⟩ ⟨Nat.zero_le _,rfl,hz0.2,hi⟩ ?_
 rintro⟨k,l,i2,h2⟩ ⟨k1,k2,k3,hi2⟩
 dsimp only at k1 k2 k3 hi2⊢
 by_cases hk:k<zm.length
 ·repeat' first|refine s1 ?_|fail
  refine AW.draw 1 G.mixed (by kernel_rfl) ?_
  refine Pz (.p 0<|.p 2<|.p 3<|.p 4<|.p 5<|.p 6<|.a [(1,true,.o 7 false<|.p 8<|.o 9 false<|.n),(7,false,.o 1 true<|.p 8<|.o 9 false<|.n)]) ?_
  repeat' first|(refine yU (i:=7) ?_;first|refine s1 ?_|(refine F.dr 0 ((hB _)) (by assumption) ?_;intro x i6 h6 hx hi6;refine F.xk ?_))|refine yS ?_|refine s1 ?_|refine yC ?_ ?_|exact trivial|refine yP ?_ (hs:=by exact(A.min2 rfl rfl))|refine yP ?_ (hs:=by exact(A.max2 rfl rfl))|fail
  any_goals refine lf ?_
  all_goals
   repeat' first|refine s1 ?_|fail
   exact⟨(k+1,l.set (0+k) x,i6,h6),F.fit ⟨rfl,trivial⟩ ⟨rfl,obE rfl,trivial⟩,⟨by show k+1≤zm.length;omega,by simp;omega,k3.set (0+k) hx,hi6⟩,by show zm.length-(k+1)<zm.length-k;omega⟩
 ·obtain rfl:k=zm.length:=by omega
  repeat' first|refine s1 ?_|fail
  exact F.rd ⟨zr,zc,l⟩ ⟨rfl,rfl,by show l.length≤1048576;omega,fun hF h1 h2=>k3.mat hr hc (by rw[k2];exact hz0.1) hF h1 h2⟩ hi2 (F.retM rfl ⟨rfl,trivial⟩)
theorem l3Any_x(b:List UInt8)(hl:b.length≤1048576)(p:Int):AD Tryz.prog 323 [.i p] b (fun m:Mat=>True) (fun m=>[.agg (enc true m)]):=by
 refine AD.go Tryz.func323 Tryz.ntmps323 rfl rfl fun i h hi w0 mp hw=>?_;simp[WfL,WfA,E_length,Enc.enc,In64] at hw
 have hB:=fun n=>l1Below_x b hl n
 have hI:=l1PickInt_x b hl [-1,9,2,9223372036854775807] (by decide) (by decide)
 have hJ:=l1PickInt_x b hl [-1,5,2] (by decide) (by decide)
 repeat' first|refine s1 ?_|(refine kR ?_;first|(refine F.dr 0 ((hB _)) (by assumption) ?_;intro a i2 h2 ha hi2;replace ha:=ha.1 (by omega);refine F.xk ?_))|fail
 rename_i U iU hU hiU hUb
 have hR:=l3Random_x b hl p U a (by omega) (by omega)
 repeat' first|refine s1 ?_|(refine kR ?_;first|(refine F.dr 0 (hR) (by assumption) ?_;intro m i4 h4 hm hi4;refine F.xk ?_)|(refine F.dr 0 ((hB _)) (by assumption) ?_;intro y i5 h5 hy hi5;replace hy:=hy.1 (by omega);refine F.xk ?_))|fail
 obtain⟨hm1,hm2,hm3,hm4⟩:=hm
 by_cases h0:y=0
 ·repeat' first|refine s1 ?_|(refine kR ?_;first|refine F.litN (xs:=V.E true ([-1,9,2,9223372036854775807]:List Int)) rfl rfl rfl rfl rfl rfl rfl rfl ?_)|fail
  refine F.freezeA (α:=Int) (oo:=true) (ls:=[-1,9,2,9223372036854775807]) 20 rfl rfl rfl ?_
  repeat' first|refine s1 ?_|(refine kR ?_;first|(refine F.dr 0 (hI) (by assumption) ?_;intro v i6 h6 hv hi6;refine F.xk ?_))|fail
  exact F.rd ⟨v,m.c,m.m⟩ trivial hi6 (F.retM rfl ⟨rfl,trivial⟩)
 ·by_cases h1:y=1
  ·repeat' first|refine s1 ?_|(refine kR ?_;first|refine F.a1 Int (a:=0) ?_)|fail
   exact F.rd ⟨m.r,m.c,m.m++[0]⟩ trivial hi5 (F.retM rfl ⟨rfl,trivial⟩)
  ·by_cases h2':y=2
   ·by_cases h3:0<m.m.length
    ·repeat' first|refine s1 ?_|fail
     refine AW.draw 1 G.mixed (by kernel_rfl) ?_
     refine Pz (.p 0<|.p 2<|.a [(1,true,.o 3 true<|.h 3<|.o 4 false<|.p 5<|.o 6 false<|.n),(3,true,.h 3<|.a [(1,true,.o 4 false<|.p 5<|.o 6 false<|.n),(4,false,.o 1 true<|.p 5<|.o 6 false<|.n)])]) ?_
     repeat' first|(refine yU (i:=3) ?_;first|refine s1 ?_|refine F.litN (xs:=V.E true ([-1,5,2]:List Int)) rfl rfl rfl rfl rfl rfl rfl rfl ?_)|(refine yH (i:=3) ?_ (fun h=>(dzA (α:=Int) (oo:=true) (ls:=[-1,5,2]) 39 rfl rfl rfl h)))|(refine yU (i:=4) ?_;first|refine s1 ?_|(refine F.dr 0 (hJ) (by assumption) ?_;intro v i6 h6 hv hi6;refine F.xk ?_))|refine yS ?_|refine s1 ?_|refine yC ?_ ?_|exact trivial|fail
     any_goals refine lf ?_
     all_goals
      repeat' first|refine s1 ?_|fail
      exact F.rd ⟨m.r,m.c,m.m.set (0+0) v⟩ trivial hi6 (F.retM rfl ⟨rfl,trivial⟩)
    ·repeat' first|refine s1 ?_|fail
     exact F.rd m trivial hi5 (F.retM rfl ⟨rfl,trivial⟩)
   ·repeat' first|refine s1 ?_|fail
    exact F.rd m trivial hi5 (F.retM rfl ⟨rfl,trivial⟩)
end Go.Proofs.YtjmjamhhppoimaaGreat.V
