/- Texts that the proof needs: A163, A164. -/
import Derived.Test.YtjmjamhhppoimaaGreatQraUz
namespace Go.Proofs.YtjmjamhhppoimaaGreat.V
open V.Enc (enc)
open Go.RowKit G D
set_option linter.unusedVariables false
set_option linter.unusedSimpArgs false
set_option maxHeartbeats 4000000
set_option maxRecDepth 4000
attribute [local irreducible] AW ARg ARA ARet MRet ASil AC AM AMx ACx
theorem specFormatQuiver_c(q:Quiv):ACx Tryz.prog 382 [.agg (enc false q)] (fun s:ByteArray=>s.size≤20∧(okQ q=true→s=fmtK q q.fr.length)) (fun s=>[strA s]):=ACx.ofAMx (specFormatQuiver_x q) (fun s=>rfl)
def lenQ(n:Nat)(q:Quiv):Prop:=q.fr.length≤n∧q.to.length≤n
def txP(q:Quiv)(s:ByteArray):Prop:=okQ q=true∧s.size≤30∧(cutT s 32).length=q.fr.length+1∧(∀k,k<q.fr.length+1→((cutT s 32).getD k default).size=2)∧((((cutT s 32).getD 0 default)[0]?.getD 0).toNat:Int)=48+q.n∧(∀k,k<q.fr.length→((((cutT s 32).getD (k+1) default)[0]?.getD 0).toNat:Int)=48+q.fr.getD k default∧((((cutT s 32).getD (k+1) default)[1]?.getD 0).toNat:Int)=48+q.to.getD k default)∧s.toList=(fmtK q q.fr.length).toList
theorem take_next{l:List Int}{k:Nat}(hk:k<l.length):l.take (k+1)=l.take k++[l.getD k default]:=by
 rw[List.take_add_one,show l[k]?.toList=[l.getD k default] by simp[List.getElem?_eq_getElem hk]]
theorem specParseQuiver_q(s:ByteArray)(q:Quiv)(ht:txP q s):AMx Tryz.prog 336 [strA s] [] (fun x:Quiv×Bool=>x=(q,true)) (fun x=>[.agg (enc true x.1),.b x.2]) (fun _=>[]):=by
 refine AMx.go Tryz.func336 Tryz.ntmps336 rfl rfl fun w0 mp hw=>?_;simp[WfL,WfA,E_length,Enc.enc,In64] at hw
 obtain⟨t1,t2,t3,t4,t5,t6,t7⟩:=ht
 have hC:=l6Cut_x s 32 (by omega)
 obtain⟨v,fr0,to0⟩:=q
 have hok:=okQ_spec t1
 dsimp only at t3 t4 t5 t6 t7 hok
 repeat' first|refine s1 ?_|(refine kR ?_;first|(refine F.x [] (hC) ?_;rintro l ⟨l0,hl⟩;refine F.xk ?_))|fail
 rw[←hl] at t3 t4 t5 t6
 have l1:=l0.2.1
 have hw2:((l.getD (0+0) default).size:Int)=2:=by have:=t4 0 (by omega);show((l.getD 0 default).size:Int)=2;omega
 obtain⟨z0,hz0⟩:∃z,(l.getD (0+0) default)[0]?=some z:=⟨_,getElem?_pos _ 0 (by omega)⟩
 have hz1:(z0.toNat:Int)=48+v:=by
  have h:(((l.getD (0+0) default)[0]?.getD 0).toNat:Int)=48+v:=t5
  rw[hz0] at h
  exact h
 have h30:(s.size:Int)≤30:=by omega
 have hzb:=UInt8.toNat_lt z0
 repeat' first|refine s1 ?_|(refine kR ?_;first|refine F.sil (A.lenStr (by omega) rfl) rfl rfl ?_|refine F.sil (A.idxStr (k:=0) rfl rfl hz0) rfl rfl ?_|refine F.sil (A.cvQI rfl (In64.mk (by omega))) rfl rfl ?_)|fail
 rw[show(z0.toNat:Int)-48=v by omega]
 refine AW.only [(0,strA s),(2,.pt 0 1 0 0),(4,.sl 1 l.length 0 l.length),(5,.pt 2 1 0 0),(6,.i 1)] [(0,.live false 3 [[.i 0,.nl,.nl]]),(1,.live false 1 (E true l)),(2,.live false 3 [[.i v,.em,.em]])] 3 ⟨rfl,rfl,rfl,rfl,rfl,trivial⟩ ⟨rfl,rfl,rfl,trivial⟩ rfl ?_
 refine AW.openV (o:=2) (j:=1) 1 rfl rfl (.inr rfl) rfl ?_
 refine AW.openV (o:=2) (j:=2) 1 rfl rfl (.inr rfl) rfl ?_
 refine F.loop (σ:=Nat×List Int×List Int) [3,6,29,30,31,32,33,34,35,36,37,38,39,40,41,42,43,44,45,46,47,48,49,50,51,52,53,54,55,56,57,58,59,60,61,62,63,64,65] (fun x=>[(6,.i ((x.1+1:Nat):Int))]) (fun x=>[(2,.live false 3 [[.i v,.sl 3 x.1 0 x.1,.sl 4 x.1 0 x.1]]),(3,.live false 1 (E true x.2.1)),(4,.live false 1 (E true x.2.2))]) (fun x=>x.1≤fr0.length∧x.2.1.length=x.1∧x.2.2.length=x.1∧x.2.1=fr0.take x.1∧x.2.2=to0.take x.1) (fun x=>fr0.length-x.1) (0,[],[]) ⟨rfl,trivial⟩ ⟨rfl,rfl,rfl,trivial⟩ ⟨Nat.zero_le _,rfl,rfl,rfl,rfl⟩ ?_
 rintro⟨k,fr,to⟩ ⟨k1,k2,k3,k4,k5⟩
 dsimp only at k1 k2 k3 k4 k5⊢
 by_cases hk:k<fr0.length
 ·have hs2:((l.getD (0+(k+1)) default).size:Int)=2:=by
   have:=t4 (k+1) (by omega)
   rw[Nat.zero_add]
   omega
  obtain⟨u0,hu0⟩:∃z,(l.getD (0+(k+1)) default)[0]?=some z:=⟨_,getElem?_pos _ 0 (by omega)⟩
  obtain⟨u1,hu1⟩:∃z,(l.getD (0+(k+1)) default)[1]?=some z:=⟨_,getElem?_pos _ 1 (by omega)⟩
  have hub0:=UInt8.toNat_lt u0
  have hub1:=UInt8.toNat_lt u1
  have h6:=t6 k hk
  rw[Nat.zero_add] at hu0 hu1
  rw[hu0,hu1] at h6
  have e0:(u0.toNat:Int)-48=fr0.getD k default:=by have:(u0.toNat:Int)=48+fr0.getD k default:=h6.1;omega
  have e1:(u1.toNat:Int)-48=to0.getD k default:=by have:(u1.toNat:Int)=48+to0.getD k default:=h6.2;omega
  rw[←Nat.zero_add (k+1)] at hu0 hu1
  repeat' first|refine s1 ?_|(refine kR ?_;first|refine F.sil (A.lenStr (by omega) rfl) rfl rfl ?_)|fail
  refine AW.draw 10 G.mixed (by kernel_rfl) ?_
  refine Pz (.p 0<|.l 1<|.p 2<|.p 3<|.p 4<|.l 5<|.p 6<|.p 7<|.p 8<|.o 9 true<|.o 10 false<|.p 11<|.o 12 false<|.n) ?_
  repeat' first|refine yP (i:=6) ?_ (hs:=by exact(A.idxStr (k:=0) rfl rfl hu0))|refine yP (i:=7) ?_ (hs:=by exact(A.cvQI rfl (In64.mk (by omega))))|(refine yU (i:=10) ?_;first|refine s1 ?_|refine F.a1 Int ?_)|refine yS ?_|refine s1 ?_|fail
  any_goals refine lf ?_
  all_goals
   refine ATh.normal ?_
   refine AW.draw 10 G.mixed (by kernel_rfl) ?_
   refine Pz (.p 0<|.l 1<|.p 2<|.p 3<|.p 4<|.l 5<|.p 6<|.p 7<|.p 8<|.o 9 true<|.o 10 false<|.p 11<|.o 12 false<|.n) ?_
   repeat' first|refine yP (i:=6) ?_ (hs:=by exact(A.idxStr (k:=1) rfl rfl hu1))|refine yP (i:=7) ?_ (hs:=by exact(A.cvQI rfl (In64.mk (by omega))))|(refine yU (i:=10) ?_;first|refine s1 ?_|refine F.a1 Int ?_)|refine yS ?_|refine s1 ?_|fail
   any_goals refine lf ?_
   all_goals
    repeat' first|refine s1 ?_|fail
    exact⟨(k+1,fr++[(u0.toNat:Int)-48],to++[(u1.toNat:Int)-48]),F.fit ⟨rfl,trivial⟩ ⟨rfl,obE rfl,obE rfl,trivial⟩,⟨by omega,by simp;omega,by simp;omega,by show _=fr0.take (k+1);rw[e0,k4,take_next hk],by show _=to0.take (k+1);rw[e1,k5,take_next (by omega)]⟩,by show fr0.length-(k+1)<fr0.length-k;omega⟩
 ·obtain rfl:k=fr0.length:=by omega
  have hkl:fr0.length+1=l.length:=by omega
  rw[List.take_length] at k4
  rw[hok.2.2.1,List.take_length] at k5
  subst k4 k5
  have hF:=specFormatQuiver_c ⟨v,fr,to⟩
  repeat' first|refine s1 ?_|(refine kR ?_;first|(refine F.cx (hF) ?_;rintro z hz;refine F.ck ?_)|refine F.sil (A.neqS rfl rfl) rfl rfl ?_)|fail
  have hzs:(z.toList !=s.toList)=false:=by rw[hz.2 t1,t7];simp
  rw[hzs]
  repeat' first|refine s1 ?_|fail
  exact F.rx (⟨v,fr,to⟩,true) rfl (F.retM rfl trivial)
def nameL:List ByteArray:=[⟨#[65,49]⟩,⟨#[65,50]⟩,⟨#[65,51]⟩,⟨#[65,51,105,110]⟩,⟨#[65,52]⟩,⟨#[68,52]⟩,⟨#[68,53]⟩,⟨#[75,50]⟩,⟨#[115,116,97,114,52]⟩,⟨#[115,113,117,97,114,101]⟩,⟨#[108,111,111,112]⟩,⟨#[99,105,114,99,108,101]⟩]
theorem l6Names_a:AC Tryz.prog 380 [] [.dt true 1 (E true nameL)]:=by
 refine AC.go Tryz.func380 Tryz.ntmps380 rfl rfl fun w0 hw=>?_;simp[WfL,WfA,E_length,Enc.enc,In64] at hw
 repeat' first|refine s1 ?_|(refine kR ?_;first|refine F.litN (xs:=V.E true nameL) rfl rfl rfl rfl rfl rfl rfl rfl ?_)|fail
 (refine kZ ?_;exact F.ret rfl)
def texL:List ByteArray:=[⟨#[49,58]⟩,⟨#[50,58,32,48,49]⟩,⟨#[51,58,32,48,49,32,49,50]⟩,⟨#[51,58,32,48,49,32,50,49]⟩,⟨#[52,58,32,48,49,32,49,50,32,50,51]⟩,⟨#[52,58,32,48,51,32,49,51,32,50,51]⟩,⟨#[53,58,32,48,50,32,49,50,32,50,51,32,51,52]⟩,⟨#[50,58,32,48,49,32,48,49]⟩,⟨#[53,58,32,48,52,32,49,52,32,50,52,32,51,52]⟩,⟨#[52,58,32,48,49,32,48,50,32,49,51,32,50,51]⟩,⟨#[49,58,32,48,48]⟩,⟨#[51,58,32,48,49,32,49,50,32,50,48]⟩]
def namQ:List Quiv:=[⟨1,[],[]⟩,⟨2,[0],[1]⟩,⟨3,[0,1],[1,2]⟩,⟨3,[0,2],[1,1]⟩,⟨4,[0,1,2],[1,2,3]⟩,⟨4,[0,1,2],[3,3,3]⟩,⟨5,[0,1,2,3],[2,2,3,4]⟩,⟨2,[0,0],[1,1]⟩,⟨5,[0,1,2,3],[4,4,4,4]⟩,⟨4,[0,0,1,2],[1,2,3,3]⟩,⟨1,[0],[0]⟩,⟨3,[0,1,2],[1,2,0]⟩]
theorem tx_all:∀k,k<12→txP (namQ.getD k default) (texL.getD k default):=by unfold txP;decide+kernel
def texT(s:ByteArray):ByteArray:=if(s.toList==(⟨#[65,49]⟩:ByteArray).toList)=true then⟨#[49,58]⟩ else if(s.toList==(⟨#[65,50]⟩:ByteArray).toList)=true then⟨#[50,58,32,48,49]⟩ else if(s.toList==(⟨#[65,51]⟩:ByteArray).toList)=true then⟨#[51,58,32,48,49,32,49,50]⟩ else if(s.toList==(⟨#[65,51,105,110]⟩:ByteArray).toList)=true then⟨#[51,58,32,48,49,32,50,49]⟩ else if(s.toList==(⟨#[65,52]⟩:ByteArray).toList)=true then⟨#[52,58,32,48,49,32,49,50,32,50,51]⟩ else if(s.toList==(⟨#[68,52]⟩:ByteArray).toList)=true then⟨#[52,58,32,48,51,32,49,51,32,50,51]⟩ else if(s.toList==(⟨#[68,53]⟩:ByteArray).toList)=true then⟨#[53,58,32,48,50,32,49,50,32,50,51,32,51,52]⟩ else if(s.toList==(⟨#[75,50]⟩:ByteArray).toList)=true then⟨#[50,58,32,48,49,32,48,49]⟩ else if(s.toList==(⟨#[115,116,97,114,52]⟩:ByteArray).toList)=true then⟨#[53,58,32,48,52,32,49,52,32,50,52,32,51,52]⟩ else if(s.toList==(⟨#[115,113,117,97,114,101]⟩:ByteArray).toList)=true then⟨#[52,58,32,48,49,32,48,50,32,49,51,32,50,51]⟩ else if(s.toList==(⟨#[108,111,111,112]⟩:ByteArray).toList)=true then⟨#[49,58,32,48,48]⟩ else if(s.toList==(⟨#[99,105,114,99,108,101]⟩:ByteArray).toList)=true then⟨#[51,58,32,48,49,32,49,50,32,50,48]⟩ else⟨#[]⟩
theorem tex_all:∀k,k<12→texT (nameL.getD k default)=texL.getD k default:=by decide+kernel
theorem specNamedQuiver_n(k:Nat)(hk:k<12):AMx Tryz.prog 235 [strA (nameL.getD k default)] [] (fun x:Quiv×Bool=>x=(namQ.getD k default,true)) (fun x=>[.agg (enc true x.1),.b x.2]) (fun _=>[]):=by
 refine AMx.go Tryz.func235 Tryz.ntmps235 rfl rfl fun w0 mp hw=>?_;simp[WfL,WfA,E_length,Enc.enc,In64] at hw
 have hP:=specParseQuiver_q _ _ (tx_all k hk)
 have hT:=tex_all k hk
 generalize texL.getD k default=t0 at hP hT
 generalize nameL.getD k default=s at hT⊢
 subst hT
 iterate 14 (refine s1 ?_)
 refine F.cut (σ:=ByteArray) [4,8,9,10,11,12,13,14,15,16,17,18,19,20,21,22,23,24,25,26,27,28,29,30,31] (fun t=>[(4,strA t)]) (fun _=>[]) (fun t=>t=texT s) ?_ (fun t ht=>?_)
 ·repeat' first|refine s1 ?_|(refine kR ?_;first|refine F.sil (A.eqlS rfl rfl) rfl rfl ?_)|(refine s2 ?_ ?_<;>intro hc<;>(try simp only[decide_eq_true_eq,decide_eq_false_iff_not,Bool.not_eq_true',Bool.not_eq_false'] at hc))|fail
  all_goals exact⟨_,F.fit ⟨rfl,trivial⟩ trivial,by unfold texT;simp only[*,Bool.false_eq_true,reduceIte]⟩
 ·subst ht
  repeat' first|refine s1 ?_|(refine kR ?_;first|(refine F.x [] (hP) ?_;rintro⟨q,c⟩ hq;refine F.xk ?_))|fail
  exact F.rx (q,c) hq (F.retM rfl trivial)
end Go.Proofs.YtjmjamhhppoimaaGreat.V
namespace Go.Proofs.YtjmjamhhppoimaaGreat.V
open V.Enc (enc)
open Go.RowKit G D
set_option linter.unusedVariables false
set_option linter.unusedSimpArgs false
set_option maxHeartbeats 4000000
set_option maxRecDepth 4000
attribute [local irreducible] AW ARg ARA ARet MRet ASil AC AM AMx ACx AD
theorem okQ_mk{W:Int}{fr to:List Int}{k:Nat}(hW:1≤W∧W≤4)(h4:k≤4)(h1:fr.length=k)(h2:to.length=k)(h3:∀j,j<k→(0≤fr.getD j default∧fr.getD j default≤W-1)∧0≤to.getD j default∧to.getD j default≤W-1):okQ ⟨W,fr,to⟩=true:=(okQ_iff _).2 ⟨hW.1,by dsimp only;omega,h1.trans h2.symm,by dsimp only;omega,fun j hj=>h3 j (by dsimp only at hj;omega)⟩
theorem getD_snoc{l:List Int}{x:Int}{P:Int→Prop}{k:Nat}(hk:l.length=k)(h:∀j,j<k→P (l.getD j default))(hx:P x):∀j,j<k+1→P ((l++[x]).getD j default):=fun j hj=>by
 by_cases e:j<l.length
 ·have:=h j (by omega)
  simpa[List.getD_eq_getElem?_getD,List.getElem?_append_left e] using this
 ·obtain rfl:j=l.length:=by omega
  simpa using hx
theorem l6Acyclic_ok(b:List UInt8)(hl:b.length≤1048576):AD Tryz.prog 334 [] b (fun q=>okQ q=true) (fun q=>[.agg (enc true q)]):=by
 refine AD.go Tryz.func334 Tryz.ntmps334 rfl rfl fun i h hi w0 mp hw=>?_;simp[WfL,WfA,E_length,Enc.enc,In64] at hw
 have hO:=l1Once_x b hl 2
 have hN:=l6Names_a
 have hB:=fun n=>l1Below_x b hl n
 have hP:=fun k hk=>specNamedQuiver_n k hk
 repeat' first|refine s1 ?_|(refine kR ?_;first|(refine F.dr 0 (hO) (by assumption) ?_;intro c i2 h2 hx hi2;refine F.xk ?_))|fail
 cases c with
 |true=>
  have hL:nameL.length=12:=rfl
  generalize nameL=L at hN hL hP
  repeat' first|refine s1 ?_|(refine kR ?_;first|refine F.c (hN) ?_|(refine F.dr 0 ((hB _)) (by assumption) ?_;intro x i3 h3 hx3 hi3;refine F.xk ?_))|fail
  obtain⟨k,rfl⟩:∃k:Nat,x=k:=⟨x.toNat,by have:=hx3.1 (by omega);omega⟩
  have hk:=hx3.1 (by omega)
  clear hx3
  have hPk:=hP k (by omega)
  rw[←Nat.zero_add k] at hPk
  repeat' first|refine s1 ?_|(refine kR ?_;first|(refine F.x [] (hPk) ?_;rintro⟨q,c⟩ hq;refine F.xk ?_))|fail
  cases hq
  exact F.rd (namQ.getD (0+k) default) (tx_all (0+k) (by omega)).1 hi3 (F.retM rfl ⟨rfl,trivial⟩)
 |false=>
  repeat' first|refine s1 ?_|(refine kR ?_;first|(refine F.dr 0 ((hB _)) (by assumption) ?_;intro v i3 h3 hv hi3;replace hv:=hv.1 (by omega);refine F.xk ?_))|fail
  rename_i V iV hV hVi hVb
  generalize hW:1+V=W
  have hWb:1≤W∧W≤4:=by omega
  refine AW.only [(0,.pt 0 1 0 0),(2,.pt 1 1 0 0),(5,.pt 2 1 0 0),(6,.i v)] [(0,.live false 3 (curO b i3 h3)),(1,.live false 3 [[.i 0,.nl,.nl]]),(2,.live false 3 [[.i W,.em,.em]])] 3 ⟨rfl,rfl,rfl,rfl,trivial⟩ ⟨rfl,rfl,rfl,trivial⟩ rfl ?_
  clear hVb hW hVi
  refine AW.openV (o:=2) (j:=1) 1 rfl rfl (.inr rfl) rfl ?_
  refine AW.openV (o:=2) (j:=2) 1 rfl rfl (.inr rfl) rfl ?_
  refine F.loop (σ:=Nat×List Int×List Int×Int×Int) [6,7,28,29,30,31,32,33,34,35,36,37,38,39,40,41,42,43,44,45,46,47,48,49,50,51,52,53,54,55,56,57,58,59,60,61,62] (fun x=>[(6,.i (v-x.1))]) (fun x=>[(0,.live false 3 (curO b x.2.2.2.1 x.2.2.2.2)),(2,.live false 3 [[.i W,.sl 3 x.1 0 x.1,.sl 4 x.1 0 x.1]]),(3,.live false 1 (E true x.2.1)),(4,.live false 1 (E true x.2.2.1))]) (fun x=>(x.1:Int)≤v∧x.2.1.length=x.1∧x.2.2.1.length=x.1∧okI b x.2.2.2.1∧(∀j,j<x.1→0≤x.2.1.getD j default∧x.2.1.getD j default≤W-1)∧∀j,j<x.1→0≤x.2.2.1.getD j default∧x.2.2.1.getD j default≤W-1) (fun x=>v.toNat-x.1) (0,[],[],i3,h3) ⟨iE (by simp),trivial⟩ ⟨rfl,rfl,rfl,rfl,trivial⟩ ⟨by simp;omega,rfl,rfl,hi3,fun j hj=>absurd hj (Nat.not_lt_zero j),fun j hj=>absurd hj (Nat.not_lt_zero j)⟩ ?_
  rintro⟨k,fr,to,i4,h4⟩ ⟨k1,k2,k3,hi4,k4,k5⟩
  dsimp only at k1 k2 k3 hi4 k4 k5⊢
  have hok:=okQ_mk (k:=k) hWb (by omega) k2 k3 fun j hj=>⟨k4 j hj,k5 j hj⟩
  by_cases hk:0<v-k
  ·by_cases hW1:1<W
   ·repeat' first|refine s1 ?_|(refine kR ?_;first|(refine F.dr 0 ((hB _)) (by assumption) ?_;intro a i5 h5 ha hi5;replace ha:=ha.1 (by omega);refine F.xk ?_)|refine F.a1 Int ?_)|fail
    refine AW.draw 1 G.mixed (by kernel_rfl) ?_
    refine Pz (.p 0<|.p 2<|.p 3<|.p 4<|.p 5<|.p 8<|.a [(1,true,.o 6 true<|.p 7<|.p 9<|.o 10 false<|.p 11<|.o 12 true<|.o 13 false<|.p 14<|.o 15 false<|.n),(6,true,.p 7<|.p 9<|.a [(1,true,.o 10 false<|.p 11<|.o 12 true<|.o 13 false<|.p 14<|.o 15 false<|.n),(10,false,.p 11<|.a [(1,true,.o 12 true<|.o 13 false<|.p 14<|.o 15 false<|.n),(12,true,.o 1 true<|.o 13 false<|.p 14<|.o 15 false<|.n)])])]) ?_
    repeat' first|(refine yU (i:=10) ?_;first|refine s1 ?_|(refine F.dr 0 ((hB _)) (by assumption) ?_;intro e i6 h6 he hi6;replace he:=he.1 (by omega);refine F.xk ?_))|(refine yU (i:=13) ?_;first|refine s1 ?_|refine F.a1 Int ?_)|refine yS ?_|refine s1 ?_|refine yC ?_ ?_|exact trivial|fail
    any_goals refine lf ?_
    all_goals
     repeat' first|refine s1 ?_|fail
     exact⟨(k+1,fr++[a],to++[a+1+e],i6,h6),F.fit ⟨iE (by omega),trivial⟩ ⟨rfl,rfl,obE rfl,obE rfl,trivial⟩,⟨by show((k+1:Nat):Int)≤v;omega,by simp;omega,by simp;omega,hi6,getD_snoc (P:=fun y=>0≤y∧y≤W-1) k2 k4 (by omega),getD_snoc (P:=fun y=>0≤y∧y≤W-1) k3 k5 (by omega)⟩,by show v.toNat-(k+1)<v.toNat-k;omega⟩
   ·repeat' first|refine s1 ?_|fail
    exact F.rd ⟨W,fr,to⟩ hok hi4 (F.retM rfl ⟨rfl,trivial⟩)
  ·repeat' first|refine s1 ?_|fail
   exact F.rd ⟨W,fr,to⟩ hok hi4 (F.retM rfl ⟨rfl,trivial⟩)
theorem okQ_len{q:Quiv}(h:okQ q=true):lenQ 100 q:=by
 have:=okQ_spec h
 exact⟨by omega,by omega⟩
theorem l6Acyclic_x(b:List UInt8)(hl:b.length≤1048576):AD Tryz.prog 334 [] b (lenQ 100) (fun q=>[.agg (enc true q)]):=(l6Acyclic_ok b hl).mono fun q h=>okQ_len h
theorem l6Any_x(b:List UInt8)(hl:b.length≤1048576):AD Tryz.prog 233 [] b (lenQ 101) (fun q=>[.agg (enc true q)]):=by
 refine AD.go Tryz.func233 Tryz.ntmps233 rfl rfl fun i h hi w0 mp hw=>?_;simp[WfL,WfA,E_length,Enc.enc,In64] at hw
 have hA:=l6Acyclic_x b hl
 have hB:=fun n=>l1Below_x b hl n
 have hP:=fun k hk=>specNamedQuiver_n k hk
 have hS:=l1Pick_x b hl [⟨#[108,111,111,112]⟩,⟨#[99,105,114,99,108,101]⟩] (by decide) (by decide)
 have hI:=l1PickInt_x b hl [0,6,-1,2] (by decide) (by decide)
 repeat' first|refine s1 ?_|(refine kR ?_;first|(refine F.dr 0 (hA) (by assumption) ?_;intro q i2 h2 hq hi2;refine F.xk ?_)|(refine F.dr 0 ((hB _)) (by assumption) ?_;intro x i3 h3 hx hi3;refine F.xk ?_))|fail
 by_cases h0:x=0
 ·repeat' first|refine s1 ?_|(refine kR ?_;first|refine F.litN (xs:=V.E true ([⟨#[108,111,111,112]⟩,⟨#[99,105,114,99,108,101]⟩]:List ByteArray)) rfl rfl rfl rfl rfl rfl rfl rfl ?_)|fail
  refine F.freezeA (α:=ByteArray) (oo:=true) (ls:=[⟨#[108,111,111,112]⟩,⟨#[99,105,114,99,108,101]⟩]) 12 rfl rfl rfl ?_
  repeat' first|refine s1 ?_|(refine kR ?_;first|(refine F.dr 0 (hS) (by assumption) ?_;intro s i4 h4 hs hi4;refine F.xk ?_))|fail
  obtain⟨k,hk,rfl⟩:=hs
  have hPk:=hP (10+k) (by have:k<2:=hk;omega)
  rw[show nameL.getD (10+k) default=([⟨#[108,111,111,112]⟩,⟨#[99,105,114,99,108,101]⟩]:List ByteArray).getD k default by rw[nameL,Nat.add_comm];rfl] at hPk
  repeat' first|refine s1 ?_|(refine kR ?_;first|(refine F.x [] (hPk) ?_;rintro⟨q2,c⟩ hq2;refine F.xk ?_))|fail
  cases hq2
  have hl2:=okQ_len (tx_all (10+k) (by have:k<2:=hk;omega)).1
  exact F.rd (namQ.getD (10+k) default) ⟨by have:=hl2.1;omega,by have:=hl2.2;omega⟩ hi4 (F.retM rfl ⟨rfl,trivial⟩)
 ·by_cases h1:x=1
  ·repeat' first|refine s1 ?_|(refine kR ?_;first|refine F.litN (xs:=V.E true ([0,6,-1,2]:List Int)) rfl rfl rfl rfl rfl rfl rfl rfl ?_)|fail
   refine F.freezeA (α:=Int) (oo:=true) (ls:=[0,6,-1,2]) 20 rfl rfl rfl ?_
   repeat' first|refine s1 ?_|(refine kR ?_;first|(refine F.dr 0 (hI) (by assumption) ?_;intro v i4 h4 hs hi4;refine F.xk ?_))|fail
   exact F.rd ⟨v,q.fr,q.to⟩ ⟨by have:=hq.1;show q.fr.length≤101;omega,by have:=hq.2;show q.to.length≤101;omega⟩ hi4 (F.retM rfl ⟨rfl,trivial⟩)
  ·by_cases h2':x=2
   ·have hq1:=hq.1
    repeat' first|refine s1 ?_|fail
    refine AW.draw 1 G.mixed (by kernel_rfl) ?_
    refine Pz (.p 0<|.p 2<|.a [(1,true,.o 3 false<|.p 4<|.o 5 true<|.o 6 false<|.p 7<|.o 8 false<|.n),(3,false,.p 4<|.a [(1,true,.o 5 true<|.o 6 false<|.p 7<|.o 8 false<|.n),(5,true,.o 1 true<|.o 6 false<|.p 7<|.o 8 false<|.n)])]) ?_
    repeat' first|(refine yU (i:=3) ?_;first|refine s1 ?_|(refine F.dr 0 ((hB _)) (by assumption) ?_;intro e i6 h6 he hi6;replace he:=he.1 (by omega);refine F.xk ?_))|(refine yU (i:=6) ?_;first|refine s1 ?_|refine F.a1 Int ?_)|refine yS ?_|refine s1 ?_|refine yC ?_ ?_|exact trivial|fail
    any_goals refine lf ?_
    all_goals
     repeat' first|refine s1 ?_|fail
     exact F.rd ⟨q.n,q.fr++[e-1],q.to⟩ ⟨by show(q.fr++[e-1]).length≤101;simp;omega,by have:=hq.2;show q.to.length≤101;omega⟩ (by assumption) (F.retM rfl ⟨rfl,trivial⟩)
   ·repeat' first|refine s1 ?_|fail
    exact F.rd q ⟨by have:=hq.1;omega,by have:=hq.2;omega⟩ hi3 (F.retM rfl ⟨rfl,trivial⟩)
end Go.Proofs.YtjmjamhhppoimaaGreat.V
