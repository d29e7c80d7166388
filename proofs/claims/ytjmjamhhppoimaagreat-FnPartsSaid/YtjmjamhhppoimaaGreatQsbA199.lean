/- Texts that the proof needs: A93, A187, A199. -/
import Derived.Test.YtjmjamhhppoimaaGreatQsbA182
import Derived.Test.YtjmjamhhppoimaaGreatQsbA198
namespace Go.Proofs.YtjmjamhhppoimaaGreat.V
open Go.RowKit G D
set_option linter.unusedVariables false
set_option linter.unusedSimpArgs false
set_option maxHeartbeats 1000000
set_option maxRecDepth 4000
theorem mul_get{p:Int}{x y:Mat}{i j:Nat}(hi:i<x.r.toNat)(hj:j<y.c.toNat):ent (mulM p x y) i j=sumN (fun k=>ent x i k*ent y k j) x.c.toNat%p:=by
 unfold mulM
 rw[ent_tm _ hi hj]
 unfold mulF
 rw[dotK_sum]
theorem mat_ext{p:Int}{x y:Mat}(hx:isMat p x=true)(hy:isMat p y=true)(hr:x.r=y.r)(hc:x.c=y.c)(h:∀i,i<x.r.toNat→∀j,j<x.c.toNat→ent x i j=ent y i j):x=y:=by
 rw[←isMat_tm hx,←isMat_tm hy,←hr,←hc]
 unfold tm
 congr 1
 exact tab_ext h
theorem mor_mk{a b:Rep}{f:List Mat}(hf:fitR a b=true)(hl:f.length=a.d.length)(hm:∀v,v<f.length→isMat a.p (f.getD v default)=true∧(f.getD v default).c=a.d.getD v default∧(f.getD v default).r=b.d.getD v default)(h:∀i,i<a.q.fr.length→mulM a.p (b.m.getD i default) (f.getD (a.q.fr.getD i default).toNat default)=mulM a.p (f.getD (a.q.to.getD i default).toNat default) (a.m.getD i default)):isMor a b f=true:=by
 simp only[isMor,areM,Bool.and_eq_true,decide_eq_true_eq,List.all_eq_true]
 refine⟨⟨⟨hf,hl⟩,fun v hv=>?_⟩,fun i hi=>?_⟩
 ·obtain⟨m1,m2,m3⟩:=hm v (by simpa using hv)
  simp only[fitV,Bool.and_eq_true,decide_eq_true_eq]
  exact⟨⟨m1,m2⟩,m3⟩
 ·have:=h i (by simpa using hi)
  unfold arX arY
  rw[this]
  simp[sameM]
end Go.Proofs.YtjmjamhhppoimaaGreat.V
namespace Go.Proofs.YtjmjamhhppoimaaGreat.V
open V.Enc (enc)
open Go.RowKit G D
set_option linter.unusedVariables false
set_option linter.unusedSimpArgs false
set_option maxHeartbeats 4000000
set_option maxRecDepth 4000
attribute [local irreducible] AW ARg ARA ARet MRet ASil AC AM AMx ACx AD ARI
theorem l2Vector_x(b:List UInt8)(hl:b.length≤1048576)(p n:Int)(hn:n≤100):AD Tryz.prog 208 [.i p,.i n] b (fun v:List Int=>(v.length:Int)=max 0 n) (fun v=>[.dt true 1 (E true v)]):=by
 refine AD.go Tryz.func208 Tryz.ntmps208 rfl rfl fun i h hi w0 mp hw=>?_;simp[WfL,WfA,E_length,Enc.enc,In64] at hw
 have hB:=fun n=>l1Below_x b hl n
 have hO:=l1Once_x b hl 20
 have hI:=l1PickInt_x b hl [-1,5,9223372036854775807] (by decide) (by decide)
 repeat' first|refine s1 ?_|fail
 refine AW.open 7 1 (.inr rfl) ?_
 refine AW.only [(0,.pt 0 1 0 0),(1,.i p),(2,.i n),(7,.sl 1 0 0 0),(8,.i 0)] [(0,.live false 3 (curO b i h)),(1,.live false 1 (E true ([]:List Int)))] 2 ⟨rfl,rfl,rfl,rfl,rfl,trivial⟩ ⟨rfl,rfl,trivial⟩ rfl ?_
 refine F.loop (σ:=Nat×List Int×Int×Int) [7,8,10,11,12,13,14,15,16,17,18,19,20,21,22] (fun x=>[(7,.sl 1 x.1 0 x.1),(8,.i x.1)]) (fun x=>[(0,.live false 3 (curO b x.2.2.1 x.2.2.2)),(1,.live false 1 (E true x.2.1))]) (fun x=>(x.1:Int)≤max 0 n∧x.2.1.length=x.1∧okI b x.2.2.1) (fun x=>200-x.1) (0,[],i,h) ⟨rfl,rfl,trivial⟩ ⟨rfl,rfl,trivial⟩ ⟨by simp;omega,rfl,hi⟩ ?_
 rintro⟨k,l,i2,h2⟩ ⟨k1,k2,hi2⟩
 dsimp only at k1 k2 hi2⊢
 by_cases hk:(k:Int)<n
 ·repeat' first|refine s1 ?_|(refine kR ?_;first|(refine F.dr 0 ((hB _)) (by assumption) ?_;intro e i6 h6 he hi6;refine F.xk ?_)|refine F.sil (A.min2 rfl rfl) rfl rfl ?_|refine F.sil (A.max2 rfl rfl) rfl rfl ?_|refine F.a1 Int ?_)|fail
  exact⟨(k+1,l++[e],i6,h6),F.fit ⟨rfl,rfl,trivial⟩ ⟨rfl,obE rfl,trivial⟩,⟨by show((k+1:Nat):Int)≤max 0 n;omega,by simp;omega,hi6⟩,by show 200-(k+1)<200-k;omega⟩
 ·by_cases hn0:0<n
  ·repeat' first|refine s1 ?_|(refine kR ?_;first|(refine F.dr 0 (hO) (by assumption) ?_;intro c i3 h3 hc3 hi3;refine F.xk ?_))|fail
   cases c with
   |true=>
    repeat' first|refine s1 ?_|(refine kR ?_;first|refine F.litN (xs:=V.E true ([-1,5,9223372036854775807]:List Int)) rfl rfl rfl rfl rfl rfl rfl rfl ?_)|fail
    refine F.freezeA (α:=Int) (oo:=true) (ls:=[-1,5,9223372036854775807]) 31 rfl rfl rfl ?_
    repeat' first|refine s1 ?_|(refine kR ?_;first|(refine F.dr 0 (hI) (by assumption) ?_;intro v i4 h4 hv hi4;refine F.xk ?_))|fail
    exact F.rd (l.set (0+0) v) (by rw[List.length_set];omega) hi4 (F.retM rfl ⟨rfl,trivial⟩)
   |false=>
    repeat' first|refine s1 ?_|fail
    exact F.rd l (by omega) hi3 (F.retM rfl ⟨rfl,trivial⟩)
  ·repeat' first|refine s1 ?_|fail
   exact F.rd l (by omega) hi2 (F.retM rfl ⟨rfl,trivial⟩)
theorem l8Small_x(b:List UInt8)(hl:b.length≤1048576):AD Tryz.prog 282 [] b (fun r:Rep=>smallD r.d∧(okQ r.q=true→isRep r=true)∧(okQ r.q=false→r.d=[]∧r.m=[])) (fun r=>[repA r]):=by
 refine AD.go Tryz.func282 Tryz.ntmps282 rfl rfl fun i h hi w0 mp hw=>?_;simp[WfL,WfA,E_length,Enc.enc,In64] at hw
 have hP:=l8Prime_x b hl
 have hA:=l6Acyclic_x b hl
 have h2:=fun p q=>l8Of_x b hl p q 2 (by omega)
 repeat' first|(refine AW.putV 4 1 rfl rfl rfl rfl (E_length _ _) (E_pure _ _) rfl ?_;refine AW.putV 4 2 rfl rfl rfl rfl (E_length _ _) (E_pure _ _) rfl ?_;refine AW.freezeP (α:=Quiv) (oo:=true) q 4 rfl rfl ?_)|refine s1 ?_|(refine kR ?_;first|(refine F.dr 0 (hP) (by assumption) ?_;intro p i1 k1 hp hi1;refine F.xk ?_)|(refine F.dr 0 (hA) (by assumption) ?_;intro q i2 k2 hq hi2;refine F.xk ?_)|(refine F.dr 0 ((h2 _ _)) (by assumption) ?_;intro r i3 k3 hr hi3;refine F.xk ?_))|fail
 obtain⟨r1,r2,r3,r4,r5,r6⟩:=hr
 have hF:isF p=true:=isF_spec.2 (by omega)
 exact F.rd r ⟨r3,fun h=>r4 hF (by rw[←r2];exact h) (by omega),fun h=>r6 (by rw[←r2];exact h)⟩ hi3 (F.retM rfl ⟨rfl,trivial⟩)
theorem equalReps_a(r:Rep):AC Tryz.prog 29 [.agg (enc false r),.agg (enc false r)] [.b true]:=by
 refine AC.go Tryz.func29 Tryz.ntmps29 rfl rfl fun w0 hw=>?_;simp[WfL,WfA,E_length,Enc.enc,In64] at hw
 have hQ:=specEqualQuivers_a r.q r.q
 have hS:=l6Same_a r.d r.d
 have hM:=fun k=>specEqualMatrices_a (r.m.getD k default) (r.m.getD k default)
 rw[show sameQ r.q r.q=true by simp[sameQ]] at hQ
 rw[decide_eq_true rfl] at hS
 repeat' first|refine s1 ?_|(refine kR ?_;first|refine F.c (hQ) ?_|refine F.c (hS) ?_)|fail
 refine AW.freezeP (α:=Rep) (oo:=false) r 2 rfl rfl ?_
 refine AW.freezeP (α:=Rep) (oo:=false) r 3 rfl rfl ?_
 refine F.loop (σ:=Nat) [4,5,36,37,38,39,40,41,42,43,44,45,46,47,48,49,50,51,52,53,54] (fun k=>[(5,.i k)]) (fun _=>[]) (fun k=>k≤r.m.length) (fun k=>r.m.length-k) 0 ⟨rfl,trivial⟩ trivial (Nat.zero_le _) ?_
 rintro k k1
 by_cases hk:k<r.m.length
 ·have hMk:=hM k
  rw[show sameM (r.m.getD k default) (r.m.getD k default)=true by simp[sameM]] at hMk
  repeat' first|refine s1 ?_|fail
  refine AW.draw 12 G.mixed (by kernel_rfl) ?_
  refine Pz (.p 0<|.l 1<|.p 2<|.p 3<|.l 4<|.p 5<|.l 6<|.p 7<|.p 8<|.l 9<|.o 10 true<|.p 11<|.n) ?_
  repeat' first|refine yS ?_|refine s1 ?_|(refine kR ?_;first|refine F.c (hMk) ?_)|fail
  any_goals refine lf ?_
  all_goals
   repeat' first|refine s1 ?_|fail
   exact⟨k+1,F.fit ⟨rfl,trivial⟩ trivial,by omega,by omega⟩
 ·repeat' first|refine s1 ?_|fail
  (refine kZ ?_;exact F.ret rfl)
def inV(p:Int)(l:List Int):Prop:=0<p→∀j,j<l.length→0≤l.getD j default∧l.getD j default≤p-1
theorem inV.add{p x:Int}{l:List Int}(h:inV p l)(hx:0<p→0≤x∧x≤p-1):inV p (l++[x]):=fun hp j hj=>by
 by_cases e:j<l.length
 ·have:=h hp j e
  simpa[List.getElem?_append_left e,List.getD_eq_getElem?_getD] using this
 ·obtain rfl:j=l.length:=by simp at hj;omega
  simpa using hx hp
theorem l8Vector_x(b:List UInt8)(hl:b.length≤1048576)(p n:Int)(hn:n≤100):AD Tryz.prog 371 [.i p,.i n] b (fun v:List Int=>(v.length:Int)=max 0 n∧inV p v) (fun v=>[.dt true 1 (E true v)]):=by
 refine AD.go Tryz.func371 Tryz.ntmps371 rfl rfl fun i h hi w0 mp hw=>?_;simp[WfL,WfA,E_length,Enc.enc,In64] at hw
 have hB:=l1Below_x b hl p
 repeat' first|refine s1 ?_|fail
 refine AW.open 7 1 (.inr rfl) ?_
 refine AW.only [(0,.pt 0 1 0 0),(1,.i p),(2,.i n),(7,.sl 1 0 0 0),(8,.i 0)] [(0,.live false 3 (curO b i h)),(1,.live false 1 (E true ([]:List Int)))] 2 ⟨rfl,rfl,rfl,rfl,rfl,trivial⟩ ⟨rfl,rfl,trivial⟩ rfl ?_
 refine F.loop (σ:=Nat×List Int×Int×Int) [7,8,10,11,12,13,14,15,16,17,18,19,20] (fun x=>[(7,.sl 1 x.1 0 x.1),(8,.i x.1)]) (fun x=>[(0,.live false 3 (curO b x.2.2.1 x.2.2.2)),(1,.live false 1 (E true x.2.1))]) (fun x=>(x.1:Int)≤max 0 n∧x.2.1.length=x.1∧inV p x.2.1∧okI b x.2.2.1) (fun x=>200-x.1) (0,[],i,h) ⟨rfl,rfl,trivial⟩ ⟨rfl,rfl,trivial⟩ ⟨by simp;omega,rfl,fun _ j hj=>absurd hj (Nat.not_lt_zero j),hi⟩ ?_
 rintro⟨k,l,i2,h2⟩ ⟨k1,k2,k3,hi2⟩
 dsimp only at k1 k2 k3 hi2⊢
 by_cases hk:(k:Int)<n
 ·repeat' first|refine s1 ?_|(refine kR ?_;first|(refine F.dr 0 (hB) (by assumption) ?_;intro e i6 h6 he hi6;refine F.xk ?_)|refine F.a1 Int ?_)|fail
  exact⟨(k+1,l++[e],i6,h6),F.fit ⟨rfl,rfl,trivial⟩ ⟨rfl,obE rfl,trivial⟩,⟨by show((k+1:Nat):Int)≤max 0 n;omega,by simp;omega,k3.add (fun h0=>by have:=he.1 (by omega);omega),hi6⟩,by show 200-(k+1)<200-k;omega⟩
 ·repeat' first|refine s1 ?_|fail
  exact F.rd l ⟨by omega,k3⟩ hi2 (F.retM rfl ⟨rfl,trivial⟩)
theorem l12Close_none(r:Rep)(s:List Spc)(hs:s.length≤1000)(hm:r.m=[]):AM Tryz.prog 211 [.agg (enc false r),ar false s] [] [.dt true 2 (E false s)] []:=by
 refine AM.go Tryz.func211 Tryz.ntmps211 rfl rfl fun w0 mp hw=>?_;simp[WfL,WfA,E_length,Enc.enc,In64] at hw
 have hm0:r.m.length=0:=by rw[hm];rfl
 repeat' first|refine s1 ?_|(refine kR ?_;first|refine F.aLN Spc (oo:=false) ?_)|fail
 refine F.loop (σ:=Nat) [6,7,8,9,10,14,15,16,17,18,19,20,21,22,23,24,25,26,27,28,29,30,31,32,33,34,35,36,37,38,39,40,41,42,43,44,45,46,47,48,49,50,51,52,53,54,55,56,57,58,59,60,61,62,63,64] (fun k=>[(6,.i k)]) (fun _=>[]) (fun k=>k≤9) (fun k=>9-k) 0 ⟨rfl,trivial⟩ trivial (Nat.zero_le _) ?_
 rintro k k1
 by_cases hk:k<9
 ·repeat' first|refine s1 ?_|fail
  refine F.loop (σ:=Nat) [7,8,9,10,18,19,20,21,22,23,24,25,26,27,28,29,30,31,32,33,34,35,36,37,38,39,40,41,42,43,44,45,46,47,48,49,50,51,52,53,54,55,56,57,58,59,60,61,62,63,64] (fun _=>[(7,.i 0)]) (fun _=>[]) (fun _=>True) (fun _=>0) 0 ⟨rfl,trivial⟩ trivial trivial ?_
  rintro j _
  repeat' first|refine s1 ?_|fail
  exact⟨k+1,F.fit ⟨rfl,trivial⟩ trivial,by omega,by omega⟩
 ·obtain rfl:k=9:=by omega
  repeat' first|refine s1 ?_|fail
  refine kM ?_
  exact F.retM rfl trivial
end Go.Proofs.YtjmjamhhppoimaaGreat.V
