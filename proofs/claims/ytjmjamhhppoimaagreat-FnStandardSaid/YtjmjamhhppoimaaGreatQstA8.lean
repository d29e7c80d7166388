/- Texts that the proof needs: B2, A180, A8. -/
import Derived.Test.YtjmjamhhppoimaaGreatQstA6
namespace Go.Proofs.YtjmjamhhppoimaaGreat.V
open V.Enc (enc)
open Go.RowKit G D
set_option linter.unusedVariables false
set_option linter.unusedSimpArgs false
set_option maxHeartbeats 400000
attribute [local irreducible] AW ARg ARA ARet MRet ASil AC AM
theorem clone_a(xs:List Int)(h:xs.length≤1048576):AC Tryz.prog 143 [ar false xs] [.dt true 1 (E true xs)]:=by
 refine AC.go Tryz.func143 Tryz.ntmps143 rfl rfl fun w0 hw=>?_;simp[WfL,WfA,E_length,Enc.enc,In64] at hw
 repeat' first|refine s1 ?_|refine q1 ?_|fail
 refine F.eqD (xs:=E false xs) rfl rfl rfl fun b hb=>?_
 rw[E_length] at hb
 cases b with
 |true=>
  obtain rfl:=List.eq_nil_of_length_eq_zero (hb rfl)
  repeat' first|refine s1 ?_|refine q1 ?_|fail
  exact F.ret rfl
 |false=>
  repeat' first|refine s1 ?_|refine q1 ?_|(refine kR ?_;first|refine F.aLN (α:=Int) ?_)|fail
  exact F.ret rfl
theorem cloneQ_a(q:Quiv)(hb:q.fr.length≤1048576∧q.to.length≤1048576):AC Tryz.prog 293 [.agg (enc false q)] [.agg (enc true q)]:=by
 refine AC.go Tryz.func293 Tryz.ntmps293 rfl rfl fun w0 hw=>?_;simp[WfL,WfA,E_length,Enc.enc,In64] at hw
 have hA:=clone_a q.fr hb.1
 have hB:=clone_a q.to hb.2
 repeat' first|refine s1 ?_|refine q1 ?_|fail
 refine AW.draw 9 G.mixed (by kernel_rfl) ?_
 refine Pz (.p 0<|.l 1<|.p 2<|.l 3<|.p 5<|.l 6<|.o 4 true<|.o 7 true<|.p 8<|.o 9 false<|.n) ?_
 repeat' first|refine ySQ ?_|refine s1 ?_|refine q1 ?_|(refine kR ?_;first|refine F.c (hA) ?_|refine F.c (hB) ?_)|fail
 any_goals refine lf ?_
 repeat' first|refine s1 ?_|refine q1 ?_|fail
 exact F.ret rfl
abbrev zeroM(r c:Int):Mat:=⟨r,c,List.replicate (r*c).toNat 0⟩
theorem mulB{a b:Int}(ha:0≤a∧a≤1024)(hb:0≤b∧b≤1024):0≤a*b∧a*b≤1048576:=by
 refine⟨Int.mul_nonneg ha.1 hb.1,?_⟩
 have:=Int.mul_le_mul ha.2 hb.2 hb.1 (by omega:(0:Int)≤1024)
 omega
theorem zero_a(r c:Int)(hr:0≤r∧r≤1024)(hc:0≤c∧c≤1024):AC Tryz.prog 264 [.i r,.i c] [.agg (enc true (zeroM r c))]:=by
 refine AC.go Tryz.func264 Tryz.ntmps264 rfl rfl fun w0 hw=>?_;simp[WfL,WfA,E_length,Enc.enc,In64] at hw
 have h:=mulB hr hc
 have hi:In64 (r*c):=by unfold In64;omega
 repeat' first|refine s1 ?_|refine q1 ?_|(refine kR ?_;first|refine F.mk (m:=(r*c).toNat) Int rfl rfl (Int.toNat_of_nonneg h.1).symm (mkB (by omega)) (by omega) rfl rfl ?_)|fail
 exact F.ret rfl
theorem l3Zero_a(r c:Int)(hr:0≤r∧r≤1024)(hc:0≤c∧c≤1024):AC Tryz.prog 136 [.i r,.i c] [.agg (enc true (zeroM r c))]:=by
 refine AC.go Tryz.func136 Tryz.ntmps136 rfl rfl fun w0 hw=>?_;simp[WfL,WfA,E_length,Enc.enc,In64] at hw
 have h:=mulB hr hc
 have hi:In64 (r*c):=by unfold In64;omega
 repeat' first|refine s1 ?_|refine q1 ?_|(refine kR ?_;first|refine F.mk (m:=(r*c).toNat) Int rfl rfl (Int.toNat_of_nonneg h.1).symm (mkB (by omega)) (by omega) rfl rfl ?_)|fail
 exact F.ret rfl
theorem hasVertex_a(q:Quiv)(v:Int)(h:okQ q=true):AC Tryz.prog 128 [.agg (enc false q),.i v] [.b (decide (0≤v∧v≤q.n-1))]:=by
 refine AC.go Tryz.func128 Tryz.ntmps128 rfl rfl fun w0 hw=>?_;simp[WfL,WfA,E_length,Enc.enc,In64] at hw
 have h5:=okQ_spec h
 repeat' first|refine s1 ?_|refine q1 ?_|(refine kR ?_;first|(refine jCf 250 ?_;refine F.c (within_a _ _ _) ?_))|fail
 exact F.ret rfl
def gI(l:List Int)(i:Int):Int:=l.getD i.toNat default
def zeroMs(q:Quiv)(d:List Int):List Mat:=(List.range q.fr.length).map fun i=>zeroM (gI d (q.to.getD i default)) (gI d (q.fr.getD i default))
abbrev zeroR(p:Int)(q:Quiv)(d:List Int):Rep:=⟨p,q,d,zeroMs q d⟩
theorem range_take{n k:Nat}(h:k<n):(List.range n).take (k+1)=(List.range n).take k++[k]:=by
 rw[List.take_succ_eq_append_getElem (by simpa using h)];simp
theorem zeroMs_len(q:Quiv)(d:List Int):(zeroMs q d).length=q.fr.length:=by simp[zeroMs]
theorem zeroMs_take{q:Quiv}{d:List Int}{k:Nat}(h:k<q.fr.length):(zeroMs q d).take (k+1)=(zeroMs q d).take k++[zeroM (gI d (q.to.getD k default)) (gI d (q.fr.getD k default))]:=by
 simp only[zeroMs,←List.map_take,range_take h,List.map_append,List.map_cons,List.map_nil]
theorem zeroRep_a(p:Int)(q:Quiv)(d:List Int)(hq:okQ q=true)(hl:(d.length:Int)=q.n)(hd:∀j,j<d.length→0≤d.getD j default∧d.getD j default≤1024):AC Tryz.prog 142 [.i p,.agg (enc false q),ar false d] [.agg (enc true (zeroR p q d))]:=by
 refine AC.go Tryz.func142 Tryz.ntmps142 rfl rfl fun w0 hw=>?_;simp[WfL,WfA,E_length,Enc.enc,In64] at hw
 have h5:=okQ_spec hq
 have hA:=cloneQ_a q (by omega)
 have hB:=clone_a d (by omega)
 repeat' first|refine s1 ?_|refine q1 ?_|(refine kR ?_;first|refine F.c (hA) ?_|refine F.c (hB) ?_)|fail
 refine AW.openV (o:=5) (j:=5) 3 rfl rfl (.inl rfl) rfl ?_
 refine F.loop (σ:=Nat) [8,9,19,20,21,22,23,24,25,26,27,28,29,30,31,32,33,34,35,36,37,38,39,40,41,42] (fun k=>[(19,.i k)]) (fun k=>[(5,.live false 6 [[.i p,.i q.n,.sl 2 q.fr.length 0 q.fr.length,.sl 3 q.to.length 0 q.to.length,.sl 4 d.length 0 d.length,.sl 6 k 0 k]]),(6,.live false 3 (E true ((zeroMs q d).take k)))]) (fun k=>k≤q.fr.length) (fun k=>q.fr.length-k) 0 ⟨rfl,trivial⟩ ⟨rfl,rfl,trivial⟩ (Nat.zero_le _) ?_
 rintro k h1
 have hzl:=zeroMs_len q d
 have hp:((zeroMs q d).take k).length=k:=by rw[List.length_take];omega
 by_cases hlt:k<q.fr.length
 ·have f:=okQ_fr hq hlt
  have t:=okQ_to hq hlt
  have f':0≤q.fr.getD k default∧q.fr.getD k default<q.n:=f
  have t':0≤q.to.getD k default∧q.to.getD k default<q.n:=t
  have df:=hd (q.fr.getD k default).toNat (by omega)
  have dt:=hd (q.to.getD k default).toNat (by omega)
  have hZ:=zero_a _ _ dt df
  repeat' first|refine s1 ?_|refine q1 ?_|fail
  refine AW.draw 16 G.mixed (by kernel_rfl) ?_
  refine Pz (.p 0<|.l 1<|.p 2<|.p 3<|.l 4<|.p 5<|.p 6<|.l 7<|.p 8<|.l 9<|.p 10<|.p 11<|.p 12<|.l 13<|.o 14 true<|.o 15 true<|.o 16 false<|.p 17<|.o 18 false<|.n) ?_
  repeat' first|refine ySQ ?_|refine s1 ?_|refine q1 ?_|(refine kR ?_;first|refine F.c (hZ) ?_|refine F.a1 Mat ?_)|fail
  any_goals refine lf ?_
  repeat' first|refine s1 ?_|refine q1 ?_|fail
  exact⟨k+1,F.fit ⟨rfl,trivial⟩ ⟨rfl,obE (by rw[zeroMs_take hlt];rfl),trivial⟩,by omega,by omega⟩
 ·obtain rfl:k=q.fr.length:=by omega
  rw[←hzl,List.take_length]
  repeat' first|refine s1 ?_|refine q1 ?_|fail
  refine F.ret rfl
end Go.Proofs.YtjmjamhhppoimaaGreat.V
namespace Go.Proofs.YtjmjamhhppoimaaGreat.V
open V.Enc (enc)
open Go.RowKit G D
set_option linter.unusedVariables false
set_option linter.unusedSimpArgs false
set_option maxHeartbeats 400000
set_option maxRecDepth 4000
attribute [local irreducible] AW ARg ARA ARet MRet ASil AC AM
theorem tmod_bd{x p:Int}(hp:0<p):-p<x.tmod p∧x.tmod p<p:=by
 have h1:=Int.natAbs_tmod x p
 have h2:x.natAbs%p.natAbs<p.natAbs:=Nat.mod_lt _ (by omega)
 omega
theorem emod_tmod{x p:Int}(hp:0<p):x%p=if x.tmod p<0 then x.tmod p+p else x.tmod p:=by
 have h:=Int.mul_tdiv_add_tmod x p
 have hb:=tmod_bd (x:=x) hp
 have e:x%p=x.tmod p%p:=by
  conv=>lhs;rw[←h]
  rw[Int.add_comm,Int.add_mul_emod_self_left]
 rw[e]
 split
 ·rw[←Int.add_emod_right,Int.emod_eq_of_lt (by omega) (by omega)]
 ·rw[Int.emod_eq_of_lt (by omega) (by omega)]
theorem l2Mod_a(p x:Int)(hp:0<p∧p≤1024):AC Tryz.prog 318 [.i p,.i x] [.i (x%p)]:=by
 refine AC.go Tryz.func318 Tryz.ntmps318 rfl rfl fun w0 hw=>?_;simp[WfL,WfA,E_length,Enc.enc,In64] at hw
 have hb:=tmod_bd (x:=x) hp.1
 have he:=emod_tmod (x:=x) hp.1
 have hi:In64 (x.tmod p+p):=by unfold In64;omega
 by_cases h:x.tmod p<0
 ·rw[if_pos h] at he
  rw[he]
  repeat' first|refine s1 ?_|refine q1 ?_|(refine kR ?_;first|refine F.sil (A.rem rfl rfl (by omega)) rfl rfl ?_)|fail
  (refine kZ ?_;exact F.ret rfl)
 ·rw[if_neg h] at he
  rw[he]
  repeat' first|refine s1 ?_|refine q1 ?_|(refine kR ?_;first|refine F.sil (A.rem rfl rfl (by omega)) rfl rfl ?_)|fail
  (refine kZ ?_;exact F.ret rfl)
theorem isF_pos{p:Int}(h:isF p=true):2≤p∧p≤5:=by
 have:=isF_spec.mp h;omega
theorem inv_bd:∀p∈[2,3,5],∀x∈[0,1,2,3,4],x<p→0≤invP (p:Int) x∧invP p x≤p-1:=by decide
theorem mem5{x:Int}(h:0≤x∧x≤4):x∈[0,1,2,3,4]:=by
 have:x=0∨x=1∨x=2∨x=3∨x=4:=by omega
 rcases this with rfl|rfl|rfl|rfl|rfl<;>decide
theorem memF{p:Int}(h:isF p=true):p∈[2,3,5]:=by
 rcases isF_spec.mp h with rfl|rfl|rfl<;>decide
theorem invP_bd{p x:Int}(h:isF p=true)(hx:0≤x∧x≤p-1):0≤invP p x∧invP p x≤p-1:=by
 have:=isF_pos h
 exact inv_bd p (memF h) x (mem5 (by omega)) (by omega)
theorem IndexFuncM_a(xs:List Mat)(f:Nat)[IsFn Tryz.prog f](cs:List AV)(p:Mat→Bool)(hcs:∀hp,SnapL hp cs cs)(hf:∀x∈xs,AC Tryz.prog f (.agg (enc false x)::cs) [.b (p x)]):
  AC Tryz.prog 294 [ar false xs,.fn f cs] [.i (idxFrom p xs 0)]:=by
 refine AC.go Tryz.func294 Tryz.ntmps294 rfl rfl fun w0 hw=>?_;simp[WfL,WfA,E_length,Enc.enc,In64] at hw
 repeat' first|refine s1 ?_|refine q1 ?_|(refine s2 ?_ ?_<;>intro hc<;>(try simp only[decide_eq_true_eq,decide_eq_false_iff_not,Bool.not_eq_true',Bool.not_eq_false'] at hc))|fail
 refine F.loop (σ:=Nat) [4,5,8,9,10,11,12,13,14,15,16,17,18] (fun k=>[(8,.i k)]) (fun _=>[]) (fun k=>k≤xs.length∧idxFrom p xs 0=idxFrom p (xs.drop k) k) (fun k=>xs.length-k) 0 ⟨rfl,trivial⟩ trivial ⟨Nat.zero_le _,rfl⟩ ?_
 rintro k ⟨hk,hi⟩
 by_cases hlt:k<xs.length
 ·rw[idxFrom_drop p xs hlt] at hi
  have h1:=hf (xs.getD k default) (gm hlt)
  cases hpx:p (xs.getD k default) with
  |true=>
   rw[hpx] at hi h1
   repeat' first|refine s1 ?_|refine q1 ?_|(refine kR ?_;first|refine F.cv (h1) ?_)|(refine s2 ?_ ?_<;>intro hc<;>(try simp only[decide_eq_true_eq,decide_eq_false_iff_not,Bool.not_eq_true',Bool.not_eq_false'] at hc))|fail
   refine F.ret ?_
   simp[hi]
  |false=>
   rw[hpx] at hi h1
   repeat' first|refine s1 ?_|refine q1 ?_|(refine kR ?_;first|refine F.cv (h1) ?_)|(refine s2 ?_ ?_<;>intro hc<;>(try simp only[decide_eq_true_eq,decide_eq_false_iff_not,Bool.not_eq_true',Bool.not_eq_false'] at hc))|fail
   exact⟨k+1,F.fit ⟨rfl,trivial⟩ trivial,⟨by omega,hi⟩,by omega⟩
 ·have e:k=xs.length:=by omega
  subst e
  repeat' first|refine s1 ?_|refine q1 ?_|(refine s2 ?_ ?_<;>intro hc<;>(try simp only[decide_eq_true_eq,decide_eq_false_iff_not,Bool.not_eq_true',Bool.not_eq_false'] at hc))|fail
  refine F.ret ?_
  simp[hi,idxFrom]
theorem ContainsFuncM_a(xs:List Mat)(f:Nat)[IsFn Tryz.prog f](cs:List AV)(p:Mat→Bool)(hcs:∀hp,SnapL hp cs cs)(hf:∀x∈xs,AC Tryz.prog f (.agg (enc false x)::cs) [.b (p x)]):
  AC Tryz.prog 150 [ar false xs,.fn f cs] [.b (xs.any p)]:=by
 refine AC.go Tryz.func150 Tryz.ntmps150 rfl rfl fun w0 hw=>?_;simp[WfL,WfA,E_length,Enc.enc,In64] at hw
 repeat' first|refine s1 ?_|refine q1 ?_|(refine kR ?_;first|refine F.c (IndexFuncM_a xs f cs p hcs hf) ?_)|fail
 exact F.ret (by rw[←idxFrom_any p xs 0])
theorem IndexFuncP_a(xs:List Pth)(f:Nat)[IsFn Tryz.prog f](cs:List AV)(p:Pth→Bool)(hcs:∀hp,SnapL hp cs cs)(hf:∀x∈xs,AC Tryz.prog f (.agg (enc false x)::cs) [.b (p x)]):
  AC Tryz.prog 144 [ar false xs,.fn f cs] [.i (idxFrom p xs 0)]:=by
 refine AC.go Tryz.func144 Tryz.ntmps144 rfl rfl fun w0 hw=>?_;simp[WfL,WfA,E_length,Enc.enc,In64] at hw
 repeat' first|refine s1 ?_|refine q1 ?_|(refine s2 ?_ ?_<;>intro hc<;>(try simp only[decide_eq_true_eq,decide_eq_false_iff_not,Bool.not_eq_true',Bool.not_eq_false'] at hc))|fail
 refine F.loop (σ:=Nat) [4,5,8,9,10,11,12,13,14,15,16,17,18] (fun k=>[(8,.i k)]) (fun _=>[]) (fun k=>k≤xs.length∧idxFrom p xs 0=idxFrom p (xs.drop k) k) (fun k=>xs.length-k) 0 ⟨rfl,trivial⟩ trivial ⟨Nat.zero_le _,rfl⟩ ?_
 rintro k ⟨hk,hi⟩
 by_cases hlt:k<xs.length
 ·rw[idxFrom_drop p xs hlt] at hi
  have h1:=hf (xs.getD k default) (gm hlt)
  cases hpx:p (xs.getD k default) with
  |true=>
   rw[hpx] at hi h1
   repeat' first|refine s1 ?_|refine q1 ?_|(refine kR ?_;first|refine F.cv (h1) ?_)|(refine s2 ?_ ?_<;>intro hc<;>(try simp only[decide_eq_true_eq,decide_eq_false_iff_not,Bool.not_eq_true',Bool.not_eq_false'] at hc))|fail
   refine F.ret ?_
   simp[hi]
  |false=>
   rw[hpx] at hi h1
   repeat' first|refine s1 ?_|refine q1 ?_|(refine kR ?_;first|refine F.cv (h1) ?_)|(refine s2 ?_ ?_<;>intro hc<;>(try simp only[decide_eq_true_eq,decide_eq_false_iff_not,Bool.not_eq_true',Bool.not_eq_false'] at hc))|fail
   exact⟨k+1,F.fit ⟨rfl,trivial⟩ trivial,⟨by omega,hi⟩,by omega⟩
 ·have e:k=xs.length:=by omega
  subst e
  repeat' first|refine s1 ?_|refine q1 ?_|(refine s2 ?_ ?_<;>intro hc<;>(try simp only[decide_eq_true_eq,decide_eq_false_iff_not,Bool.not_eq_true',Bool.not_eq_false'] at hc))|fail
  refine F.ret ?_
  simp[hi,idxFrom]
end Go.Proofs.YtjmjamhhppoimaaGreat.V
namespace Go.Proofs.YtjmjamhhppoimaaGreat.V
open Go.RowKit G D
set_option linter.unusedVariables false
set_option linter.unusedSimpArgs false
set_option maxHeartbeats 4000000
set_option maxRecDepth 4000
attribute [local irreducible] AW ARg ARA ARet MRet ASil AC AM AMx ACx AD
theorem pick_bd{l:List Int}{lo hi v:Int}(h:∀x∈l,lo≤x∧x≤hi)(hv:∃k,k<l.length∧v=l.getD k default):lo≤v∧v≤hi:=by
 obtain⟨k,hk,rfl⟩:=hv
 have:=h l[k] (List.getElem_mem hk)
 simpa[hk] using this
theorem l2Prime_x(b:List UInt8)(hl:b.length≤1048576):AD Tryz.prog 301 [] b (fun p:Int=>-1≤p∧p≤7) (fun p=>[.i p]):=by
 refine AD.go Tryz.func301 Tryz.ntmps301 rfl rfl fun i h hi w0 mp hw=>?_;simp[WfL,WfA,E_length,Enc.enc,In64] at hw
 have hO:=l1Once_x b hl 16
 have hI:=l1PickInt_x b hl [-1,0,1,4,7] (by decide) (by decide)
 have hJ:=l1PickInt_x b hl [2,3,5,2,3] (by decide) (by decide)
 repeat' first|refine s1 ?_|(refine kR ?_;first|(refine F.dr 0 (hO) (by assumption) ?_;intro c i2 h2 hc3 hi2;refine F.xk ?_))|fail
 cases c with
 |true=>
  repeat' first|refine s1 ?_|(refine kR ?_;first|refine F.litN (xs:=V.E true ([-1,0,1,4,7]:List Int)) rfl rfl rfl rfl rfl rfl rfl rfl ?_)|fail
  refine F.freezeA (α:=Int) (oo:=true) (ls:=[-1,0,1,4,7]) 6 rfl rfl rfl ?_
  repeat' first|refine s1 ?_|(refine kR ?_;first|(refine F.dr 0 (hI) (by assumption) ?_;intro v i3 h3 hv hi3;refine F.xk ?_))|fail
  exact F.rd v (pick_bd (by decide) hv) hi3 (F.retM rfl ⟨rfl,trivial⟩)
 |false=>
  repeat' first|refine s1 ?_|(refine kR ?_;first|refine F.litN (xs:=V.E true ([2,3,5,2,3]:List Int)) rfl rfl rfl rfl rfl rfl rfl rfl ?_)|fail
  refine F.freezeA (α:=Int) (oo:=true) (ls:=[2,3,5,2,3]) 9 rfl rfl rfl ?_
  repeat' first|refine s1 ?_|(refine kR ?_;first|(refine F.dr 0 (hJ) (by assumption) ?_;intro v i3 h3 hv hi3;refine F.xk ?_))|fail
  exact F.rd v (pick_bd (by decide) hv) hi3 (F.retM rfl ⟨rfl,trivial⟩)
theorem l8Prime_x(b:List UInt8)(hl:b.length≤1048576):AD Tryz.prog 234 [] b (fun p:Int=>2≤p∧p≤3) (fun p=>[.i p]):=by
 refine AD.go Tryz.func234 Tryz.ntmps234 rfl rfl fun i h hi w0 mp hw=>?_;simp[WfL,WfA,E_length,Enc.enc,In64] at hw
 have hJ:=l1PickInt_x b hl [2,3,2] (by decide) (by decide)
 repeat' first|refine s1 ?_|(refine kR ?_;first|refine F.litN (xs:=V.E true ([2,3,2]:List Int)) rfl rfl rfl rfl rfl rfl rfl rfl ?_)|fail
 refine F.freezeA (α:=Int) (oo:=true) (ls:=[2,3,2]) 4 rfl rfl rfl ?_
 repeat' first|refine s1 ?_|(refine kR ?_;first|(refine F.dr 0 (hJ) (by assumption) ?_;intro v i3 h3 hv hi3;refine F.xk ?_))|fail
 exact F.rd v (pick_bd (by decide) hv) hi3 (F.retM rfl ⟨rfl,trivial⟩)
end Go.Proofs.YtjmjamhhppoimaaGreat.V
namespace Go.Proofs.YtjmjamhhppoimaaGreat.V
open V.Enc (enc)
open Go.RowKit G D
set_option linter.unusedVariables false
set_option linter.unusedSimpArgs false
set_option maxHeartbeats 400000
attribute [local irreducible] AW ARg ARA ARet MRet ASil AC AM
theorem l8Zero_a(p:Int)(q:Quiv)(d:List Int)(hq:okQ q=true)(hl:(d.length:Int)=q.n)(hd:∀j,j<d.length→0≤d.getD j default∧d.getD j default≤1024):AC Tryz.prog 163 [.i p,.agg (enc false q),ar false d] [.agg (enc true (zeroR p q d))]:=by
 refine AC.go Tryz.func163 Tryz.ntmps163 rfl rfl fun w0 hw=>?_;simp[WfL,WfA,E_length,Enc.enc,In64] at hw
 have h5:=okQ_spec hq
 have hA:=l6Copy_a q (by omega)
 repeat' first|refine s1 ?_|(refine kR ?_;first|refine F.c (hA) ?_|refine F.aLN (α:=Int) ?_)|fail
 refine AW.openV (o:=5) (j:=5) 3 rfl rfl (.inr rfl) rfl ?_
 refine F.loop (σ:=Nat) [8,17,18,19,20,21,22,23,24,25,26,27,28,29,30,31,32,33,34,35,36,37,38,39,40,41,42,43,44,45] (fun k=>[(8,.i k)]) (fun k=>[(5,.live false 6 [[.i p,.i q.n,.sl 2 q.fr.length 0 q.fr.length,.sl 3 q.to.length 0 q.to.length,.sl 4 d.length 0 d.length,.sl 6 k 0 k]]),(6,.live false 3 (E true ((zeroMs q d).take k)))]) (fun k=>k≤q.fr.length) (fun k=>q.fr.length-k) 0 ⟨rfl,trivial⟩ ⟨rfl,rfl,trivial⟩ (Nat.zero_le _) ?_
 rintro k h1
 have hzl:=zeroMs_len q d
 have hp:((zeroMs q d).take k).length=k:=by rw[List.length_take];omega
 by_cases hlt:k<q.fr.length
 ·have f:=okQ_fr hq hlt
  have t:=okQ_to hq hlt
  have f':0≤q.fr.getD k default∧q.fr.getD k default<q.n:=f
  have t':0≤q.to.getD k default∧q.to.getD k default<q.n:=t
  have df:=hd (q.fr.getD k default).toNat (by omega)
  have dt:=hd (q.to.getD k default).toNat (by omega)
  have hZ:=l3Zero_a _ _ dt df
  repeat' first|refine s1 ?_|fail
  refine AW.draw 20 G.mixed (by kernel_rfl) ?_
  refine Pz (.p 0<|.l 1<|.p 2<|.p 3<|.l 4<|.p 5<|.p 6<|.l 7<|.p 8<|.l 9<|.p 10<|.p 11<|.l 12<|.p 13<|.p 14<|.l 15<|.p 16<|.l 17<|.o 18 true<|.o 19 true<|.o 20 false<|.p 21<|.o 22 false<|.n) ?_
  repeat' first|refine yS ?_|refine s1 ?_|(refine kR ?_;first|refine F.c (hZ) ?_|refine F.a1 Mat ?_)|fail
  any_goals refine lf ?_
  repeat' first|refine s1 ?_|fail
  exact⟨k+1,F.fit ⟨rfl,trivial⟩ ⟨rfl,obE (by rw[zeroMs_take hlt];rfl),trivial⟩,by omega,by omega⟩
 ·obtain rfl:k=q.fr.length:=by omega
  rw[←hzl,List.take_length]
  repeat' first|refine s1 ?_|fail
  refine F.ret rfl
def noR:Rep:=⟨0,⟨0,[],[]⟩,[],[]⟩
def oneAt(n v:Int):List Int:=(List.replicate n.toNat (0:Int)).set v.toNat 1
theorem oneAt_len(n v:Int):(oneAt n v).length=n.toNat:=by simp[oneAt]
theorem oneAt_bd(n v:Int):∀j,j<(oneAt n v).length→0≤(oneAt n v).getD j default∧(oneAt n v).getD j default≤1024:=fun j hj=>by
 rw[oneAt_len] at hj
 unfold oneAt
 by_cases h:v.toNat=j
 ·subst h;simp[hj]
 ·simp[hj,h]
def simpleR(p:Int)(q:Quiv)(v:Int):Rep×Bool:=if isF p=true∧okQ q=true∧0≤v∧v≤q.n-1 then(zeroR p q (oneAt q.n v),true) else(noR,false)
theorem implSimpleRep_a(p:Int)(q:Quiv)(v:Int):AC Tryz.prog 24 [.i p,.agg (enc false q),.i v] [.agg (enc true (simpleR p q v).1),.b (simpleR p q v).2]:=by
 refine AC.go Tryz.func24 Tryz.ntmps24 rfl rfl fun w0 hw=>?_;simp[WfL,WfA,E_length,Enc.enc,In64] at hw
 have hF:=implIsField_a p
 cases hf:isF p with
 |false=>
  rw[hf] at hF
  rw[simpleR,if_neg (by simp[hf])]
  repeat' first|refine s1 ?_|(refine kR ?_;first|refine F.c (hF) ?_)|fail
  (refine kZ ?_;exact F.ret rfl)
 |true=>
  rw[hf] at hF
  have hQ:=implIsQuiver_a q
  cases hq:okQ q with
  |false=>
   rw[hq] at hQ
   rw[simpleR,if_neg (by simp[hq])]
   repeat' first|refine s1 ?_|(refine kR ?_;first|refine F.c (hF) ?_|refine F.c (hQ) ?_)|fail
   (refine kZ ?_;exact F.ret rfl)
  |true=>
   rw[hq] at hQ
   have h5:=okQ_spec hq
   have hV:=hasVertex_a q v hq
   by_cases hv:0≤v∧v≤q.n-1
   ·rw[decide_eq_true hv] at hV
    rw[simpleR,if_pos ⟨hf,hq,hv⟩]
    have hZ:=zeroRep_a p q (oneAt q.n v) hq (by rw[oneAt_len];omega) (oneAt_bd _ _)
    repeat' first|refine s1 ?_|(refine kR ?_;first|refine F.c (hF) ?_|refine F.c (hQ) ?_|refine F.c (hV) ?_|refine F.mk (m:=q.n.toNat) Int rfl rfl (Int.toNat_of_nonneg (by omega)).symm (mkB (by omega)) (by omega) rfl rfl ?_)|fail
    rw[Nat.zero_add v.toNat,show(List.replicate q.n.toNat (0:Int)).set v.toNat 1=oneAt q.n v from rfl]
    generalize zeroR p q (oneAt q.n v)=R at hZ⊢
    have hdl:=oneAt_len q.n v
    generalize oneAt q.n v=d at hZ hdl⊢
    repeat' first|refine s1 ?_|(refine kR ?_;first|refine F.c (hZ) ?_)|fail
    (refine kZ ?_;exact F.ret rfl)
   ·rw[decide_eq_false hv] at hV
    rw[simpleR,if_neg (fun h=>hv h.2.2)]
    repeat' first|refine s1 ?_|(refine kR ?_;first|refine F.c (hF) ?_|refine F.c (hQ) ?_|refine F.c (hV) ?_)|fail
    (refine kZ ?_;exact F.ret rfl)
theorem specSimpleRep_a(p:Int)(q:Quiv)(v:Int):AC Tryz.prog 25 [.i p,.agg (enc false q),.i v] [.agg (enc true (simpleR p q v).1),.b (simpleR p q v).2]:=by
 refine AC.go Tryz.func25 Tryz.ntmps25 rfl rfl fun w0 hw=>?_;simp[WfL,WfA,E_length,Enc.enc,In64] at hw
 have hF:=specIsField_a p
 cases hf:isF p with
 |false=>
  rw[hf] at hF
  rw[simpleR,if_neg (by simp[hf])]
  repeat' first|refine s1 ?_|(refine kR ?_;first|refine F.c (hF) ?_)|fail
  (refine kZ ?_;exact F.ret rfl)
 |true=>
  rw[hf] at hF
  have hQ:=specIsQuiver_a q
  cases hq:okQ q with
  |false=>
   rw[hq] at hQ
   rw[simpleR,if_neg (by simp[hq])]
   repeat' first|refine s1 ?_|(refine kR ?_;first|refine F.c (hF) ?_|refine F.c (hQ) ?_)|fail
   (refine kZ ?_;exact F.ret rfl)
  |true=>
   rw[hq] at hQ
   have h5:=okQ_spec hq
   have hV:=l1In_a v 0 (q.n-1)
   by_cases hv:0≤v∧v≤q.n-1
   ·rw[decide_eq_true hv] at hV
    rw[simpleR,if_pos ⟨hf,hq,hv⟩]
    have hZ:=l8Zero_a p q (oneAt q.n v) hq (by rw[oneAt_len];omega) (oneAt_bd _ _)
    repeat' first|refine s1 ?_|(refine kR ?_;first|refine F.c (hF) ?_|refine F.c (hQ) ?_|refine F.c (hV) ?_|refine F.mk (m:=q.n.toNat) Int rfl rfl (Int.toNat_of_nonneg (by omega)).symm (mkB (by omega)) (by omega) rfl rfl ?_)|fail
    rw[Nat.zero_add v.toNat,show(List.replicate q.n.toNat (0:Int)).set v.toNat 1=oneAt q.n v from rfl]
    generalize zeroR p q (oneAt q.n v)=R at hZ⊢
    have hdl:=oneAt_len q.n v
    generalize oneAt q.n v=d at hZ hdl⊢
    repeat' first|refine s1 ?_|(refine kR ?_;first|refine F.c (hZ) ?_)|fail
    (refine kZ ?_;exact F.ret rfl)
   ·rw[decide_eq_false hv] at hV
    rw[simpleR,if_neg (fun h=>hv h.2.2)]
    repeat' first|refine s1 ?_|(refine kR ?_;first|refine F.c (hF) ?_|refine F.c (hQ) ?_|refine F.c (hV) ?_)|fail
    (refine kZ ?_;exact F.ret rfl)
end Go.Proofs.YtjmjamhhppoimaaGreat.V
