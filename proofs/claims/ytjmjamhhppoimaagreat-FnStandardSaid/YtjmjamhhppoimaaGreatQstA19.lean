/- Texts that the proof needs: A19. -/
import Derived.Test.YtjmjamhhppoimaaGreatQstB4
namespace Go.Proofs.YtjmjamhhppoimaaGreat.V
open V.Enc (enc)
open Go.RowKit G D
set_option linter.unusedVariables false
set_option linter.unusedSimpArgs false
set_option maxHeartbeats 16000000
set_option maxRecDepth 4000
attribute [local irreducible] AW ARg ARA ARet MRet KRet ASil AC AM AK
def lastOk(q:Quiv)(x:Pth):Prop:=x.a.length=0∨(0≤x.a.getD (x.a.length-1) default∧x.a.getD (x.a.length-1) default<q.to.length)
theorem end_a(q:Quiv)(x:Pth)(h:lastOk q x):AC Tryz.prog 288 [.agg (enc false q),.agg (enc false x)] [.i (endQ q x)]:=by
 refine AC.go Tryz.func288 Tryz.ntmps288 rfl rfl fun w0 hw=>?_;simp[WfL,WfA,E_length,Enc.enc,In64] at hw
 by_cases h0:x.a.length=0
 ·rw[endQ,if_pos h0]
  repeat' first|refine s1 ?_|fail
  (refine kZ ?_;exact F.ret rfl)
 ·have h1:=h.resolve_left h0
  rw[endQ,if_neg h0]
  have e:((x.a.length:Int)-1).toNat=x.a.length-1:=by omega
  rw[←e] at h1⊢
  repeat' first|refine s1 ?_|fail
  refine AW.draw 13 G.mixed (by kernel_rfl) ?_
  refine Pz (.p 0<|.l 1<|.p 2<|.l 3<|.p 4<|.l 5<|.p 6<|.p 7<|.p 8<|.l 9<|.p 10<|.l 11<|.p 12<|.n) ?_
  repeat' first|refine yS ?_|refine s1 ?_|fail
  any_goals refine lf ?_
  repeat' first|refine s1 ?_|fail
  (refine kZ ?_;exact F.ret rfl)
def conts(q:Quiv)(S:Nat→List Pth)(x:Pth)(k:Nat):List Pth:=x::(List.range k).flatMap fun i=>if q.fr.getD i default=endQ q x then S i else[]
theorem conts_succ(q:Quiv)(S:Nat→List Pth)(x:Pth)(k:Nat):conts q S x (k+1)=conts q S x k++(if q.fr.getD k default=endQ q x then S k else[]):=by
 simp[conts,List.range_succ,List.flatMap_append]
theorem conts_len{q:Quiv}{S:Nat→List Pth}{x:Pth}{B:Nat}:∀(k:Nat),(∀i,i<k→q.fr.getD i default=endQ q x→(S i).length≤B)→(conts q S x k).length≤1+k*B
 |0,_=>by simp[conts]
 |k+1,h=>by
  have h1:=conts_len k fun i hi=>h i (by omega)
  rw[conts_succ,List.length_append,Nat.add_mul,Nat.one_mul]
  split
  ·rename_i he
   have:=h k (by omega) he
   omega
  ·simp;omega
theorem pathsFrom_step(q:Quiv)(x:Pth)(S:Nat→List Pth)(hq:okQ q=true)(hx:lastOk q x)(hl:x.a.length≤100)(hS:∀i,i<q.fr.length→q.fr.getD i default=endQ q x→(S i).length≤100000∧AM Tryz.prog 286 [.agg (enc false q),.agg (enc false (⟨x.s,x.a++[(i:Int)]⟩:Pth))] [] [.dt true 2 (E false (S i))] []):
  AM Tryz.prog 286 [.agg (enc false q),.agg (enc false x)] [] [.dt true 2 (E false (conts q S x q.fr.length))] []:=by
 refine AM.go Tryz.func286 Tryz.ntmps286 rfl rfl fun w0 mp hw=>?_;simp[WfL,WfA,E_length,Enc.enc,In64] at hw
 have h5:=okQ_spec hq
 have hE:=end_a q x hx
 have hCl:=clone_a x.a (by omega)
 repeat' first|refine s1 ?_|fail
 refine F.loop (σ:=Nat) [5,6,7,13,14,15,16,17,18,19,20,21,22,23,24,25,26,27,28,29,30,31,32,33,34,35,36] (fun k=>[(5,.sl 2 (conts q S x k).length 0 (conts q S x k).length),(13,.i k)]) (fun k=>[(2,.live false 2 (E false (conts q S x k)))]) (fun k=>k≤q.fr.length) (fun k=>q.fr.length-k) 0 ⟨rfl,rfl,trivial⟩ ⟨rfl,trivial⟩ (Nat.zero_le _) ?_
 rintro k h1
 by_cases hlt:k<q.fr.length
 ·have hcl:=conts_len (q:=q) (S:=S) (x:=x) (B:=100000) k fun i hi he=>(hS i (by omega) he).1
  have hks:=conts_succ q S x k
  have hk6:k*100000≤6*100000:=Nat.mul_le_mul_right _ (by omega)
  generalize conts q S x k=L at hcl hks⊢
  by_cases he:q.fr.getD k default=endQ q x
  ·obtain⟨s1',s2'⟩:=hS k hlt he
   rw[if_pos he] at hks
   repeat' first|refine s1 ?_|(refine kR ?_;first|refine F.c (hE) ?_)|fail
   refine AW.draw 1 G.mixed (by kernel_rfl) ?_
   refine Pz (.p 0<|.p 2<|.p 4<|.p 7<|.a [(1,true,.a [(3,true,.a [(5,true,.a [(6,false,.o 8 true<|.o 9 false<|.h 9<|.p 10<|.o 11 false<|.o 12 false<|.p 13<|.n),(8,true,.o 6 false<|.o 9 false<|.h 9<|.p 10<|.o 11 false<|.o 12 false<|.p 13<|.n)]),(8,true,.o 5 true<|.o 6 false<|.o 9 false<|.h 9<|.p 10<|.o 11 false<|.o 12 false<|.p 13<|.n)]),(5,true,.a [(3,true,.a [(6,false,.o 8 true<|.o 9 false<|.h 9<|.p 10<|.o 11 false<|.o 12 false<|.p 13<|.n),(8,true,.o 6 false<|.o 9 false<|.h 9<|.p 10<|.o 11 false<|.o 12 false<|.p 13<|.n)]),(6,false,.a [(3,true,.o 8 true<|.o 9 false<|.h 9<|.p 10<|.o 11 false<|.o 12 false<|.p 13<|.n),(8,true,.a [(3,true,.o 9 false<|.h 9<|.p 10<|.o 11 false<|.o 12 false<|.p 13<|.n),(9,false,.h 9<|.o 3 true<|.p 10<|.o 11 false<|.o 12 false<|.p 13<|.n)])]),(8,true,.a [(3,true,.o 6 false<|.o 9 false<|.h 9<|.p 10<|.o 11 false<|.o 12 false<|.p 13<|.n),(6,false,.a [(3,true,.o 9 false<|.h 9<|.p 10<|.o 11 false<|.o 12 false<|.p 13<|.n),(9,false,.h 9<|.o 3 true<|.p 10<|.o 11 false<|.o 12 false<|.p 13<|.n)])])]),(8,true,.a [(3,true,.o 5 true<|.o 6 false<|.o 9 false<|.h 9<|.p 10<|.o 11 false<|.o 12 false<|.p 13<|.n),(5,true,.a [(3,true,.o 6 false<|.o 9 false<|.h 9<|.p 10<|.o 11 false<|.o 12 false<|.p 13<|.n),(6,false,.a [(3,true,.o 9 false<|.h 9<|.p 10<|.o 11 false<|.o 12 false<|.p 13<|.n),(9,false,.h 9<|.o 3 true<|.p 10<|.o 11 false<|.o 12 false<|.p 13<|.n)])])])]),(3,true,.a [(1,true,.a [(5,true,.a [(6,false,.o 8 true<|.o 9 false<|.h 9<|.p 10<|.o 11 false<|.o 12 false<|.p 13<|.n),(8,true,.o 6 false<|.o 9 false<|.h 9<|.p 10<|.o 11 false<|.o 12 false<|.p 13<|.n)]),(8,true,.o 5 true<|.o 6 false<|.o 9 false<|.h 9<|.p 10<|.o 11 false<|.o 12 false<|.p 13<|.n)]),(5,true,.a [(1,true,.a [(6,false,.o 8 true<|.o 9 false<|.h 9<|.p 10<|.o 11 false<|.o 12 false<|.p 13<|.n),(8,true,.o 6 false<|.o 9 false<|.h 9<|.p 10<|.o 11 false<|.o 12 false<|.p 13<|.n)]),(6,false,.a [(1,true,.o 8 true<|.o 9 false<|.h 9<|.p 10<|.o 11 false<|.o 12 false<|.p 13<|.n),(8,true,.a [(1,true,.o 9 false<|.h 9<|.p 10<|.o 11 false<|.o 12 false<|.p 13<|.n),(9,false,.h 9<|.p 10<|.o 1 true<|.o 11 false<|.o 12 false<|.p 13<|.n)])]),(8,true,.a [(1,true,.o 6 false<|.o 9 false<|.h 9<|.p 10<|.o 11 false<|.o 12 false<|.p 13<|.n),(6,false,.a [(1,true,.o 9 false<|.h 9<|.p 10<|.o 11 false<|.o 12 false<|.p 13<|.n),(9,false,.h 9<|.p 10<|.o 1 true<|.o 11 false<|.o 12 false<|.p 13<|.n)])])]),(8,true,.a [(1,true,.o 5 true<|.o 6 false<|.o 9 false<|.h 9<|.p 10<|.o 11 false<|.o 12 false<|.p 13<|.n),(5,true,.a [(1,true,.o 6 false<|.o 9 false<|.h 9<|.p 10<|.o 11 false<|.o 12 false<|.p 13<|.n),(6,false,.a [(1,true,.o 9 false<|.h 9<|.p 10<|.o 11 false<|.o 12 false<|.p 13<|.n),(9,false,.h 9<|.p 10<|.o 1 true<|.o 11 false<|.o 12 false<|.p 13<|.n)])])])]),(5,true,.a [(1,true,.a [(3,true,.a [(6,false,.o 8 true<|.o 9 false<|.h 9<|.p 10<|.o 11 false<|.o 12 false<|.p 13<|.n),(8,true,.o 6 false<|.o 9 false<|.h 9<|.p 10<|.o 11 false<|.o 12 false<|.p 13<|.n)]),(6,false,.a [(3,true,.o 8 true<|.o 9 false<|.h 9<|.p 10<|.o 11 false<|.o 12 false<|.p 13<|.n),(8,true,.a [(3,true,.o 9 false<|.h 9<|.p 10<|.o 11 false<|.o 12 false<|.p 13<|.n),(9,false,.h 9<|.o 3 true<|.p 10<|.o 11 false<|.o 12 false<|.p 13<|.n)])]),(8,true,.a [(3,true,.o 6 false<|.o 9 false<|.h 9<|.p 10<|.o 11 false<|.o 12 false<|.p 13<|.n),(6,false,.a [(3,true,.o 9 false<|.h 9<|.p 10<|.o 11 false<|.o 12 false<|.p 13<|.n),(9,false,.h 9<|.o 3 true<|.p 10<|.o 11 false<|.o 12 false<|.p 13<|.n)])])]),(3,true,.a [(1,true,.a [(6,false,.o 8 true<|.o 9 false<|.h 9<|.p 10<|.o 11 false<|.o 12 false<|.p 13<|.n),(8,true,.o 6 false<|.o 9 false<|.h 9<|.p 10<|.o 11 false<|.o 12 false<|.p 13<|.n)]),(6,false,.a [(1,true,.o 8 true<|.o 9 false<|.h 9<|.p 10<|.o 11 false<|.o 12 false<|.p 13<|.n),(8,true,.a [(1,true,.o 9 false<|.h 9<|.p 10<|.o 11 false<|.o 12 false<|.p 13<|.n),(9,false,.h 9<|.p 10<|.o 1 true<|.o 11 false<|.o 12 false<|.p 13<|.n)])]),(8,true,.a [(1,true,.o 6 false<|.o 9 false<|.h 9<|.p 10<|.o 11 false<|.o 12 false<|.p 13<|.n),(6,false,.a [(1,true,.o 9 false<|.h 9<|.p 10<|.o 11 false<|.o 12 false<|.p 13<|.n),(9,false,.h 9<|.p 10<|.o 1 true<|.o 11 false<|.o 12 false<|.p 13<|.n)])])]),(6,false,.a [(1,true,.a [(3,true,.o 8 true<|.o 9 false<|.h 9<|.p 10<|.o 11 false<|.o 12 false<|.p 13<|.n),(8,true,.a [(3,true,.o 9 false<|.h 9<|.p 10<|.o 11 false<|.o 12 false<|.p 13<|.n),(9,false,.h 9<|.o 3 true<|.p 10<|.o 11 false<|.o 12 false<|.p 13<|.n)])]),(3,true,.a [(1,true,.o 8 true<|.o 9 false<|.h 9<|.p 10<|.o 11 false<|.o 12 false<|.p 13<|.n),(8,true,.a [(1,true,.o 9 false<|.h 9<|.p 10<|.o 11 false<|.o 12 false<|.p 13<|.n),(9,false,.h 9<|.p 10<|.o 1 true<|.o 11 false<|.o 12 false<|.p 13<|.n)])]),(8,true,.a [(1,true,.a [(3,true,.o 9 false<|.h 9<|.p 10<|.o 11 false<|.o 12 false<|.p 13<|.n),(9,false,.h 9<|.o 3 true<|.p 10<|.o 11 false<|.o 12 false<|.p 13<|.n)]),(3,true,.a [(1,true,.o 9 false<|.h 9<|.p 10<|.o 11 false<|.o 12 false<|.p 13<|.n),(9,false,.h 9<|.p 10<|.o 1 true<|.o 11 false<|.o 12 false<|.p 13<|.n)]),(9,false,.h 9<|.a [(1,true,.o 3 true<|.p 10<|.o 11 false<|.o 12 false<|.p 13<|.n),(3,true,.p 10<|.o 1 true<|.o 11 false<|.o 12 false<|.p 13<|.n)])])]),(8,true,.a [(1,true,.a [(3,true,.o 6 false<|.o 9 false<|.h 9<|.p 10<|.o 11 false<|.o 12 false<|.p 13<|.n),(6,false,.a [(3,true,.o 9 false<|.h 9<|.p 10<|.o 11 false<|.o 12 false<|.p 13<|.n),(9,false,.h 9<|.o 3 true<|.p 10<|.o 11 false<|.o 12 false<|.p 13<|.n)])]),(3,true,.a [(1,true,.o 6 false<|.o 9 false<|.h 9<|.p 10<|.o 11 false<|.o 12 false<|.p 13<|.n),(6,false,.a [(1,true,.o 9 false<|.h 9<|.p 10<|.o 11 false<|.o 12 false<|.p 13<|.n),(9,false,.h 9<|.p 10<|.o 1 true<|.o 11 false<|.o 12 false<|.p 13<|.n)])]),(6,false,.a [(1,true,.a [(3,true,.o 9 false<|.h 9<|.p 10<|.o 11 false<|.o 12 false<|.p 13<|.n),(9,false,.h 9<|.o 3 true<|.p 10<|.o 11 false<|.o 12 false<|.p 13<|.n)]),(3,true,.a [(1,true,.o 9 false<|.h 9<|.p 10<|.o 11 false<|.o 12 false<|.p 13<|.n),(9,false,.h 9<|.p 10<|.o 1 true<|.o 11 false<|.o 12 false<|.p 13<|.n)]),(9,false,.h 9<|.a [(1,true,.o 3 true<|.p 10<|.o 11 false<|.o 12 false<|.p 13<|.n),(3,true,.p 10<|.o 1 true<|.o 11 false<|.o 12 false<|.p 13<|.n)])])])]),(8,true,.a [(1,true,.a [(3,true,.o 5 true<|.o 6 false<|.o 9 false<|.h 9<|.p 10<|.o 11 false<|.o 12 false<|.p 13<|.n),(5,true,.a [(3,true,.o 6 false<|.o 9 false<|.h 9<|.p 10<|.o 11 false<|.o 12 false<|.p 13<|.n),(6,false,.a [(3,true,.o 9 false<|.h 9<|.p 10<|.o 11 false<|.o 12 false<|.p 13<|.n),(9,false,.h 9<|.o 3 true<|.p 10<|.o 11 false<|.o 12 false<|.p 13<|.n)])])]),(3,true,.a [(1,true,.o 5 true<|.o 6 false<|.o 9 false<|.h 9<|.p 10<|.o 11 false<|.o 12 false<|.p 13<|.n),(5,true,.a [(1,true,.o 6 false<|.o 9 false<|.h 9<|.p 10<|.o 11 false<|.o 12 false<|.p 13<|.n),(6,false,.a [(1,true,.o 9 false<|.h 9<|.p 10<|.o 11 false<|.o 12 false<|.p 13<|.n),(9,false,.h 9<|.p 10<|.o 1 true<|.o 11 false<|.o 12 false<|.p 13<|.n)])])]),(5,true,.a [(1,true,.a [(3,true,.o 6 false<|.o 9 false<|.h 9<|.p 10<|.o 11 false<|.o 12 false<|.p 13<|.n),(6,false,.a [(3,true,.o 9 false<|.h 9<|.p 10<|.o 11 false<|.o 12 false<|.p 13<|.n),(9,false,.h 9<|.o 3 true<|.p 10<|.o 11 false<|.o 12 false<|.p 13<|.n)])]),(3,true,.a [(1,true,.o 6 false<|.o 9 false<|.h 9<|.p 10<|.o 11 false<|.o 12 false<|.p 13<|.n),(6,false,.a [(1,true,.o 9 false<|.h 9<|.p 10<|.o 11 false<|.o 12 false<|.p 13<|.n),(9,false,.h 9<|.p 10<|.o 1 true<|.o 11 false<|.o 12 false<|.p 13<|.n)])]),(6,false,.a [(1,true,.a [(3,true,.o 9 false<|.h 9<|.p 10<|.o 11 false<|.o 12 false<|.p 13<|.n),(9,false,.h 9<|.o 3 true<|.p 10<|.o 11 false<|.o 12 false<|.p 13<|.n)]),(3,true,.a [(1,true,.o 9 false<|.h 9<|.p 10<|.o 11 false<|.o 12 false<|.p 13<|.n),(9,false,.h 9<|.p 10<|.o 1 true<|.o 11 false<|.o 12 false<|.p 13<|.n)]),(9,false,.h 9<|.a [(1,true,.o 3 true<|.p 10<|.o 11 false<|.o 12 false<|.p 13<|.n),(3,true,.p 10<|.o 1 true<|.o 11 false<|.o 12 false<|.p 13<|.n)])])])])]) ?_
   repeat' first|(refine yU (i:=9) ?_;first|refine s1 ?_|refine F.a1 Int ?_)|(refine yH (i:=9) ?_ (fun h=>(dzA (α:=Int) 32 rfl rfl (by simp) h)))|(refine yU (i:=12) ?_;first|refine s1 ?_|refine F.aL Pth ?_ (hsrc:=.own rfl rfl (E_length _ _)))|refine yS ?_|refine s1 ?_|refine yC ?_ ?_|exact trivial|(refine kR ?_;first|refine F.c (hCl) ?_|refine F.w (s2') ?_)|fail
   all_goals
    refine lf ?_
    repeat' first|refine s1 ?_|fail
    exact⟨k+1,F.fit ⟨slE (by rw[hks];simp),rfl,trivial⟩ ⟨obE (by rw[hks]),trivial⟩,by omega,by omega⟩
  ·rw[if_neg he,List.append_nil] at hks
   repeat' first|refine s1 ?_|(refine kR ?_;first|refine F.c (hE) ?_)|fail
   exact⟨k+1,F.fit ⟨slE (by rw[hks]),rfl,trivial⟩ ⟨obE (by rw[hks]),trivial⟩,by omega,by omega⟩
 ·obtain rfl:k=q.fr.length:=by omega
  repeat' first|refine s1 ?_|fail
  refine kM ?_
  exact F.retM rfl trivial
end Go.Proofs.YtjmjamhhppoimaaGreat.V
