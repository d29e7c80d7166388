/- Texts that the proof needs: A162, A166, Ul, Uz. -/
import Derived.Test.YtjmjamhhppoimaaGreatQraA161
namespace Go.Proofs.YtjmjamhhppoimaaGreat.V
open V.Enc (enc)
open Go.RowKit G D
set_option linter.unusedVariables false
set_option linter.unusedSimpArgs false
set_option maxHeartbeats 4000000
set_option maxRecDepth 4000
attribute [local irreducible] AW ARg ARA ARet MRet ASil AC AM AMx
abbrev strA(s:ByteArray):AV:=.q fun v=>v=.string s
theorem l1Pick_x(b:List UInt8)(hl:b.length≤1048576)(l:List ByteArray)(h0:0<l.length)(h1:l.length≤1000):AD Tryz.prog 335 [ar false l] b (fun s:ByteArray=>∃k,k<l.length∧s=l.getD k default) (fun s=>[strA s]):=by
 refine AD.go Tryz.func335 Tryz.ntmps335 rfl rfl fun i h hi w0 mp hw=>?_;simp[WfL,WfA,E_length,Enc.enc,In64] at hw
 have hB:=l1Below_x b hl l.length
 repeat' first|refine s1 ?_|(refine kR ?_;first|(refine F.dr 0 (hB) (by assumption) ?_;intro x i2 h2 hx hi2;refine F.xk ?_))|fail
 obtain⟨k,rfl⟩:∃k:Nat,x=k:=⟨x.toNat,by have:=hx.1 (by omega);omega⟩
 have hk:=hx.1 (by omega)
 clear hx
 repeat' first|refine s1 ?_|fail
 exact F.rd (l.getD k default) ⟨k,by omega,rfl⟩ hi2 (F.retM rfl ⟨rfl,trivial⟩)
def digS(n:Int):ByteArray:=⟨#[UInt8.ofNat (48+n.toNat)]⟩
theorem digS_size(n:Int):(digS n).size=1:=rfl
theorem digit_x(n:Int)(hn:0≤n∧n≤9):AMx Tryz.prog 394 [.i n] [] (fun s:ByteArray=>s=digS n) (fun s=>[strA s]) (fun _=>[]):=by
 refine AMx.go Tryz.func394 Tryz.ntmps394 rfl rfl fun w0 mp hw=>?_;simp[WfL,WfA,E_length,Enc.enc,In64] at hw
 by_cases h0:n=0
 ·subst h0
  repeat' first|refine s1 ?_|fail
  exact F.rx _ rfl (F.retM rfl trivial)
 ·repeat' first|refine s1 ?_|fail
  refine F.loop (σ:=Nat×ByteArray) [0,3,5,10,11,12,13,14,15,16,17,18,19,20,21,22,23,24,25,26] (fun s=>[(0,.i (if s.1=0 then n else 0)),(3,strA s.2)]) (fun _=>[]) (fun s=>s.1≤1∧(s.1=0→s.2=⟨#[]⟩)∧(s.1=1→s.2=digS n)) (fun s=>1-s.1) (0,_) ⟨rfl,rfl,trivial⟩ trivial ⟨by simp,fun _=>rfl,fun h=>by cases h⟩ ?_
  rintro⟨k,s⟩ ⟨h1,h2,h3⟩
  dsimp only at h1 h2 h3⊢
  by_cases hk:k=0
  ·subst hk
   obtain rfl:=h2 rfl
   rw[if_pos rfl]
   repeat' first|refine s1 ?_|(refine kR ?_;first|refine F.sil (A.remP rfl rfl (by omega) (by omega)) rfl rfl ?_|refine F.sil (A.cvIQ rfl) rfl rfl ?_|refine F.lit1C (a:=.q _) rfl rfl rfl rfl ?_|refine F.sil (A.cvB1 rfl rfl) rfl rfl ?_|refine F.sil (A.addStr rfl rfl (by rw[strOfNums_size];show((1:Nat):Int)+((0:Nat):Int)≤_;omega)) rfl rfl ?_|refine F.sil (A.quoP rfl rfl (by omega) (by omega)) rfl rfl ?_)|fail
   exact⟨(1,_),F.fit ⟨iE (by simp;omega),rfl,trivial⟩ trivial,⟨by simp,fun h=>by(try dsimp only at h);omega,fun _=>by
    have:n=1∨n=2∨n=3∨n=4∨n=5∨n=6∨n=7∨n=8∨n=9:=by omega
    rcases this with rfl|rfl|rfl|rfl|rfl|rfl|rfl|rfl|rfl<;>rfl⟩,by simp⟩
  ·rw[if_neg hk]
   repeat' first|refine s1 ?_|fail
   exact F.rx s (h3 (by omega)) (F.retM rfl trivial)
def fmtK(q:Quiv):Nat→ByteArray
 |0=>digS q.n++⟨#[58]⟩
 |k+1=>((fmtK q k++⟨#[32]⟩)++digS (q.fr.getD k default))++digS (q.to.getD k default)
theorem fmtK_size(q:Quiv):∀k,(fmtK q k).size=2+3*k
 |0=>rfl
 |k+1=>by
  rw[fmtK,ByteArray.size_append,ByteArray.size_append,ByteArray.size_append,digS_size,digS_size,fmtK_size q k]
  show 2+3*k+1+1+1=_
  omega
theorem specFormatQuiver_x(q:Quiv):AMx Tryz.prog 382 [.agg (enc false q)] [] (fun s:ByteArray=>s.size≤20∧(okQ q=true→s=fmtK q q.fr.length)) (fun s=>[strA s]) (fun _=>[]):=by
 refine AMx.go Tryz.func382 Tryz.ntmps382 rfl rfl fun w0 mp hw=>?_;simp[WfL,WfA,E_length,Enc.enc,In64] at hw
 have hQ:=specIsQuiver_a q
 cases hq:okQ q with
 |false=>
  rw[hq] at hQ
  repeat' first|refine s1 ?_|(refine kR ?_;first|refine F.c (hQ) ?_)|fail
  exact F.rx .empty ⟨by decide,fun h=>by cases h⟩ (F.retM rfl trivial)
 |true=>
  rw[hq] at hQ
  have h5:=okQ_spec hq
  have hD:=digit_x q.n (by omega)
  repeat' first|refine s1 ?_|(refine kR ?_;first|refine F.c (hQ) ?_|(refine F.x [] (hD) ?_;rintro s hs;refine F.xk ?_)|refine F.sil (A.addStr rfl rfl (by rw[hs,digS_size];decide)) rfl rfl ?_)|fail
  refine AW.freezeP (α:=Quiv) (oo:=false) q 1 rfl rfl ?_
  refine F.loop (σ:=Nat×ByteArray) [3,4,12,13,14,15,16,17,18,19,20,21,22,23,24,25,26,27,28,29,30,31,32,33,34] (fun s=>[(3,strA s.2),(4,.i s.1)]) (fun _=>[]) (fun s=>s.1≤q.fr.length∧s.2=fmtK q s.1) (fun s=>q.fr.length-s.1) (0,_) ⟨rfl,rfl,trivial⟩ trivial ⟨Nat.zero_le _,by rw[hs];rfl⟩ ?_
  rintro⟨k,z⟩ ⟨k1,k3⟩
  dsimp only at k1 k3⊢
  have k2:z.size=2+3*k:=by rw[k3];exact fmtK_size q k
  by_cases hk:k<q.fr.length
  ·have f:0≤q.fr.getD k default∧q.fr.getD k default<q.n:=okQ_fr hq (by omega)
   have t:0≤q.to.getD k default∧q.to.getD k default<q.n:=okQ_to hq (by omega)
   have hF:=digit_x (q.fr.getD k default) (by omega)
   have hT:=digit_x (q.to.getD k default) (by omega)
   repeat' first|refine s1 ?_|fail
   refine AW.draw 17 G.mixed (by kernel_rfl) ?_
   refine Pz (.p 0<|.p 1<|.p 2<|.l 3<|.p 4<|.p 5<|.l 6<|.p 9<|.l 10<|.p 11<|.p 12<|.l 13<|.o 7 true<|.p 8<|.o 14 true<|.p 15<|.p 16<|.n) ?_
   repeat' first|(refine yU (i:=7) ?_;first|refine s1 ?_|(refine F.x [] (hF) ?_;rintro a ha2;have ha:a.size=1:=(by rw[ha2];rfl);refine F.xk ?_))|(refine yU (i:=14) ?_;first|refine s1 ?_|(refine F.x [] (hT) ?_;rintro c hc2;have hc':c.size=1:=(by rw[hc2];rfl);refine F.xk ?_))|refine yP (i:=1) ?_ (hs:=by exact(A.addStr rfl rfl (show(z.size:Int)+((1:Nat):Int)≤_ by omega)))|refine yP (i:=8) ?_ (hs:=by exact(A.addStr rfl rfl (by rw[ByteArray.size_append,ha];show((z.size+1:Nat):Int)+((1:Nat):Int)≤_;omega)))|refine yP (i:=15) ?_ (hs:=by exact(A.addStr rfl rfl (by rw[ByteArray.size_append,ByteArray.size_append,ha,hc'];show((z.size+1+1:Nat):Int)+((1:Nat):Int)≤_;omega)))|refine yS ?_|refine s1 ?_|fail
   any_goals refine lf ?_
   all_goals
    repeat' first|refine s1 ?_|fail
    exact⟨(k+1,_),F.fit ⟨rfl,rfl,trivial⟩ trivial,⟨by omega,by rw[ha2,hc2,k3];rfl⟩,by show q.fr.length-(k+1)<q.fr.length-k;omega⟩
  ·repeat' first|refine s1 ?_|fail
   exact F.rx z ⟨by omega,fun _=>by rw[k3,show k=q.fr.length by omega]⟩ (F.retM rfl trivial)
def cutP(n:Nat)(l:List ByteArray):Prop:=0<l.length∧l.length≤n+1∧∀k,k<l.length→(l.getD k default).size≤n
def cutS(s:ByteArray)(z:Int):Nat→List ByteArray×ByteArray
 |0=>([],⟨#[]⟩)
 |k+1=>if((s[k]?.getD 0).toNat:Int)=z then((cutS s z k).1++[(cutS s z k).2],⟨#[]⟩) else((cutS s z k).1,(cutS s z k).2++s.extract k (k+1))
def cutT(s:ByteArray)(z:Int):List ByteArray:=(cutS s z s.size).1++[(cutS s z s.size).2]
theorem l6Cut_x(s:ByteArray)(z:Int)(hs:s.size≤1000):AMx Tryz.prog 381 [strA s,.q fun v=>v=.int .u8 z] [] (fun l=>cutP s.size l∧l=cutT s z) (fun l=>[.dt true 1 (E true l)]) (fun _=>[]):=by
 refine AMx.go Tryz.func381 Tryz.ntmps381 rfl rfl fun w0 mp hw=>?_;simp[WfL,WfA,E_length,Enc.enc,In64] at hw
 repeat' first|refine s1 ?_|fail
 refine AW.open 5 1 (.inr rfl) ?_
 refine F.loop (σ:=Nat×List ByteArray×ByteArray) [5,6,7,9,10,11,12,13,14,15,16,17,18,19,20,21,22,23,24,25,26,27,28,29,30] (fun s=>[(5,.sl 0 s.2.1.length 0 s.2.1.length),(6,strA s.2.2),(7,.i s.1)]) (fun s=>[(0,.live false 1 (E true s.2.1))]) (fun x=>x.1≤s.size∧x.2.1.length≤x.1∧x.2.2.size≤x.1∧(∀k,k<x.2.1.length→(x.2.1.getD k default).size≤s.size)∧x.2=cutS s z x.1) (fun x=>s.size-x.1) (0,[],_) ⟨rfl,rfl,rfl,trivial⟩ ⟨rfl,trivial⟩ ⟨Nat.zero_le _,Nat.zero_le _,Nat.zero_le _,fun k hk=>absurd hk (Nat.not_lt_zero _),rfl⟩ ?_
 rintro⟨k,l,p⟩ ⟨k1,k2,k3,k4,k5⟩
 dsimp only at k1 k2 k3 k4 k5⊢
 by_cases hk:k<s.size
 ·obtain⟨u,hu⟩:∃u,s[k]?=some u:=⟨s[k],by simp[hk]⟩
  have k6:cutS s z (k+1)=if(u.toNat:Int)=z then(l++[p],⟨#[]⟩) else(l,p++s.extract k (k+1)):=by rw[cutS,hu,←k5];rfl
  by_cases hz:(u.toNat:Int)=z
  ·rw[if_pos hz] at k6
   repeat' first|refine s1 ?_|(refine kR ?_;first|refine F.sil (A.lenStr (by omega) rfl) rfl rfl ?_|refine F.sil (A.idxStr rfl rfl hu) rfl rfl ?_|refine F.sil (A.eqlQ rfl rfl) rfl rfl ?_|refine F.lit1C (a:=.q _) rfl rfl rfl rfl ?_|refine F.a1 ByteArray ?_)|fail
   exact⟨(k+1,l++[p],_),F.fit ⟨by show _=AV.sl 0 (l++[p]).length 0 (l++[p]).length;rw[List.length_append];rfl,rfl,rfl,trivial⟩ ⟨obE rfl,trivial⟩,⟨by omega,by simp;omega,Nat.zero_le _,fun j hj=>by
    by_cases h:j<l.length
    ·have:=k4 j h
     simpa[List.getElem?_append_left h,List.getD_eq_getElem?_getD] using this
    ·obtain rfl:j=l.length:=by simp at hj;omega
     simp;omega,k6.symm⟩,by show s.size-(k+1)<s.size-k;omega⟩
  ·rw[if_neg hz] at k6
   repeat' first|refine s1 ?_|(refine kR ?_;first|refine F.sil (A.lenStr (by omega) rfl) rfl rfl ?_|refine F.sil (A.idxStr rfl rfl hu) rfl rfl ?_|refine F.sil (A.eqlQ rfl rfl) rfl rfl ?_|refine F.sil (A.slcStr rfl rfl rfl (by omega) (by omega) (by omega)) rfl rfl ?_|refine F.sil (A.addStr rfl rfl (by simp[ByteArray.size_extract];omega)) rfl rfl ?_)|fail
   exact⟨(k+1,l,_),F.fit ⟨rfl,rfl,rfl,trivial⟩ ⟨rfl,trivial⟩,⟨by omega,by show l.length≤k+1;omega,by simp[ByteArray.size_append,ByteArray.size_extract];omega,k4,k6.symm⟩,by show s.size-(k+1)<s.size-k;omega⟩
 ·obtain rfl:k=s.size:=by omega
  repeat' first|refine s1 ?_|(refine kR ?_;first|refine F.sil (A.lenStr (by omega) rfl) rfl rfl ?_|refine F.lit1C (a:=.q _) rfl rfl rfl rfl ?_|refine F.a1 ByteArray ?_)|fail
  refine F.rx (l++[p]) ⟨⟨by simp,by simp;omega,fun j hj=>?_⟩,by rw[cutT,←k5]⟩ (F.retM rfl trivial)
  by_cases h:j<l.length
  ·have:=k4 j h
   simpa[List.getElem?_append_left h,List.getD_eq_getElem?_getD] using this
  ·obtain rfl:j=l.length:=by simp at hj;omega
   simp;omega
end Go.Proofs.YtjmjamhhppoimaaGreat.V
namespace Go.Proofs.YtjmjamhhppoimaaGreat.V
open Go.RowKit G D
set_option linter.unusedVariables false
set_option linter.unusedSimpArgs false
set_option maxHeartbeats 4000000
set_option maxRecDepth 4000
attribute [local irreducible] AW ARg ARA ARet MRet ASil AC AM AMx AD
theorem big_a(b:List UInt8):AC Tryz.prog 8 [ar false b] [.b (decide ((1048576:Int)<b.length))]:=by
 refine AC.go Tryz.func8 Tryz.ntmps8 rfl rfl fun w0 hw=>?_;simp[WfL,WfA,E_length,Enc.enc,In64] at hw
 repeat' first|refine s1 ?_|fail
 (refine kZ ?_;exact F.ret rfl)
theorem sameInts_a(xs ys:List Int):AC Tryz.prog 16 [ar false xs,ar false ys] [.b (decide (xs=ys))]:=by
 refine AC.go Tryz.func16 Tryz.ntmps16 rfl rfl fun w0 hw=>?_;simp[WfL,WfA,E_length,Enc.enc,In64] at hw
 by_cases hl:xs.length=ys.length
 ·repeat' first|refine s1 ?_|fail
  refine F.loop (σ:=Nat) [4,5,11,12,13,14,15,16,17,18,19,20,21,22,23,24,25] (fun k=>[(5,.i k)]) (fun _=>[]) (fun k=>k≤xs.length∧∀j,j<k→xs.getD j default=ys.getD j default) (fun k=>xs.length-k) 0 ⟨rfl,trivial⟩ trivial ⟨Nat.zero_le _,fun j hj=>absurd hj (Nat.not_lt_zero _)⟩ ?_
  rintro k ⟨k1,k2⟩
  by_cases hk:k<xs.length
  ·by_cases he:xs.getD k default=ys.getD k default
   ·repeat' first|refine s1 ?_|fail
    refine AW.draw 9 G.mixed (by kernel_rfl) ?_
    refine Pz (.p 0<|.p 1<|.p 2<|.l 3<|.p 4<|.p 5<|.p 6<|.l 7<|.p 8<|.n) ?_
    repeat' first|refine yS ?_|refine s1 ?_|fail
    any_goals refine lf ?_
    all_goals
     repeat' first|refine s1 ?_|fail
     exact⟨k+1,F.fit ⟨rfl,trivial⟩ trivial,⟨by omega,fun j hj=>by rcases Nat.lt_succ_iff_lt_or_eq.1 hj with h|h;exact k2 j h;rw[h];exact he⟩,by omega⟩
   ·have e:decide (xs=ys)=false:=decide_eq_false fun h=>he (by rw[h])
    rw[e]
    repeat' first|refine s1 ?_|fail
    refine AW.draw 9 G.mixed (by kernel_rfl) ?_
    refine Pz (.p 0<|.p 1<|.p 2<|.l 3<|.p 4<|.p 5<|.p 6<|.l 7<|.p 8<|.n) ?_
    repeat' first|refine yS ?_|refine s1 ?_|fail
    any_goals refine lf ?_
    all_goals
     repeat' first|refine s1 ?_|fail
     (refine kZ ?_;exact F.ret rfl)
  ·have e:decide (xs=ys)=true:=decide_eq_true (List.ext_getElem hl fun j h1 h2=>by have:=k2 j (by omega);simpa[h1,h2] using this)
   rw[e]
   repeat' first|refine s1 ?_|fail
   (refine kZ ?_;exact F.ret rfl)
 ·have e:decide (xs=ys)=false:=decide_eq_false fun h=>hl (by rw[h])
  rw[e]
  repeat' first|refine s1 ?_|fail
  (refine kZ ?_;exact F.ret rfl)
theorem sameLists_a(xs ys:List (List Int)):AC Tryz.prog 81 [ar false xs,ar false ys] [.b (decide (xs=ys))]:=by
 refine AC.go Tryz.func81 Tryz.ntmps81 rfl rfl fun w0 hw=>?_;simp[WfL,WfA,E_length,Enc.enc,In64] at hw
 have hE:=fun k=>sameInts_a (xs.getD k default) (ys.getD k default)
 by_cases hl:xs.length=ys.length
 ·repeat' first|refine s1 ?_|fail
  refine F.loop (σ:=Nat) [4,5,11,12,13,14,15,16,17,18,19,20,21,22,23,24,25,26] (fun k=>[(5,.i k)]) (fun _=>[]) (fun k=>k≤xs.length∧∀j,j<k→xs.getD j default=ys.getD j default) (fun k=>xs.length-k) 0 ⟨rfl,trivial⟩ trivial ⟨Nat.zero_le _,fun j hj=>absurd hj (Nat.not_lt_zero _)⟩ ?_
  rintro k ⟨k1,k2⟩
  have hEk:=hE k
  by_cases hk:k<xs.length
  ·by_cases he:xs.getD k default=ys.getD k default
   ·rw[decide_eq_true he] at hEk
    repeat' first|refine s1 ?_|fail
    refine AW.draw 10 G.mixed (by kernel_rfl) ?_
    refine Pz (.p 0<|.p 1<|.p 2<|.l 3<|.p 4<|.p 5<|.p 6<|.l 7<|.o 8 true<|.p 9<|.n) ?_
    repeat' first|refine yS ?_|refine s1 ?_|(refine kR ?_;first|refine F.c (hEk) ?_)|fail
    any_goals refine lf ?_
    all_goals
     repeat' first|refine s1 ?_|fail
     exact⟨k+1,F.fit ⟨rfl,trivial⟩ trivial,⟨by omega,fun j hj=>by rcases Nat.lt_succ_iff_lt_or_eq.1 hj with h|h;exact k2 j h;rw[h];exact he⟩,by omega⟩
   ·rw[decide_eq_false he] at hEk
    have e:decide (xs=ys)=false:=decide_eq_false fun h=>he (by rw[h])
    rw[e]
    repeat' first|refine s1 ?_|fail
    refine AW.draw 10 G.mixed (by kernel_rfl) ?_
    refine Pz (.p 0<|.p 1<|.p 2<|.l 3<|.p 4<|.p 5<|.p 6<|.l 7<|.o 8 true<|.p 9<|.n) ?_
    repeat' first|refine yS ?_|refine s1 ?_|(refine kR ?_;first|refine F.c (hEk) ?_)|fail
    any_goals refine lf ?_
    all_goals
     repeat' first|refine s1 ?_|fail
     (refine kZ ?_;exact F.ret rfl)
  ·have e:decide (xs=ys)=true:=decide_eq_true (List.ext_getElem hl fun j h1 h2=>by have:=k2 j (by omega);simpa[h1,h2] using this)
   rw[e]
   repeat' first|refine s1 ?_|fail
   (refine kZ ?_;exact F.ret rfl)
 ·have e:decide (xs=ys)=false:=decide_eq_false fun h=>hl (by rw[h])
  rw[e]
  repeat' first|refine s1 ?_|fail
  (refine kZ ?_;exact F.ret rfl)
theorem total_a(xs:List Int)(hl:xs.length≤1000)(h:∀j,j<xs.length→-1000≤xs.getD j default∧xs.getD j default≤1000):AC Tryz.prog 49 [ar false xs] [.i xs.sum]:=by
 refine AC.go Tryz.func49 Tryz.ntmps49 rfl rfl fun w0 hw=>?_;simp[WfL,WfA,E_length,Enc.enc,In64] at hw
 have hs:∀k,k≤xs.length→-(1000*(k:Int))≤(xs.take k).sum∧(xs.take k).sum≤1000*(k:Int):=fun k=>by
  induction k with
  |zero=>intro _;simp
  |succ k ih=>
   intro hk
   have h1:=ih (by omega)
   have h2:=h k (by omega)
   rw[List.take_add_one,List.sum_append]
   rw[show xs[k]?.toList=[xs.getD k default] by simp[List.getElem?_eq_getElem (show k<xs.length by omega)]]
   simp only[List.sum_cons,List.sum_nil]
   omega
 have hst:∀k,k<xs.length→(xs.take (k+1)).sum=(xs.take k).sum+xs.getD k default:=fun k hk=>by
  rw[List.take_add_one,List.sum_append]
  rw[show xs[k]?.toList=[xs.getD k default] by simp[List.getElem?_eq_getElem hk]]
  simp only[List.sum_cons,List.sum_nil]
  omega
 have he:(xs.take xs.length).sum=xs.sum:=by rw[List.take_length]
 repeat' first|refine s1 ?_|fail
 refine F.loop (σ:=Nat) [3,4,5,6,7,8,9,10,11,12,13,14,15,16] (fun k=>[(3,.i (xs.take k).sum),(4,.i k)]) (fun _=>[]) (fun k=>k≤xs.length) (fun k=>xs.length-k) 0 ⟨rfl,rfl,trivial⟩ trivial (Nat.zero_le _) ?_
 rintro k k1
 have hb:=hs k k1
 by_cases hk:k<xs.length
 ·have h2:=h k hk
  have e:=hst k hk
  generalize (xs.take k).sum=z at hb e⊢
  repeat' first|refine s1 ?_|fail
  exact⟨k+1,F.fit ⟨iE (by rw[e]),rfl,trivial⟩ trivial,by omega,by omega⟩
 ·obtain rfl:k=xs.length:=by omega
  rw[←he]
  generalize (xs.take xs.length).sum=z at hb⊢
  repeat' first|refine s1 ?_|fail
  (refine kZ ?_;exact F.ret rfl)
end Go.Proofs.YtjmjamhhppoimaaGreat.V
namespace Go.Proofs.YtjmjamhhppoimaaGreat.V
open Go.RowKit G
set_option linter.unusedVariables false
section
variable {P : Program} {n : Nat} {w0 : World} {MP : Fr} {Q : Exit → St → Prop} {E : Nat → AV} {hp : Nat → Ob} {nx : Nat} {lb : Bool} {ops : Array Oper} {os : List Oper}
theorem F.freezeG{α:Type}[Enc α](t j:Nat){o m sz:Nat}{l oo:Bool}{ls:List α}{cs:List AV}(ht:E t=.agg cs)(hj:cs[j]?=some (.sl o m 0 m))(hh:hp o=.live l sz (V.E oo ls))(hn:ls.length=m)(h:ARg P n w0 MP lb ops os Q ⟨updA E t (.agg (cs.set j (.dt false sz (V.E false ls)))),updA hp o .dead,nx⟩):ARg P n w0 MP lb ops os Q ⟨E,hp,nx⟩:=
 ARg.ghost (fun E' w hs=>Sim.freezeG (st:=⟨E,hp,nx⟩) ht hj hh (by rw[E_length,hn]) (E_pure oo ls) (by rw[E_drop,E_take,E_frz,take_all hn]) hs) h
end
end Go.Proofs.YtjmjamhhppoimaaGreat.V
namespace Go.Proofs.YtjmjamhhppoimaaGreat.V
open Go.RowKit G
set_option linter.unusedVariables false
set_option linter.unusedSimpArgs false
def outB:AV→Bool
 |.agg cs=>cs.all pureB&&ownL' cs
 |a=>pureB a&&ownA a
theorem ResM.resL{N:Nat}{C:Nat→Option Conc}{J:Nat→Prop}{w:World}{rs:List AV}{vs:List Value}{F:List Nat}(h:ResM N C J w rs vs F)(ho:rs.all outB=true):ResL w rs vs F:=by
 induction h with
 |nil=>exact .nil
 |@cell a v rs vs F G h1 _ ih=>
  rw[List.all_cons,Bool.and_eq_true] at ho
  refine .cell ?_ (ih ho.2)
  cases a with
  |agg cs=>
   cases h1 with
   |at1 h3 h4 _=>obtain⟨us,rfl,_⟩:=h3;cases h4
  |_=>
   have h2:=ho.1
   simp only[outB,Bool.and_eq_true] at h2
   exact(h1.pure (by simp[h2.1])).own (by simp[ownL',h2.2])
 |@agg cs us rs vs F G h1 _ ih=>
  rw[List.all_cons,Bool.and_eq_true] at ho
  have h2:=ho.1
  simp only[outB,Bool.and_eq_true] at h2
  exact .agg ((h1.pure h2.1).own h2.2) (ih ho.2)
def ACx(P:Program)(f:FuncId)(bs:List AV){ι:Type}(p:ι→Prop)(rs:ι→List AV):Prop:=∀(w:World) (us:List Value),RVs w bs us→Run P f us w fun v w'=>Later w w'∧∃i,p i∧∃vs F,v=tupV vs∧ResL w' (rs i) vs F∧F.Nodup∧∀k∈F,w.heap.size≤k
theorem ACx.ofAMx{P:Program}{f:FuncId}{bs:List AV}{ι:Type}{p:ι→Prop}{rs:ι→List AV}(h:AMx P f bs [] p rs (fun _=>[]))(ho:∀i,(rs i).all outB=true):ACx P f bs p rs:=fun w us hus=>by
 have hS:Sm w (Fr0 w) ⟨fun _=>.no,obS [],0⟩ noC (Fr0 w).J (fr []) w:=by
  refine⟨⟨fun _ _ _=>rfl,Nat.le_refl _,rfl,rfl,rfl⟩,fun _ h=>h,fun t=>trivial,fun _ _=>rfl,(fun o l sz xs h=>by cases h),fun _ _=>rfl,(fun o o' cc cc' _ h=>by cases h),fun k hk=>.inl hk,fun p hp=>by cases hp⟩
 refine(h w (Fr0 w) noC (fr []) us hS hus).mono fun v w' ⟨i,hp,C',J',E',hb,vs,F,e,hR,hL,hF⟩=>?_
 exact⟨Later.ofTouched hb.tch,i,hp,vs,F,e,hR.resL (ho i),hL.nd,fun k hk=>(hL.ge k hk).elim id fun h=>by cases h⟩
section
variable {P : Program} {n : Nat} {w0 : World} {MP : Fr} {Q : Exit → St → Prop} {E : Nat → AV} {hp : Nat → Ob} {nx : Nat} {lb : Bool} {ops : Array Oper} {os : List Oper} {d : Option Tmp} {ty : TypeId} {pos : String} {af : Array Edge} {g : Option (Nat × Bool)} {args : Array Operand} {ats : Array TypeId}
def CC(P:Program)(n:Nat)(w0:World)(MP:Fr)(lb:Bool)(ops:Array Oper)(os:List Oper)(Q:Exit→St→Prop)(E:Nat→AV)(hp:Nat→Ob)(nx:Nat)(d:Option Tmp)(rs:List AV):Prop:=
 ∃zs ob,ThwR nx rs zs ob∧ARg P n w0 MP lb ops os Q ⟨putE E d (tupA zs),addO hp nx ob,nx+ob.length⟩
theorem F.cx {f : FuncId} {bs : List AV} {ι : Type} {p : ι → Prop} {rs : ι → List AV} [hf : IsFn P f] (hc : ACx P f bs p rs) (h : ∀ i, p i → CC P n w0 MP lb ops os Q E hp nx d (rs i)) (hs : SnapL hp (args.toList.map (evA ⟨E, hp, nx⟩)) bs := by (repeat' first | exact SnapL.nil | refine SnapL.i ?_ | refine SnapL.bo ?_ | refine SnapL.q ?_ | refine SnapL.dt ?_ | refine SnapL.slE rfl (by first | rfl | omega | (simp; done) | (simp; omega)) ?_ | refine SnapL.slV rfl (by first | rfl | omega | (simp; done) | (simp; omega)) ?_ | refine SnapL.nd ?_ | refine SnapL.ed ?_ | refine SnapL.nl ?_ | refine SnapL.agg ?_ ?_ | refine SnapL.fn ?_ ?_ | refine SnapL.ip ?_ | refine SnapL.pt rfl rfl rfl rfl ?_ rfl ?_) <;> fail)
    (hw : awant n ops ⟨d, .call ⟨.value (.func f), args, ats⟩, ty, pos, af, g⟩ E true = true := by exact rfl) (hd : fits n d = true := by exact rfl) : ARg P n w0 MP lb ops (⟨d, .call ⟨.value (.func f), args, ats⟩, ty, pos, af, g⟩ :: os) Q ⟨E, hp, nx⟩ := fun E' w ⟨C, Im, hm⟩ => by
  refine G.Rg.call (hc w _ (hs.spec hm (hm.evL _))) rfl (awant_spec (st := ⟨E, hp, nx⟩) hm hw) hd ?_
  rintro v w' ⟨hl, i, hpi, hr⟩
  obtain ⟨zs, ob, ht, hA⟩ := h i hpi
  have hS := hm.called (d := d) ht hl hr
  unfold callS at hS
  rw [putA_eq] at hS
  exact (hA _ _ hS).mono fun e E2 w2 hq => ⟨fun hb => hl.trans (hq.1 hb), hq.2⟩
theorem F.ck{rs zs:List AV}{a:AV}{ob:List (Nat×List (List AV))}(h:ARg P n w0 MP lb ops os Q ⟨putE E d a,addO hp nx ob,nx+ob.length⟩)(ht:ThwR nx rs zs ob:=by(repeat' first|exact ThwR.nil|apply ThwR.agg|apply ThwR.cell|exact Thw.nil|apply Thw.at1 rfl|apply Thw.ow (E_length _ _)|apply Thw.ow rfl)<;>fail)(ha:tupA zs=a:=by exact rfl):CC P n w0 MP lb ops os Q E hp nx d rs:=by
 subst ha;exact⟨zs,ob,ht,h⟩
end
end Go.Proofs.YtjmjamhhppoimaaGreat.V
