/- Texts that the proof needs: A22, A89. -/
import Derived.Test.YtjmjamhhppoimaaGreatQstA21
namespace Go.Proofs.YtjmjamhhppoimaaGreat.V
open V.Enc (enc)
open Go.RowKit G D
set_option linter.unusedVariables false
set_option linter.unusedSimpArgs false
set_option maxHeartbeats 4000000
set_option maxRecDepth 4000
attribute [local irreducible] AW ARg ARA ARet MRet KRet ASil AC AM AK
def dimsF(q:Quiv)(v:Int)(g:Int→Int):List Int:=if(orderQ q).2=true∧0≤v∧v≤q.n-1 then(List.range q.n.toNat).map fun(w:Nat)=>g (w:Int) else[]
theorem rmap_succ{β:Type}(g:Nat→β)(k:Nat):(List.range (k+1)).map g=(List.range k).map g++[g k]:=by simp[List.range_succ]
theorem countAll_a(q:Quiv)(v:Int)(f:Nat)[IsFn Tryz.prog f](cs:List AV)(g:Int→Int)(hcs:∀hp,SnapL hp cs cs)(hf:∀w:Int,AC Tryz.prog f (.i w::cs) [.i (g w)]):
  AC Tryz.prog 179 [.agg (enc false q),.i v,.fn f cs] [.dt true 1 (E true (dimsF q v g))]:=by
 refine AC.go Tryz.func179 Tryz.ntmps179 rfl rfl fun w0 hw=>?_;simp[WfL,WfA,E_length,Enc.enc,In64] at hw
 have hA:=implIsAcyclic_a q
 unfold dimsF
 cases ho:(orderQ q).2 with
 |false=>
  rw[ho] at hA
  rw[if_neg (by simp)]
  repeat' first|refine s1 ?_|(refine kR ?_;first|refine F.c (hA) ?_)|fail
  (refine kZ ?_;exact F.ret rfl)
 |true=>
  rw[ho] at hA
  have hq:=order_ok ho
  have h5:=okQ_spec hq
  have hV:=hasVertex_a q v hq
  by_cases h1:0≤v∧v≤q.n-1
  ·rw[decide_eq_true h1] at hV
   rw[if_pos ⟨rfl,h1⟩]
   repeat' first|refine s1 ?_|(refine kR ?_;first|refine F.c (hA) ?_|refine F.c (hV) ?_)|fail
   refine AW.open 7 1 (.inl rfl) ?_
   refine F.loop (σ:=Nat) [7,8,20,21,22,23,24,25,26,27,28,29] (fun k=>[(7,.sl 1 k 0 k),(20,.i k)]) (fun k=>[(1,.live false 1 (E true ((List.range k).map fun(w:Nat)=>g (w:Int))))]) (fun k=>k≤q.n.toNat) (fun k=>q.n.toNat-k) 0 ⟨rfl,rfl,trivial⟩ ⟨rfl,trivial⟩ (Nat.zero_le _) ?_
   rintro k h2
   by_cases hlt:k<q.n.toNat
   ·have hg:=hf (k:Int)
    have hks:=rmap_succ (fun(w:Nat)=>g (w:Int)) k
    have hkl:((List.range k).map fun(w:Nat)=>g (w:Int)).length=k:=by simp
    generalize ((List.range k).map fun(w:Nat)=>g (w:Int))=L at hks hkl⊢
    repeat' first|refine s1 ?_|(refine kR ?_;first|refine F.cv (hg) ?_|refine F.a1 Int ?_)|fail
    exact⟨k+1,F.fit ⟨rfl,rfl,trivial⟩ ⟨obE (by rw[hks]),trivial⟩,by omega,by omega⟩
   ·obtain rfl:k=q.n.toNat:=by omega
    have hkl:((List.range q.n.toNat).map fun(w:Nat)=>g (w:Int)).length=q.n.toNat:=by simp
    generalize ((List.range q.n.toNat).map fun(w:Nat)=>g (w:Int))=L at hkl⊢
    repeat' first|refine s1 ?_|fail
    (refine kZ ?_;exact F.ret rfl)
  ·rw[decide_eq_false h1] at hV
   rw[if_neg (fun h=>h1 h.2)]
   repeat' first|refine s1 ?_|(refine kR ?_;first|refine F.c (hA) ?_|refine F.c (hV) ?_)|fail
   (refine kZ ?_;exact F.ret rfl)
def projD(q:Quiv)(v:Int):List Int:=dimsF q v fun w=>countP q v w
def injD(q:Quiv)(v:Int):List Int:=dimsF q v fun w=>countP q w v
theorem projD1_a(q:Quiv)(v w:Int):AC Tryz.prog 180 [.i w,.ip (enc false q),.ip (enc false v)] [.i (countP q v w)]:=by
 refine AC.go Tryz.func180 Tryz.ntmps180 rfl rfl fun w0 hw=>?_;simp[WfL,WfA,E_length,Enc.enc,In64] at hw
 have hC:=implCountPaths_a q v w
 repeat' first|refine s1 ?_|(refine kR ?_;first|refine F.c (hC) ?_)|fail
 (refine kZ ?_;exact F.ret rfl)
theorem injD1_a(q:Quiv)(v w:Int):AC Tryz.prog 183 [.i w,.ip (enc false q),.ip (enc false v)] [.i (countP q w v)]:=by
 refine AC.go Tryz.func183 Tryz.ntmps183 rfl rfl fun w0 hw=>?_;simp[WfL,WfA,E_length,Enc.enc,In64] at hw
 have hC:=implCountPaths_a q w v
 repeat' first|refine s1 ?_|(refine kR ?_;first|refine F.c (hC) ?_)|fail
 (refine kZ ?_;exact F.ret rfl)
theorem implProjectiveDims_a(q:Quiv)(v:Int):AC Tryz.prog 31 [.agg (enc false q),.i v] [.dt true 1 (E true (projD q v))]:=by
 refine AC.go Tryz.func31 Tryz.ntmps31 rfl rfl fun w0 hw=>?_;simp[WfL,WfA,E_length,Enc.enc,In64] at hw
 have hC:=countAll_a q v 180 [.ip (enc false q),.ip (enc false v)] (fun w=>countP q v w) (fun _=>.ip (.ip .nil)) fun w=>projD1_a q v w
 rw[show dimsF q v (fun w=>countP q v w)=projD q v from rfl] at hC
 generalize projD q v=R at hC⊢
 repeat' first|refine s1 ?_|(refine kR ?_;first|refine F.c (hC) ?_)|fail
 (refine kZ ?_;exact F.ret rfl)
theorem implInjectiveDims_a(q:Quiv)(v:Int):AC Tryz.prog 33 [.agg (enc false q),.i v] [.dt true 1 (E true (injD q v))]:=by
 refine AC.go Tryz.func33 Tryz.ntmps33 rfl rfl fun w0 hw=>?_;simp[WfL,WfA,E_length,Enc.enc,In64] at hw
 have hC:=countAll_a q v 183 [.ip (enc false q),.ip (enc false v)] (fun w=>countP q w v) (fun _=>.ip (.ip .nil)) fun w=>injD1_a q v w
 rw[show dimsF q v (fun w=>countP q w v)=injD q v from rfl] at hC
 generalize injD q v=R at hC⊢
 repeat' first|refine s1 ?_|(refine kR ?_;first|refine F.c (hC) ?_)|fail
 (refine kZ ?_;exact F.ret rfl)
theorem specProjectiveDims_a(q:Quiv)(v:Int):AC Tryz.prog 32 [.agg (enc false q),.i v] [.dt true 1 (E true (projD q v))]:=by
 refine AC.go Tryz.func32 Tryz.ntmps32 rfl rfl fun w0 hw=>?_;simp[WfL,WfA,E_length,Enc.enc,In64] at hw
 have hA:=specIsAcyclic_a q
 have hV:=l1In_a v 0 (RowKit.wrap64 (q.n-1))
 by_cases hok:(orderQ q).2=true∧0≤v∧v≤q.n-1
 ·obtain⟨ho,h1⟩:=hok
  have hd:projD q v=(List.range q.n.toNat).map fun(w:Nat)=>countP q v (w:Int):=by rw[projD,dimsF,if_pos ⟨ho,h1⟩]
  rw[hd]
  rw[ho] at hA
  have hq:=order_ok ho
  have h5:=okQ_spec hq
  rw[wr_in (show In64 (q.n-1) by unfold In64;omega),decide_eq_true h1] at hV
  repeat' first|refine s1 ?_|fail
  refine AW.open 5 1 (.inr rfl) ?_
  refine F.loop (σ:=Nat) [5,6,8,9,10,11,12,13,14,15,16,17,18,19,20,21,22,23,24,25,26,27,28,29,30,31] (fun k=>[(5,.sl 1 k 0 k),(6,.i k)]) (fun k=>[(1,.live false 1 (E true ((List.range k).map fun(w:Nat)=>countP q v (w:Int))))]) (fun k=>k≤q.n.toNat) (fun k=>q.n.toNat-k) 0 ⟨rfl,rfl,trivial⟩ ⟨rfl,trivial⟩ (Nat.zero_le _) ?_
  rintro k h2
  by_cases hlt:k<q.n.toNat
  ·have hg:=specCountPaths_a q v (k:Int)
   have hks:=rmap_succ (fun(w:Nat)=>countP q v (w:Int)) k
   have hkl:((List.range k).map fun(w:Nat)=>countP q v (w:Int)).length=k:=by simp
   generalize ((List.range k).map fun(w:Nat)=>countP q v (w:Int))=L at hks hkl⊢
   repeat' first|refine s1 ?_|(refine kR ?_;first|refine F.c (hA) ?_|refine F.c (hV) ?_|refine F.c (hg) ?_|refine F.a1 Int ?_)|fail
   exact⟨k+1,F.fit ⟨rfl,rfl,trivial⟩ ⟨obE (by rw[hks]),trivial⟩,by omega,by omega⟩
  ·obtain rfl:k=q.n.toNat:=by omega
   have hkl:((List.range q.n.toNat).map fun(w:Nat)=>countP q v (w:Int)).length=q.n.toNat:=by simp
   generalize ((List.range q.n.toNat).map fun(w:Nat)=>countP q v (w:Int))=L at hkl⊢
   repeat' first|refine s1 ?_|fail
   (refine kZ ?_;exact F.ret rfl)
 ·have hd:projD q v=[]:=by rw[projD,dimsF,if_neg hok]
  rw[hd]
  repeat' first|refine s1 ?_|fail
  refine F.loop (σ:=Unit) [5,6,8,9,10,11,12,13,14,15,16,17,18,19,20,21,22,23,24,25,26,27,28,29,30,31] (fun _=>[(5,.em),(6,.i 0)]) (fun _=>[]) (fun _=>True) (fun _=>0) () ⟨rfl,rfl,trivial⟩ trivial trivial ?_
  rintro _ _
  by_cases hn:0<q.n
  ·cases ho:(orderQ q).2 with
   |false=>
    rw[ho] at hA
    repeat' first|refine s1 ?_|(refine kR ?_;first|refine F.c (hA) ?_)|fail
    (refine kZ ?_;exact F.ret rfl)
   |true=>
    rw[ho] at hA
    have hq:=order_ok ho
    have h5:=okQ_spec hq
    rw[wr_in (show In64 (q.n-1) by unfold In64;omega),decide_eq_false (fun h=>hok ⟨ho,h⟩)] at hV
    repeat' first|refine s1 ?_|(refine kR ?_;first|refine F.c (hA) ?_|refine F.c (hV) ?_)|fail
    (refine kZ ?_;exact F.ret rfl)
  ·repeat' first|refine s1 ?_|fail
   (refine kZ ?_;exact F.ret rfl)
theorem specInjectiveDims_a(q:Quiv)(v:Int):AC Tryz.prog 34 [.agg (enc false q),.i v] [.dt true 1 (E true (injD q v))]:=by
 refine AC.go Tryz.func34 Tryz.ntmps34 rfl rfl fun w0 hw=>?_;simp[WfL,WfA,E_length,Enc.enc,In64] at hw
 have hA:=specIsAcyclic_a q
 have hV:=l1In_a v 0 (RowKit.wrap64 (q.n-1))
 by_cases hok:(orderQ q).2=true∧0≤v∧v≤q.n-1
 ·obtain⟨ho,h1⟩:=hok
  have hd:injD q v=(List.range q.n.toNat).map fun(w:Nat)=>countP q (w:Int) v:=by rw[injD,dimsF,if_pos ⟨ho,h1⟩]
  rw[hd]
  rw[ho] at hA
  have hq:=order_ok ho
  have h5:=okQ_spec hq
  rw[wr_in (show In64 (q.n-1) by unfold In64;omega),decide_eq_true h1] at hV
  repeat' first|refine s1 ?_|fail
  refine AW.open 5 1 (.inr rfl) ?_
  refine F.loop (σ:=Nat) [5,6,8,9,10,11,12,13,14,15,16,17,18,19,20,21,22,23,24,25,26,27,28,29,30,31] (fun k=>[(5,.sl 1 k 0 k),(6,.i k)]) (fun k=>[(1,.live false 1 (E true ((List.range k).map fun(w:Nat)=>countP q (w:Int) v)))]) (fun k=>k≤q.n.toNat) (fun k=>q.n.toNat-k) 0 ⟨rfl,rfl,trivial⟩ ⟨rfl,trivial⟩ (Nat.zero_le _) ?_
  rintro k h2
  by_cases hlt:k<q.n.toNat
  ·have hg:=specCountPaths_a q (k:Int) v
   have hks:=rmap_succ (fun(w:Nat)=>countP q (w:Int) v) k
   have hkl:((List.range k).map fun(w:Nat)=>countP q (w:Int) v).length=k:=by simp
   generalize ((List.range k).map fun(w:Nat)=>countP q (w:Int) v)=L at hks hkl⊢
   repeat' first|refine s1 ?_|(refine kR ?_;first|refine F.c (hA) ?_|refine F.c (hV) ?_|refine F.c (hg) ?_|refine F.a1 Int ?_)|fail
   exact⟨k+1,F.fit ⟨rfl,rfl,trivial⟩ ⟨obE (by rw[hks]),trivial⟩,by omega,by omega⟩
  ·obtain rfl:k=q.n.toNat:=by omega
   have hkl:((List.range q.n.toNat).map fun(w:Nat)=>countP q (w:Int) v).length=q.n.toNat:=by simp
   generalize ((List.range q.n.toNat).map fun(w:Nat)=>countP q (w:Int) v)=L at hkl⊢
   repeat' first|refine s1 ?_|fail
   (refine kZ ?_;exact F.ret rfl)
 ·have hd:injD q v=[]:=by rw[injD,dimsF,if_neg hok]
  rw[hd]
  repeat' first|refine s1 ?_|fail
  refine F.loop (σ:=Unit) [5,6,8,9,10,11,12,13,14,15,16,17,18,19,20,21,22,23,24,25,26,27,28,29,30,31] (fun _=>[(5,.em),(6,.i 0)]) (fun _=>[]) (fun _=>True) (fun _=>0) () ⟨rfl,rfl,trivial⟩ trivial trivial ?_
  rintro _ _
  by_cases hn:0<q.n
  ·cases ho:(orderQ q).2 with
   |false=>
    rw[ho] at hA
    repeat' first|refine s1 ?_|(refine kR ?_;first|refine F.c (hA) ?_)|fail
    (refine kZ ?_;exact F.ret rfl)
   |true=>
    rw[ho] at hA
    have hq:=order_ok ho
    have h5:=okQ_spec hq
    rw[wr_in (show In64 (q.n-1) by unfold In64;omega),decide_eq_false (fun h=>hok ⟨ho,h⟩)] at hV
    repeat' first|refine s1 ?_|(refine kR ?_;first|refine F.c (hA) ?_|refine F.c (hV) ?_)|fail
    (refine kZ ?_;exact F.ret rfl)
  ·repeat' first|refine s1 ?_|fail
   (refine kZ ?_;exact F.ret rfl)
theorem lfQ_all(q:Quiv):∀(f:Nat) (v:Int) (l:List Int),chain q v l→l.length≤f→(⟨v,l⟩:Pth)∈lfQ q f v
 |0,v,l,_,hl=>by
  have:l=[]:=List.eq_nil_of_length_eq_zero (by omega)
  subst this;simp[lfQ]
 |f+1,v,[],_,_=>by simp[lfQ]
 |f+1,v,i::l,h,hl=>by
  obtain⟨h0,h1,h2,h3⟩:=h
  have ih:=lfQ_all q f _ l h3 (by simpa using hl)
  rw[lfQ]
  refine List.mem_cons_of_mem _ (List.mem_flatMap.2 ⟨i.toNat,List.mem_range.2 (by omega),?_⟩)
  rw[if_pos h2]
  refine List.mem_map.2 ⟨_,ih,?_⟩
  rw[Int.toNat_of_nonneg h0]
theorem chain_len{q:Quiv}{rk:Int→Nat}(h:Acy q rk):∀(l:List Int) (v:Int),chain q v l→l.length≤rk v
 |[],_,_=>by simp
 |i::l,v,⟨h0,h1,h2,h3⟩=>by
  have ih:=chain_len h l _ h3
  have hd:=h.dec i.toNat (by omega)
  rw[h2] at hd
  simp only[List.length_cons]
  omega
theorem endQ_cons(q:Quiv)(v i:Int)(l:List Int):endQ q ⟨v,i::l⟩=endQ q ⟨q.to.getD i.toNat default,l⟩:=by
 unfold endQ
 cases l with
 |nil=>simp
 |cons j l=>simp
theorem chain_snoc{q:Quiv}{i:Nat}(hi:i<q.fr.length):∀(l:List Int) (v:Int),chain q v l→endQ q ⟨v,l⟩=q.fr.getD i default→chain q v (l++[(i:Int)])
 |[],v,_,he=>by
  have:v=q.fr.getD i default:=by simpa[endQ] using he
  exact⟨by omega,by omega,by rw[Int.toNat_natCast];exact this.symm,trivial⟩
 |j::l,v,⟨h0,h1,h2,h3⟩,he=>by
  rw[endQ_cons] at he
  exact⟨h0,h1,h2,chain_snoc hi l _ h3 he⟩
theorem betw_snoc{q:Quiv}{v:Int}(ho:(orderQ q).2=true){i:Nat}(hi:i<q.fr.length){x:Pth}(hx:x∈betw q v (q.fr.getD i default)):(⟨v,x.a++[(i:Int)]⟩:Pth)∈betw q v (q.to.getD i default):=by
 obtain⟨rk,hA⟩:=acy_of ho
 unfold betw at hx⊢
 obtain⟨h1,h2⟩:=List.mem_filter.1 hx
 have h2:endQ q x=q.fr.getD i default:=of_decide_eq_true h2
 have hs:=lfQ_s q 5 v x h1
 have hc:=(lfQ_chain q 5 v x h1).1
 have hx2:x=⟨v,x.a⟩:=by cases x;simp_all
 rw[hx2] at h2
 have hc2:=chain_snoc hi x.a v hc h2
 refine List.mem_filter.2 ⟨lfQ_all q 5 v _ hc2 (Nat.le_trans (chain_len hA _ _ hc2) (hA.le v)),?_⟩
 exact decide_eq_true (endQ_snoc q v x.a i)
def sameP(x y:Pth):Bool:=decide (x.s=y.s)&&decide (x.a=y.a)
theorem sameP_refl(x:Pth):sameP x x=true:=by simp[sameP]
def longP(q:Quiv)(v:Int)(i k:Nat):Pth:=⟨v,((betw q v (q.fr.getD i default)).getD k default).a++[(i:Int)]⟩
def plcN(q:Quiv)(v:Int)(i k:Nat):Nat:=(idxFrom (fun y=>sameP y (longP q v i k)) (betw q v (q.to.getD i default)) 0).toNat
theorem plc_spec{q:Quiv}{v:Int}(ho:(orderQ q).2=true){i k:Nat}(hi:i<q.fr.length)(hk:k<(betw q v (q.fr.getD i default)).length):idxFrom (fun y=>sameP y (longP q v i k)) (betw q v (q.to.getD i default)) 0=(plcN q v i k:Nat)∧plcN q v i k<(betw q v (q.to.getD i default)).length:=by
 have hm:=betw_snoc ho hi (gm (d:=default) hk)
 rcases idx_spec (fun y=>sameP y (longP q v i k)) (betw q v (q.to.getD i default)) 0 with⟨_,h2⟩|⟨t,h1,h2,_,_⟩
 ·have:=h2 _ hm
  rw[show sameP ⟨v,((betw q v (q.fr.getD i default)).getD k default).a++[(i:Int)]⟩ (longP q v i k)=true from sameP_refl _] at this
  cases this
 ·unfold plcN
  rw[h2]
  constructor
  ·rw[Int.toNat_natCast]
  ·rw[Int.toNat_natCast];omega
def pjF(q:Quiv)(v:Int)(i k:Nat):Nat→Nat→Int:=fun r c=>if c<k∧r=plcN q v i c then 1 else 0
theorem pjF_zero(q:Quiv)(v:Int)(i:Nat):pjF q v i 0=fun _ _=>0:=by funext r c;simp[pjF]
theorem pjF_set(q:Quiv)(v:Int)(i k:Nat):updF (pjF q v i k) (plcN q v i k) k 1=pjF q v i (k+1):=by
 funext r c
 simp only[updF,pjF]
 by_cases h1:c=k
 ·subst h1
  by_cases h2:r=plcN q v i c
  ·simp[h2]
  ·simp[h2]
 ·have:c<k+1↔c<k:=by omega
  simp[h1,this]
def pjM(q:Quiv)(v:Int)(i:Nat):Mat:=tm (betw q v (q.to.getD i default)).length (betw q v (q.fr.getD i default)).length (pjF q v i (betw q v (q.fr.getD i default)).length)
def pjMs(q:Quiv)(v:Int):List Mat:=(List.range q.fr.length).map (pjM q v)
theorem pjMs_len(q:Quiv)(v:Int):(pjMs q v).length=q.fr.length:=by simp[pjMs]
theorem pjMs_get(q:Quiv)(v:Int){i:Nat}(hi:i<q.fr.length):(pjMs q v).getD i default=pjM q v i:=by simp[pjMs,hi]
def projR(p:Int)(q:Quiv)(v:Int):Rep:=⟨p,q,projD q v,pjMs q v⟩
def projP(p:Int)(q:Quiv)(v:Int):Rep×Bool:=if isF p=true∧areDims q (projD q v)=true then(projR p q v,true) else(⟨0,⟨0,[],[]⟩,[],[]⟩,false)
theorem projD_yes{q:Quiv}{v:Int}(h:areDims q (projD q v)=true):(orderQ q).2=true∧0≤v∧v≤q.n-1∧∀w:Nat,w<q.n.toNat→(projD q v).getD w default=((betw q v (w:Int)).length:Nat):=by
 obtain⟨c1,c2,c3,c4⟩:=areDims_spec h
 have h5:=okQ_spec c1
 by_cases hh:(orderQ q).2=true∧0≤v∧v≤q.n-1
 ·refine⟨hh.1,hh.2.1,hh.2.2,fun w hw=>?_⟩
  unfold projD dimsF
  rw[if_pos hh]
  have e:((List.range q.n.toNat).map fun(w:Nat)=>countP q v (w:Int)).getD w default=countP q v (w:Int):=by simp[hw]
  rw[e]
  unfold countP
  rw[if_pos (by
   simp only[betwB,Bool.and_eq_true,decide_eq_true_eq]
   exact⟨⟨hh.1,hh.2⟩,by omega,by omega⟩)]
 ·have e:projD q v=[]:=by rw[projD,dimsF,if_neg hh]
  rw[e] at c2
  simp at c2
  omega
end Go.Proofs.YtjmjamhhppoimaaGreat.V
