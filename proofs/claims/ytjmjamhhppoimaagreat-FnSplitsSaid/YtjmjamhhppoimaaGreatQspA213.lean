/- Texts that the proof needs: A199, A206, A213. -/
import Derived.Test.YtjmjamhhppoimaaGreatQspA110
import Derived.Test.YtjmjamhhppoimaaGreatQspA185
namespace Go.Proofs.YtjmjamhhppoimaaGreat.V
open V.Enc (enc)
open Go.RowKit G D
set_option linter.unusedVariables false
set_option linter.unusedSimpArgs false
set_option maxHeartbeats 4000000
set_option maxRecDepth 4000
attribute [local irreducible] AW ARg ARA ARet MRet ASil AC AM AMx ACx AD ARI
def inV(p:Int)(l:List Int):Prop:=0<p→∀j,j<l.length→0≤l.getD j default∧l.getD j default≤p-1
theorem inV.add{p x:Int}{l:List Int}(h:inV p l)(hx:0<p→0≤x∧x≤p-1):inV p (l++[x]):=fun hp j hj=>by
 by_cases e:j<l.length
 ·have:=h hp j e
  simpa[List.getElem?_append_left e,List.getD_eq_getElem?_getD] using this
 ·obtain rfl:j=l.length:=by simp at hj;omega
  simpa using hx hp
theorem l8Vector_x(b:List UInt8)(hl:b.length≤1048576)(p n:Int)(hn:n≤100):AD Tryz.prog 371 [.i p,.i n] b (fun v:List Int=>(v.length:Int)=max 0 n∧inV p v) (fun v=>[.dt true 1 (E true v)]):=by
 refine AD.go Tryz.func371 Tryz.ntmps371 rfl rfl fun i h hi w0 mp hw=>?_;simp[WfL,WfA,E_length,Enc.enc,In64] at hw
 have hB:=l1Below_x b hl p
 repeat' first|refine s1 ?_|fail
 refine AW.open 7 1 (.inr rfl) ?_
 refine AW.only [(0,.pt 0 1 0 0),(1,.i p),(2,.i n),(7,.sl 1 0 0 0),(8,.i 0)] [(0,.live false 3 (curO b i h)),(1,.live false 1 (E true ([]:List Int)))] 2 ⟨rfl,rfl,rfl,rfl,rfl,trivial⟩ ⟨rfl,rfl,trivial⟩ rfl ?_
 refine F.loop (σ:=Nat×List Int×Int×Int) [7,8,10,11,12,13,14,15,16,17,18,19,20] (fun x=>[(7,.sl 1 x.1 0 x.1),(8,.i x.1)]) (fun x=>[(0,.live false 3 (curO b x.2.2.1 x.2.2.2)),(1,.live false 1 (E true x.2.1))]) (fun x=>(x.1:Int)≤max 0 n∧x.2.1.length=x.1∧inV p x.2.1∧okI b x.2.2.1) (fun x=>200-x.1) (0,[],i,h) ⟨rfl,rfl,trivial⟩ ⟨rfl,rfl,trivial⟩ ⟨by simp;omega,rfl,fun _ j hj=>absurd hj (Nat.not_lt_zero j),hi⟩ ?_
 rintro⟨k,l,i2,h2⟩ ⟨k1,k2,k3,hi2⟩
 dsimp only at k1 k2 k3 hi2⊢
 by_cases hk:(k:Int)<n
 ·repeat' first|refine s1 ?_|(refine kR ?_;first|(refine F.dr 0 (hB) (by assumption) ?_;intro e i6 h6 he hi6;refine F.xk ?_)|refine F.a1 Int ?_)|fail
  exact⟨(k+1,l++[e],i6,h6),F.fit ⟨rfl,rfl,trivial⟩ ⟨rfl,obE rfl,trivial⟩,⟨by show((k+1:Nat):Int)≤max 0 n;omega,by simp;omega,k3.add (fun h0=>by have:=he.1 (by omega);omega),hi6⟩,by show 200-(k+1)<200-k;omega⟩
 ·repeat' first|refine s1 ?_|fail
  exact F.rd l ⟨by omega,k3⟩ hi2 (F.retM rfl ⟨rfl,trivial⟩)
theorem l12Close_none(r:Rep)(s:List Spc)(hs:s.length≤1000)(hm:r.m=[]):AM Tryz.prog 211 [.agg (enc false r),ar false s] [] [.dt true 2 (E false s)] []:=by
 refine AM.go Tryz.func211 Tryz.ntmps211 rfl rfl fun w0 mp hw=>?_;simp[WfL,WfA,E_length,Enc.enc,In64] at hw
 have hm0:r.m.length=0:=by rw[hm];rfl
 repeat' first|refine s1 ?_|(refine kR ?_;first|refine F.aLN Spc (oo:=false) ?_)|fail
 refine F.loop (σ:=Nat) [6,7,8,9,10,14,15,16,17,18,19,20,21,22,23,24,25,26,27,28,29,30,31,32,33,34,35,36,37,38,39,40,41,42,43,44,45,46,47,48,49,50,51,52,53,54,55,56,57,58,59,60,61,62,63,64] (fun k=>[(6,.i k)]) (fun _=>[]) (fun k=>k≤9) (fun k=>9-k) 0 ⟨rfl,trivial⟩ trivial (Nat.zero_le _) ?_
 rintro k k1
 by_cases hk:k<9
 ·repeat' first|refine s1 ?_|fail
  refine F.loop (σ:=Nat) [7,8,9,10,18,19,20,21,22,23,24,25,26,27,28,29,30,31,32,33,34,35,36,37,38,39,40,41,42,43,44,45,46,47,48,49,50,51,52,53,54,55,56,57,58,59,60,61,62,63,64] (fun _=>[(7,.i 0)]) (fun _=>[]) (fun _=>True) (fun _=>0) 0 ⟨rfl,trivial⟩ trivial trivial ?_
  rintro j _
  repeat' first|refine s1 ?_|fail
  exact⟨k+1,F.fit ⟨rfl,trivial⟩ trivial,by omega,by omega⟩
 ·obtain rfl:k=9:=by omega
  repeat' first|refine s1 ?_|fail
  refine kM ?_
  exact F.retM rfl trivial
def repOr(r:Rep):Prop:=isRep r=true∨(r.d=[]∧r.m=[])
theorem repOr.len{r:Rep}(h:repOr r):r.d.length≤5:=by
 rcases h with h|h
 ·obtain⟨c1,c2,c3,c4⟩:=areDims_spec (isRep_spec h).2.1
  have:=okQ_spec c1
  omega
 ·rw[h.1];simp
theorem repOr.pos{r:Rep}(h:repOr r){k:Nat}(hk:k<r.d.length):isRep r=true:=by
 rcases h with h|h
 ·exact h
 ·rw[h.1] at hk;simp at hk
theorem radK_spok{r:Rep}(h:isRep r=true):SpOk r (radK r 0):=⟨radK_len r 0,fun v hv=>radK_ok h 0 (Nat.zero_le _) v hv⟩
theorem spok_set{r:Rep}{L:List Spc}(hr:isRep r=true)(h:SpOk r L){k:Nat}(hk:k<r.d.length){x:List Int}(hx:(x.length:Int)=max 0 (r.d.getD k default))(hb:inV r.p x):VecB r.p (r.d.getD k default).toNat [x]∧SpOk r (L.set k ⟨r.d.getD k default,spanL r.p (r.d.getD k default).toNat [x]⟩):=by
 obtain⟨r1,r2,r3,r4⟩:=isRep_spec hr
 have hp:=isF_pos r1
 have hd:0≤r.d.getD k default∧r.d.getD k default≤4:=allIn_spec (areDims_spec r2).2.2.1 hk
 have hvx:VecB r.p (r.d.getD k default).toNat [x]:=fun y hy=>by
  rw[List.mem_singleton] at hy
  subst hy
  exact⟨by omega,fun j hj=>hb (by omega) j (by omega)⟩
 refine⟨hvx,by rw[List.length_set];exact h.1,fun v hv=>?_⟩
 by_cases e:k=v
 ·subst e
  rw[set_get (by rw[h.1];exact hk)]
  refine⟨rfl,?_⟩
  have:=isSpc_span (n:=(r.d.getD k default).toNat) r1 (by omega) hvx.bd
  rw[Int.toNat_of_nonneg hd.1] at this
  exact this
 ·rw[set_ne e]
  exact h.2 v hv
def smallS(s:List Spc):Prop:=∀v,v<s.length→∀i,i<(s.getD v default).b.length→((s.getD v default).b.getD i default).length≤1000000
theorem spc_small{p:Int}{x:Spc}(h:isSpc p x=true):∀i,i<x.b.length→(x.b.getD i default).length≤1000000:=fun i hi=>by
 obtain⟨_,h2,_,h4⟩:=isSpc_spec h
 have:=(h4 _ (gm (d:=default) hi)).1
 omega
theorem sub_small{r:Rep}{s:List Spc}(h:isSub r s=true):smallS s:=fun v hv=>spc_small ((isSub_spec h).2.2.1 v hv).1
theorem spok_small{r:Rep}{s:List Spc}(h:SpOk r s):smallS s:=fun v hv=>spc_small (h.2 v (by rw[←h.1];exact hv)).2
theorem l12Sub_x(b:List UInt8)(hl:b.length≤1048576)(r:Rep)(h0:repOr r):AD Tryz.prog 307 [.agg (enc false r)] b smallS (fun s=>[.dt false 2 (E false s)]):=by
 refine AD.go Tryz.func307 Tryz.ntmps307 rfl rfl fun i h hi w0 mp hw=>?_;simp[WfL,WfA,E_length,Enc.enc,In64] at hw
 have hlen:=h0.len
 have hZ:=l12Zero_a r (by omega)
 have hl0:=radK_len r 0
 have hsp0:isRep r=true→SpOk r (radK r 0):=radK_spok
 have hO2:=l1Once_x b hl 2
 have hO8:=l1Once_x b hl 8
 have hV:=fun n hn=>l8Vector_x b hl r.p n hn
 generalize radK r 0=R0 at hZ hl0 hsp0
 repeat' first|refine s1 ?_|(refine kR ?_;first|refine F.c (hZ) ?_)|fail
 refine AW.share (o:=2) (ls:=R0) rfl ?_
 refine AW.freezeP (α:=Rep) (oo:=false) r 3 rfl rfl ?_
 refine F.loop (σ:=Nat×List Spc×Int×Int) [6,9,10,11,12,13,14,15,16,17,18,19,20,21,22,23,24,25,26,27,28,29,30,31,32,33,34,35,36,37,38] (fun x=>[(6,.i x.1)]) (fun x=>[(0,.live false 3 (curO b x.2.2.1 x.2.2.2)),(2,.live false 2 (E false x.2.1))]) (fun x=>x.1≤r.d.length∧x.2.1.length=r.d.length∧(isRep r=true→SpOk r x.2.1)∧okI b x.2.2.1) (fun x=>r.d.length-x.1) (0,R0,i,h) ⟨rfl,trivial⟩ ⟨rfl,rfl,trivial⟩ ⟨Nat.zero_le _,hl0,hsp0,hi⟩ ?_
 rintro⟨k,L,i2,h2⟩ ⟨k1,k2,k3,hi2⟩
 dsimp only at k1 k2 k3 hi2⊢
 by_cases hk:k<r.d.length
 ·have hr:=h0.pos hk
  have hsL:=k3 hr
  obtain⟨r1,r2,r3,r4⟩:=isRep_spec hr
  have hd:0≤r.d.getD k default∧r.d.getD k default≤4:=allIn_spec (areDims_spec r2).2.2.1 hk
  have hst:=fun(x:List Int) hx hb=>spok_set (x:=x) hr hsL hk hx hb
  have hSp:=fun(x:List Int) hx hb=>by
   have:=l5Span_a r.p (r.d.getD k default).toNat [x] r1 (by simp) (by omega) (hst x hx hb).1
   rw[Int.toNat_of_nonneg hd.1] at this
   exact this
  repeat' first|refine s1 ?_|(refine kR ?_;first|(refine F.dr 0 (hO2) (by assumption) ?_;intro c i3 h3 hc3 hi3;refine F.xk ?_))|fail
  cases c with
  |false=>
   repeat' first|refine s1 ?_|fail
   exact⟨(k+1,L,i3,h3),F.fit ⟨rfl,trivial⟩ ⟨rfl,rfl,trivial⟩,⟨by show k+1≤r.d.length;omega,k2,k3,hi3⟩,by show r.d.length-(k+1)<r.d.length-k;omega⟩
  |true=>
   repeat' first|refine s1 ?_|fail
   refine AW.drawI G.mixed (by kernel_rfl) (by rfl) ?_
   intro T w1 MP1 I0
   refine Pz (.p 0<|.p 1<|.p 2<|.l 3<|.p 4<|.l 5<|.p 6<|.p 7<|.l 8<|.p 9<|.p 10<|.l 11<|.p 12<|.l 13<|.p 14<|.p 15<|.l 16<|.o 17 false<|.h 17<|.o 18 false<|.h 18<|.o 19 false<|.h 19<|.p 20<|.o 21 false<|.n) ?_
   repeat' first|(refine yU (i:=17) ?_;first|refine s1 ?_|(refine F.dr 0 ((hV (r.d.getD k default) (by omega))) (by assumption) ?_;intro x i4 h4 hx hi4;refine F.xk ?_))|(refine yH (i:=17) ?_ (fun h=>(iz (α:=Int) (oo:=true) (ls:=x) 35 rfl rfl rfl h)))|(refine yH (i:=18) ?_ (fun h=>(iz (α:=List Int) (ls:=[x]) 36 rfl rfl rfl h)))|(refine yU (i:=19) ?_;first|refine s1 ?_|refine F.c ((hSp x hx.1 hx.2)) ?_)|(refine yH (i:=19) ?_ (fun h=>(izG (α:=List Int) (ls:=spanL r.p (r.d.getD k default).toNat [x]) 37 1 rfl rfl rfl rfl h)))|(refine yU (i:=21) ?_;first|refine s1 ?_|(refine F.stGE (α:=Spc) (oo:=false) (v:=⟨r.d.getD k default,spanL r.p (r.d.getD k default).toNat [x]⟩) rfl rfl rfl rfl rfl (by omega) (by omega) (.at1 rfl (.at1 rfl .nil)) rfl rfl rfl rfl rfl ?_))|refine xS ?_|refine s1 ?_|fail
   any_goals refine lf ?_
   all_goals
    rw[Nat.zero_add k]
    repeat' first|refine s1 ?_|fail
    exact⟨(k+1,L.set k ⟨r.d.getD k default,spanL r.p (r.d.getD k default).toNat [x]⟩,i4,h4),F.fit ⟨rfl,trivial⟩ ⟨rfl,rfl,trivial⟩,⟨by show k+1≤r.d.length;omega,by rw[List.length_set];exact k2,fun _=>(hst x hx.1 hx.2).2,hi4⟩,by show r.d.length-(k+1)<r.d.length-k;omega⟩
 ·repeat' first|refine s1 ?_|(refine kR ?_;first|(refine F.dr 0 (hO8) (by assumption) ?_;intro c i3 h3 hc3 hi3;refine F.xk ?_))|fail
  refine AW.freezeA (α:=Spc) 5 rfl rfl (k2.trans hl0.symm) ?_
  have hsm:smallS L:=by
   rcases h0 with hr|⟨hd0,_⟩
   ·exact spok_small (k3 hr)
   ·intro v hv
    rw[k2,hd0] at hv
    exact absurd hv (Nat.not_lt_zero v)
  cases c with
  |true=>
   repeat' first|refine s1 ?_|fail
   exact F.rd L hsm hi3 (F.retM rfl ⟨rfl,trivial⟩)
  |false=>
   rcases h0 with hr|⟨hd0,hm0⟩
   ·have hC:=l12Close_w r L hr (k3 hr)
    have hg:=spok_small (genN_ok hr (k3 hr) 9)
    have hg:smallS (genA r L):=hg
    generalize genA r L=GA at hC hg
    repeat' first|refine AW.freezeA (α:=Spc) (oo:=false) (ls:=GA) 4 rfl rfl rfl ?_|refine s1 ?_|(refine kR ?_;first|refine F.w (hC) ?_)|fail
    exact F.rd GA hg hi3 (F.retM rfl ⟨rfl,trivial⟩)
   ·have hC:=l12Close_none r L (by omega) hm0
    repeat' first|refine AW.freezeA (α:=Spc) (oo:=false) (ls:=L) 4 rfl rfl rfl ?_|refine s1 ?_|(refine kR ?_;first|refine F.w (hC) ?_)|fail
    exact F.rd L hsm hi3 (F.retM rfl ⟨rfl,trivial⟩)
abbrev subW(x:Rep×List Spc×List Spc):List AV:=[.agg (enc false x.1),.dt false 2 (E false x.2.1),.dt false 2 (E false x.2.2)]
abbrev cellR:List (List AV):=[[.i 0,.i 0,.nl,.nl,.nl,.nl]]
theorem rep_len{r:Rep}(h:isRep r=true):r.d.length≤5∧r.m.length≤6∧(r.d.length:Int)=r.q.n∧okQ r.q=true:=by
 obtain⟨_,r2,r3,_⟩:=isRep_spec h
 obtain⟨c1,c2,c3,c4⟩:=areDims_spec r2
 have:=okQ_spec c1
 exact⟨by omega,by omega,c2,c1⟩
end Go.Proofs.YtjmjamhhppoimaaGreat.V
