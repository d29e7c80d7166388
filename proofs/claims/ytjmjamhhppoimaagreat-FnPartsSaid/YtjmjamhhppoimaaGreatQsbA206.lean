/- Texts that the proof needs: A206. -/
import Derived.Test.YtjmjamhhppoimaaGreatQsbA199
namespace Go.Proofs.YtjmjamhhppoimaaGreat.V
open V.Enc (enc)
open Go.RowKit G D
set_option linter.unusedVariables false
set_option linter.unusedSimpArgs false
set_option maxHeartbeats 4000000
set_option maxRecDepth 4000
attribute [local irreducible] AW ARg ARA ARet MRet ASil AC AM AMx ACx AD ARI
def repOr(r:Rep):Prop:=isRep r=true∨(r.d=[]∧r.m=[])
theorem repOr.len{r:Rep}(h:repOr r):r.d.length≤5:=by
 rcases h with h|h
 ·obtain⟨c1,c2,c3,c4⟩:=areDims_spec (isRep_spec h).2.1
  have:=okQ_spec c1
  omega
 ·rw[h.1];simp
theorem repOr.pos{r:Rep}(h:repOr r){k:Nat}(hk:k<r.d.length):isRep r=true:=by
 rcases h with h|h
 ·exact h
 ·rw[h.1] at hk;simp at hk
theorem radK_spok{r:Rep}(h:isRep r=true):SpOk r (radK r 0):=⟨radK_len r 0,fun v hv=>radK_ok h 0 (Nat.zero_le _) v hv⟩
theorem spok_set{r:Rep}{L:List Spc}(hr:isRep r=true)(h:SpOk r L){k:Nat}(hk:k<r.d.length){x:List Int}(hx:(x.length:Int)=max 0 (r.d.getD k default))(hb:inV r.p x):VecB r.p (r.d.getD k default).toNat [x]∧SpOk r (L.set k ⟨r.d.getD k default,spanL r.p (r.d.getD k default).toNat [x]⟩):=by
 obtain⟨r1,r2,r3,r4⟩:=isRep_spec hr
 have hp:=isF_pos r1
 have hd:0≤r.d.getD k default∧r.d.getD k default≤4:=allIn_spec (areDims_spec r2).2.2.1 hk
 have hvx:VecB r.p (r.d.getD k default).toNat [x]:=fun y hy=>by
  rw[List.mem_singleton] at hy
  subst hy
  exact⟨by omega,fun j hj=>hb (by omega) j (by omega)⟩
 refine⟨hvx,by rw[List.length_set];exact h.1,fun v hv=>?_⟩
 by_cases e:k=v
 ·subst e
  rw[set_get (by rw[h.1];exact hk)]
  refine⟨rfl,?_⟩
  have:=isSpc_span (n:=(r.d.getD k default).toNat) r1 (by omega) hvx.bd
  rw[Int.toNat_of_nonneg hd.1] at this
  exact this
 ·rw[set_ne e]
  exact h.2 v hv
def smallS(s:List Spc):Prop:=∀v,v<s.length→∀i,i<(s.getD v default).b.length→((s.getD v default).b.getD i default).length≤1000000
theorem spc_small{p:Int}{x:Spc}(h:isSpc p x=true):∀i,i<x.b.length→(x.b.getD i default).length≤1000000:=fun i hi=>by
 obtain⟨_,h2,_,h4⟩:=isSpc_spec h
 have:=(h4 _ (gm (d:=default) hi)).1
 omega
theorem sub_small{r:Rep}{s:List Spc}(h:isSub r s=true):smallS s:=fun v hv=>spc_small ((isSub_spec h).2.2.1 v hv).1
theorem spok_small{r:Rep}{s:List Spc}(h:SpOk r s):smallS s:=fun v hv=>spc_small (h.2 v (by rw[←h.1];exact hv)).2
theorem l12Sub_x(b:List UInt8)(hl:b.length≤1048576)(r:Rep)(h0:repOr r):AD Tryz.prog 307 [.agg (enc false r)] b smallS (fun s=>[.dt false 2 (E false s)]):=by
 refine AD.go Tryz.func307 Tryz.ntmps307 rfl rfl fun i h hi w0 mp hw=>?_;simp[WfL,WfA,E_length,Enc.enc,In64] at hw
 have hlen:=h0.len
 have hZ:=l12Zero_a r (by omega)
 have hl0:=radK_len r 0
 have hsp0:isRep r=true→SpOk r (radK r 0):=radK_spok
 have hO2:=l1Once_x b hl 2
 have hO8:=l1Once_x b hl 8
 have hV:=fun n hn=>l8Vector_x b hl r.p n hn
 generalize radK r 0=R0 at hZ hl0 hsp0
 repeat' first|refine s1 ?_|(refine kR ?_;first|refine F.c (hZ) ?_)|fail
 refine AW.share (o:=2) (ls:=R0) rfl ?_
 refine AW.freezeP (α:=Rep) (oo:=false) r 3 rfl rfl ?_
 refine F.loop (σ:=Nat×List Spc×Int×Int) [6,9,10,11,12,13,14,15,16,17,18,19,20,21,22,23,24,25,26,27,28,29,30,31,32,33,34,35,36,37,38] (fun x=>[(6,.i x.1)]) (fun x=>[(0,.live false 3 (curO b x.2.2.1 x.2.2.2)),(2,.live false 2 (E false x.2.1))]) (fun x=>x.1≤r.d.length∧x.2.1.length=r.d.length∧(isRep r=true→SpOk r x.2.1)∧okI b x.2.2.1) (fun x=>r.d.length-x.1) (0,R0,i,h) ⟨rfl,trivial⟩ ⟨rfl,rfl,trivial⟩ ⟨Nat.zero_le _,hl0,hsp0,hi⟩ ?_
 rintro⟨k,L,i2,h2⟩ ⟨k1,k2,k3,hi2⟩
 dsimp only at k1 k2 k3 hi2⊢
 by_cases hk:k<r.d.length
 ·have hr:=h0.pos hk
  have hsL:=k3 hr
  obtain⟨r1,r2,r3,r4⟩:=isRep_spec hr
  have hd:0≤r.d.getD k default∧r.d.getD k default≤4:=allIn_spec (areDims_spec r2).2.2.1 hk
  have hst:=fun(x:List Int) hx hb=>spok_set (x:=x) hr hsL hk hx hb
  have hSp:=fun(x:List Int) hx hb=>by
   have:=l5Span_a r.p (r.d.getD k default).toNat [x] r1 (by simp) (by omega) (hst x hx hb).1
   rw[Int.toNat_of_nonneg hd.1] at this
   exact this
  repeat' first|refine s1 ?_|(refine kR ?_;first|(refine F.dr 0 (hO2) (by assumption) ?_;intro c i3 h3 hc3 hi3;refine F.xk ?_))|fail
  cases c with
  |false=>
   repeat' first|refine s1 ?_|fail
   exact⟨(k+1,L,i3,h3),F.fit ⟨rfl,trivial⟩ ⟨rfl,rfl,trivial⟩,⟨by show k+1≤r.d.length;omega,k2,k3,hi3⟩,by show r.d.length-(k+1)<r.d.length-k;omega⟩
  |true=>
   repeat' first|refine s1 ?_|fail
   refine AW.drawI G.mixed (by kernel_rfl) (by rfl) ?_
   intro T w1 MP1 I0
   refine Pz (.p 0<|.p 1<|.p 2<|.l 3<|.p 4<|.l 5<|.p 6<|.p 7<|.l 8<|.p 9<|.p 10<|.l 11<|.p 12<|.l 13<|.p 14<|.p 15<|.l 16<|.o 17 false<|.h 17<|.o 18 false<|.h 18<|.o 19 false<|.h 19<|.p 20<|.o 21 false<|.n) ?_
   repeat' first|(refine yU (i:=17) ?_;first|refine s1 ?_|(refine F.dr 0 ((hV (r.d.getD k default) (by omega))) (by assumption) ?_;intro x i4 h4 hx hi4;refine F.xk ?_))|(refine yH (i:=17) ?_ (fun h=>(iz (α:=Int) (oo:=true) (ls:=x) 35 rfl rfl rfl h)))|(refine yH (i:=18) ?_ (fun h=>(iz (α:=List Int) (ls:=[x]) 36 rfl rfl rfl h)))|(refine yU (i:=19) ?_;first|refine s1 ?_|refine F.c ((hSp x hx.1 hx.2)) ?_)|(refine yH (i:=19) ?_ (fun h=>(izG (α:=List Int) (ls:=spanL r.p (r.d.getD k default).toNat [x]) 37 1 rfl rfl rfl rfl h)))|(refine yU (i:=21) ?_;first|refine s1 ?_|(refine F.stGE (α:=Spc) (oo:=false) (v:=⟨r.d.getD k default,spanL r.p (r.d.getD k default).toNat [x]⟩) rfl rfl rfl rfl rfl (by omega) (by omega) (.at1 rfl (.at1 rfl .nil)) rfl rfl rfl rfl rfl ?_))|refine xS ?_|refine s1 ?_|fail
   any_goals refine lf ?_
   all_goals
    rw[Nat.zero_add k]
    repeat' first|refine s1 ?_|fail
    exact⟨(k+1,L.set k ⟨r.d.getD k default,spanL r.p (r.d.getD k default).toNat [x]⟩,i4,h4),F.fit ⟨rfl,trivial⟩ ⟨rfl,rfl,trivial⟩,⟨by show k+1≤r.d.length;omega,by rw[List.length_set];exact k2,fun _=>(hst x hx.1 hx.2).2,hi4⟩,by show r.d.length-(k+1)<r.d.length-k;omega⟩
 ·repeat' first|refine s1 ?_|(refine kR ?_;first|(refine F.dr 0 (hO8) (by assumption) ?_;intro c i3 h3 hc3 hi3;refine F.xk ?_))|fail
  refine AW.freezeA (α:=Spc) 5 rfl rfl (k2.trans hl0.symm) ?_
  have hsm:smallS L:=by
   rcases h0 with hr|⟨hd0,_⟩
   ·exact spok_small (k3 hr)
   ·intro v hv
    rw[k2,hd0] at hv
    exact absurd hv (Nat.not_lt_zero v)
  cases c with
  |true=>
   repeat' first|refine s1 ?_|fail
   exact F.rd L hsm hi3 (F.retM rfl ⟨rfl,trivial⟩)
  |false=>
   rcases h0 with hr|⟨hd0,hm0⟩
   ·have hC:=l12Close_w r L hr (k3 hr)
    have hg:=spok_small (genN_ok hr (k3 hr) 9)
    have hg:smallS (genA r L):=hg
    generalize genA r L=GA at hC hg
    repeat' first|refine AW.freezeA (α:=Spc) (oo:=false) (ls:=GA) 4 rfl rfl rfl ?_|refine s1 ?_|(refine kR ?_;first|refine F.w (hC) ?_)|fail
    exact F.rd GA hg hi3 (F.retM rfl ⟨rfl,trivial⟩)
   ·have hC:=l12Close_none r L (by omega) hm0
    repeat' first|refine AW.freezeA (α:=Spc) (oo:=false) (ls:=L) 4 rfl rfl rfl ?_|refine s1 ?_|(refine kR ?_;first|refine F.w (hC) ?_)|fail
    exact F.rd L hsm hi3 (F.retM rfl ⟨rfl,trivial⟩)
theorem smallOr{r:Rep}(h:(okQ r.q=true→isRep r=true)∧(okQ r.q=false→r.d=[]∧r.m=[])):repOr r:=by
 cases hq:okQ r.q with
 |true=>exact .inl (h.1 hq)
 |false=>exact .inr (h.2 hq)
abbrev subV(x:Rep×List Spc):List AV:=[.agg (enc false x.1),.dt false 2 (E false x.2)]
abbrev subW(x:Rep×List Spc×List Spc):List AV:=[.agg (enc false x.1),.dt false 2 (E false x.2.1),.dt false 2 (E false x.2.2)]
theorem l12Both_x(b:List UInt8)(hl:b.length≤1048576):AMx Tryz.prog 184 [ar false b] [] (fun x:Rep×List Spc=>smallS x.2) subV (fun _=>[]):=by
 refine AMx.go Tryz.func184 Tryz.ntmps184 rfl rfl fun w0 mp hw=>?_;simp[WfL,WfA,E_length,Enc.enc,In64] at hw
 have hN:=l1New_p b hl
 have hS:=l8Small_x b hl
 have hi0:okI b 0:=⟨Int.le_refl _,by omega⟩
 repeat' first|(refine AW.putV 5 4 rfl rfl rfl rfl (E_length _ _) (E_pure _ _) rfl ?_;refine AW.putV 5 5 rfl rfl rfl rfl (E_length _ _) (E_pure _ _) rfl ?_;refine AW.freezeV (enc false r) 5 rfl rfl (repA_pure r) (repA_frz r) ?_)|refine s1 ?_|(refine kR ?_;first|refine F.p (hN) ?_|(refine F.dr 1 (hS) (by assumption) ?_;intro r i1 k1 hr hi1;refine F.xk ?_))|fail
 have hU:=l12Sub_x b hl r (smallOr hr.2)
 refine AW.drawI G.mixed (by kernel_rfl) (by rfl) ?_
 intro T w1 MP1 I0
 refine Pz (.l 0<|.p 1<|.l 2<|.o 3 false<|.o 4 false<|.p 5<|.n) ?_
 repeat' first|(refine yU (i:=3) ?_;first|refine s1 ?_|(refine F.dr 1 (hU) (by assumption) ?_;intro s i3 k3 hs hi3;refine F.xk ?_))|refine xS ?_|refine s1 ?_|fail
 any_goals refine lf ?_
 all_goals
  repeat' first|refine s1 ?_|fail
  exact F.rx (r,s) hs (F.retM rfl trivial)
theorem l12Three_x(b:List UInt8)(hl:b.length≤1048576):AMx Tryz.prog 193 [ar false b] [] (fun x:Rep×List Spc×List Spc=>smallS x.2.1∧smallS x.2.2) subW (fun _=>[]):=by
 refine AMx.go Tryz.func193 Tryz.ntmps193 rfl rfl fun w0 mp hw=>?_;simp[WfL,WfA,E_length,Enc.enc,In64] at hw
 have hN:=l1New_p b hl
 have hS:=l8Small_x b hl
 have hi0:okI b 0:=⟨Int.le_refl _,by omega⟩
 repeat' first|(refine AW.putV 6 4 rfl rfl rfl rfl (E_length _ _) (E_pure _ _) rfl ?_;refine AW.putV 6 5 rfl rfl rfl rfl (E_length _ _) (E_pure _ _) rfl ?_;refine AW.freezeV (enc false r) 6 rfl rfl (repA_pure r) (repA_frz r) ?_)|refine s1 ?_|(refine kR ?_;first|refine F.p (hN) ?_|(refine F.dr 1 (hS) (by assumption) ?_;intro r i1 k1 hr hi1;refine F.xk ?_))|fail
 have hU:=l12Sub_x b hl r (smallOr hr.2)
 repeat' first|refine s1 ?_|(refine kR ?_;first|(refine F.dr 1 (hU) (by assumption) ?_;intro s i2 k2 hs hi2;refine F.xk ?_))|fail
 refine AW.drawI G.mixed (by kernel_rfl) (by rfl) ?_
 intro T w1 MP1 I0
 refine Pz (.l 0<|.p 1<|.p 2<|.l 3<|.o 4 false<|.o 5 false<|.p 6<|.p 7<|.n) ?_
 repeat' first|(refine yU (i:=4) ?_;first|refine s1 ?_|(refine F.dr 1 (hU) (by assumption) ?_;intro t i3 k3 ht hi3;refine F.xk ?_))|refine xS ?_|refine s1 ?_|fail
 any_goals refine lf ?_
 all_goals
  repeat' first|refine s1 ?_|fail
  exact F.rx (r,s,t) ⟨hs,ht⟩ (F.retM rfl trivial)
theorem drawIsSub_x(b:List UInt8)(hl:b.length≤1048576):AMx Tryz.prog 59 [ar false b] [] (fun x:Rep×List Spc=>smallS x.2) subV (fun _=>[]):=by
 refine AMx.go Tryz.func59 Tryz.ntmps59 rfl rfl fun w0 mp hw=>?_;simp[WfL,WfA,E_length,Enc.enc,In64] at hw
 have hB:=l12Both_x b hl
 repeat' first|refine s1 ?_|(refine kR ?_;first|(refine F.x [] (hB) ?_;rintro⟨r,s⟩ hs;refine F.xk ?_))|fail
 exact F.rx (r,s) hs (F.retM rfl trivial)
theorem drawSequenceOf_x(b:List UInt8)(hl:b.length≤1048576):AMx Tryz.prog 35 [ar false b] [] (fun x:Rep×List Spc=>smallS x.2) subV (fun _=>[]):=by
 refine AMx.go Tryz.func35 Tryz.ntmps35 rfl rfl fun w0 mp hw=>?_;simp[WfL,WfA,E_length,Enc.enc,In64] at hw
 have hB:=l12Both_x b hl
 repeat' first|refine s1 ?_|(refine kR ?_;first|(refine F.x [] (hB) ?_;rintro⟨r,s⟩ hs;refine F.xk ?_))|fail
 exact F.rx (r,s) hs (F.retM rfl trivial)
theorem drawSubRep_x(b:List UInt8)(hl:b.length≤1048576):AMx Tryz.prog 61 [ar false b] [] (fun x:Rep×List Spc=>smallS x.2) subV (fun _=>[]):=by
 refine AMx.go Tryz.func61 Tryz.ntmps61 rfl rfl fun w0 mp hw=>?_;simp[WfL,WfA,E_length,Enc.enc,In64] at hw
 have hB:=l12Both_x b hl
 repeat' first|refine s1 ?_|(refine kR ?_;first|(refine F.x [] (hB) ?_;rintro⟨r,s⟩ hs;refine F.xk ?_))|fail
 exact F.rx (r,s) hs (F.retM rfl trivial)
theorem drawMeetSubs_x(b:List UInt8)(hl:b.length≤1048576):AMx Tryz.prog 42 [ar false b] [] (fun x:Rep×List Spc×List Spc=>smallS x.2.1∧smallS x.2.2) subW (fun _=>[]):=by
 refine AMx.go Tryz.func42 Tryz.ntmps42 rfl rfl fun w0 mp hw=>?_;simp[WfL,WfA,E_length,Enc.enc,In64] at hw
 have hB:=l12Three_x b hl
 repeat' first|refine s1 ?_|(refine kR ?_;first|(refine F.x [] (hB) ?_;rintro⟨r,s,t⟩ ⟨hs,ht⟩;refine F.xk ?_))|fail
 exact F.rx (r,s,t) ⟨hs,ht⟩ (F.retM rfl trivial)
theorem drawEqualSubs_x(b:List UInt8)(hl:b.length≤1048576):AMx Tryz.prog 60 [ar false b] [] (fun x:List Spc×List Spc=>smallS x.1∧smallS x.2) (fun x=>[.dt false 2 (E false x.1),.dt false 2 (E false x.2)]) (fun _=>[]):=by
 refine AMx.go Tryz.func60 Tryz.ntmps60 rfl rfl fun w0 mp hw=>?_;simp[WfL,WfA,E_length,Enc.enc,In64] at hw
 have hB:=l12Three_x b hl
 by_cases hp:(b.length:Int)%2=0
 ·repeat' first|refine s1 ?_|(refine kR ?_;first|(refine F.x [] (hB) ?_;rintro⟨r,s,t⟩ ⟨hs,ht⟩;refine F.xk ?_))|fail
  exact F.rx (s,s) ⟨hs,hs⟩ (F.retM rfl trivial)
 ·repeat' first|refine s1 ?_|(refine kR ?_;first|(refine F.x [] (hB) ?_;rintro⟨r,s,t⟩ ⟨hs,ht⟩;refine F.xk ?_))|fail
  exact F.rx (s,t) ⟨hs,ht⟩ (F.retM rfl trivial)
theorem drawWholeSub_x(b:List UInt8)(hl:b.length≤1048576):AMx Tryz.prog 54 [ar false b] [] (fun _:Rep=>True) (fun x=>[repA x]) (fun _=>[]):=by
 refine AMx.go Tryz.func54 Tryz.ntmps54 rfl rfl fun w0 mp hw=>?_;simp[WfL,WfA,E_length,Enc.enc,In64] at hw
 have hN:=l1New_p b hl
 have hA:=l8Any_x b hl
 have hi0:okI b 0:=⟨Int.le_refl _,by omega⟩
 repeat' first|refine s1 ?_|(refine kR ?_;first|refine F.p (hN) ?_|(refine F.dr 1 (hA) (by assumption) ?_;intro r i1 k1 hr hi1;refine F.xk ?_))|fail
 exact F.rx r trivial (F.retM rfl trivial)
theorem drawGeneratedSub_x(b:List UInt8)(hl:b.length≤1048576):AMx Tryz.prog 50 [ar false b] [] (fun _:Rep×Int×List Int=>True) (fun x=>[.agg (enc false x.1),.i x.2.1,.dt true 1 (E true x.2.2)]) (fun _=>[]):=by
 refine AMx.go Tryz.func50 Tryz.ntmps50 rfl rfl fun w0 mp hw=>?_;simp[WfL,WfA,E_length,Enc.enc,In64] at hw
 have hN:=l1New_p b hl
 have hA:=l8Any_x b hl
 have hB:=fun n=>l1Below_x b hl n
 have hV:=fun p n hn=>l2Vector_x b hl p n hn
 have hi0:okI b 0:=⟨Int.le_refl _,by omega⟩
 repeat' first|(refine AW.putV 6 4 rfl rfl rfl rfl (E_length _ _) (E_pure _ _) rfl ?_;refine AW.putV 6 5 rfl rfl rfl rfl (E_length _ _) (E_pure _ _) rfl ?_;refine AW.freezeV (enc false r) 6 rfl rfl (repA_pure r) (repA_frz r) ?_)|refine s1 ?_|(refine kR ?_;first|refine F.p (hN) ?_|(refine F.dr 1 (hA) (by assumption) ?_;intro r i1 k1 hr hi1;refine F.xk ?_)|(refine F.dr 1 ((hB _)) (by assumption) ?_;intro x i2 k2 hx hi2;replace hx:=hx.1 (by omega);refine F.xk ?_))|fail
 obtain⟨k,rfl⟩:∃k:Nat,x=k:=⟨x.toNat,by omega⟩
 by_cases hk:k<r.d.length
 ·repeat' first|refine s1 ?_|fail
  refine AW.drawI G.mixed (by kernel_rfl) (by rfl) ?_
  intro T w1 MP1 I0
  refine Pz (.l 0<|.p 1<|.p 2<|.p 3<|.l 4<|.p 5<|.l 6<|.p 7<|.p 8<|.l 9<|.p 10<|.p 11<|.o 12 false<|.o 13 false<|.p 14<|.p 15<|.n) ?_
  repeat' first|(refine yU (i:=12) ?_;first|refine s1 ?_|(refine F.dr 1 ((hV r.p (max 0 (min 4 (r.d.getD k default))) (by omega))) (by assumption) ?_;intro l i3 k3 hx3 hi3;refine F.xk ?_))|refine xS ?_|refine s1 ?_|refine xP ?_ (hs:=by exact(A.min2 rfl rfl))|refine xP ?_ (hs:=by exact(A.max2 rfl rfl))|fail
  any_goals refine lf ?_
  all_goals
   repeat' first|refine s1 ?_|fail
   exact F.rx (r,(k:Int),l) trivial (F.retM rfl trivial)
 ·repeat' first|refine s1 ?_|(refine kR ?_;first|refine F.a1 Int ?_)|fail
  exact F.rx (r,(k:Int),[1]) trivial (F.retM rfl trivial)
end Go.Proofs.YtjmjamhhppoimaaGreat.V
