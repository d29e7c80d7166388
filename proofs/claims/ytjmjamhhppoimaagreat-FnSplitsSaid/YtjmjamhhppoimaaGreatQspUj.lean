/- Texts that the proof needs: Ui, Uf, Ug, Uj. -/
import Derived.Test.YtjmjamhhppoimaaGreatQspUq
namespace Go.Proofs.YtjmjamhhppoimaaGreat.G
open Go.RowKit
set_option linter.unusedVariables false
section
variable {P : Program} {ops : Array Oper} {Q : Exit → Act → World → Prop} {md : Region.Mode} {I : Nat → Prop}
def KeepI(I:Nat→Prop)(w w':World):Prop:=∀k,I k→w'.heap[k]?=w.heap[k]?
theorem KeepI.refl(w:World):KeepI I w w:=fun _ _=>rfl
theorem KeepI.trans{a b c:World}(h:KeepI I a b)(k:KeepI I b c):KeepI I a c:=fun j hj=>(k j hj).trans (h j hj)
def YieldsI(I:Nat→Prop)(P:Program)(ops:Array Oper)(o:Oper)(v:Value)(a:Act)(w:World):Prop:=
 (Region.wanted o (yielded ops a.tmps)=true∧∀w',KeepI I w w'→(execOp a.eval o).run P w'=.ok (.value v) w')∨
 (Region.wanted o (yielded ops a.tmps)=false∧v=undef)
theorem YieldsI.keep{o:Oper}{v:Value}{a:Act}{w w':World}(h:YieldsI I P ops o v a w)(hl:KeepI I w w'):YieldsI I P ops o v a w':=
 h.imp (fun⟨hw,hv⟩=>⟨hw,fun w2 h2=>hv w2 (hl.trans h2)⟩) id
theorem YieldsI.wpOp{i:Nat}{o:Oper}{v:Value}{a:Act}{w:World}(hi:ops[i]?=some o)(hy:YieldsI I P ops o v a w)
  {K:Act→World→Prop} (h:K (a.put o.dst v) w):wpOp P ops Q i K a w:=by
 unfold Go.wpOp
 simp only[hi]
 rcases hy with⟨hw,hv⟩|⟨hw,rfl⟩
 ·simp only[hw,if_true,Oper.wp,hv w (KeepI.refl w),Oper.upon];exact .inl h
 ·simp only[hw,Bool.false_eq_true,if_false];exact h
theorem YieldsI.of_same{o:Oper}{v:Value}{a a':Act}{w:World}(hy:YieldsI I P ops o v a w)(he:execOp a'.eval o=execOp a.eval o)
  (hw:Region.wanted o (yielded ops a'.tmps)=Region.wanted o (yielded ops a.tmps)):YieldsI I P ops o v a' w:=by
 unfold YieldsI at*
 rw[he,hw]
 exact hy
theorem wpOp_putI{j:Nat}{oi oj:Oper}{v:Value}(hj:ops[j]?=some oj)(hap:oi.apart ops oj=true)
  (hsi:∀cs b,oi.op≠.select cs b) (hsj:∀cs b,oj.op≠.select cs b)
  (hQ:∀c a w,Q (.panic c) (a.put oi.dst v) w→Q (.panic c) a w) {K:Act→World→Prop} {a:Act} {w:World}
  (hy:YieldsI I P ops oi v a w) (h:wpOp P ops Q j K (a.put oi.dst v) w):
  wpOp P ops Q j (fun a' w'=>YieldsI I P ops oi v a' w∧K (a'.put oi.dst v) w') a w:=by
 obtain⟨h1,h2,h3⟩:=Oper.apart_spec hap
 refine wpOp_putY (fun a=>YieldsI I P ops oi v a w) hj hap hsi hsj hQ (fun a hy u=>?_) (fun a hy d=>?_) hy h
 ·exact YieldsI.of_same hy (execOp_put oi hsi a oj.dst u h3) (wanted_put oi a oj.dst u h3)
 ·exact YieldsI.of_same hy rfl rfl
def wpAnyI(P:Program)(md:Region.Mode)(I:Nat→Prop)(ops:Array Oper)(Q:Exit→Act→World→Prop):Nat→Array Bool→Act→World→Prop
 |0,listed,a,w=>Region.ready md ops listed=[]∧Q .normal a w
 |fuel+1,listed,a,w=>
  (Region.ready md ops listed=[]→Q .normal a w)∧
  ∀i∈Region.ready md ops listed,wpOp P ops Q i (fun a' w'=>KeepI I w w'∧wpAnyI P md I ops Q fuel (listed.setIfInBounds i true) a' w') a w
theorem wpAny_of_I:∀(fuel:Nat) (listed:Array Bool) (a:Act) (w:World),wpAnyI P md I ops Q fuel listed a w→wpAny P md ops Q fuel listed a w
 |0,_,_,_,h=>h
 |fuel+1,_,_,_,h=>⟨h.1,fun i hi=>wpOp_mono (fun a' w' h'=>wpAny_of_I fuel _ a' w' h'.2) (h.2 i hi)⟩
theorem wpAnyI_first{i:Nat}{oi:Oper}{v:Value}(hi:ops[i]?=some oi)(hsel:∀(j:Nat) (o:Oper) cs b,ops[j]?=some o→o.op≠.select cs b)
  (hQ:∀c a w,Q (.panic c) (a.put oi.dst v) w→Q (.panic c) a w):
  ∀(fuel:Nat) (listed:Array Bool) (a:Act) (w:World),
   (∀j oj,ops[j]?=some oj→j≠i→listed.getD j true=false→(∀e∈oj.after,Region.binds md e=true→e.on≠i)→oi.apart ops oj=true)→
   i∈Region.ready md ops listed→YieldsI I P ops oi v a w→
   wpAnyI P md I ops Q fuel (listed.setIfInBounds i true) (a.put oi.dst v) w→wpAnyI P md I ops Q (fuel+1) listed a w:=by
 intro fuel
 induction fuel with
 |zero=>
  intro listed a w _ hr hy H
  refine⟨fun h=>(by rw[h] at hr;cases hr),fun j hj=>?_⟩
  by_cases hji:j=i
  ·subst hji;exact hy.wpOp hi ⟨KeepI.refl w,H⟩
  ·have:=ready_mono hj hji
   rw[H.1] at this
   cases this
 |succ fuel ih=>
  intro listed a w hfree hr hy H
  refine⟨fun h=>(by rw[h] at hr;cases hr),fun j hj=>?_⟩
  by_cases hji:j=i
  ·subst hji;exact hy.wpOp hi ⟨KeepI.refl w,H⟩
  ·have h1:=H.2 j (ready_mono hj hji)
   obtain⟨hjun,oj,hoj,hall⟩:=mem_ready.1 hj
   have hun0:=(mem_ready.1 hr).1
   have hnot:∀e∈oj.after,Region.binds md e=true→e.on≠i:=fun e he hb heq=>by
    have h1:=hall e he hb
    rw[heq] at h1
    rcases Nat.lt_or_ge i listed.size with h'|h'
    ·simp[h'] at hun0 h1;rw[hun0] at h1;cases h1
    ·simp[Array.getElem?_eq_none h'] at h1
   have h2:=wpOp_putI hoj (hfree j oj hoj hji hjun hnot) (fun cs b=>hsel i oi cs b hi) (fun cs b=>hsel j oj cs b hoj) hQ hy h1
   have hfree':∀k ok,ops[k]?=some ok→k≠i→(listed.setIfInBounds j true).getD k true=false→
     (∀e∈ok.after,Region.binds md e=true→e.on≠i)→oi.apart ops ok=true:=fun k ok hk hki hun hno=>by
    refine hfree k ok hk hki ?_ hno
    by_cases hjk:j=k
    ·subst hjk;exact hjun
    ·rw[getD_set_ne true hjk] at hun;exact hun
   refine wpOp_mono (fun a' w' h3=>?_) h2
   refine⟨h3.2.1,ih (listed.setIfInBounds j true) a' w' hfree' (ready_mono hr (Ne.symm hji)) (h3.1.keep h3.2.1) ?_⟩
   rw[Array.setIfInBounds_comm _ _ hji]
   exact h3.2.2
end
def RgI(P:Program)(n:Nat)(I:Nat→Prop)(ops:Array Oper)(fuel:Nat)(listed:Array Bool)(Q:Exit→Env→World→Prop)(E:Env)(w:World):Prop:=
 Region.noSelect ops=true→∀a,Fits n a E→wpAnyI P .any I ops (Up n Q) fuel listed a w
section
variable {P : Program} {ops : Array Oper} {I : Nat → Prop} {n : Nat} {fuel : Nat} {listed : Array Bool} {E : Env} {w : World}
theorem Wp.drawI{Q:Exit→Env→World→Prop}{id:Nat}(hm:P.follows .mixedOrders=true)(hst:Region.noSelect ops=true)
  (h:RgI P n I ops ops.size (Array.replicate ops.size false) Q E w.drew):Wp P n (.region id ops true) Q E w:=by
 unfold Wp
 intro a ha
 exact wp_region_any hm (wpAny_of_I _ _ _ _ (h hst a ha))
theorem RgI.nil{Q:Exit→Env→World→Prop}(hr:Region.ready .any ops listed=[])(h:Q .normal E w):RgI P n I ops fuel listed Q E w:=fun hst a ha=>by
 cases fuel with
 |zero=>exact⟨hr,E,ha,h⟩
 |succ f=>exact⟨fun _=>⟨E,ha,h⟩,by rw[hr];simp⟩
theorem RgI.take{Q:Exit→Env→World→Prop}[hQ:NoPan Q](i:Nat){o:Oper}{v:Value}(ho:ops[i]?=some o)
  (hc:(Region.free .any ops listed i&&(Region.ready .any ops listed).contains i)=true)
  (hs:∀w',KeepI I w w'→(execOp (ev E) o).run P w'=.ok (.value v) w') (hw:want n ops o E=true) (hd:fits n o.dst=true) (h:RgI P n I ops fuel (listed.setIfInBounds i true) Q (put E o.dst v) w):
  RgI P n I ops (fuel+1) listed Q E w:=fun hst a ha=>by
 simp only[Bool.and_eq_true] at hc
 obtain⟨h4,h5⟩:=hc
 refine wpAnyI_first ho (Region.noSelect_spec hst) ?_ fuel listed a w (Region.free_spec ho h4) (by simpa using h5) ?_ (h hst _ (ha.put' hd v))
 ·intro c a w ⟨E,_,hp⟩;exact absurd hp (hQ.h _ _ _)
 ·refine .inl ⟨by rw[want_eq ha];exact hw,fun w' hl=>?_⟩
  rw[ha.eval]
  exact hs w' hl
theorem RgI.any{Q:Exit→Env→World→Prop}(hne:Region.ready .any ops listed≠[])
  (h:∀i∈Region.ready .any ops listed,∃o,ops[i]?=some o∧Rg P n ops [o] (Th (fun E' w'=>KeepI I w w'∧RgI P n I ops fuel (listed.setIfInBounds i true) Q E' w') Q) E w):RgI P n I ops (fuel+1) listed Q E w:=by
 intro hst a ha
 refine⟨fun h0=>absurd h0 hne,fun i hi=>?_⟩
 obtain⟨o,ho,h⟩:=h i hi
 unfold Rg at h
 have h1:=h a ha
 unfold wpList at h1
 unfold wpOp
 simp only[ho]
 split
 ·rename_i hw
  rw[if_pos hw] at h1
  rcases h1 with h1|⟨h1,a0,w0,E0,hE0,hq⟩
  ·refine .inl ?_
   unfold Oper.wp at*
   refine upon_mono ?_ ?_ h1
   ·intro a' w' ⟨E',hf',hq⟩;exact⟨hq.1,hq.2 hst a' hf'⟩
   ·intro e a' w' hne ⟨E',hf',hq⟩
    refine⟨E',hf',?_⟩
    cases e<;>first|exact hq|exact absurd rfl hne
  ·exact .inr ⟨h1,a0,w0,E0,hE0,hq⟩
 ·rename_i hw
  rw[if_neg hw] at h1
  obtain⟨E',hf',hq⟩:=h1
  exact⟨hq.1,hq.2 hst _ hf'⟩
end
attribute [irreducible] RgI
end Go.Proofs.YtjmjamhhppoimaaGreat.G
namespace Go.Proofs.YtjmjamhhppoimaaGreat.V
open Go.RowKit G
set_option linter.unusedVariables false
set_option linter.unusedSimpArgs false
def ARI(ph:Bool)(I0:Nat→Prop)(T:Exit→Env→World→Prop)(P:Program)(n:Nat)(w0:World)(MP:Fr)(ops:Array Oper)(fuel:Nat)(listed:Array Bool)(Q:Exit→St→Prop)(st:St):Prop:=
 (∀k,I0 k→k<w0.heap.size∧k∉MP.bl)→NoPan T→(∀e E w,upQ w0 MP Q e E w→T e E w)→∀E w C Im,Sm w0 MP st C Im E w→(ph=true→∀k,Im k→I0 k)→RgI P n I0 ops fuel listed T E w
def ASilI(P:Program)(w0:World)(MP:Fr)(st:St)(o:Oper)(a:AV):Prop:=
 ∀C Im E w,Sm w0 MP st C Im E w→∃v,(∀w',KeepI Im w w'→(execOp (G.ev E) o).run P w'=.ok (.value v) w')∧RV st.nx C Im w a v
section
variable {P : Program} {n : Nat} {w0 : World} {MP : Fr} {Q : Exit → St → Prop} {st : St} {ph : Bool} {I0 : Nat → Prop} {T : Exit → Env → World → Prop} {fuel : Nat} {ops : Array Oper} {listed : Array Bool}
theorem ARI.nil(hr:Region.ready .any ops listed=[])(h:Q .normal st):ARI ph I0 T P n w0 MP ops fuel listed Q st:=fun _ _ hT E w C Im hs _=>RgI.nil hr (hT _ _ _ ⟨st,⟨C,Im,hs⟩,h⟩)
theorem ARI.take(i:Nat){o:Oper}{a:AV}(ho:ops[i]?=some o)(hc:(Region.free .any ops listed i&&(Region.ready .any ops listed).contains i)=true)
  (hs:ASilI P w0 MP st o a) (hw:awant n ops o st.E true=true) (hd:fits n o.dst=true) (h:ARI true I0 T P n w0 MP ops fuel (listed.setIfInBounds i true) Q (putA st o.dst a)):ARI true I0 T P n w0 MP ops (fuel+1) listed Q st:=fun h0 hN hT E w C Im hm hI=>by
 obtain⟨v,h1,h2⟩:=hs C Im E w hm
 have:=hN
 exact RgI.take i ho hc (fun w' hk=>h1 w' fun k hk'=>hk k (hI rfl k hk')) (awant_spec hm hw) hd (h h0 hN hT _ _ C Im (hm.put _ h2) hI)
theorem ARI.pure(i:Nat){o:Oper}{a:AV}(ho:ops[i]?=some o)(hc:(Region.free .any ops listed i&&(Region.ready .any ops listed).contains i)=true)
  (hs:ASil true P w0 MP st o a) (hw:awant n ops o st.E true=true) (hd:fits n o.dst=true) (h:ARI ph I0 T P n w0 MP ops fuel (listed.setIfInBounds i true) Q (putA st o.dst a)):ARI ph I0 T P n w0 MP ops (fuel+1) listed Q st:=fun h0 hN hT E w C Im hm hI=>by
 obtain⟨v,h1,h2⟩:=hs C Im E w hm
 have:=hN
 exact RgI.take i ho hc (fun w' hk=>by have h3:=h1 w';unfold Sil at h3;exact h3 w' (Later.refl w')) (awant_spec hm hw) hd (h h0 hN hT _ _ C Im (hm.put _ h2) hI)
theorem Sm.keepI(h0:∀k,I0 k→k<w0.heap.size∧k∉MP.bl){st':St}{C C':Nat→Option Conc}{Im Im':Nat→Prop}{E E':Env}{w w':World}(h:Sm w0 MP st C Im E w)(h':Sm w0 MP st' C' Im' E' w'):KeepI I0 w w':=fun k hk=>by
 obtain⟨a,b⟩:=h0 k hk
 rw[h.tch.same k a b,h'.tch.same k a b]
theorem ARI.any(is:List Nat)(hr:Region.ready .any ops listed=is)(hne:is≠[])
  (h:∀i∈is,∃o,ops[i]?=some o∧ARg P n w0 MP false ops [o] (ATh (ARI false I0 T P n w0 MP ops fuel (listed.setIfInBounds i true) Q) Q) st):ARI ph I0 T P n w0 MP ops (fuel+1) listed Q st:=fun h0 hN hT E w C Im hm hI=>
 RgI.any (by rw[hr];exact hne) fun i hi=>by
  obtain⟨o,ho,h⟩:=h i (by rw[←hr];exact hi)
  refine⟨o,ho,(h E w ⟨C,Im,hm⟩).mono fun e E' w' ⟨h1,st',hs',hq⟩=>?_⟩
  cases e with
  |normal=>
   obtain⟨C',Im',hm'⟩:=hs'
   exact⟨Sm.keepI h0 hm hm',hq h0 hN hT E' w' C' Im' hm' fun hh=>by cases hh⟩
  |_=>exact hT _ _ _ ⟨st',hs',hq⟩
def allB(C:Nat→Option Conc)(N:Nat):List Nat:=(List.range N).flatMap fun o=>match C o with|some cc=>blks cc|none=>[]
theorem mem_allB{C:Nat→Option Conc}{N k:Nat}:k∈allB C N↔∃o cc,o<N∧C o=some cc∧k∈blks cc:=by
 unfold allB
 rw[List.mem_flatMap]
 constructor
 ·rintro⟨o,ho,hk⟩
  cases hc:C o with
  |none=>rw[hc] at hk;cases hk
  |some cc=>rw[hc] at hk;exact⟨o,cc,List.mem_range.1 ho,hc,hk⟩
 ·rintro⟨o,cc,ho,hc,hk⟩
  exact⟨o,List.mem_range.2 ho,by rw[hc];exact hk⟩
theorem AW.drawI[ANoPan Q]{id:Nat}(hm:P.follows .mixedOrders=true)(hst:Region.noSelect ops=true)
  (hnl:((List.range st.nx).all fun o=>match st.hp o with|.live l _ _=>!l|.dead=>true)=true)
  (h:∀T w1 MP1 I0,ARI true I0 T P n w1 MP1 ops ops.size (Array.replicate ops.size false) Q st):AW P n w0 MP (.region id ops true) Q st:=fun E w ⟨C,Im,hs0⟩=>by
 have hs:=hs0.later (Later.refl w).drew
 have hsub:∀k∈allB C st.nx,w0.heap.size≤k∨k∈MP.bl:=fun k hk=>by
  obtain⟨o,cc,_,hc,hk⟩:=mem_allB.1 hk
  obtain⟨l,sz,xs,_,hO⟩:=hs.objOf hc
  exact hO.ge k hk
 have hin:∀o cc,C o=some cc→∀k∈blks cc,k∈allB C st.nx:=fun o cc hc k hk=>by
  refine mem_allB.2 ⟨o,cc,?_,hc,hk⟩
  refine Classical.byContradiction fun hn=>?_
  have:=hs.nod o (hs.lt o (by omega))
  rw[this] at hc;cases hc
 have hnot:∀k,Im k→k∉allB C st.nx:=fun k hk hm=>by
  obtain⟨o,cc,ho,hc,hk2⟩:=mem_allB.1 hm
  obtain⟨l,sz,xs,hh,hO⟩:=hs.objOf hc
  have hl:=List.all_eq_true.1 hnl o (List.mem_range.2 ho)
  rw[hh] at hl
  have hl:l=false:=by simpa using hl
  rcases List.mem_append.1 hk2 with h1|h1
  ·exact hO.nim k (mem_ownL.1 h1) hk
  ·have:=(hO.lent k h1).1 hk
   rw[hl] at this;cases this
 have hsm:Sm w.drew ⟨allB C st.nx,Im,MP.gh⟩ st C Im E w.drew:=by
  refine⟨⟨fun _ _ _=>rfl,Nat.le_refl _,rfl,rfl,rfl⟩,hs.im,hs.slot,hs.nod,fun o l sz xs ho=>?_,hs.lt,hs.dis,fun k hk=>.inl hk,hs.gst⟩
  obtain⟨cc,h1,h2⟩:=hs.obj o l sz xs ho
  exact⟨cc,h1,h2.esz,h2.len,h2.buf,h2.lay,h2.lens,h2.nd,fun k hk=>.inr (hin o cc h1 k hk),h2.nim,h2.lent⟩
 refine Wp.drawI (I:=Im) hm hst (h (upQ w0 MP Q) w.drew ⟨allB C st.nx,Im,MP.gh⟩ Im (fun k hk=>⟨hs.im k hk,hnot k hk⟩) inferInstance (fun e E' w' ⟨st',⟨C',Im',h'⟩,hq⟩=>⟨st',⟨C',Im',?_⟩,hq⟩) E w.drew C Im hsm fun _ k hk=>hk)
 have hsz:=hs.tch.size
 have hge:∀k,w.drew.heap.size≤k∨k∈allB C st.nx→w0.heap.size≤k∨k∈MP.bl:=fun k hk=>by
  rcases hk with hk|hk
  ·exact .inl (by omega)
  ·exact hsub k hk
 refine⟨⟨fun k hk hb=>?_,Nat.le_trans hsz h'.tch.size,h'.tch.os.trans hs.tch.os,h'.tch.tape.trans hs.tch.tape,h'.tch.output.trans hs.tch.output⟩,h'.im,h'.slot,h'.nod,fun o l sz xs ho=>?_,h'.lt,h'.dis,fun k hk=>?_,h'.gst⟩
 ·rw[h'.tch.same k (by omega) fun hk'=>?_]
  ·exact hs.tch.same k hk hb
  ·rcases hsub k hk' with h1|h1
   ·omega
   ·exact hb h1
 ·obtain⟨cc,h1,h2⟩:=h'.obj o l sz xs ho
  exact⟨cc,h1,h2.esz,h2.len,h2.buf,h2.lay,h2.lens,h2.nd,fun k hk=>hge k (h2.ge k hk),h2.nim,h2.lent⟩
 ·rcases h'.imJ k hk with h1|h1
  ·exact hs.imJ k h1
  ·exact .inr (hge k h1)
end
section
variable {P : Program} {w0 : World} {MP : Fr} {st : St} {d : Option Tmp} {ty : TypeId} {pos : String} {af : Array Edge} {g : Option (Nat × Bool)} {x y : Operand}
theorem A.ldII{t:TypeId}[h1:One P t]{a:AV}{cs:List AV}(hx:evA st x=.ip (a::cs)):ASilI P w0 MP st ⟨d,.load t x,ty,pos,af,g⟩ a:=fun C Im E w hm=>by
 have h:=hm.ev x
 rw[hx] at h
 obtain⟨b,q,us,h1,h2,h3,h4⟩:=h
 cases us with
 |nil=>cases h4
 |cons v us=>
  refine⟨v,fun w' hk=>?_,RV.imm h4.head⟩
  have h5:Cells w' b q (v::us):=h3.same (hk b h2)
  have:Sil P E ⟨d,.load t x,ty,pos,af,g⟩ v w':=Sil.load h1 (by simpa using h5 0 v rfl)
  unfold Sil at this
  exact this w' (Later.refl w')
theorem A.ldGI{t sz bys:Nat}{zz:Value}[h1:Agg P t][hi:HasI P t sz bys zz]{cs ds:List AV}(hx:evA st x=.ip cs)(hl:Nat.ble sz cs.length=true)(hd:cs.take sz=ds):ASilI P w0 MP st ⟨d,.load t x,ty,pos,af,g⟩ (.agg ds):=fun C Im E w hm=>by
 subst hd
 have hle:=leB hl
 have h:=hm.ev x
 rw[hx] at h
 obtain⟨b,q,us,h1,h2,h3,h4⟩:=h
 rw[←List.take_append_drop sz cs] at h4
 obtain⟨v1,v2,rfl,h5,h6⟩:=h4.split
 have hl:=h5.length
 rw[List.length_take,Nat.min_eq_left hle] at hl
 refine⟨.agg v1.toArray,fun w' hk=>?_,v1,rfl,RVL.imm h5⟩
 have h7:Cells w' b q (v1++v2):=h3.same (hk b h2)
 have:Sil P E ⟨d,.load t x,ty,pos,af,g⟩ (.agg v1.toArray) w':=Sil.loadAgg h1 h7.take hl
 unfold Sil at this
 exact this w' (Later.refl w')
end
section
variable {P : Program} {w0 : World} {MP : Fr} {st : St} {d : Option Tmp} {ty : TypeId} {pos : String} {af : Array Edge} {g : Option (Nat × Bool)} {x y : Operand}
theorem A.fldG{s i:Nat}{fields:Array Field}{fd:Field}{cs:List AV}{a:AV}(hu:HasU P s (.struct fields))(hf:fields[i]?=some fd)(h1:One P fd.type)(hx:evA st x=.agg cs)(hj:cs[fd.offset]?=some a):ASil true P w0 MP st ⟨d,.field s x i,ty,pos,af,g⟩ a:=fun C Im E w hm=>by
 have h:=hm.ev x
 rw[hx] at h
 obtain⟨us,e1,h2⟩:=h
 obtain⟨v,g1,g2⟩:=RVL.get h2 hj
 refine⟨v,fun w'=>?_,g2⟩
 unfold Sil
 intro w2 _
 have h3:=hu.und w2
 have h4:=h1.h w2
 simp[execOp,e1,Instr.field,h3,hf,asAgg,part,h4,g1]
end
section
variable {P : Program} {n : Nat} {w0 : World} {MP : Fr} {Q : Exit → St → Prop} {E : Nat → AV} {hp : Nat → Ob} {nx : Nat}
theorem AW.putC{c:Code}{o k j sz sz2 m o2:Nat}{xs:List (List AV)}{cs:List AV}{ys:List (List AV)}(ho:hp o=.live false sz xs)(hk:xs[k]?=some cs)(hj:cs[j]?=some (.sl o2 m 0 m))(ho2:hp o2=.live false sz2 ys)(hm:ys.length=m)(hpu:ys.flatten.all pureB=true)(hne:(updA hp o2 .dead) o=.live false sz xs)
  (h:AW P n w0 MP c Q ⟨E,updA (updA hp o2 .dead) o (.live false sz (xs.set k (cs.set j (.dt true sz2 ys)))),nx⟩):AW P n w0 MP c Q ⟨E,hp,nx⟩:=
 AW.ghost (fun E' w hs=>Sim.put (st:=⟨E,hp,nx⟩) ho (k:=k) (c:=cs) (j:=j) (a:=.sl o2 m 0 m) (a':=.dt true sz2 ys) hk hj rfl (.mv ho2 rfl hm hpu .nil) hne hs) h
end
section
variable {w0 : World} {MP : Fr} {st : St} {C : Nat → Option Conc} {Im : Nat → Prop} {E' : Env} {w : World}
theorem Sm.killAll(h:Sm w0 MP st C Im E' w)(f:Nat→Bool):Sm w0 MP ⟨st.E,fun o=>bif f o then st.hp o else .dead,st.nx⟩ (fun o=>bif f o then C o else Option.none) Im E' w:=by
 have hle:CLe st.nx C (fun o=>bif f o then C o else Option.none):=fun o1 ho1 c hc=>by
  cases e:f o1 with
  |false=>simp[e] at hc
  |true=>simp[e] at hc;exact⟨c,hc,.inl ⟨rfl,rfl,rfl⟩⟩
 refine⟨h.tch,h.im,fun t=>RV.mono (fun _ h=>h) (fun _ _=>rfl) (Nat.le_refl _) hle _ _ (h.slot t),fun o1 h1=>?_,fun o1 l1 sz1 xs1 h1=>?_,fun o1 h1=>?_,fun o1 o2 c1 c2 hoo hc1 hc2=>?_,h.imJ,fun p hp=>RV.mono (fun _ h=>h) (fun _ _=>rfl) (Nat.le_refl _) hle _ _ (h.gst p hp)⟩
 ·cases e:f o1 with
  |false=>rfl
  |true=>simp only[e,cond_true] at h1;simp only[cond_true];exact h.nod o1 h1
 ·cases e:f o1 with
  |false=>simp[e] at h1
  |true=>
   simp only[e,cond_true] at h1
   obtain⟨c,g1,g2⟩:=h.obj o1 l1 sz1 xs1 h1
   exact⟨c,by simp only[cond_true];exact g1,g2.esz,g2.len,g2.buf,g2.lay.mono (fun _ h=>h) (fun _ _=>rfl) (Nat.le_refl _) hle (fun _ _=>rfl),g2.lens,g2.nd,g2.ge,g2.nim,g2.lent⟩
 ·cases e:f o1 with
  |false=>simp only[e,cond_false]
  |true=>simp only[e,cond_true];exact h.lt o1 h1
 ·cases e:f o1 with
  |false=>simp[e] at hc1
  |true=>
   cases e2:f o2 with
   |false=>simp[e2] at hc2
   |true=>
    simp only[e,cond_true] at hc1
    simp only[e2,cond_true] at hc2
    exact h.dis o1 o2 c1 c2 hoo hc1 hc2
theorem Sm.slots(h:Sm w0 MP st C Im E' w){F:Nat→AV}(hF:∀t,F t=.no∨F t=st.E t):Sm w0 MP ⟨F,st.hp,st.nx⟩ C Im E' w:=
 ⟨h.tch,h.im,fun t=>by
  rcases hF t with e|e
  ·simp only[e];exact trivial
  ·simp only[e];exact h.slot t,h.nod,h.obj,h.lt,h.dis,h.imJ,h.gst⟩
theorem Sim.only{E:Nat→AV}{hp:Nat→Ob}{nx:Nat}(sl:List (Nat×AV))(ob:List (Nat×Ob))(h1:AtA E sl)(h2:AtA hp ob)(hs:Sim w0 MP ⟨E,hp,nx⟩ E' w):Sim w0 MP ⟨upsA sl fun _=>.no,upsA ob fun _=>.dead,nx⟩ E' w:=by
 obtain⟨C,Im,hm⟩:=hs
 have h3:=(hm.killAll (mem (keys ob))).slots (F:=upsA sl fun _=>.no) fun t=>by
  cases e:mem (keys sl) t with
  |false=>exact .inl (upsA_out _ e)
  |true=>exact .inr (upsA_in h1 t e)
 have e:(fun o=>bif mem (keys ob) o then hp o else .dead)=upsA ob fun _=>.dead:=by
  funext o
  cases e:mem (keys ob) o with
  |false=>rw[upsA_out _ e];rfl
  |true=>rw[upsA_in h2 o e];rfl
 simp only at h3
 rw[e] at h3
 exact⟨_,Im,h3⟩
end
section
variable {P : Program} {n : Nat} {w0 : World} {MP : Fr} {Q : Exit → St → Prop} {E : Nat → AV} {hp : Nat → Ob} {nx : Nat}
theorem AW.only{c:Code}(sl:List (Nat×AV))(ob:List (Nat×Ob))(nx':Nat)(h1:AtA E sl)(h2:AtA hp ob)(hn:nx=nx')(h:AW P n w0 MP c Q ⟨upsA sl fun _=>.no,upsA ob fun _=>.dead,nx'⟩):AW P n w0 MP c Q ⟨E,hp,nx⟩:=by
 subst hn
 exact AW.ghost (fun E' w hs=>Sim.only sl ob h1 h2 hs) h
theorem AW.putV{c:Code}(t j:Nat){o sz sz2 m o2:Nat}{cs:List AV}{ys:List (List AV)}(ht:E t=.pt o 1 0 0)(ho:hp o=.live false sz [cs])(hj:cs[j]?=some (.sl o2 m 0 m))(ho2:hp o2=.live false sz2 ys)(hm:ys.length=m)(hpu:ys.flatten.all pureB=true)(hne:(updA hp o2 .dead) o=.live false sz [cs])
  (h:AW P n w0 MP c Q ⟨E,updA (updA hp o2 .dead) o (.live false sz [cs.set j (.dt true sz2 ys)]),nx⟩):AW P n w0 MP c Q ⟨E,hp,nx⟩:=
 AW.putC (k:=0) ho rfl hj ho2 hm hpu hne h
end
end Go.Proofs.YtjmjamhhppoimaaGreat.V
namespace Go.Proofs.YtjmjamhhppoimaaGreat.V
open Go.RowKit G D
set_option linter.unusedVariables false
set_option linter.unusedSimpArgs false
section
variable {P : Program} {n : Nat} {w0 : World} {MP : Fr} {Q : Exit → St → Prop} {E : Nat → AV} {hp : Nat → Ob} {nx : Nat} {I0 : Nat → Prop} {T : Exit → Env → World → Prop} {fuel : Nat} {ops : Array Oper} {listed : Array Bool}
theorem ARI.ghost{st st':St}(hs:∀E w,Sim w0 MP st E w→Sim w0 MP st' E w)(h:ARI false I0 T P n w0 MP ops fuel listed Q st'):ARI false I0 T P n w0 MP ops fuel listed Q st:=fun h0 hN hT E w C Im hm _=>by
 obtain⟨C',Im',hm'⟩:=hs E w ⟨C,Im,hm⟩
 exact h h0 hN hT E w C' Im' hm' fun hh=>by cases hh
theorem iz{α:Type}[Enc α](t:Nat){o m sz:Nat}{l oo:Bool}{ls:List α}(ht:E t=.sl o m 0 m)(hh:hp o=.live l sz (V.E oo ls))(hn:ls.length=m)(h:ARI false I0 T P n w0 MP ops fuel listed Q ⟨updA E t (.dt false sz (V.E false ls)),updA hp o .dead,nx⟩):ARI false I0 T P n w0 MP ops fuel listed Q ⟨E,hp,nx⟩:=
 ARI.ghost (fun E' w hs=>Sim.freeze (st:=⟨E,hp,nx⟩) ht hh (by rw[E_length,hn]) (E_pure oo ls) (by rw[E_drop,E_take,E_frz,take_all hn]) hs) h
end
end Go.Proofs.YtjmjamhhppoimaaGreat.V
