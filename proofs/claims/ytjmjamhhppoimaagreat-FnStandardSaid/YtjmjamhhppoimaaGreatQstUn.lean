/- Texts that the proof needs: Uw, Un. -/
import Derived.Test.YtjmjamhhppoimaaGreatQstUc
namespace Go.Proofs.YtjmjamhhppoimaaGreat.V
open Go.RowKit G
set_option linter.unusedVariables false
set_option linter.unusedSimpArgs false
def AMP(P:Program)(f:FuncId)(bs:List AV)(sz:Nat)(cs:List AV):Prop:=
 ∀(w:World) (mp:Fr) (C:Nat→Option Conc) (E0:Env) (us:List Value),Sm w mp ⟨fun _=>.no,obS [],0⟩ C mp.J E0 w→RVL 0 C mp.J w bs us→
  Run P f us w fun v w'=>∃C' J' E',Sm w mp ⟨fun _=>.no,obS [],0⟩ C' J' E' w'∧∃b u F,v=.pointer (some ⟨b,0,none⟩)∧own u=some b∧ResM 0 C' J' w' [.dt true sz [cs]] [u] F∧Loose w mp C' w' F∧∀k∈F,¬J' k
def PRet(P:Program)(res:List ResultVar)(sz:Nat)(cs:List AV):Exit→St→Prop
 |.ret,st|.normal,st=>∃t o,res=[.tmp t]∧st.E t=.pt o 1 0 0∧st.hp o=.live false sz [cs]∧cs.all pureB=true
 |_,_=>False
variable {P : Program}
theorem AMP.go{f:FuncId}{fn:Func}{n sz:Nat}{c:Code}{bs cs:List AV}(hf:P.funcs[f]?=some fn)(hn:fn.ntmps=n)(hb:fn.body=some c)(ha:Nat.ble bs.length n=true)
  (h:∀w0 mp,WfL bs→AW P n w0 mp c (PRet P fn.results.toList sz cs) ⟨fun t=>bs.getD t .no,obS [],0⟩):AMP P f bs sz cs:=fun w mp C E0 us hS0 hus=>by
 have hul:=RVL.length hus
 refine Run.go hf hn hb (by rw[hul];exact ha) ?_
 have hS:Sim w mp ⟨fun t=>bs.getD t .no,obS [],0⟩ (fr us) w:=by
  refine⟨C,mp.J,hS0.tch,hS0.im,fun t=>?_,hS0.nod,hS0.obj,hS0.lt,hS0.dis,hS0.imJ,hS0.gst⟩
  simp only[fr]
  by_cases ht:t<bs.length
  ·obtain⟨v,h1,h2⟩:=RVL.get hus (i:=t) (a:=bs[t]) (by simp[ht])
   rw[List.getD_eq_getElem?_getD,List.getD_eq_getElem?_getD,h1]
   simpa[ht] using h2
  ·have:bs.getD t .no=.no:=by simp[Nat.le_of_not_lt ht]
   rw[this];trivial
 refine(h w mp (RVL.wf _ _ hus) _ _ hS).mono fun e E' w' ⟨st',⟨C1,Im,hm⟩,hq⟩=>?_
 have key:(∃t o,fn.results.toList=[.tmp t]∧st'.E t=.pt o 1 0 0∧st'.hp o=.live false sz [cs]∧cs.all pureB=true)→∃v,(∀tmps:Array Value,(∀t,tmps.getD t undef=E' t)→(results fn tmps).run P w'=.ok v w')∧
   ∃C' J' E',Sm w mp ⟨fun _=>.no,obS [],0⟩ C' J' E' w'∧∃b u F,v=.pointer (some ⟨b,0,none⟩)∧own u=some b∧ResM 0 C' J' w' [.dt true sz [cs]] [u] F∧Loose w mp C' w' F∧∀k∈F,¬J' k:=by
  rintro⟨t,o,e1,e2,e3,e4⟩
  obtain⟨cc,c1,c2⟩:=hm.obj o false sz [cs] e3
  obtain⟨vs,g1,g2,g3⟩:=(RetL.tmp (P:=P) (st:=st') (a:=.pt o 1 0 0) e2 .nil).spec hm
  obtain⟨v,vs2,rfl,hv,hnil⟩:=g1
  have hnil:vs2=[]:=hnil
  subst hnil
  obtain⟨b,q,rfl,hlt,hcc⟩:=hv
  obtain⟨_,hq2⟩:=hcc cc c1
  obtain⟨hown,hq0⟩:=hq2 c2.len
  have hq0:q=0:=by omega
  subst hq0
  have hrv:RV st'.nx C1 Im w' (.sl o 1 0 1) cc.hv:=RV.slNew c2 c1 hlt
  have hO:OutM 0 st'.hp [.sl o 1 0 1] [.dt true sz [cs]] (updA st'.hp o .dead):=.cell rfl (.mv e3 rfl rfl (by simpa using e4) .nil) rfl .nil
  obtain⟨C2,F,k1,k2,k3,k4,k5⟩:=hO.spec (st:=st') (H:=[]) (show Sm w mp ⟨st'.E,st'.hp,st'.nx⟩ C1 Im E' w' from hm) ⟨cc.hv,[],rfl,hrv,rfl⟩ Loose.nil
  rw[List.append_nil] at k3
  rw[←e1] at g2 g3
  refine⟨.pointer (some ⟨b,0,none⟩),fun tmps ht=>results_run (vs:=[.pointer (some ⟨b,0,none⟩)]) g2 g3 tmps ht,fun _=>none,Im,E',⟨k1.tch,k1.im,fun t=>trivial,fun o ho=>rfl,(fun o l sz xs ho=>by have:Ob.dead=Ob.live l sz xs:=ho;cases this),fun o ho=>rfl,(fun o o' c c' hoo hc hc'=>by cases hc),k1.imJ,fun p hp=>RV.cut (fun o ho cc hc=>by cases hc) _ _ (RV.bnd _ _ (hS0.gst p hp)) (k1.gst p hp)⟩,b,cc.hv,F,rfl,hown,hO.bnd (fun o ho=>absurd ho (Nat.not_lt_zero _)) k2,⟨k3.nd,k3.ge,k3.wb,(fun o c hc=>by cases hc)⟩,k4⟩
 cases e with
 |normal=>exact key hq
 |ret=>exact key hq
 |_=>exact hq.elim
section
variable {n : Nat} {w0 : World} {MP : Fr} {Q : Exit → St → Prop} {st : St} {lb : Bool} {ops : Array Oper} {os : List Oper} {d : Option Tmp} {ty : TypeId} {pos : String} {af : Array Edge} {g : Option (Nat × Bool)}
theorem Sm.calledP{C:Nat→Option Conc}{Im:Nat→Prop}{E:Env}{w:World}(hm:Sm w0 MP st C Im E w){bs cs:List AV}{sz:Nat}{f:FuncId}{us:List Value}(hc:AMP P f bs sz cs)(hr:RVL 0 (Cc [] C) Im w bs us)(hcs:cs.all pureB=true)(d:Option Tmp):
  Run P f us w fun v w'=>Later w w'∧Sim w0 MP (putA ⟨st.E,updA st.hp st.nx (.live false sz [cs]),st.nx+1⟩ d (.pt st.nx 1 0 0)) (G.put E d v) w':=by
 have hI:∀k,Im k→Im k:=fun _ h=>h
 have hJ:∀k,Im k→k<w.heap.size∧k∉blsOf C []:=fun k hk=>⟨hm.im k hk,by simp[blsOf]⟩
 refine(hc w _ _ E us (hm.give (ρ:=[]) (obs:=[]) List.nodup_nil .nil hI hJ E) hr).mono fun v w' ⟨C',J',E',hb,b,u,F,e,hu,hR,hL,hF⟩=>?_
 subst e
 obtain⟨hS,hle,hfo⟩:=hm.back (ρ:=[]) (obs:=[]) (obs':=[]) List.nodup_nil .nil hI hJ rfl rfl (.inl ownO.nil) hb
 obtain⟨hL2,hF2⟩:=hfo F hL hF
 have hres:=hR.ren (N:=st.nx) (C2:=upsA (zipF C' [] 0) C) (I2:=Im2 Im J' w (blsOf C [])) (vw:=true) (ρ:=[]) rfl (fun o ho=>by cases ho) (fun i o hi=>by simp at hi) (fun _ k hk=>by
  rcases hb.imJ k hk with h|h
  ·exact .inl h
  ·exact .inr ⟨hk,h⟩) (by simp[renRB,renB,hcs])
 have ht:ThwM st.nx ([AV.dt true sz [cs]].map (renR [])) [.sl st.nx 1 0 1] [(sz,[cs])]:=.cell rfl (.ow rfl .nil) .nil
 obtain⟨C3,g1,g2,g3⟩:=ht.spec (st:=⟨st.E,upsA (zipO [] []) st.hp,st.nx⟩) rfl hS hres hL2 hF2
 refine⟨Later.ofTouched hb.tch,putS g1 d ?_⟩
 obtain⟨v2,vs2,e2,g4,_⟩:=g2
 simp only[List.cons.injEq] at e2
 obtain⟨rfl,_⟩:=e2
 obtain⟨cc,c1,c2⟩:=g1.obj st.nx false sz [cs] (updA_same ..)
 obtain⟨p,c,q1,q2,q3,q4,q5⟩:=g4
 obtain⟨_,q6⟩:=q5 cc c1
 obtain⟨_,q7,_⟩:=q6 c2.len
 have q8:=q7 rfl (by rw[c2.len];rfl)
 refine⟨b,0,rfl,by simp,fun cc' hc'=>?_⟩
 rw[c1] at hc'
 cases hc'
 exact⟨by rw[c2.len];exact Nat.le_refl 1,fun _=>⟨by rw[←q8];exact hu,by omega⟩⟩
theorem R.callP{f:FuncId}{args:Array Operand}{ats:Array TypeId}{bs cs:List AV}{sz:Nat}[hf:IsFn P f](hc:AMP P f bs sz cs)(hs:RenL (fun _=>.dead) [] (args.toList.map (evA st)) bs)(hcs:cs.all pureB=true)(hw:awant n ops ⟨d,.call ⟨.value (.func f),args,ats⟩,ty,pos,af,g⟩ st.E true=true)(hd:fits n d=true)
  (h:ARg P n w0 MP lb ops os Q (putA ⟨st.E,updA st.hp st.nx (.live false sz [cs]),st.nx+1⟩ d (.pt st.nx 1 0 0))):ARg P n w0 MP lb ops (⟨d,.call ⟨.value (.func f),args,ats⟩,ty,pos,af,g⟩::os) Q st:=fun E w ⟨C,Im,hm⟩=>by
 have hr:=hs.spec (w0:=w0) (MP:=MP) (N:=st.nx) (C:=C) (Im:=Im) (J:=Im) (fun k hk=>hk) (fun o l sz xs ho=>by cases ho) (hm.evL _)
 refine G.Rg.call (hm.calledP hc hr hcs d) rfl (awant_spec hm hw) hd ?_
 rintro v w' ⟨hl,hS⟩
 exact(h _ _ hS).mono fun e E2 w2 hq=>⟨fun hb=>hl.trans (hq.1 hb),hq.2⟩
variable {E : Nat → AV} {hp : Nat → Ob} {nx : Nat}
theorem F.p{f:FuncId}{args:Array Operand}{ats:Array TypeId}{bs cs:List AV}{sz:Nat}[hf:IsFn P f](hc:AMP P f bs sz cs)(h:ARg P n w0 MP lb ops os Q ⟨putE E d (.pt nx 1 0 0),updA hp nx (.live false sz [cs]),nx+1⟩)
  (hs:RenL (fun _=>.dead) [] (args.toList.map (evA ⟨E,hp,nx⟩)) bs:=by
   (repeat' first
    |exact RenL.nil
    |refine RenL.agg ?_ ?_
    |refine RenL.sn (by(repeat' first|exact SnapL.nil|refine SnapL.i ?_|refine SnapL.bo ?_|refine SnapL.dt ?_|refine SnapL.nd ?_|refine SnapL.ed ?_|refine SnapL.nl ?_|refine SnapL.agg ?_ ?_|refine SnapL.fn ?_ ?_|refine SnapL.ip ?_)<;>fail) ?_)<;>fail)
  (hcs:cs.all pureB=true:=by exact rfl) (hw:awant n ops ⟨d,.call ⟨.value (.func f),args,ats⟩,ty,pos,af,g⟩ E true=true:=by exact rfl) (hd:fits n d=true:=by exact rfl):ARg P n w0 MP lb ops (⟨d,.call ⟨.value (.func f),args,ats⟩,ty,pos,af,g⟩::os) Q ⟨E,hp,nx⟩:=
 R.callP (st:=⟨E,hp,nx⟩) hc hs hcs hw hd (by rw[putA_eq];exact h)
end
end Go.Proofs.YtjmjamhhppoimaaGreat.V
namespace Go.Proofs.YtjmjamhhppoimaaGreat.V
open V.Enc (enc)
open Go.RowKit G
set_option linter.unusedVariables false
set_option linter.unusedSimpArgs false
section
variable {P : Program}
theorem MRet.key{fn:Func}{mp:Fr}{rs:List AV}{obs obs':List (Nat×List (List AV))}{C0 C1:Nat→Option Conc}{J0 Im:Nat→Prop}{st':St}{E0 E':Env}{w w1 w':World}(hS0:Sm w mp ⟨fun _=>.no,obS obs,obs.length⟩ C0 J0 E0 w1)(hm:Sm w mp st' C1 Im E' w')
  (hq:∃as hp',RetL P st' fn.results.toList as∧OutM obs.length st'.hp as rs hp'∧obs'.length=obs.length∧(∀o,o<obs.length→hp' o=obS obs' o)∧obs.length≤st'.nx∧pureO obs'):∃v,(∀tmps:Array Value,(∀t,tmps.getD t undef=E' t)→(results fn tmps).run P w'=.ok v w')∧
   ∃C' J' E',Sm w mp ⟨fun _=>.no,obS obs',obs.length⟩ C' J' E' w'∧∃vs F,v=tupV vs∧ResM obs.length C' J' w' rs vs F∧Loose w mp C' w' F∧∀k∈F,¬J' k:=by
 obtain⟨as,hp',h1,h2,h3,h4,h5,h6⟩:=hq
 obtain⟨vs,g1,g2,g3⟩:=h1.spec hm
 obtain⟨C2,F,k1,k2,k3,k4,k5⟩:=h2.spec (st:=st') (H:=[]) (show Sm w mp ⟨st'.E,st'.hp,st'.nx⟩ C1 Im E' w' from hm) g1 Loose.nil
 rw[List.append_nil] at k3
 let D:Nat→Option Conc:=fun o=>bif Nat.blt o obs.length then C2 o else none
 have hD:∀o,o<obs.length→∀cc,D o=some cc→C2 o=some cc:=fun o ho cc hc=>by
  have:Nat.blt o obs.length=true:=by rw[Nat.blt_eq];exact ho
  simpa[D,this] using hc
 have hDo:∀o,o<obs.length→D o=C2 o:=fun o ho=>by
  have:Nat.blt o obs.length=true:=by rw[Nat.blt_eq];exact ho
  simp[D,this]
 have hDs:∀o cc,D o=some cc→o<obs.length∧C2 o=some cc:=fun o cc hc=>by
  cases hb:Nat.blt o obs.length with
  |true=>rw[Nat.blt_eq] at hb;exact⟨hb,hD o hb cc hc⟩
  |false=>simp[D,hb] at hc
 refine⟨tupV vs,fun tmps ht=>results_run g2 g3 tmps ht,D,Im,E',⟨k1.tch,k1.im,fun t=>trivial,fun o ho=>?_,fun o l sz xs ho=>?_,fun o ho=>obS_out (by rw[h3];exact ho),fun o o' c c' hoo hc hc'=>k1.dis o o' c c' hoo (hDs o c hc).2 (hDs o' c' hc').2,k1.imJ,fun p hp=>RV.cut hD _ _ (RV.bnd _ _ (hS0.gst p hp)) (k1.gst p hp)⟩,vs,F,rfl,h2.bnd hD k2,⟨k3.nd,k3.ge,k3.wb,fun o c hc=>k3.off o c (hDs o c hc).2⟩,k4⟩
 ·have:=obS_dead ho
  have:Nat.blt o obs.length=false:=by rw[←Bool.not_eq_true,Nat.blt_eq];omega
  simp[D,this]
 ·obtain⟨rfl,hp⟩:=obS_inv ho
  have hlt:o<obs.length:=by rw[←h3];exact(List.getElem?_eq_some_iff.1 hp).1
  obtain⟨cc,q1,q2⟩:=k1.obj o false sz xs ((h4 o hlt).trans ho)
  have hpu:=h6 _ (List.mem_of_getElem? hp)
  exact⟨cc,(hDo o hlt).trans q1,q2.esz,q2.len,q2.buf,q2.lay.cutN hD (BndL.of_mem fun a ha=>Bnd.pure (List.all_eq_true.1 hpu a ha) _),q2.lens,q2.nd,q2.ge,q2.nim,q2.lent⟩
def AMx(P:Program)(f:FuncId)(bs:List AV)(obs:List (Nat×List (List AV))){ι:Type}(p:ι→Prop)(rs:ι→List AV)(obs':ι→List (Nat×List (List AV))):Prop:=
 ∀(w:World) (mp:Fr) (C:Nat→Option Conc) (E0:Env) (us:List Value),Sm w mp ⟨fun _=>.no,obS obs,obs.length⟩ C mp.J E0 w→RVL obs.length C mp.J w bs us→
  Run P f us w fun v w'=>∃i,p i∧∃C' J' E',Sm w mp ⟨fun _=>.no,obS (obs' i),obs.length⟩ C' J' E' w'∧∃vs F,v=tupV vs∧ResM obs.length C' J' w' (rs i) vs F∧Loose w mp C' w' F∧∀k∈F,¬J' k
def MRx(P:Program)(K:Nat)(res:List ResultVar){ι:Type}(p:ι→Prop)(rs:ι→List AV)(obs':ι→List (Nat×List (List AV))):Exit→St→Prop
 |.ret,st|.normal,st=>∃i,p i∧MRet P K res (rs i) (obs' i) .ret st
 |_,_=>False
instance(P:Program)(K:Nat)(res:List ResultVar){ι:Type}(p:ι→Prop)(rs:ι→List AV)(obs':ι→List (Nat×List (List AV))):ANoPan (MRx P K res p rs obs'):=⟨fun _ _ h=>h⟩
theorem AMx.go{ι:Type}{p:ι→Prop}{rs:ι→List AV}{obs':ι→List (Nat×List (List AV))}{f:FuncId}{fn:Func}{n:Nat}{c:Code}{bs:List AV}{obs:List (Nat×List (List AV))}(hf:P.funcs[f]?=some fn)(hn:fn.ntmps=n)(hb:fn.body=some c)(ha:Nat.ble bs.length n=true)
  (h:∀w0 mp,WfL bs→AW P n w0 mp c (MRx P obs.length fn.results.toList p rs obs') ⟨fun t=>bs.getD t .no,obS obs,obs.length⟩):AMx P f bs obs p rs obs':=fun w mp C E0 us hS0 hus=>by
 have hul:=RVL.length hus
 refine Run.go hf hn hb (by rw[hul];exact ha) ?_
 have hS:Sim w mp ⟨fun t=>bs.getD t .no,obS obs,obs.length⟩ (fr us) w:=by
  refine⟨C,mp.J,hS0.tch,hS0.im,fun t=>?_,hS0.nod,hS0.obj,hS0.lt,hS0.dis,hS0.imJ,hS0.gst⟩
  simp only[fr]
  by_cases ht:t<bs.length
  ·obtain⟨v,h1,h2⟩:=RVL.get hus (i:=t) (a:=bs[t]) (by simp[ht])
   rw[List.getD_eq_getElem?_getD,List.getD_eq_getElem?_getD,h1]
   simpa[ht] using h2
  ·have:bs.getD t .no=.no:=by simp[Nat.le_of_not_lt ht]
   rw[this];trivial
 refine(h w mp (RVL.wf _ _ hus) _ _ hS).mono fun e E' w' ⟨st',⟨C1,Im,hm⟩,hq⟩=>?_
 have key:(∃i,p i∧MRet P obs.length fn.results.toList (rs i) (obs' i) .ret st')→∃v,(∀tmps:Array Value,(∀t,tmps.getD t undef=E' t)→(results fn tmps).run P w'=.ok v w')∧
   ∃i,p i∧∃C' J' E',Sm w mp ⟨fun _=>.no,obS (obs' i),obs.length⟩ C' J' E' w'∧∃vs F,v=tupV vs∧ResM obs.length C' J' w' (rs i) vs F∧Loose w mp C' w' F∧∀k∈F,¬J' k:=by
  rintro⟨i,hp,hq⟩
  obtain⟨v,h1,h2⟩:=MRet.key (fn:=fn) hS0 hm hq
  exact⟨v,h1,i,hp,h2⟩
 cases e with
 |normal=>exact key hq
 |ret=>exact key hq
 |_=>exact hq.elim
end
section
variable {P : Program} {n : Nat} {w0 : World} {MP : Fr} {Q : Exit → St → Prop} {E : Nat → AV} {hp : Nat → Ob} {nx : Nat} {lb : Bool} {ops : Array Oper} {os : List Oper} {d : Option Tmp} {ty : TypeId} {pos : String} {af : Array Edge} {g : Option (Nat × Bool)}
theorem ownA_pure{a:AV}(h:ownA a=true):pureB a=true:=by
 cases a with
 |dt o sz xs=>rfl
 |i n=>rfl
 |b v=>rfl
 |q S=>rfl
 |_=>cases h
theorem renB_own{a:AV}(h:ownA a=true):renB true a=true:=by
 cases a with
 |dt o sz xs=>
  cases o with
  |false=>rfl
  |true=>
   have h2:ownLL xs=true:=h
   rw[ownLL_all] at h2
   have h3:xs.flatten.all pureB=true:=List.all_eq_true.2 fun x hx=>ownA_pure (List.all_eq_true.1 h2 x hx)
   simp[renB,h3]
 |i n=>rfl
 |b v=>rfl
 |q S=>rfl
 |_=>cases h
theorem renB_frz{a:AV}(h:ownA a=true):renB true (V.frz a)=true:=by
 cases a with
 |dt o sz xs=>rfl
 |i n=>rfl
 |b v=>rfl
 |q S=>rfl
 |_=>cases h
theorem renB_enc{α:Type}[Enc α](o:Bool)(x:α):(enc o x).all (renB true)=true:=by
 have h:=Enc.own (α:=α) x
 rw[ownL'_all] at h
 cases o with
 |true=>exact List.all_eq_true.2 fun a ha=>renB_own (List.all_eq_true.1 h a ha)
 |false=>
  rw[←Enc.frz true x,frzL_map]
  refine List.all_eq_true.2 fun a ha=>?_
  obtain⟨a',ha',rfl⟩:=List.mem_map.1 ha
  exact renB_frz (List.all_eq_true.1 h a' ha')
def CX(P:Program)(n:Nat)(w0:World)(MP:Fr)(lb:Bool)(ops:Array Oper)(os:List Oper)(Q:Exit→St→Prop)(E:Nat→AV)(hp:Nat→Ob)(nx:Nat)(d:Option Tmp)(ρ:List Nat)(obs:List (Nat×List (List AV)))(rs:List AV)(obs':List (Nat×List (List AV))):Prop:=
 ∃as ob,obs'.length=obs.length∧szO obs obs'∧pureO obs'∧rs.all (renRB true)=true∧ThwM nx (rs.map (renR ρ)) as ob∧ARg P n w0 MP lb ops os Q ⟨putE E d (tupA as),addO (upsA (zipO ρ obs') hp) nx ob,nx+ob.length⟩
theorem F.x{f:FuncId}{args:Array Operand}{ats:Array TypeId}{bs:List AV}{obs:List (Nat×List (List AV))}{ι:Type}{p:ι→Prop}{rs:ι→List AV}{obs':ι→List (Nat×List (List AV))}[hf:IsFn P f](ρ:List Nat)(hc:AMx P f bs obs p rs obs')
  (h:∀i,p i→CX P n w0 MP lb ops os Q E hp nx d ρ obs (rs i) (obs' i))
  (hn:ρ.Nodup:=by exact ndB rfl) (hob:ObL hp ρ obs:=by(repeat' first|exact ObL.nil|refine ObL.cons rfl (by first|exact E_pure _ _|rfl) ?_)<;>fail)
  (hs:RenL (fun _=>.dead) ρ (args.toList.map (evA ⟨E,hp,nx⟩)) bs:=by
   (repeat' first
    |exact RenL.nil
    |refine RenL.sl rfl ?_
    |refine RenL.pt rfl ?_
    |refine RenL.agg ?_ ?_
    |refine RenL.sn (by(repeat' first|exact SnapL.nil|refine SnapL.i ?_|refine SnapL.bo ?_|refine SnapL.q ?_|refine SnapL.dt ?_|refine SnapL.nd ?_|refine SnapL.ed ?_|refine SnapL.nl ?_|refine SnapL.agg ?_ ?_|refine SnapL.fn ?_ ?_|refine SnapL.ip ?_)<;>fail) ?_)<;>fail)
  (hw:awant n ops ⟨d,.call ⟨.value (.func f),args,ats⟩,ty,pos,af,g⟩ E true=true:=by exact rfl) (hd:fits n d=true:=by exact rfl) (hlb:lb=false∨ρ=[]:=by first|exact .inl rfl|exact .inr rfl):ARg P n w0 MP lb ops (⟨d,.call ⟨.value (.func f),args,ats⟩,ty,pos,af,g⟩::os) Q ⟨E,hp,nx⟩:=fun E' w ⟨C,Im,hm⟩=>by
 have hoff:∀k,Im k→k∉blsOf C ρ:=fun k hk hk'=>by
  obtain⟨o,cc,h1,h2,h3⟩:=mem_blsOf.1 hk'
  obtain⟨i,hi⟩:=List.mem_iff_getElem?.1 h1
  obtain⟨p,q1,q2,q3⟩:=hob.at hi
  obtain⟨cc',r1,r2⟩:=hm.obj _ _ _ _ q2
  rw[h2] at r1
  cases r1
  rcases List.mem_append.1 h3 with h3|h3
  ·exact r2.nim k (mem_ownL.1 h3) hk
  ·cases (r2.lent k h3).1 hk
 have hI:∀k,Im k→Im k:=fun _ h=>h
 have hJ:∀k,Im k→k<w.heap.size∧k∉blsOf C ρ:=fun k hk=>⟨hm.im k hk,hoff k hk⟩
 have hlen:=hob.length
 have hr:=hs.spec (w0:=w0) (MP:=MP) (N:=nx) (C:=C) (Im:=Im) (J:=Im) hI (fun o l sz xs ho=>by cases ho) (hm.evL _)
 rw[hlen] at hr
 have hrun:Run P f (args.toList.map (G.ev E')) w fun v w'=>(ρ=[]→Later w w')∧∃st',Sim w0 MP st' (G.put E' d v) w'∧ARg P n w0 MP lb ops os Q st':=by
  refine(hc w _ _ E' _ (hm.give hn hob hI hJ E') hr).mono fun v w' ⟨i,hpi,C',J',E2,hb,vs,F,e,hR,hL,hF⟩=>?_
  obtain⟨as,ob,hl,hsz,hpu,hrb,ht,hA⟩:=h i hpi
  subst e
  obtain⟨hS,hle,hfo⟩:=hm.back hn hob hI hJ hl hsz (.inr ⟨hpu,fun _ h=>h⟩) hb
  obtain⟨hL2,hF2⟩:=hfo F hL hF
  have hres:=hR.ren (N:=nx) (C2:=upsA (zipF C' ρ 0) C) (I2:=Im2 Im J' w (blsOf C ρ)) (vw:=true) hlen.symm (fun o ho=>by
   obtain⟨i,hi⟩:=List.mem_iff_getElem?.1 ho
   obtain⟨p,q1,q2,q3⟩:=hob.at hi
   rcases Nat.lt_or_ge o nx with h|h
   ·exact h
   ·exact absurd (q2.symm.trans (hm.lt o h)) (by simp)) (fun i o hi=>by rw[zipF_at hn hi,Nat.zero_add]) (fun hv k hk=>by
   rcases hb.imJ k hk with h|h
   ·exact .inl h
   ·exact .inr ⟨hk,h⟩) hrb
  obtain⟨C3,g1,g2,g3⟩:=ht.spec (st:=⟨E,upsA (zipO ρ (obs' i)) hp,nx⟩) rfl hS hres hL2 hF2
  refine⟨fun hρ=>by subst hρ;exact Later.ofTouched hb.tch,_,putS g1 d (tup_rv g2),by rw[putA_eq];exact hA⟩
 refine G.Rg.call hrun rfl (awant_spec (st:=⟨E,hp,nx⟩) hm hw) hd ?_
 rintro v w' ⟨hl,st',hS,hA⟩
 exact(hA _ _ hS).mono fun e E2 w2 hq=>⟨fun hb=>by
  rcases hlb with hlb|hlb
  ·rw[hlb] at hb;cases hb
  ·exact(hl hlb).trans (hq.1 hb),hq.2⟩
theorem F.xk{ρ:List Nat}{rs as rs2:List AV}{a:AV}{obs obs' ob:List (Nat×List (List AV))}(h:ARg P n w0 MP lb ops os Q ⟨putE E d a,addO (upsA (zipO ρ obs') hp) nx ob,nx+ob.length⟩)
  (hl:obs'.length=obs.length:=by exact rfl) (hsz:szO obs obs':=by exact rfl) (hpu:pureO obs':=by repeat' first|exact pureO.nil|refine pureO.cons (by first|exact E_pure _ _|rfl) ?_)
  (hrb:rs.all (renRB true)=true:=by first|rfl|(simp only[renB_enc,renRB,renB,List.all_cons,List.all_nil,E_own,E_pure,Bool.or_true,Bool.true_or,Bool.true_and,Bool.and_true,Bool.and_self];done)|(simp[renRB,renB,E_own,E_pure];done))
  (hr:rs.map (renR ρ)=rs2:=by exact rfl) (ht:ThwM nx rs2 as ob:=by(repeat' first|exact ThwM.nil|apply ThwM.agg|apply ThwM.cell rfl|exact ThwC.nil|apply ThwC.at1 rfl|apply ThwC.ow (E_length _ _)|apply ThwC.ow rfl)<;>fail) (ha:tupA as=a:=by exact rfl):CX P n w0 MP lb ops os Q E hp nx d ρ obs rs obs':=by
 subst ha;subst hr;exact⟨as,ob,hl,hsz,hpu,hrb,ht,h⟩
theorem F.rx{K:Nat}{res:List ResultVar}{ι:Type}{p:ι→Prop}{rs:ι→List AV}{obs':ι→List (Nat×List (List AV))}{st:St}(i:ι)(hp:p i)(h:MRet P K res (rs i) (obs' i) .ret st):MRx P K res p rs obs' .ret st:=⟨i,hp,h⟩
end
end Go.Proofs.YtjmjamhhppoimaaGreat.V
