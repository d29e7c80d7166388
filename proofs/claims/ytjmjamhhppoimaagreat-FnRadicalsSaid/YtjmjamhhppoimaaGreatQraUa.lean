/- Texts that the proof needs: Ua. -/
import Derived.WalkKit
import Derived.ProofKit
import Derived.Orders
import Derived.Deep.LoopGhost
import Derived.OrdersHeld
namespace Go.Proofs.YtjmjamhhppoimaaGreat.G
open Go.RowKit
set_option linter.unusedVariables false
abbrev Env:=Nat→Value
def upd(E:Env)(d:Nat)(v:Value):Env:=fun t=>bif Nat.beq t d then v else E t
def fr(l:List Value):Env:=fun t=>l.getD t undef
def ev(E:Env):Operand→Value
 |.tmp t=>E t
 |.const v=>v
 |.global g=>.pointer (some ⟨g,0,none⟩)
 |.func f=>.func (.func f) #[] #[]
theorem ltB{a b:Nat}(h:Nat.blt a b=true):a<b:=by rwa [Nat.blt_eq] at h
theorem leB{a b:Nat}(h:Nat.ble a b=true):a≤b:=Nat.le_of_ble_eq_true h
theorem upd_same(E:Env)(d:Nat)(v:Value):upd E d v d=v:=by simp[upd]
theorem upd_ne(E:Env){d t:Nat}(v:Value)(h:t≠d):upd E d v t=E t:=by
 have:Nat.beq t d=false:=by rw[←Bool.not_eq_true];intro hb;exact h (Nat.eq_of_beq_eq_true hb)
 simp[upd,this]
structure Fits (n:Nat) (a:Act) (E:Env):Prop where
 size:a.tmps.size=n
 defers:a.defers=[]
 get:∀t,a.tmps.getD t undef=E t
theorem Fits.eval{n:Nat}{a:Act}{E:Env}(h:Fits n a E):a.eval=ev E:=by
 funext x
 cases x with
 |tmp t=>exact h.get t
 |const v=>rfl
 |global g=>rfl
 |func f=>rfl
theorem Fits.put{n:Nat}{a:Act}{E:Env}(h:Fits n a E){d:Nat}(hd:d<n)(v:Value):Fits n (a.put (some d) v) (upd E d v):=by
 refine⟨by simp[Act.put,h.size],h.defers,fun t=>?_⟩
 by_cases e:t=d
 ·subst e
  rw[upd_same]
  have:t<a.tmps.size:=by rw[h.size];exact hd
  simp[Act.put,this]
 ·rw[upd_ne _ _ e,←h.get t]
  simp only[Act.put,Array.getD_eq_getD_getElem?,Array.getElem?_setIfInBounds]
  rw[if_neg (fun x=>e x.symm)]
def Up(n:Nat)(Q:Exit→Env→World→Prop):Exit→Act→World→Prop:=fun e a w=>∃E,Fits n a E∧Q e E w
def Wp(P:Program)(n:Nat)(c:Code)(Q:Exit→Env→World→Prop)(E:Env)(w:World):Prop:=
 ∀a,Fits n a E→c.wp P (Up n Q) a w
def Th(K:Env→World→Prop)(Q:Exit→Env→World→Prop):Exit→Env→World→Prop
 |.normal,E,w=>K E w
 |e,E,w=>Q e E w
def Bk(id:Nat)(Q:Exit→Env→World→Prop):Exit→Env→World→Prop
 |.exit id',E,w=>bif Nat.beq id' id then Q .normal E w else Q (.exit id') E w
 |e,E,w=>Q e E w
section
variable {P : Program} {n : Nat} {Q : Exit → Env → World → Prop} {E : Env} {w : World}
theorem Th.normal{K:Env→World→Prop}(h:K E w):Th K Q .normal E w:=h
theorem Th.ret{K:Env→World→Prop}(h:Q .ret E w):Th K Q .ret E w:=h
theorem Th.exit{K:Env→World→Prop}{id:Nat}(h:Q (.exit id) E w):Th K Q (.exit id) E w:=h
theorem Bk.normal{id:Nat}(h:Q .normal E w):Bk id Q .normal E w:=h
theorem Bk.ret{id:Nat}(h:Q .ret E w):Bk id Q .ret E w:=h
theorem Bk.here{id id':Nat}(hb:Nat.beq id' id=true)(h:Q .normal E w):Bk id Q (.exit id') E w:=by
 simp only[Bk,hb];exact h
theorem Bk.far{id id':Nat}(hb:Nat.beq id' id=false)(h:Q (.exit id') E w):Bk id Q (.exit id') E w:=by
 simp only[Bk,hb];exact h
theorem Wp.mono{c:Code}{Q':Exit→Env→World→Prop}(h:Wp P n c Q E w)(hq:∀e E w,Q e E w→Q' e E w):Wp P n c Q' E w:=
 fun a ha=>wp_mono (h a ha) fun e a w ⟨E',hf,hq'⟩=>⟨E',hf,hq e E' w hq'⟩
theorem Wp.skip(h:Q .normal E w):Wp P n .skip Q E w:=fun _ ha=>wp_skip ⟨E,ha,h⟩
theorem Wp.ret(h:Q .ret E w):Wp P n .ret Q E w:=fun _ ha=>wp_ret ⟨E,ha,h⟩
theorem Wp.exit{id:Nat}(h:Q (.exit id) E w):Wp P n (.exit id) Q E w:=fun _ ha=>wp_exit ⟨E,ha,h⟩
theorem Wp.seq{x y:Code}(h:Wp P n x (Th (Wp P n y Q) Q) E w):Wp P n (.seq x y) Q E w:=fun a ha=>
 wp_seq (wp_mono (h a ha) fun e a w ⟨E',hf,hq⟩=>by
  cases e<;>first|exact hq a hf|exact⟨E',hf,hq⟩)
theorem Wp.block{id:Nat}{c:Code}(h:Wp P n c (Bk id Q) E w):Wp P n (.block id c) Q E w:=fun a ha=>
 wp_block (wp_mono (h a ha) fun e a w ⟨E',hf,hq⟩=>by
  cases e with
  |exit id'=>
   simp only[Exit.inBlock]
   by_cases hid:id'=id
   ·subst hid
    simp only[Bk,Nat.beq_refl,cond_true] at hq
    simp only[if_true]
    exact⟨E',hf,hq⟩
   ·have hb:Nat.beq id' id=false:=by rw[←Bool.not_eq_true];intro hb;exact hid (Nat.eq_of_beq_eq_true hb)
    simp only[Bk,hb,cond_false] at hq
    simp only[hid,if_false]
    exact⟨E',hf,hq⟩
  |_=>exact⟨E',hf,hq⟩)
theorem Wp.cond{c:Operand}{x y:Code}{b:Bool}(hc:ev E c=.bool b)(ht:b=true→Wp P n x Q E w)(hf:b=false→Wp P n y Q E w):Wp P n (.cond c x y) Q E w:=fun a ha=>by
 have hc':a.eval c=.bool b:=by rw[ha.eval];exact hc
 exact wp_cond_split hc' (fun h=>ht h a ha) (fun h=>hf h a ha)
theorem Wp.condF{c:Operand}{x y:Code}{b:Bool}(hc:ev E c=.bool b)(hb:b=false)(h:Wp P n y Q E w):Wp P n (.cond c x y) Q E w:=
 Wp.cond hc (fun h'=>by rw[hb] at h';cases h') (fun _=>h)
end
def mem:List Nat→Nat→Bool
 |[],_=>false
 |a::l,t=>bif Nat.beq t a then true else mem l t
def hv(S:List Nat)(h E:Env):Env:=fun t=>bif mem S t then h t else E t
def Agr(S:List Nat)(E' E:Env):Prop:=∀t,mem S t=false→E' t=E t
theorem Agr.refl(S:List Nat)(E:Env):Agr S E E:=fun _ _=>rfl
theorem Agr.hv(S:List Nat)(h E:Env):Agr S (G.hv S h E) E:=fun t ht=>by simp only[G.hv,ht];rfl
theorem Agr.upd{S:List Nat}{E' E:Env}{d:Nat}{v:Value}(hd:mem S d=true)(h:Agr S E' E):Agr S (G.upd E' d v) E:=fun t ht=>by
 by_cases e:t=d
 ·subst e;rw[hd] at ht;cases ht
 ·rw[upd_ne _ _ e];exact h t ht
def memO(S:List Nat):Option Nat→Bool|some d=>mem S d|none=>true
section
variable {P : Program} {n : Nat} {Q : Exit → Env → World → Prop} {E : Env} {w : World}
def Rg(P:Program)(n:Nat)(ops:Array Oper)(os:List Oper)(Q:Exit→Env→World→Prop)(E:Env)(w:World):Prop:=
 ∀a,Fits n a E→wpList P ops (Up n Q) os a w
theorem Wp.region{id:Nat}{l:List Oper}(h:Rg P n l.toArray l Q E w):Wp P n (.region id l.toArray false) Q E w:=
 fun a ha=>wp_region_lit (h a ha)
def want(n:Nat)(ops:Array Oper)(o:Oper)(E:Env):Bool:=
 match o.guard with
 |none=>true
 |some (j,b)=>match (ops[j]?).bind (·.dst) with
  |some d=>bif Nat.blt d n then(match E d with|.bool c=>c==b|_=>false) else false
  |none=>false
theorem want_eq{ops:Array Oper}{o:Oper}{a:Act}(ha:Fits n a E):Region.wanted o (yielded ops a.tmps)=want n ops o E:=by
 unfold Region.wanted want
 cases o.guard with
 |none=>rfl
 |some p=>
  obtain⟨j,b⟩:=p
  simp only[yielded]
  cases hd:(ops[j]?).bind (·.dst) with
  |none=>simp
  |some d=>
   simp only[Option.bind_some]
   by_cases hlt:d<n
   ·have h1:Nat.blt d n=true:=by simpa[Nat.blt_eq] using hlt
    have h2:d<a.tmps.size:=by rw[ha.size];exact hlt
    have h3:a.tmps[d]?=some (E d):=by rw[←ha.get d,Array.getD_eq_getD_getElem?];simp[h2]
    rw[h3,h1]
    simp only[cond_true]
    cases E d<;>simp
   ·have h1:Nat.blt d n=false:=by rw[←Bool.not_eq_true,Nat.blt_eq];exact hlt
    have h2:¬d<a.tmps.size:=by rw[ha.size];exact hlt
    have h3:a.tmps[d]?=none:=by rw[Array.getElem?_eq_none_iff];exact Nat.le_of_not_lt h2
    rw[h3,h1]
    simp
theorem Rg.nil{ops:Array Oper}(h:Q .normal E w):Rg P n ops [] Q E w:=fun _ ha=>⟨E,ha,h⟩
def put(E:Env)(d:Option Nat)(v:Value):Env:=match d with|some d=>upd E d v|none=>E
def fits(n:Nat):Option Nat→Bool|some d=>Nat.blt d n|none=>true
theorem Agr.put{S:List Nat}{E' E:Env}{d:Option Nat}{v:Value}(hd:memO S d=true)(h:Agr S E' E):Agr S (G.put E' d v) E:=by
 cases d with
 |none=>exact h
 |some d=>exact Agr.upd hd h
theorem Fits.put'{a:Act}(ha:Fits n a E){d:Option Nat}(hd:fits n d=true)(v:Value):Fits n (a.put d v) (G.put E d v):=by
 cases d with
 |none=>exact ha
 |some d=>exact ha.put (by simpa[fits,Nat.blt_eq] using hd) v
theorem Rg.val{ops:Array Oper}{os:List Oper}{o:Oper}{v:Value}{w':World}(hw:want n ops o E=true)
  (hr:(execOp (ev E) o).run P w=.ok (.value v) w') (hd:fits n o.dst=true) (h:Rg P n ops os Q (put E o.dst v) w'):Rg P n ops (o::os) Q E w:=fun a ha=>by
 unfold wpList
 rw[want_eq ha,hw,if_pos rfl]
 refine .inl ?_
 rw[Oper.wp,ha.eval,hr]
 exact h _ (ha.put' hd v)
theorem Rg.unit{ops:Array Oper}{os:List Oper}{o:Oper}{w':World}(hw:want n ops o E=true)
  (hr:(execOp (ev E) o).run P w=.ok .skip w') (hd:fits n o.dst=true) (h:Rg P n ops os Q (put E o.dst undef) w'):Rg P n ops (o::os) Q E w:=fun a ha=>by
 unfold wpList
 rw[want_eq ha,hw,if_pos rfl]
 refine .inl ?_
 rw[Oper.wp,ha.eval,hr]
 exact h _ (ha.put' hd undef)
theorem Rg.skip{ops:Array Oper}{os:List Oper}{o:Oper}(hw:want n ops o E=false)(hd:fits n o.dst=true)
  (h:Rg P n ops os Q (put E o.dst undef) w):Rg P n ops (o::os) Q E w:=fun a ha=>by
 unfold wpList
 rw[want_eq ha,hw,if_neg (by simp)]
 exact h _ (ha.put' hd undef)
theorem upd_eq_self{d:Nat}{v:Value}(h:E d=v):upd E d v=E:=by
 funext t
 by_cases e:t=d
 ·subst e;rw[upd_same,h]
 ·rw[upd_ne _ _ e]
theorem Rg.split{ops:Array Oper}{os:List Oper}{x:Option Tmp}{op:Op}{ty:TypeId}{pos:String}{af:Array Edge}{j:Nat}{c:Bool}{d:Nat}{b:Bool}
  (hj:(ops[j]?).bind (·.dst)=some d) (hE:E d=.bool b)
  (ht:b=true→Rg P n ops (⟨x,op,ty,pos,af,some (j,c)⟩::os) Q (upd E d (.bool true)) w)
  (hf:b=false→Rg P n ops (⟨x,op,ty,pos,af,some (j,c)⟩::os) Q (upd E d (.bool false)) w):Rg P n ops (⟨x,op,ty,pos,af,some (j,c)⟩::os) Q E w:=by
 cases b with
 |true=>have:=ht rfl;rwa [upd_eq_self hE] at this
 |false=>have:=hf rfl;rwa [upd_eq_self hE] at this
theorem Wp.no{c:Operand}{x y:Code}(hc:ev E c=.bool false)(h:Wp P n y Q E w):Wp P n (.cond c x y) Q E w:=Wp.condF hc rfl h
def Run(P:Program)(f:FuncId)(args:List Value)(w:World)(R:Value→World→Prop):Prop:=
 Calls P f args.toArray w fun e w'=>∃v,e=.returned v∧R v w'
theorem Run.calls{f:FuncId}{args:List Value}{R:Value→World→Prop}(h:Run P f args w R):Calls P f args.toArray w fun e w'=>∃v,e=.returned v∧R v w':=h
theorem Run.mono{f:FuncId}{args:List Value}{R R':Value→World→Prop}(h:Run P f args w R)(hr:∀v w',R v w'→R' v w'):Run P f args w R':=
 Calls.mono h fun e w' ⟨v,he,hR⟩=>⟨v,he,hr v w' hR⟩
theorem Rg.enter{ops:Array Oper}{os:List Oper}{o:Oper}{f:FuncId}{args:List Value}{w':World}{R:Value→World→Prop}(hw:want n ops o E=true)
  (hr:(execOp (ev E) o).run P w=.ok (.enter f args.toArray) w') (hd:fits n o.dst=true) (hc:Run P f args w' R)
  (h:∀v w'',R v w''→Rg P n ops os Q (put E o.dst v) w''):Rg P n ops (o::os) Q E w:=fun a ha=>by
 unfold wpList
 rw[want_eq ha,hw,if_pos rfl]
 refine .inl ?_
 rw[Oper.wp,ha.eval,hr]
 refine Calls.mono hc fun e w'' ⟨v,he,hR⟩=>?_
 subst he
 exact h v w'' hR _ (ha.put' hd v)
end
def Fin(P:Program)(fn:Func)(R:Value→World→Prop):Exit→Env→World→Prop
 |.normal,E,w|.ret,E,w=>∃v,(∀tmps:Array Value,(∀t,tmps.getD t undef=E t)→(results fn tmps).run P w=.ok v w)∧R v w
 |_,_,_=>False
theorem Fin.ret{P:Program}{fn:Func}{R:Value→World→Prop}{E:Env}{w:World}(h:Fin P fn R .ret E w):Fin P fn R .normal E w:=h
theorem Run.intro{P:Program}{f:FuncId}{fn:Func}{c:Code}{args:List Value}{w:World}{R:Value→World→Prop}
  (hf:P.funcs[f]?=some fn) (hb:fn.body=some c) (ha:args.length≤fn.ntmps) (h:Wp P fn.ntmps c (Fin P fn R) (fr args) w):Run P f args w R:=by
 refine calls_of_wp hf hb ?_
 have hfit:Fits fn.ntmps {tmps:=args.toArray++Array.replicate (fn.ntmps-args.toArray.size) undef,defers:=[]} (fr args):=by
  refine⟨by simp;omega,rfl,fun t=>?_⟩
  simp only[fr,Array.getD_eq_getD_getElem?,List.getD_eq_getElem?_getD,Array.getElem?_append,List.size_toArray,List.getElem?_toArray]
  by_cases h1:t<args.length
  ·rw[if_pos h1]
  ·have h2:args[t]?=none:=by rw[List.getElem?_eq_none_iff];omega
   rw[if_neg h1,h2]
   simp only[Array.getElem?_replicate]
   split<;>rfl
 refine wp_mono (h _ hfit) fun e a w' ⟨E',hf',hq⟩=>?_
 cases e with
 |normal=>obtain⟨v,hv,hR⟩:=hq;exact⟨hf'.defers,v,hv _ hf'.get,v,rfl,hR⟩
 |ret=>obtain⟨v,hv,hR⟩:=hq;exact⟨hf'.defers,v,hv _ hf'.get,v,rfl,hR⟩
 |panic c=>exact hq.elim
 |exit i=>exact hq.elim
 |goto i=>exact hq.elim
 |outgrown=>exact hq.elim
theorem Run.go{P:Program}{f:FuncId}{fn:Func}{n:Nat}{c:Code}{args:List Value}{w:World}{R:Value→World→Prop}
  (hf:P.funcs[f]?=some fn) (hn:fn.ntmps=n) (hb:fn.body=some c) (ha:Nat.ble args.length n=true) (h:Wp P n c (Fin P fn R) (fr args) w):Run P f args w R:=by
 subst hn
 exact Run.intro hf hb (Nat.le_of_ble_eq_true ha) h
theorem Fin.one{P:Program}{fn:Func}{R:Value→World→Prop}{E:Env}{w:World}{t:Nat}(hr:fn.results=#[.tmp t])(h:R (E t) w):Fin P fn R .ret E w:=
 ⟨E t,fun tmps ht=>by simp[results,hr,ht],h⟩
attribute [irreducible] Wp Rg Run
class HasU (P:Program) (t:Nat) (d:outParam TypeDesc):Prop where
 u:P.underlying t=some d
class HasI (P:Program) (t:Nat) (sz bys:outParam Nat) (z:outParam Value):Prop where
 i:(P.info? t).map (fun i=>(i.zero,i.size,i.bytes))=some (some z,sz,bys)
class HasF (P:Program) (s i:Nat) (off:outParam Nat):Prop where
 f:∀b o w,(Instr.fieldAt s (.pointer (some ⟨b,o,none⟩)) i).run P w=.ok (.pointer (some ⟨b,o+off,none⟩)) w
class One (P:Program) (t:Nat):Prop where
 h:∀w,(isAgg t).run P w=.ok false w
class Agg (P:Program) (t:Nat):Prop where
 h:∀w,(isAgg t).run P w=.ok true w
theorem add_none(b o n:Nat):(⟨b,o,none⟩:Addr).add n=⟨b,o+n,none⟩:=by
 unfold Addr.add;split
 ·rename_i h;subst h;rfl
 ·rfl
section
variable {P : Program}
theorem HasI.ex{t sz bys:Nat}{z:Value}(h:HasI P t sz bys z):∃i,P.info? t=some i∧i.zero=some z∧i.size=sz∧i.bytes=bys:=by
 have:=h.i
 cases hi:P.info? t with
 |none=>rw[hi] at this;cases this
 |some i=>
  rw[hi] at this
  simp only[Option.map_some,Option.some.injEq,Prod.mk.injEq] at this
  exact⟨i,rfl,this.1,this.2.1,this.2.2⟩
theorem HasI.sizeOf{t sz bys:Nat}{z:Value}(h:HasI P t sz bys z)(w:World):(sizeOf t).run P w=.ok sz w:=by
 obtain⟨i,h1,h2,h3,h4⟩:=h.ex
 simp[Go.sizeOf,typeInfo,h1,h3]
theorem HasI.zeroV{t sz bys:Nat}{z:Value}(h:HasI P t sz bys z)(w:World):(zeroValue t).run P w=.ok z w:=by
 obtain⟨i,h1,h2,h3,h4⟩:=h.ex
 simp[zeroValue,typeInfo,h1,h2]
theorem HasU.und{t:Nat}{d:TypeDesc}(h:HasU P t d)(w:World):(underlying t).run P w=.ok d w:=by
 have:=h.u
 simp[Go.underlying,this]
theorem HasF.of{s i off sz bys:Nat}{z:Value}{fields:Array Field}{f:Field}(hu:HasU P s (.struct fields))(hf:fields[i]?=some f)(hi:HasI P f.type sz bys z)(h0:sz≠0)(ho:f.offset=off):HasF P s i off:=by
 refine⟨fun b o w=>?_⟩
 subst ho
 have h1:=hu.und w
 have h2:=hi.sizeOf w
 simp only[Instr.fieldAt,Sem.run_bind,h1,Result.andThen_ok,hf,Instr.sureAddr,Sem.run_pure,fieldPlace,h2,h0,if_false,add_none]
theorem One.of{t:Nat}{d:TypeDesc}(hu:HasU P t d)(hd:(match d with|.struct _|.array _ _=>true|_=>false)=false):One P t:=by
 refine⟨fun w=>?_⟩
 have h1:=hu.und w
 simp only[isAgg,Sem.run_bind,h1,Result.andThen_ok]
 cases d<;>first|rfl|cases hd
theorem Agg.of{t:Nat}{d:TypeDesc}(hu:HasU P t d)(hd:(match d with|.struct _|.array _ _=>true|_=>false)=true):Agg P t:=by
 refine⟨fun w=>?_⟩
 have h1:=hu.und w
 simp only[isAgg,Sem.run_bind,h1,Result.andThen_ok]
 cases d<;>first|rfl|cases hd
end
def Later(w w':World):Prop:=Below w.heap.size w w'
theorem Later.refl(w:World):Later w w:=Below.refl _ _
theorem Later.size{w w':World}(h:Later w w'):w.heap.size≤w'.heap.size:=Below.size h
theorem Later.trans{a b c:World}(h:Later a b)(k:Later b c):Later a c:=Below.trans h (Below.mono k h.size)
theorem Later.trans'{a b c:World}(h:Later a b)(k:Below a.heap.size b c):Later a c:=Below.trans h k
theorem Later.cell{w w':World}(h:Later w w'){a:Addr}{v:Value}(hc:w.cell? a=some v):w'.cell? a=some v:=
 (Below.cell h (World.block_lt_of_cell? w a hc)).trans hc
theorem Later.drew{w w':World}(h:Later w w'):Later w w'.drew:=Below.drew h
def Sil(P:Program)(E:Env)(o:Oper)(v:Value)(w:World):Prop:=∀w',Later w w'→(execOp (ev E) o).run P w'=.ok (.value v) w'
section
variable {P : Program} {n : Nat} {Q : Exit → Env → World → Prop} {E : Env} {w : World} {ops : Array Oper} {os : List Oper}
theorem Rg.sil{o:Oper}{v:Value}(hs:Sil P E o v w)(hw:want n ops o E=true)(hd:fits n o.dst=true)(h:Rg P n ops os Q (put E o.dst v) w):Rg P n ops (o::os) Q E w:=
 Rg.val hw (hs w (Later.refl w)) hd h
variable {d : Option Tmp} {ty : TypeId} {pos : String} {af : Array Edge} {g : Option (Nat × Bool)} {x y z : Operand}
theorem Sil.move{v:Value}(hx:ev E x=v):Sil P E ⟨d,.move x,ty,pos,af,g⟩ v w:=fun w' _=>by
 simp[execOp,hx]
theorem Sil.assign{v:Value}(hx:ev E x=v):Sil P E ⟨d,.assign x,ty,pos,af,g⟩ v w:=fun w' _=>by
 simp[execOp,hx]
theorem Sil.pickT{v:Value}{b:Bool}(hx:ev E x=.bool b)(hb:b=true)(hy:ev E y=v):Sil P E ⟨d,.pick x y z,ty,pos,af,g⟩ v w:=fun w' _=>by
 simp[execOp,hx,asBool,hb,hy]
theorem Sil.pickF{v:Value}{b:Bool}(hx:ev E x=.bool b)(hb:b=false)(hz:ev E z=v):Sil P E ⟨d,.pick x y z,ty,pos,af,g⟩ v w:=fun w' _=>by
 simp[execOp,hx,asBool,hb,hz]
theorem Sil.notT{t:TypeId}(hx:ev E x=.bool true):Sil P E ⟨d,.unOp .not t x,ty,pos,af,g⟩ (.bool false) w:=fun w' _=>by
 simp[execOp,hx,Op.unary]
theorem Sil.notF{t:TypeId}(hx:ev E x=.bool false):Sil P E ⟨d,.unOp .not t x,ty,pos,af,g⟩ (.bool true) w:=fun w' _=>by
 simp[execOp,hx,Op.unary]
theorem Sil.not{t:TypeId}{b:Bool}(hx:ev E x=.bool b):Sil P E ⟨d,.unOp .not t x,ty,pos,af,g⟩ (.bool (!b)) w:=fun w' _=>by
 simp[execOp,hx,Op.unary]
theorem Sil.neg{t:TypeId}{k:IntKind}{a:Int}(hx:ev E x=.int k a):Sil P E ⟨d,.unOp .neg t x,ty,pos,af,g⟩ (.int k (k.wrap (-a))) w:=fun w' _=>by
 simp[execOp,hx,Op.unary,Op.intArith]
section cmp
variable {t t' : TypeId} {k : IntKind} {a b : Int} (hx : ev E x = .int k a) (hy : ev E y = .int k b)
include hx hy
theorem Sil.lss:Sil P E ⟨d,.binOp .lss t x y t',ty,pos,af,g⟩ (.bool (decide (a<b))) w:=fun w' _=>by
 simp[execOp,hx,hy,eqGuard,binOp,Op.intCmp]
theorem Sil.leq:Sil P E ⟨d,.binOp .leq t x y t',ty,pos,af,g⟩ (.bool (decide (a≤b))) w:=fun w' _=>by
 simp[execOp,hx,hy,eqGuard,binOp,Op.intCmp]
theorem Sil.gtr:Sil P E ⟨d,.binOp .gtr t x y t',ty,pos,af,g⟩ (.bool (decide (b<a))) w:=fun w' _=>by
 simp[execOp,hx,hy,eqGuard,binOp,Op.intCmp]
theorem Sil.geq:Sil P E ⟨d,.binOp .geq t x y t',ty,pos,af,g⟩ (.bool (decide (b≤a))) w:=fun w' _=>by
 simp[execOp,hx,hy,eqGuard,binOp,Op.intCmp]
theorem Sil.eql:Sil P E ⟨d,.binOp .eql t x y t',ty,pos,af,g⟩ (.bool (decide (a=b))) w:=fun w' _=>by
 simp[execOp,hx,hy,eqGuard,binOp,Op.intCmp];rfl
theorem Sil.neq:Sil P E ⟨d,.binOp .neq t x y t',ty,pos,af,g⟩ (.bool (decide (a≠b))) w:=fun w' _=>by
 simp[execOp,hx,hy,eqGuard,binOp,Op.intCmp];rfl
theorem Sil.addW:Sil P E ⟨d,.binOp .add t x y t',ty,pos,af,g⟩ (.int k (k.wrap (a+b))) w:=fun w' _=>by
 simp[execOp,hx,hy,eqGuard,binOp,Op.intArith]
theorem Sil.subW:Sil P E ⟨d,.binOp .sub t x y t',ty,pos,af,g⟩ (.int k (k.wrap (a-b))) w:=fun w' _=>by
 simp[execOp,hx,hy,eqGuard,binOp,Op.intArith]
theorem Sil.mulW:Sil P E ⟨d,.binOp .mul t x y t',ty,pos,af,g⟩ (.int k (k.wrap (a*b))) w:=fun w' _=>by
 simp[execOp,hx,hy,eqGuard,binOp,Op.intArith]
theorem Sil.remW(hb:b≠0):Sil P E ⟨d,.binOp .rem t x y t',ty,pos,af,g⟩ (.int k (a.tmod b)) w:=fun w' _=>by
 simp[execOp,hx,hy,eqGuard,binOp,Op.intDiv,hb]
theorem Sil.quoW(hb:b≠0):Sil P E ⟨d,.binOp .quo t x y t',ty,pos,af,g⟩ (.int k (k.wrap (a.tdiv b))) w:=fun w' _=>by
 simp[execOp,hx,hy,eqGuard,binOp,Op.intDiv,hb]
end cmp
def In64(a:Int):Prop:=-9223372036854775808≤a∧a≤9223372036854775807
theorem In64.mk{a:Int}(h:-9223372036854775808≤a∧a≤9223372036854775807):In64 a:=h
theorem wrap_in{a:Int}(h:In64 a):IntKind.i64.wrap a=a:=by
 obtain⟨h1,h2⟩:=h
 have:=IntWalk.i64_in a
 exact IntWalk.i64_in a (by omega)
section arith
variable {t t' : TypeId} {a b c : Int} (hx : ev E x = .int .i64 a) (hy : ev E y = .int .i64 b)
include hx hy
theorem Sil.add(hr:In64 (a+b)):Sil P E ⟨d,.binOp .add t x y t',ty,pos,af,g⟩ (.int .i64 (a+b)) w:=by
 have:=Sil.addW (P:=P) (d:=d) (t:=t) (t':=t') (ty:=ty) (pos:=pos) (af:=af) (g:=g) (w:=w) hx hy
 rwa [wrap_in hr] at this
theorem Sil.sub(hr:In64 (a-b)):Sil P E ⟨d,.binOp .sub t x y t',ty,pos,af,g⟩ (.int .i64 (a-b)) w:=by
 have:=Sil.subW (P:=P) (d:=d) (t:=t) (t':=t') (ty:=ty) (pos:=pos) (af:=af) (g:=g) (w:=w) hx hy
 rwa [wrap_in hr] at this
theorem Sil.mul(hr:In64 (a*b)):Sil P E ⟨d,.binOp .mul t x y t',ty,pos,af,g⟩ (.int .i64 (a*b)) w:=by
 have:=Sil.mulW (P:=P) (d:=d) (t:=t) (t':=t') (ty:=ty) (pos:=pos) (af:=af) (g:=g) (w:=w) hx hy
 rwa [wrap_in hr] at this
end arith
theorem Sil.len{t:TypeId}{e:TypeId}[hu:HasU P t (.slice e)]{p:Option Addr}{l c:Nat}(hx:ev E x=.slice p l c):
  Sil P E ⟨d,.call ⟨.builtin .len,#[x],#[t]⟩,ty,pos,af,g⟩ (.int .i64 (l:Int)) w:=fun w' _=>by
 have h1:=hu.und w'
 simp[execOp,resolve,hx,invoke,builtin,Builtin.len_,h1,goInt]
theorem Sil.cap{t:TypeId}{e:TypeId}[hu:HasU P t (.slice e)]{p:Option Addr}{l c:Nat}(hx:ev E x=.slice p l c):
  Sil P E ⟨d,.call ⟨.builtin .cap,#[x],#[t]⟩,ty,pos,af,g⟩ (.int .i64 (c:Int)) w:=fun w' _=>by
 have h1:=hu.und w'
 simp[execOp,resolve,hx,invoke,builtin,Builtin.cap_,h1,goInt]
theorem Sil.fieldAddr{s i off:Nat}[hf:HasF P s i off]{b o:Nat}(hx:ev E x=.pointer (some ⟨b,o,none⟩)):
  Sil P E ⟨d,.fieldAddr s x i,ty,pos,af,g⟩ (.pointer (some ⟨b,o+off,none⟩)) w:=fun w' _=>by
 have h1:=hf.f b o w'
 simp only[execOp,hx,Sem.run_bind,h1,Result.andThen_ok];rfl
theorem Sil.load{t:TypeId}[h1:One P t]{a:Addr}{v:Value}(hx:ev E x=.pointer (some a))(hc:w.cell? a=some v):
  Sil P E ⟨d,.load t x,ty,pos,af,g⟩ v w:=fun w' hl=>by
 have h2:=h1.h w'
 have h3:=hl.cell hc
 simp[execOp,hx,Instr.loadAt,Instr.sureAddr,loadVar,h2,h3]
def Cells(w:World)(b o:Nat)(vs:List Value):Prop:=∀i v,vs[i]?=some v→w.cell? ⟨b,o+i,none⟩=some v
theorem Cells.later{w w':World}{b o:Nat}{vs:List Value}(h:Cells w b o vs)(hl:Later w w'):Cells w' b o vs:=fun i v hv=>hl.cell (h i v hv)
theorem run_loadCellsFrom{w:World}{b o:Nat}{vs:List Value}(h:Cells w b o vs):∀(m i:Nat) (acc:Array Value),i+m=vs.length→
  (loadCellsFrom ⟨b,o,none⟩ i m acc).run P w=.ok (acc++(vs.drop i).toArray) w:=by
 intro m
 induction m with
 |zero=>intro i acc hi;simp[loadCellsFrom,List.drop_of_length_le (show vs.length≤i by omega)]
 |succ m ih=>
  intro i acc hi
  have hlt:i<vs.length:=by omega
  have h1:=h i vs[i] (by simp[hlt])
  simp only[loadCellsFrom,add_none,Sem.run_bind,run_load,h1,Result.andThen_ok]
  rw[ih (i+1) _ (by omega),List.drop_eq_getElem_cons hlt]
  simp
theorem run_loadCells{w:World}{b o m:Nat}{vs:List Value}(h:Cells w b o vs)(hm:vs.length=m):(loadCells ⟨b,o,none⟩ m).run P w=.ok vs.toArray w:=by
 have:=run_loadCellsFrom (P:=P) h m 0 #[] (by omega)
 simpa[loadCells] using this
theorem Sil.loadAgg{t sz bys:Nat}{zz:Value}[h1:Agg P t][hi:HasI P t sz bys zz]{b o:Nat}{vs:List Value}(hx:ev E x=.pointer (some ⟨b,o,none⟩))(hc:Cells w b o vs)(hl:vs.length=sz):
  Sil P E ⟨d,.load t x,ty,pos,af,g⟩ (.agg vs.toArray) w:=fun w' hw=>by
 have h2:=h1.h w'
 have h3:=run_loadCells (P:=P) (hc.later hw) hl
 have h4:=hi.sizeOf w'
 simp[execOp,hx,Instr.loadAt,Instr.sureAddr,loadVar,h2,h3,h4]
theorem Sil.indexAddr{t e sz bys:Nat}{zz:Value}[hu:HasU P t (.slice e)][hi:HasI P e sz bys zz]{b o l c k:Nat}{kd:IntKind}{i:Int}(hx:ev E x=.slice (some ⟨b,o,none⟩) l c)(hy:ev E y=.int kd i)
  (hk:i=(k:Int)) (hlt:k<l):Sil P E ⟨d,.indexAddr t x y,ty,pos,af,g⟩ (.pointer (some ⟨b,o+k*sz,none⟩)) w:=fun w' _=>by
 have h1:=hu.und w'
 have h2:=hi.sizeOf w'
 subst hk
 have h3:(0:Int)≤(k:Int)∧(k:Int)<(l:Int):=⟨by omega,by omega⟩
 simp[execOp,hx,hy,Instr.indexAt,asIntOf,h1,h2,add_none,hlt]
theorem Sil.extract{i:Nat}{vs:Array Value}{v:Value}(hx:ev E x=.tuple vs)(hv:vs[i]?=some v):
  Sil P E ⟨d,.extract x i,ty,pos,af,g⟩ v w:=fun w' _=>by
 simp[execOp,hx,Instr.extract,hv]
theorem Sil.makeFunc{fn:Fn}{fs cs:Array Operand}{vs us:List Value}(hf:fs.toList.map (ev E)=vs)(hc:cs.toList.map (ev E)=us):
  Sil P E ⟨d,.makeFunc fn fs cs,ty,pos,af,g⟩ (.func fn vs.toArray us.toArray) w:=fun w' _=>by
 subst hf;subst hc
 have e1:(Array.map (ev E) fs)=(fs.toList.map (ev E)).toArray:=by apply Array.ext';simp
 have e2:(Array.map (ev E) cs)=(cs.toList.map (ev E)).toArray:=by apply Array.ext';simp
 simp only[execOp,Instr.makeFunc,e1,e2];rfl
theorem run_call {f : FuncId} {args : Array Operand} {ats : Array TypeId} {vs : List Value} {fn : Func} (hf : P.funcs[f]? = some fn) (hn : (fn.name == "runtime.NumGoroutine") = false) (hb : fn.body.isNone = false)
    (hv : args.toList.map (ev E) = vs) (w : World) : (execOp (ev E) ⟨d, .call ⟨.value (.func f), args, ats⟩, ty, pos, af, g⟩).run P w = .ok (.enter f vs.toArray) w := by
  subst hv
  have e : (Array.map (ev E) args) = (args.toList.map (ev E)).toArray := by apply Array.ext'; simp
  have hn' : ¬ fn.name = "runtime.NumGoroutine" := by simpa using hn
  have hb' : ¬ fn.body = none := fun h => by rw [h] at hb; cases hb
  simp [execOp, resolve, ev, Deferred.ofValue, invoke, callFunc, hf, hn', hb', e]
class IsFn (P : Program) (f : Nat) : Prop where
  h : ∃ fn, P.funcs[f]? = some fn ∧ (fn.name == "runtime.NumGoroutine") = false ∧ fn.body.isNone = false
theorem Rg.call{f:FuncId}{args:Array Operand}{ats:Array TypeId}{vs:List Value}{R:Value→World→Prop}[hf:IsFn P f](hc:Run P f vs w R)(hv:args.toList.map (ev E)=vs)
  (hw:want n ops ⟨d,.call ⟨.value (.func f),args,ats⟩,ty,pos,af,g⟩ E=true) (hd:fits n d=true) (h:∀v w',R v w'→Rg P n ops os Q (put E d v) w'):
  Rg P n ops (⟨d,.call ⟨.value (.func f),args,ats⟩,ty,pos,af,g⟩::os) Q E w:=by
 obtain⟨fn,h1,h2,h3⟩:=hf.h
 exact Rg.enter hw (run_call h1 h2 h3 hv w) hd hc h
theorem Rg.callV {f : FuncId} {args : Array Operand} {ats : Array TypeId} {vs cs : List Value} {R : Value → World → Prop} [hf : IsFn P f] (hx : ev E x = .func (.func f) #[] cs.toArray) (hc : Run P f (vs ++ cs) w R) (hv : args.toList.map (ev E) = vs)
    (hw : want n ops ⟨d, .call ⟨.value x, args, ats⟩, ty, pos, af, g⟩ E = true) (hd : fits n d = true) (h : ∀ v w', R v w' → Rg P n ops os Q (put E d v) w') :
    Rg P n ops (⟨d, .call ⟨.value x, args, ats⟩, ty, pos, af, g⟩ :: os) Q E w := by
  obtain ⟨fn, h1, h2, h3⟩ := hf.h
  refine Rg.enter (args := vs ++ cs) hw ?_ hd hc h
  subst hv
  have e : (Array.map (ev E) args) = (args.toList.map (ev E)).toArray := by apply Array.ext'; simp
  have hn' : ¬ fn.name = "runtime.NumGoroutine" := by simpa using h2
  have hb' : ¬ fn.body = none := fun h => by rw [h] at h3; cases h3
  simp [execOp, resolve, hx, Deferred.ofValue, invoke, callFunc, h1, hn', hb', e]
end
attribute [irreducible] Sil
def Blk(w:World)(b:Nat)(cs:List Value)(e:Nat):Prop:=w.heap[b]?=some (.cells cs.toArray e (0,0))
theorem Blk.lt{w:World}{b:Nat}{cs:List Value}{e:Nat}(h:Blk w b cs e):b<w.heap.size:=(Array.getElem?_eq_some_iff.1 h).1
theorem Blk.later{w w':World}{b:Nat}{cs:List Value}{e:Nat}(h:Blk w b cs e)(hl:Later w w'):Blk w' b cs e:=(Below.block hl b h.lt).trans h
theorem Blk.cell{w:World}{b:Nat}{cs:List Value}{e:Nat}(h:Blk w b cs e){o:Nat}{v:Value}(ho:cs[o]?=some v):w.cell? ⟨b,o,none⟩=some v:=by
 unfold Blk at h;simp[World.cell?,h,ho]
theorem Blk.cells{w:World}{b:Nat}{cs:List Value}{e:Nat}(h:Blk w b cs e):Cells w b 0 cs:=fun i v hv=>h.cell (by simpa using hv)
theorem Blk.same{w w':World}{b:Nat}{cs:List Value}{e:Nat}(h:Blk w b cs e)(hs:w'.heap[b]?=w.heap[b]?):Blk w' b cs e:=hs.trans h
theorem Blk.unfrozen{w:World}{b:Nat}{cs:List Value}{e:Nat}(h:Blk w b cs e)(o:Nat):w.frozen? ⟨b,o,none⟩=false:=by
 unfold Blk at h;simp[World.frozen?,h]
theorem Later.alloc(w:World)(o:Obj):Later w (w.alloc o):=Below.alloc (Below.refl _ _) (Nat.le_refl _) o
theorem Blk.new(w:World)(cs:List Value)(e:Nat):Blk (w.alloc (.cells cs.toArray e)) w.heap.size cs e:=heap_alloc_new w _
theorem size_alloc'(w:World)(o:Obj):(w.alloc o).heap.size=w.heap.size+1:=by simp
section
variable {P : Program} {n : Nat} {Q : Exit → Env → World → Prop} {E : Env} {w : World} {ops : Array Oper} {os : List Oper}
variable {d : Option Tmp} {ty : TypeId} {pos : String} {af : Array Edge} {g : Option (Nat × Bool)} {x y z : Operand}
theorem run_box{e:TypeId}{v:Value}{cs:List Value}(hx:ev E x=v)(hv:v.cells=cs.toArray)(w:World):
  (execOp (ev E) ⟨d,.box e x,ty,pos,af,g⟩).run P w=.ok (.value (.pointer (some ⟨w.heap.size,0,none⟩))) (w.alloc (.cells cs.toArray e)):=by
 subst hx
 simp[execOp,Instr.box,newVar,newRow,hv]
theorem run_alloc{e sz bys:Nat}{zz:Value}[hi:HasI P e sz bys zz]{cs:List Value}(hv:zz.cells=cs.toArray)(w:World):
  (execOp (ev E) ⟨d,.alloc e,ty,pos,af,g⟩).run P w=.ok (.value (.pointer (some ⟨w.heap.size,0,none⟩))) (w.alloc (.cells cs.toArray e)):=by
 have h1:=hi.zeroV w
 simp[execOp,Instr.alloc,h1,newVar,newRow,hv]
theorem Rg.alloc{e sz bys:Nat}{zz:Value}[hi:HasI P e sz bys zz]{cs:List Value}(hv:zz.cells=cs.toArray)(hw:want n ops ⟨d,.alloc e,ty,pos,af,g⟩ E=true)(hd:fits n d=true)
  (h:∀b w',b=w.heap.size→w'.heap.size=b+1→Later w w'→Blk w' b cs e→Rg P n ops os Q (put E d (.pointer (some ⟨b,0,none⟩))) w'):
  Rg P n ops (⟨d,.alloc e,ty,pos,af,g⟩::os) Q E w:=
 Rg.val hw (run_alloc hv w) hd (h _ _ rfl (size_alloc' _ _) (Later.alloc _ _) (Blk.new _ _ _))
theorem madeCells_one(z:Value)(n:Nat):(madeCells #[z] n).toList=List.replicate n z:=by
 simp only[madeCells,Array.toList_map,Array.toList_range]
 apply List.ext_getElem
 ·simp
 ·intro i h1 h2
  simp[Nat.mod_one]
theorem Rg.make1{t e bys:Nat}{zz:Value}[hu:HasU P t (.slice e)][hi:HasI P e 1 bys zz]{m:Nat}{l:Int}(hx:ev E x=.int .i64 l)(hy:ev E y=.int .i64 l)(hl:l=(m:Int))(hz:zz.cells=#[zz])
  (hb:bys*m≤281474976710656) (hm:m≤9223372036854775807) (hw:want n ops ⟨d,.makeSlice t x y,ty,pos,af,g⟩ E=true) (hd:fits n d=true)
  (h:∀b w',b=w.heap.size→w'.heap.size=b+1→Later w w'→Blk w' b (List.replicate m zz) e→Rg P n ops os Q (put E d (.slice (some ⟨b,0,none⟩) m m)) w'):
  Rg P n ops (⟨d,.makeSlice t x y,ty,pos,af,g⟩::os) Q E w:=by
 subst hl
 obtain⟨i,h1,h2,h3,h4⟩:=hi.ex
 have hb':(i.bytes:Int)*(m:Int)≤281474976710656:=by
  rw[h4,←Int.natCast_mul];exact Int.ofNat_le.2 hb
 have hr:=run_make (P:=P) w t e i zz hu.u h1 h2 .i64 .i64 (m:Int) (m:Int) (by omega) (by omega) hb' (by omega)
 have hr':(execOp (ev E) ⟨d,.makeSlice t x y,ty,pos,af,g⟩).run P w=.ok (.value (.slice (some ⟨w.heap.size,0,none⟩) m m)) (w.alloc (.cells (List.replicate m zz).toArray e)):=by
  have e1:madeCells zz.cells ((m:Int).toNat*i.size)=(List.replicate m zz).toArray:=by
   apply Array.ext'
   rw[hz,h3,madeCells_one];simp
  rw[e1] at hr
  simp[execOp,hx,hy,hr]
 exact Rg.val hw hr' hd (h _ _ rfl (size_alloc' _ _) (Later.alloc _ _) (Blk.new _ _ _))
theorem Rg.lit{t e sz bys len:Nat}{zz:Value}{ps:Array (Nat×Operand)}[hu:HasU P t (.slice e)][hi:HasI P e sz bys zz]{vs:List (Nat×Value)}{cs:List Value}
  (hvs:ps.toList.map (fun p=>(p.1,ev E p.2))=vs) (hsz:len*sz≤16777216)
  (hf:Instr.fill (fun i=>some (i*sz,sz)) ((Array.range (len*sz)).map (zz.cells[·%zz.cells.size]!)) vs=some cs.toArray)
  (hw:want n ops ⟨d,.buildSlice t len ps,ty,pos,af,g⟩ E=true) (hd:fits n d=true)
  (h:∀b w',b=w.heap.size→w'.heap.size=b+1→Later w w'→Blk w' b cs e→Rg P n ops os Q (put E d (.slice (some ⟨b,0,none⟩) len len)) w'):
  Rg P n ops (⟨d,.buildSlice t len ps,ty,pos,af,g⟩::os) Q E w:=by
 have h1:=hu.und w
 have h2:=hi.sizeOf w
 have h3:=hi.zeroV w
 have hr':(execOp (ev E) ⟨d,.buildSlice t len ps,ty,pos,af,g⟩).run P w=.ok (.value (.slice (some ⟨w.heap.size,0,none⟩) len len)) (w.alloc (.cells cs.toArray e)):=by
  have e1:(Array.map (fun p=>(p.1,ev E p.2)) ps).toList=vs:=by rw[←hvs];simp
  have e2:¬(len*sz>2^24):=by omega
  have e3:(Array.map (fun x:Nat×Operand=>match x with|(i,x)=>(i,ev E x)) ps).toList=vs:=e1
  simp only[execOp,Instr.buildSlice,Sem.run_bind,h1,h2,Result.andThen_ok,Sem.run_ite,e2,if_false,e3,Sem.run_pure]
  by_cases e0:len*sz=0
  ·simp only[e0,if_true]
   have:(Array.map (fun x=>(#[]:Array Value)[x%(#[]:Array Value).size]!) (Array.range 0))=(Array.range (len*sz)).map (zz.cells[·%zz.cells.size]!):=by rw[e0];simp
   rw[this,hf]
   simp[newRow]
  ·simp only[e0,if_false,Sem.run_bind,h3,Result.andThen_ok,Sem.run_pure,hf]
   simp[newRow]
 exact Rg.val hw hr' hd (h _ _ rfl (size_alloc' _ _) (Later.alloc _ _) (Blk.new _ _ _))
def oneAll(cs:List Value):Prop:=∀u∈cs,u.oneCell'=true
def own:Value→Option Nat
 |.slice (some a) _ (_+1)=>some a.block
 |_=>none
def Buf(w:World)(e sz:Nat)(v:Value)(m:Nat)(cs:List Value):Prop:=
 cs.length=m*sz∧((m=0∧∃p,v=.slice p 0 0)∨
  ∃b c cur,v=.slice (some ⟨b,0,none⟩) m (c+1)∧Blk w b cur e∧m≤c+1∧c+1≤maxLen∧cur.length=(c+1)*sz∧cur.take (m*sz)=cs)
def Src(w:World)(v:Value)(m:Nat)(news:List Value):Prop:=
 ∃p c,v=.slice p m c∧(news=[]∨∃b o,p=some ⟨b,o,none⟩∧Cells w b o news)
theorem Buf.nil(w:World)(e sz:Nat):Buf w e sz (.slice none 0 0) 0 []:=⟨by simp,.inl ⟨rfl,none,rfl⟩⟩
theorem Buf.ofBlk{w:World}{b e sz m:Nat}{cs:List Value}(h:Blk w b cs e)(hm:m≤maxLen)(hl:cs.length=m*sz):Buf w e sz (.slice (some ⟨b,0,none⟩) m m) m cs:=by
 refine⟨hl,?_⟩
 cases m with
 |zero=>exact .inl ⟨rfl,_,rfl⟩
 |succ c=>exact .inr ⟨b,c,cs,rfl,h,Nat.le_refl _,hm,hl,by rw[←hl];exact List.take_length⟩
theorem Buf.later{w w':World}{e sz m:Nat}{v:Value}{cs:List Value}(h:Buf w e sz v m cs)(hl:Later w w'):Buf w' e sz v m cs:=by
 refine⟨h.1,?_⟩
 rcases h.2 with h|⟨b,c,cur,h1,h2,h3⟩
 ·exact .inl h
 ·exact .inr ⟨b,c,cur,h1,h2.later hl,h3⟩
theorem Buf.own_lt{w:World}{e sz m:Nat}{v:Value}{cs:List Value}(h:Buf w e sz v m cs):∀b,own v=some b→b<w.heap.size:=by
 intro b hb
 rcases h.2 with⟨_,p,rfl⟩|⟨b',c,cur,rfl,h2,_⟩
 ·cases p<;>simp[own] at hb
 ·simp[own] at hb;subst hb;exact h2.lt
theorem Buf.same{w w':World}{e sz m:Nat}{v:Value}{cs:List Value}(h:Buf w e sz v m cs)(hs:∀b,own v=some b→w'.heap[b]?=w.heap[b]?):Buf w' e sz v m cs:=by
 refine⟨h.1,?_⟩
 rcases h.2 with h|⟨b,c,cur,rfl,h2,h3⟩
 ·exact .inl h
 ·exact .inr ⟨b,c,cur,rfl,h2.same (hs b rfl),h3⟩
theorem Buf.src{w:World}{e sz m:Nat}{v:Value}{cs:List Value}(h:Buf w e sz v m cs):Src w v m cs:=by
 rcases h.2 with⟨rfl,p,rfl⟩|⟨b,c,cur,rfl,h2,h3,h4,h5,h6⟩
 ·exact⟨p,0,rfl,.inl (List.eq_nil_of_length_eq_zero (by simpa using h.1))⟩
 ·refine⟨_,_,rfl,.inr ⟨b,0,rfl,fun i u hu=>h2.cells i u ?_⟩⟩
  rw[←h6,List.getElem?_take] at hu
  split at hu
  ·exact hu
  ·cases hu
structure Grew (w w':World) (v v':Value):Prop where
 same:∀k,k<w.heap.size→some k≠own v→w'.heap[k]?=w.heap[k]?
 size:w.heap.size≤w'.heap.size
 os:w'.os=w.os
 tape:w'.tape=w.tape
 output:w'.output=w.output
 own:own v'=own v∨∃b,own v'=some b∧w.heap.size≤b
theorem Grew.below{w w':World}{v v':Value}{B:Nat}(h:Grew w w' v v')(hB:B≤w.heap.size)(ho:∀b,G.own v=some b→B≤b):Below B w w':=
 ⟨h.os,h.tape,h.output,h.size,fun k hk=>h.same k (by omega) (fun e=>by have:=ho k e.symm;omega)⟩
theorem run_append_buf{t e sz bys:Nat}{zz:Value}[hu:HasU P t (.slice e)][hi:HasI P e sz bys zz](hz:zz.cells.size=sz)(hs0:0<sz){ty:Nat}{w:World}{v x:Value}{m k:Nat}{cs news:List Value}
  (hb:Buf w e sz v m cs) (hx:Src w x k news) (hl:news.length=k*sz) (h1:oneAll news) (h63:m+k≤maxLen) (hby:(m+k)*bys≤140737488355328):
  ∃v' w',(Builtin.append_ #[t,t] ty #[v,x]).run P w=.ok v' w'∧Buf w' e sz v' (m+k) (cs++news)∧Grew w w' v v':=by
 obtain⟨i,i1,i2,i3,i4⟩:=hi.ex
 subst i3
 subst i4
 obtain⟨p,c,rfl,hx⟩:=hx
 have hsmall:m+k≤9223372036854775807:=by simp only[maxLen] at h63;omega
 have hlen:(cs++news).length=(m+k)*i.size:=by rw[List.length_append,hb.1,hl,Nat.add_mul]
 by_cases hk:k=0
 ·subst hk
  have hn:news=[]:=List.eq_nil_of_length_eq_zero (by simpa using hl)
  subst hn
  simp only[Nat.add_zero,List.append_nil]
  refine⟨v,w,?_,hb,⟨fun _ _ _=>rfl,Nat.le_refl _,rfl,rfl,rfl,.inl rfl⟩⟩
  rcases hb.2 with⟨rfl,q,rfl⟩|⟨b,c',cur,rfl,h2,h3,h4,h5,h6⟩
  ·cases p<;>cases q<;>simp[Builtin.append_,run_underlying hu.u,sizeOf,typeInfo,i1,Builtin.lenOf,Builtin.firstCells,loadCells,loadCellsFrom,storeCells]
  ·cases p<;>simp[Builtin.append_,run_underlying hu.u,sizeOf,typeInfo,i1,Builtin.lenOf,h3,Builtin.firstCells,loadCells,loadCellsFrom,storeCells]
 obtain⟨ab,ao,rfl,hcells⟩:∃b o,p=some ⟨b,o,none⟩∧Cells w b o news:=by
  rcases hx with rfl|h
  ·have h0:0<k*i.size:=Nat.mul_pos (by omega) hs0
   rw[←hl] at h0;exact absurd h0 (by simp)
  ·exact h
 have hnews:∀j u,news[j]?=some u→w.cell? ((⟨ab,ao,none⟩:Addr).add j)=some u:=fun j u hj=>by rw[add_none];exact hcells j u hj
 have grown:∀(old:Nat) (v:Value),old<m+k→
   Buf (w.drew.alloc (.cells (cs.toArray++news.toArray++Builtin.zeroCells zz.cells (grownCap w (m+k) old e-(m+k))) e)) e i.size
    (.slice (some ⟨w.heap.size,0,none⟩) (m+k) (grownCap w (m+k) old e)) (m+k) (cs++news)∧
   Grew w (w.drew.alloc (.cells (cs.toArray++news.toArray++Builtin.zeroCells zz.cells (grownCap w (m+k) old e-(m+k))) e)) v (.slice (some ⟨w.heap.size,0,none⟩) (m+k) (grownCap w (m+k) old e)):=by
  intro old v ho
  have hge:=grownCap_ge w (m+k) old e
  have hcm:grownCap w (m+k) old e≤maxLen:=grownCap_le_maxLen w (m+k) old e h63
  obtain⟨gc,hgc⟩:∃gc,grownCap w (m+k) old e=gc+1:=⟨grownCap w (m+k) old e-1,by omega⟩
  rw[hgc] at hge hcm⊢
  have hb':(cs.toArray++news.toArray++Builtin.zeroCells zz.cells (gc+1-(m+k)))=(cs++news++(Builtin.zeroCells zz.cells (gc+1-(m+k))).toList).toArray:=by
   apply Array.ext';simp
  refine⟨⟨hlen,.inr ⟨w.heap.size,gc,cs++news++(Builtin.zeroCells zz.cells (gc+1-(m+k))).toList,rfl,?_,hge,hcm,?_,?_⟩⟩,⟨fun j hj _=>Below.heap_alloc w.drew _ j hj,by simp,rfl,rfl,rfl,.inr ⟨w.heap.size,rfl,Nat.le_refl _⟩⟩⟩
  ·rw[hb'];exact Blk.new w.drew _ e
  ·simp only[List.length_append,Array.length_toList,size_zeroCells,hz,hb.1,hl,←Nat.add_mul]
   congr 1
   omega
  ·rw[←hlen]
   exact List.take_left
 rcases hb.2 with⟨rfl,q,rfl⟩|⟨b,c',cur,rfl,h2,h3,h4,h5,h6⟩
 ·have hcs:cs=[]:=List.eq_nil_of_length_eq_zero (by simpa using hb.1)
  subst hcs
  have hgr:=grown 0 (.slice q 0 0) (by omega)
  cases q with
  |none=>
   have hr:=run_append_nil (P:=P) w t ty e i zz hu.u i1 i2 ⟨ab,ao,none⟩ k c news hl hnews (by omega) (by omega) (by simp only[Nat.zero_add] at hby;omega)
   simp only[Nat.zero_add,List.nil_append,Array.empty_append] at hgr⊢
   exact⟨_,_,hr,hgr.1,hgr.2⟩
  |some q=>
   have hr:=run_append_grow (P:=P) w t ty e i zz hu.u i1 i2 q 0 0 [] (by simp) (fun j u hj=>by simp at hj) ⟨ab,ao,none⟩ k c news hl hnews (by omega) (by omega) (growslice_fits (by omega) hby)
   exact⟨_,_,hr,hgr.1,hgr.2⟩
 ·by_cases hroom:m+k≤c'+1
  ·have hfit:m*i.size+news.length≤cur.toArray.size:=by
    simp only[List.size_toArray]
    rw[hl,h5,←Nat.add_mul];exact Nat.mul_le_mul_right _ hroom
   have hr:=run_append_room (P:=P) w t ty e i hu.u i1 b m (c'+1) cur.toArray h2 ⟨ab,ao,none⟩ k c news hl hnews h1 hroom hfit
   have hset:=setRow_heap w b cur.toArray (cur.toArray.toList.take (m*i.size)++news++cur.toArray.toList.drop (m*i.size+news.length)).toArray e _ h2
   refine⟨_,_,hr,⟨hlen,.inr ⟨b,c',_,rfl,hset,hroom,h4,?_,?_⟩⟩,⟨fun k _ hk=>setRow_other w b k _ (fun e=>hk (by simp[G.own,e])),by simp,rfl,rfl,rfl,.inl rfl⟩⟩
   ·simp only[List.length_append,List.length_take,List.length_drop]
    simp only[List.size_toArray] at hfit
    omega
   ·simp only
    rw[h6,←hlen]
    exact List.take_left
  ·have holds:∀j u,cs[j]?=some u→w.cell? ((⟨b,0,none⟩:Addr).add j)=some u:=fun j u hj=>by
    rw[add_none]
    refine h2.cells j u ?_
    rw[←h6,List.getElem?_take] at hj
    split at hj
    ·exact hj
    ·cases hj
   have hr:=run_append_grow (P:=P) w t ty e i zz hu.u i1 i2 ⟨b,0,none⟩ m (c'+1) cs hb.1 holds ⟨ab,ao,none⟩ k c news hl hnews (by omega) (by omega) (growslice_fits (by omega) hby)
   have hgr:=grown (c'+1) (.slice (some ⟨b,0,none⟩) m (c'+1)) (by omega)
   exact⟨_,_,hr,hgr.1,hgr.2⟩
theorem Rg.append{t e sz bys:Nat}{zz:Value}[hu:HasU P t (.slice e)][hi:HasI P e sz bys zz]{v u:Value}{m k:Nat}{cs news:List Value}(hx:ev E x=v)(hy:ev E y=u)
  (hb:Buf w e sz v m cs) (hs:Src w u k news) (hz:zz.cells.size=sz) (hs0:0<sz) (hl:news.length=k*sz) (h1:oneAll news) (h63:m+k≤maxLen) (hby:(m+k)*bys≤140737488355328)
  (hw:want n ops ⟨d,.call ⟨.builtin .append,#[x,y],#[t,t]⟩,ty,pos,af,g⟩ E=true) (hd:fits n d=true)
  (h:∀v' w',Buf w' e sz v' (m+k) (cs++news)→Grew w w' v v'→Rg P n ops os Q (put E d v') w'):
  Rg P n ops (⟨d,.call ⟨.builtin .append,#[x,y],#[t,t]⟩,ty,pos,af,g⟩::os) Q E w:=by
 obtain⟨v',w',hr,h2,h3⟩:=run_append_buf (P:=P) (t:=t) (ty:=ty) hz hs0 hb hs hl h1 h63 hby
 have hr':(execOp (ev E) ⟨d,.call ⟨.builtin .append,#[x,y],#[t,t]⟩,ty,pos,af,g⟩).run P w=.ok (.value v') w':=by
  simp[execOp,resolve,invoke,builtin,hx,hy,hr]
 exact Rg.val hw hr' hd (h v' w' h2 h3)
theorem Blk.set{w:World}{b:Nat}{cs:List Value}{e:Nat}(h:Blk w b cs e)(o:Nat)(v:Value):Blk (w.setCell ⟨b,o,none⟩ v) b (cs.set o v) e:=by
 unfold Blk at*
 simp only[World.setCell,Array.getElem?_modify,h,if_true,Option.map_some]
 simp
theorem setCell_other(w:World)(a:Addr)(v:Value)(k:Nat)(h:k≠a.block):(w.setCell a v).heap[k]?=w.heap[k]?:=Below.heap_setCell w a v k h
structure Wrote (b:Nat) (w w':World):Prop where
 same:∀k,k≠b→w'.heap[k]?=w.heap[k]?
 size:w'.heap.size=w.heap.size
 os:w'.os=w.os
 tape:w'.tape=w.tape
 output:w'.output=w.output
theorem Wrote.setCell(w:World)(b o:Nat)(v:Value):Wrote b w (w.setCell ⟨b,o,none⟩ v):=
 ⟨fun k hk=>setCell_other w _ v k hk,by simp[World.setCell],rfl,rfl,rfl⟩
theorem Wrote.below{b B:Nat}{w w':World}(h:Wrote b w w')(hB:B≤b):Below B w w':=
 ⟨h.os,h.tape,h.output,by rw[h.size];exact Nat.le_refl _,fun k hk=>h.same k (by omega)⟩
theorem Rg.store{t bys:Nat}{zz:Value}[hi:HasI P t 1 bys zz]{b o:Nat}{cs:List Value}{e:Nat}{v:Value}(hx:ev E x=.pointer (some ⟨b,o,none⟩))(hy:ev E y=v)(hb:Blk w b cs e)(ho:o<cs.length)(hv:v.oneCell'=true)
  (hw:want n ops ⟨d,.store t x y,ty,pos,af,g⟩ E=true) (hd:fits n d=true)
  (h:∀w',Wrote b w w'→Blk w' b (cs.set o v) e→Rg P n ops os Q (put E d undef) w'):Rg P n ops (⟨d,.store t x y,ty,pos,af,g⟩::os) Q E w:=by
 have h1:=hi.sizeOf w
 have hc:w.cell? ⟨b,o,none⟩=some cs[o]:=hb.cell (by simp[ho])
 have hf:=hb.unfrozen o
 have hcs:v.cells=#[v]:=by cases v<;>first|rfl|cases hv
 have hr:(execOp (ev E) ⟨d,.store t x y,ty,pos,af,g⟩).run P w=.ok .skip (w.setCell ⟨b,o,none⟩ v):=by
  have hst:(Go.store (⟨b,o,none⟩:Addr) v).run P w=.ok () (w.setCell ⟨b,o,none⟩ v):=by
   rw[run_store P w _ v _ hv]
   simp[hc,hf]
  simp[execOp,hx,hy,Instr.storeAt,Instr.sureAddr,storeVar,hcs,h1,storeCells,add_none,hst]
 exact Rg.unit hw hr hd (h _ (Wrote.setCell w b o v) (hb.set o v))
theorem oneAll_nil:oneAll []:=fun u hu=>by cases hu
theorem jD{P:Program}{n:Nat}{Q:Exit→Env→World→Prop}{E:Env}{w:World}{c:Operand}{x y:Code}(h:Wp P n (.cond c x y) Q E w):Wp P n (.cond c x y) Q E w:=h
theorem jY{P:Program}{n:Nat}{Q:Exit→Env→World→Prop}{E:Env}{w:World}{ops:Array Oper}{os:List Oper}{d:Option Tmp}{ty:TypeId}{pos:String}{af:Array Edge}{g:Option (Nat×Bool)}{t:TypeId}{m:Nat}{ps:Array (Nat×Operand)}(h:Rg P n ops (⟨d,.buildSlice t m ps,ty,pos,af,g⟩::os) Q E w):Rg P n ops (⟨d,.buildSlice t m ps,ty,pos,af,g⟩::os) Q E w:=h
theorem jM{P:Program}{n:Nat}{Q:Exit→Env→World→Prop}{E:Env}{w:World}{ops:Array Oper}{os:List Oper}{d:Option Tmp}{ty:TypeId}{pos:String}{af:Array Edge}{g:Option (Nat×Bool)}{x:Operand}(h:Rg P n ops (⟨d,.move x,ty,pos,af,g⟩::os) Q E w):Rg P n ops (⟨d,.move x,ty,pos,af,g⟩::os) Q E w:=h
theorem jA{P:Program}{n:Nat}{Q:Exit→Env→World→Prop}{E:Env}{w:World}{ops:Array Oper}{os:List Oper}{d:Option Tmp}{ty:TypeId}{pos:String}{af:Array Edge}{g:Option (Nat×Bool)}{x:Operand}(h:Rg P n ops (⟨d,.assign x,ty,pos,af,g⟩::os) Q E w):Rg P n ops (⟨d,.assign x,ty,pos,af,g⟩::os) Q E w:=h
theorem jP{P:Program}{n:Nat}{Q:Exit→Env→World→Prop}{E:Env}{w:World}{ops:Array Oper}{os:List Oper}{d:Option Tmp}{ty:TypeId}{pos:String}{af:Array Edge}{g:Option (Nat×Bool)}{x y z:Operand}(h:Rg P n ops (⟨d,.pick x y z,ty,pos,af,g⟩::os) Q E w):Rg P n ops (⟨d,.pick x y z,ty,pos,af,g⟩::os) Q E w:=h
theorem jB{P:Program}{n:Nat}{Q:Exit→Env→World→Prop}{E:Env}{w:World}{ops:Array Oper}{os:List Oper}{d:Option Tmp}{ty:TypeId}{pos:String}{af:Array Edge}{g:Option (Nat×Bool)}{bo:BinOp}{t t':TypeId}{x y:Operand}(h:Rg P n ops (⟨d,.binOp bo t x y t',ty,pos,af,g⟩::os) Q E w):Rg P n ops (⟨d,.binOp bo t x y t',ty,pos,af,g⟩::os) Q E w:=h
theorem jU{P:Program}{n:Nat}{Q:Exit→Env→World→Prop}{E:Env}{w:World}{ops:Array Oper}{os:List Oper}{d:Option Tmp}{ty:TypeId}{pos:String}{af:Array Edge}{g:Option (Nat×Bool)}{uo:UnOp}{t:TypeId}{x:Operand}(h:Rg P n ops (⟨d,.unOp uo t x,ty,pos,af,g⟩::os) Q E w):Rg P n ops (⟨d,.unOp uo t x,ty,pos,af,g⟩::os) Q E w:=h
theorem jF{P:Program}{n:Nat}{Q:Exit→Env→World→Prop}{E:Env}{w:World}{ops:Array Oper}{os:List Oper}{d:Option Tmp}{ty:TypeId}{pos:String}{af:Array Edge}{g:Option (Nat×Bool)}{t i:Nat}{x:Operand}(h:Rg P n ops (⟨d,.fieldAddr t x i,ty,pos,af,g⟩::os) Q E w):Rg P n ops (⟨d,.fieldAddr t x i,ty,pos,af,g⟩::os) Q E w:=h
theorem jL{P:Program}{n:Nat}{Q:Exit→Env→World→Prop}{E:Env}{w:World}{ops:Array Oper}{os:List Oper}{d:Option Tmp}{ty:TypeId}{pos:String}{af:Array Edge}{g:Option (Nat×Bool)}{t:TypeId}{x:Operand}(h:Rg P n ops (⟨d,.load t x,ty,pos,af,g⟩::os) Q E w):Rg P n ops (⟨d,.load t x,ty,pos,af,g⟩::os) Q E w:=h
theorem jS{P:Program}{n:Nat}{Q:Exit→Env→World→Prop}{E:Env}{w:World}{ops:Array Oper}{os:List Oper}{d:Option Tmp}{ty:TypeId}{pos:String}{af:Array Edge}{g:Option (Nat×Bool)}{t:TypeId}{x y:Operand}(h:Rg P n ops (⟨d,.store t x y,ty,pos,af,g⟩::os) Q E w):Rg P n ops (⟨d,.store t x y,ty,pos,af,g⟩::os) Q E w:=h
theorem jI{P:Program}{n:Nat}{Q:Exit→Env→World→Prop}{E:Env}{w:World}{ops:Array Oper}{os:List Oper}{d:Option Tmp}{ty:TypeId}{pos:String}{af:Array Edge}{g:Option (Nat×Bool)}{t:TypeId}{x y:Operand}(h:Rg P n ops (⟨d,.indexAddr t x y,ty,pos,af,g⟩::os) Q E w):Rg P n ops (⟨d,.indexAddr t x y,ty,pos,af,g⟩::os) Q E w:=h
theorem jX{P:Program}{n:Nat}{Q:Exit→Env→World→Prop}{E:Env}{w:World}{ops:Array Oper}{os:List Oper}{d:Option Tmp}{ty:TypeId}{pos:String}{af:Array Edge}{g:Option (Nat×Bool)}{t:TypeId}{x:Operand}(h:Rg P n ops (⟨d,.box t x,ty,pos,af,g⟩::os) Q E w):Rg P n ops (⟨d,.box t x,ty,pos,af,g⟩::os) Q E w:=h
theorem jN{P:Program}{n:Nat}{Q:Exit→Env→World→Prop}{E:Env}{w:World}{ops:Array Oper}{os:List Oper}{d:Option Tmp}{ty:TypeId}{pos:String}{af:Array Edge}{g:Option (Nat×Bool)}{t:TypeId}(h:Rg P n ops (⟨d,.alloc t,ty,pos,af,g⟩::os) Q E w):Rg P n ops (⟨d,.alloc t,ty,pos,af,g⟩::os) Q E w:=h
theorem jE{P:Program}{n:Nat}{Q:Exit→Env→World→Prop}{E:Env}{w:World}{ops:Array Oper}{os:List Oper}{d:Option Tmp}{ty:TypeId}{pos:String}{af:Array Edge}{g:Option (Nat×Bool)}{x:Operand}{i:Nat}(h:Rg P n ops (⟨d,.extract x i,ty,pos,af,g⟩::os) Q E w):Rg P n ops (⟨d,.extract x i,ty,pos,af,g⟩::os) Q E w:=h
theorem jK{P:Program}{n:Nat}{Q:Exit→Env→World→Prop}{E:Env}{w:World}{ops:Array Oper}{os:List Oper}{d:Option Tmp}{ty:TypeId}{pos:String}{af:Array Edge}{g:Option (Nat×Bool)}{f:Go.Fn}{a b:Array Operand}(h:Rg P n ops (⟨d,.makeFunc f a b,ty,pos,af,g⟩::os) Q E w):Rg P n ops (⟨d,.makeFunc f a b,ty,pos,af,g⟩::os) Q E w:=h
section
variable {P : Program} {n : Nat} {Q : Exit → Env → World → Prop} {E : Env} {w : World} {ops : Array Oper} {os : List Oper} {d : Option Tmp} {ty : TypeId} {pos : String} {af : Array Edge} {g : Option (Nat × Bool)} {x y z : Operand}
theorem eX{i:Nat}{vs:Array Value}{v:Value}(hx:ev E x=.tuple vs)(hv:vs[i]?=some v)(hw:want n ops ⟨d,.extract x i,ty,pos,af,g⟩ E=true)(hd:fits n d=true)(h:Rg P n ops os Q (put E d v) w):Rg P n ops (⟨d,.extract x i,ty,pos,af,g⟩::os) Q E w:=Rg.sil (Sil.extract hx hv) hw hd h
end
def Res(P:Program)(E:Env)(w:World):ResultVar→Value→Prop
 |.tmp t,v=>E t=v
 |.cell t ty,v=>∃a,E t=.pointer (some a)∧(loadVar ty a).run P w=.ok v w
theorem Res.int{t:Nat}{k:IntKind}{a:Int}(h:E t=.int k a):Res P E w (.tmp t) (.int k a):=h
theorem Res.bool{t:Nat}{b:Bool}(h:E t=.bool b):Res P E w (.tmp t) (.bool b):=h
theorem Res.val{t:Nat}:Res P E w (.tmp t) (E t):=rfl
theorem Res.agg{t ty sz bys b o:Nat}{zz:Value}{vs:List Value}[h1:Agg P ty][hi:HasI P ty sz bys zz](h:E t=.pointer (some ⟨b,o,none⟩))(hc:Cells w b o vs)(hl:vs.length=sz):Res P E w (.cell t ty) (.agg vs.toArray):=by
 refine⟨_,h,?_⟩
 have h2:=h1.h w
 have h3:=run_loadCells (P:=P) hc hl
 have h4:=hi.sizeOf w
 simp[loadVar,h2,h3,h4]
theorem Res.one{t ty b o:Nat}{v:Value}[h1:One P ty](h:E t=.pointer (some ⟨b,o,none⟩))(hc:w.cell? ⟨b,o,none⟩=some v):Res P E w (.cell t ty) v:=by
 refine⟨_,h,?_⟩
 have h2:=h1.h w
 simp[loadVar,h2,hc]
def resOf(tmps:Array Value):ResultVar→Sem Value
 |.tmp t=>pure (tmps.getD t undef)
 |.cell a t=>do loadVar t (←asAddr (tmps.getD a undef))
theorem results_eq(fn:Func)(tmps:Array Value):results fn tmps=(do
  let vs ←fn.results.mapM (resOf tmps)
  pure (if h:vs.size=1 then vs[0] else .tuple vs)):=by
 unfold results
 congr 1
theorem Res.run{r:ResultVar}{v:Value}(h:Res P E w r v)(tmps:Array Value)(ht:∀t,tmps.getD t undef=E t):(resOf tmps r).run P w=.ok v w:=by
 cases r with
 |tmp t=>simp only[Res] at h;simp only[resOf,ht,h];rfl
 |cell t ty=>
  obtain⟨a,h1,h2⟩:=h
  simp only[resOf,ht,h1,Sem.run_bind]
  simp[asAddr,h2]
end
def There(w:World)(b:Nat):Prop:=∃cs e f,w.heap[b]?=some (.cells cs e f)
theorem There.lt{w:World}{b:Nat}(h:There w b):b<w.heap.size:=by
 obtain⟨cs,e,f,h⟩:=h;exact(Array.getElem?_eq_some_iff.1 h).1
theorem There.same{w w':World}{b:Nat}(h:There w b)(hs:w'.heap[b]?=w.heap[b]?):There w' b:=by
 obtain⟨cs,e,f,h⟩:=h;exact⟨cs,e,f,hs.trans h⟩
theorem Blk.there{w:World}{b:Nat}{cs:List Value}{e:Nat}(h:Blk w b cs e):There w b:=⟨_,_,_,h⟩
theorem Cells.same{w w':World}{b o:Nat}{vs:List Value}(h:Cells w b o vs)(hs:w'.heap[b]?=w.heap[b]?):Cells w' b o vs:=fun i v hv=>
 (World.cell?_of_block (w:=w) (a:=⟨b,o+i,none⟩) hs).trans (h i v hv)
theorem Cells.there{w:World}{b o:Nat}{vs:List Value}(h:Cells w b o vs)(h0:vs≠[]):There w b:=by
 cases vs with
 |nil=>exact absurd rfl h0
 |cons v vs=>
  have:=h 0 v rfl
  unfold World.cell? at this
  split at this
  ·rename_i cs e f hb;exact⟨cs,e,f,hb⟩
  ·cases this
theorem Cells.drop{w:World}{b o:Nat}{vs us:List Value}(h:Cells w b o (vs++us)):Cells w b (o+vs.length) us:=fun i v hv=>by
 have:=h (vs.length+i) v (by rw[List.getElem?_append_right (by omega)];simpa using hv)
 rwa [←Nat.add_assoc] at this
theorem Cells.take{w:World}{b o:Nat}{vs us:List Value}(h:Cells w b o (vs++us)):Cells w b o vs:=fun i v hv=>
 h i v (by rw[List.getElem?_append_left (List.getElem?_eq_some_iff.1 hv).1];exact hv)
structure Rp (α:Type) where
 nc:Nat
 V:World→α→List Value→List Nat→Prop
 len:∀{w x vs F},V w x vs F→vs.length=nc
 one:∀{w x vs F},V w x vs F→oneAll vs
 inb:∀{w x vs F},V w x vs F→∀k∈F,There w k
 stab:∀{w w' x vs F},V w x vs F→(∀k∈F,w'.heap[k]?=w.heap[k]?)→V w' x vs F
section
variable {α β : Type}
theorem Rp.lt(R:Rp α){w:World}{x:α}{vs:List Value}{F:List Nat}(h:R.V w x vs F):∀k∈F,k<w.heap.size:=fun k hk=>(R.inb h k hk).lt
theorem Rp.later(R:Rp α){w w':World}{x:α}{vs:List Value}{F:List Nat}(h:R.V w x vs F)(hl:Later w w'):R.V w' x vs F:=
 R.stab h fun k hk=>Below.block hl k (R.lt h k hk)
theorem Rp.below(R:Rp α){w w':World}{x:α}{vs:List Value}{F:List Nat}{B:Nat}(h:R.V w x vs F)(hB:∀k∈F,k<B)(hl:Below B w w'):R.V w' x vs F:=
 R.stab h fun k hk=>Below.block hl k (hB k hk)
theorem Rp.wrote(R:Rp α){w w':World}{x:α}{vs:List Value}{F:List Nat}{b:Nat}(h:R.V w x vs F)(hb:b∉F)(hl:Wrote b w w'):R.V w' x vs F:=
 R.stab h fun k hk=>hl.same k (fun e=>hb (e▸hk))
def intR:Rp Int where
 nc:=1
 V:=fun w n vs F=>vs=[.int .i64 n]∧F=[]∧In64 n
 len:=fun h=>by rw[h.1];rfl
 one:=fun h=>by rw[h.1];intro u hu;simp at hu;subst hu;rfl
 inb:=fun h k hk=>by rw[h.2.1] at hk;cases hk
 stab:=fun h _=>h
def seqR(R:Rp α)(S:Rp β):Rp (α×β) where
 nc:=R.nc+S.nc
 V:=fun w x vs F=>∃v1 v2 F1 F2,R.V w x.1 v1 F1∧S.V w x.2 v2 F2∧vs=v1++v2∧F=F1++F2
 len:=fun⟨v1,v2,F1,F2,h1,h2,e1,e2⟩=>by rw[e1,List.length_append,R.len h1,S.len h2]
 one:=fun⟨v1,v2,F1,F2,h1,h2,e1,e2⟩=>by
  rw[e1];intro u hu
  rcases List.mem_append.1 hu with h|h
  ·exact R.one h1 u h
  ·exact S.one h2 u h
 inb:=fun⟨v1,v2,F1,F2,h1,h2,e1,e2⟩ k hk=>by
  rw[e2] at hk
  rcases List.mem_append.1 hk with h|h
  ·exact R.inb h1 k h
  ·exact S.inb h2 k h
 stab:=fun⟨v1,v2,F1,F2,h1,h2,e1,e2⟩ hs=>⟨v1,v2,F1,F2,R.stab h1 (fun k hk=>hs k (by rw[e2];exact List.mem_append_left _ hk)),
  S.stab h2 (fun k hk=>hs k (by rw[e2];exact List.mem_append_right _ hk)),e1,e2⟩
def mapR(g:β→α)(R:Rp α):Rp β where
 nc:=R.nc
 V:=fun w x vs F=>R.V w (g x) vs F
 len:=R.len
 one:=R.one
 inb:=R.inb
 stab:=R.stab
def Elems(R:Rp α)(w:World)(b o:Nat)(l:List α)(Fs:List (List Nat)):Prop:=
 Fs.length=l.length∧∀k x,l[k]?=some x→∃vs,Cells w b (o+k*R.nc) vs∧R.V w x vs (Fs.getD k [])
def LV(R:Rp α)(w:World)(p:Option Addr)(l:List α)(F:List Nat):Prop:=
 (l=[]∧F=[])∨∃b o Fs,p=some ⟨b,o,none⟩∧F=b::Fs.flatten∧There w b∧Elems R w b o l Fs
theorem mem_getD_flatten{Fs:List (List Nat)}{k j:Nat}(h:j∈Fs.getD k []):j∈Fs.flatten:=by
 rw[List.getD_eq_getElem?_getD] at h
 cases hk:Fs[k]? with
 |none=>rw[hk] at h;cases h
 |some L=>rw[hk] at h;exact List.mem_flatten.2 ⟨L,List.mem_of_getElem? hk,h⟩
def listR(R:Rp α):Rp (List α) where
 nc:=1
 V:=fun w l vs F=>∃p c,vs=[.slice p l.length c]∧l.length≤c∧c≤maxLen∧LV R w p l F
 len:=fun⟨p,c,h,_⟩=>by rw[h];rfl
 one:=fun⟨p,c,h,_⟩=>by rw[h];intro u hu;simp at hu;subst hu;rfl
 inb:=fun⟨p,c,h,_,_,hl⟩ k hk=>by
  rcases hl with⟨_,rfl⟩|⟨b,o,Fs,rfl,rfl,ht,hlen,he⟩
  ·cases hk
  ·rcases List.mem_cons.1 hk with rfl|hk
   ·exact ht
   ·obtain⟨L,hL,hkL⟩:=List.mem_flatten.1 hk
    obtain⟨j,hj,rfl⟩:=List.getElem_of_mem hL
    have hx:=he j _ (List.getElem?_eq_getElem (hlen▸hj))
    obtain⟨vs,_,hv⟩:=hx
    exact R.inb hv k (by simpa[List.getD_eq_getElem?_getD,hj] using hkL)
 stab:=fun⟨p,c,h,h1,h2,hl⟩ hs=>by
  refine⟨p,c,h,h1,h2,?_⟩
  rcases hl with hl|⟨b,o,Fs,rfl,rfl,ht,hlen,he⟩
  ·exact .inl hl
  ·refine .inr ⟨b,o,Fs,rfl,rfl,ht.same (hs b (List.mem_cons_self ..)),hlen,fun k x hx=>?_⟩
   obtain⟨vs,hc,hv⟩:=he k x hx
   exact⟨vs,hc.same (hs b (List.mem_cons_self ..)),R.stab hv fun j hj=>hs j (List.mem_cons_of_mem _ (mem_getD_flatten hj))⟩
theorem LV.at{R:Rp α}{w:World}{p:Option Addr}{l:List α}{F:List Nat}(h:LV R w p l F){k:Nat}(hk:k<l.length):
  ∃b o vs Fk,p=some ⟨b,o,none⟩∧Cells w b (o+k*R.nc) vs∧R.V w l[k] vs Fk∧b∈F∧∀j∈Fk,j∈F:=by
 rcases h with⟨rfl,_⟩|⟨b,o,Fs,rfl,rfl,ht,hlen,he⟩
 ·simp at hk
 ·obtain⟨vs,hc,hv⟩:=he k l[k] (List.getElem?_eq_getElem hk)
  exact⟨b,o,vs,_,rfl,hc,hv,List.mem_cons_self ..,fun j hj=>List.mem_cons_of_mem _ (mem_getD_flatten hj)⟩
abbrev intsR:Rp (List Int):=listR intR
theorem LV.int{w:World}{p:Option Addr}{l:List Int}{F:List Nat}(h:LV intR w p l F){k:Nat}(hk:k<l.length):
  ∃b o,p=some ⟨b,o,none⟩∧w.cell? ⟨b,o+k,none⟩=some (.int .i64 l[k])∧In64 l[k]∧b∈F:=by
 obtain⟨b,o,vs,Fk,hp,hc,⟨rfl,_,hi⟩,hb,_⟩:=h.at hk
 have:=hc 0 _ rfl
 exact⟨b,o,hp,by simpa[intR] using this,hi,hb⟩
end
section
variable {α : Type}
def Each(R:Rp α)(w:World):List α→List (List Value)→List (List Nat)→Prop
 |[],[],[]=>True
 |x::l,vs::vss,F::Fs=>R.V w x vs F∧Each R w l vss Fs
 |_,_,_=>False
theorem Each.stab{R:Rp α}{w w':World}:∀{l:List α} {vss:List (List Value)} {Fs:List (List Nat)},Each R w l vss Fs→(∀k∈Fs.flatten,w'.heap[k]?=w.heap[k]?)→Each R w' l vss Fs
 |[],[],[],_,_=>trivial
 |x::l,vs::vss,F::Fs,⟨h1,h2⟩,hs=>⟨R.stab h1 fun k hk=>hs k (by simp[hk]),Each.stab h2 fun k hk=>hs k (by simp only[List.flatten_cons,List.mem_append];exact .inr hk)⟩
theorem Each.lens{R:Rp α}{w:World}:∀{l:List α} {vss:List (List Value)} {Fs:List (List Nat)},Each R w l vss Fs→vss.length=l.length∧Fs.length=l.length∧vss.flatten.length=l.length*R.nc
 |[],[],[],_=>⟨rfl,rfl,by simp⟩
 |x::l,vs::vss,F::Fs,⟨h1,h2⟩=>by
  obtain⟨a,b,c⟩:=Each.lens h2
  refine⟨by simp[a],by simp[b],?_⟩
  simp only[List.flatten_cons,List.length_append,List.length_cons,c,R.len h1,Nat.add_mul,Nat.one_mul]
  omega
theorem Each.inb{R:Rp α}{w:World}:∀{l:List α} {vss:List (List Value)} {Fs:List (List Nat)},Each R w l vss Fs→∀k∈Fs.flatten,There w k
 |[],[],[],_,k,hk=>by cases hk
 |x::l,vs::vss,F::Fs,⟨h1,h2⟩,k,hk=>by
  rw[List.flatten_cons] at hk
  rcases List.mem_append.1 hk with h|h
  ·exact R.inb h1 k h
  ·exact Each.inb h2 k h
theorem Each.one{R:Rp α}{w:World}:∀{l:List α} {vss:List (List Value)} {Fs:List (List Nat)},Each R w l vss Fs→oneAll vss.flatten
 |[],[],[],_=>fun u hu=>by cases hu
 |x::l,vs::vss,F::Fs,⟨h1,h2⟩=>fun u hu=>by
  rw[List.flatten_cons] at hu
  rcases List.mem_append.1 hu with h|h
  ·exact R.one h1 u h
  ·exact Each.one h2 u h
theorem Each.elems{R:Rp α}{w:World}{b:Nat}:∀{l:List α} {vss:List (List Value)} {Fs:List (List Nat)} {o:Nat},Each R w l vss Fs→Cells w b o vss.flatten→Elems R w b o l Fs
 |[],[],[],o,_,_=>⟨rfl,fun k x hx=>by cases hx⟩
 |x::l,vs::vss,F::Fs,o,⟨h1,h2⟩,hc=>by
  have hc':Cells w b o (vs++vss.flatten):=by simpa using hc
  have ih:=Each.elems h2 hc'.drop
  refine⟨by simp[ih.1],fun k y hy=>?_⟩
  cases k with
  |zero=>
   simp only[List.getElem?_cons_zero,Option.some.injEq] at hy
   subst hy
   exact⟨vs,by simpa using hc'.take,h1⟩
  |succ k=>
   obtain⟨us,h3,h4⟩:=ih.2 k y (by simpa using hy)
   refine⟨us,?_,h4⟩
   rw[R.len h1] at h3
   have e:o+R.nc+k*R.nc=o+(k+1)*R.nc:=by rw[Nat.add_mul];omega
   rwa [e] at h3
def Acc(R:Rp α)(w:World)(e:Nat)(v:Value)(l:List α)(F:List Nat):Prop:=
 ∃vss Fs,Buf w e R.nc v l.length vss.flatten∧F=Fs.flatten∧Each R w l vss Fs∧∀k∈F,own v≠some k
theorem Acc.nil(R:Rp α)(w:World)(e:Nat):Acc R w e (.slice none 0 0) [] []:=⟨[],[],Buf.nil w e R.nc,rfl,trivial,fun k hk=>by cases hk⟩
theorem Acc.buf{R:Rp α}{w:World}{e:Nat}{v:Value}{l:List α}{F:List Nat}(h:Acc R w e v l F):∃cs,Buf w e R.nc v l.length cs:=by
 obtain⟨vss,Fs,h1,_⟩:=h;exact⟨_,h1⟩
theorem Acc.own_lt{R:Rp α}{w:World}{e:Nat}{v:Value}{l:List α}{F:List Nat}(h:Acc R w e v l F):∀b,own v=some b→b<w.heap.size:=by
 obtain⟨vss,Fs,h1,_⟩:=h;exact h1.own_lt
theorem Acc.lt{R:Rp α}{w:World}{e:Nat}{v:Value}{l:List α}{F:List Nat}(h:Acc R w e v l F):∀k∈F,k<w.heap.size:=by
 obtain⟨vss,Fs,h1,rfl,h2,_⟩:=h;exact fun k hk=>(h2.inb k hk).lt
theorem Acc.same{R:Rp α}{w w':World}{e:Nat}{v:Value}{l:List α}{F:List Nat}(h:Acc R w e v l F)(ho:∀b,own v=some b→w'.heap[b]?=w.heap[b]?)(hs:∀k∈F,w'.heap[k]?=w.heap[k]?):Acc R w' e v l F:=by
 obtain⟨vss,Fs,h1,rfl,h2,h3⟩:=h
 exact⟨vss,Fs,h1.same ho,rfl,h2.stab hs,h3⟩
theorem Acc.later{R:Rp α}{w w':World}{e:Nat}{v:Value}{l:List α}{F:List Nat}(h:Acc R w e v l F)(hl:Later w w'):Acc R w' e v l F:=
 h.same (fun b hb=>Below.block hl b (h.own_lt b hb)) (fun k hk=>Below.block hl k (h.lt k hk))
theorem Acc.wrote{R:Rp α}{w w':World}{e:Nat}{v:Value}{l:List α}{F:List Nat}{b:Nat}(h:Acc R w e v l F)(hl:Wrote b w w')(ho:own v≠some b)(hF:b∉F):Acc R w' e v l F:=
 h.same (fun b' hb=>hl.same b' (fun e=>ho (e▸hb))) (fun k hk=>hl.same k (fun e=>hF (e▸hk)))
end
def Opn(w:World)(F:List Nat):Prop:=∀k∈F,∃cur e,Blk w k cur e
theorem Opn.same{w w':World}{F:List Nat}(h:Opn w F)(hs:∀k∈F,w'.heap[k]?=w.heap[k]?):Opn w' F:=fun k hk=>by
 obtain⟨c,e,h1⟩:=h k hk;exact⟨c,e,h1.same (hs k hk)⟩
theorem intsR.set{w w2:World}{xs:List Int}{b o l c:Nat}{F:List Nat}{cur:List Value}{e k:Nat}{y:Int}(h:intsR.V w xs [.slice (some ⟨b,o,none⟩) l c] F)(hk:k<xs.length)(hy:In64 y)
  (hB:Blk w b cur e) (hw:Wrote b w w2) (hB2:Blk w2 b (cur.set (o+k) (.int .i64 y)) e):intsR.V w2 (xs.set k y) [.slice (some ⟨b,o,none⟩) l c] F:=by
 obtain⟨p,c',h1,h2,h3,hl⟩:=h
 simp only[List.cons.injEq,Value.slice.injEq,and_true] at h1
 obtain⟨rfl,rfl,rfl⟩:=h1
 refine⟨some ⟨b,o,none⟩,c,by rw[List.length_set],by simpa using h2,h3,?_⟩
 rcases hl with⟨rfl,_⟩|⟨b',o',Fs,hp,rfl,ht,hlen,he⟩
 ·simp at hk
 ·simp only[Option.some.injEq,Addr.mk.injEq,and_true] at hp
  obtain⟨rfl,rfl⟩:=hp
  refine .inr ⟨b,o,Fs,rfl,rfl,hB2.there,by simpa using hlen,fun j x hj=>?_⟩
  rw[List.getElem?_set] at hj
  have hkc:o+k<cur.length:=by
   obtain⟨vs,hc,hv,hv2,_⟩:=he k _ (List.getElem?_eq_getElem hk)
   have h5:=hc 0 _ (by rw[hv];rfl)
   unfold World.cell? at h5
   unfold Blk at hB
   simp only[hB] at h5
   have h6:cur[o+k]?=some (.int .i64 xs[k]):=by simpa[intR] using h5
   exact(List.getElem?_eq_some_iff.1 h6).1
  by_cases hjk:k=j
  ·subst hjk
   simp only[hk,if_true,Option.some.injEq] at hj
   subst hj
   obtain⟨vs,hc,hv,hv2,_⟩:=he k _ (List.getElem?_eq_getElem hk)
   refine⟨[.int .i64 y],fun i v hi=>?_,rfl,hv2,hy⟩
   cases i with
   |zero=>
    simp only[List.getElem?_cons_zero,Option.some.injEq] at hi
    subst hi
    refine hB2.cell ?_
    simp[intR,hkc]
   |succ i=>simp at hi
  ·rw[if_neg hjk] at hj
   obtain⟨vs,hc,rfl,hv2,hv3⟩:=he j x hj
   refine⟨_,fun i v hi=>?_,rfl,hv2,hv3⟩
   cases i with
   |zero=>
    have h5:=hc 0 v hi
    unfold World.cell? at h5
    unfold Blk at hB
    simp only[hB] at h5
    refine hB2.cell ?_
    have h6:o+k≠o+j:=by omega
    simp only[intR,Nat.mul_one,Nat.add_zero,Option.isSome_none,Bool.false_eq_true,if_false] at h5⊢
    rw[List.getElem?_set_ne h6]
    simpa using h5
   |succ i=>simp at hi
theorem Opn.wrote{w w2:World}{F:List Nat}{b e:Nat}{cur:List Value}(h:Opn w F)(hw:Wrote b w w2)(hB:Blk w2 b cur e):Opn w2 F:=fun k hk=>by
 by_cases hkb:k=b
 ·subst hkb;exact⟨cur,e,hB⟩
 ·obtain⟨c,e',h1⟩:=h k hk;exact⟨c,e',h1.same (hw.same k hkb)⟩
structure Marked (F:List Nat) (w w':World):Prop where
 same:∀k,k∉F→w'.heap[k]?=w.heap[k]?
 size:w'.heap.size=w.heap.size
 os:w'.os=w.os
 tape:w'.tape=w.tape
 output:w'.output=w.output
theorem Marked.refl(F:List Nat)(w:World):Marked F w w:=⟨fun _ _=>rfl,rfl,rfl,rfl,rfl⟩
theorem Marked.trans{F:List Nat}{a b c:World}(h:Marked F a b)(k:Marked F b c):Marked F a c:=
 ⟨fun j hj=>(k.same j hj).trans (h.same j hj),k.size.trans h.size,k.os.trans h.os,k.tape.trans h.tape,k.output.trans h.output⟩
theorem Marked.mono{F G:List Nat}{a b:World}(h:Marked F a b)(hs:∀k∈F,k∈G):Marked G a b:=
 ⟨fun j hj=>h.same j (fun hf=>hj (hs j hf)),h.size,h.os,h.tape,h.output⟩
theorem Marked.wrote{F:List Nat}{a b:World}{k:Nat}(h:Wrote k a b)(hk:k∈F):Marked F a b:=
 ⟨fun j hj=>h.same j (fun e=>hj (e▸hk)),h.size,h.os,h.tape,h.output⟩
theorem Marked.below{F:List Nat}{a b:World}{B:Nat}(h:Marked F a b)(hF:∀k∈F,B≤k):Below B a b:=
 ⟨h.os,h.tape,h.output,by rw[h.size];exact Nat.le_refl _,fun k hk=>h.same k (fun hf=>by have:=hF k hf;omega)⟩
def Wb(w:World)(b:Nat):Prop:=∃cs e,Blk w b cs e
theorem Wb.lt{w:World}{b:Nat}(h:Wb w b):b<w.heap.size:=by obtain⟨_,_,h⟩:=h;exact h.lt
theorem Wb.same{w w':World}{b:Nat}(h:Wb w b)(hs:w'.heap[b]?=w.heap[b]?):Wb w' b:=by obtain⟨c,e,h⟩:=h;exact⟨c,e,h.same hs⟩
theorem Wb.later{w w':World}{b:Nat}(h:Wb w b)(hl:Later w w'):Wb w' b:=h.same (Below.block hl b h.lt)
structure Hp (w0 w:World) (H:List (Nat×List Value×Nat)) (D:List (World×List Nat)) (S:List (World×Value):=[]):Prop where
 low:Later w0 w
 own:∀x∈H,Blk w x.1 x.2.1 x.2.2∧w0.heap.size≤x.1
 nes:∀(i j:Nat) x y,H[i]?=some x→H[j]?=some y→i≠j→x.1≠y.1
 dat:∀d∈D,d.2.Nodup∧∀k∈d.2,Wb w k∧w0.heap.size≤k∧w.heap[k]?=d.1.heap[k]?∧∀x∈H,x.1≠k
 dis:∀(i j:Nat) d d',D[i]?=some d→D[j]?=some d'→i≠j→∀k∈d.2,k∉d'.2
 spn:∀s∈S,∀b,G.own s.2=some b→Wb w b∧w0.heap.size≤b∧w.heap[b]?=s.1.heap[b]?∧(∀x∈H,x.1≠b)∧∀d∈D,b∉d.2
 apt:∀(i j:Nat) s t,S[i]?=some s→S[j]?=some t→i≠j→∀b,G.own s.2=some b→G.own t.2≠some b
theorem two_cons{α:Type}{x:α}{l:List α}{p:α→α→Prop}(h0:∀y∈l,p x y∧p y x)(h:∀(i j:Nat) a b,l[i]?=some a→l[j]?=some b→i≠j→p a b):
  ∀(i j:Nat) a b,(x::l)[i]?=some a→(x::l)[j]?=some b→i≠j→p a b:=fun i j a b hi hj hij=>by
 cases i with
 |zero=>
  simp only[List.getElem?_cons_zero,Option.some.injEq] at hi
  subst hi
  cases j with
  |zero=>exact absurd rfl hij
  |succ j=>exact(h0 b (List.mem_of_getElem? (by simpa using hj))).1
 |succ i=>
  cases j with
  |zero=>
   simp only[List.getElem?_cons_zero,Option.some.injEq] at hj
   subst hj
   exact(h0 a (List.mem_of_getElem? (by simpa using hi))).2
  |succ j=>exact h i j a b (by simpa using hi) (by simpa using hj) (by omega)
theorem two_tail{α:Type}{x:α}{l:List α}{p:α→α→Prop}(h:∀(i j:Nat) a b,(x::l)[i]?=some a→(x::l)[j]?=some b→i≠j→p a b):
  ∀(i j:Nat) a b,l[i]?=some a→l[j]?=some b→i≠j→p a b:=fun i j a b hi hj hij=>h (i+1) (j+1) a b (by simpa using hi) (by simpa using hj) (by omega)
theorem two_head{α:Type}{x:α}{l:List α}{p:α→α→Prop}(h:∀(i j:Nat) a b,(x::l)[i]?=some a→(x::l)[j]?=some b→i≠j→p a b):∀y∈l,p x y∧p y x:=fun y hy=>by
 obtain⟨i,hi⟩:=List.mem_iff_getElem?.1 hy
 exact⟨h 0 (i+1) x y rfl (by simpa using hi) (by omega),h (i+1) 0 y x (by simpa using hi) rfl (by omega)⟩
theorem two_set{α:Type}{x:α}{l:List α}{n:Nat}{p:α→α→Prop}(h0:∀(j:Nat) y,l[j]?=some y→j≠n→p x y∧p y x)(h:∀(i j:Nat) a b,l[i]?=some a→l[j]?=some b→i≠j→p a b):
  ∀(i j:Nat) a b,(l.set n x)[i]?=some a→(l.set n x)[j]?=some b→i≠j→p a b:=fun i j a b hi hj hij=>by
 rw[List.getElem?_set] at hi hj
 by_cases h1:n=i
 ·rw[if_pos h1] at hi
  split at hi
  ·simp only[Option.some.injEq] at hi
   subst hi
   rw[if_neg (by omega)] at hj
   exact(h0 j b hj (by omega)).1
  ·cases hi
 ·rw[if_neg h1] at hi
  by_cases h2:n=j
  ·rw[if_pos h2] at hj
   split at hj
   ·simp only[Option.some.injEq] at hj
    subst hj
    exact(h0 i a hi (by omega)).2
   ·cases hj
  ·rw[if_neg h2] at hj
   exact h i j a b hi hj hij
theorem mem_set'{α:Type}{x y:α}{l:List α}{n:Nat}(h:y∈l.set n x):y=x∨∃j,j≠n∧l[j]?=some y:=by
 obtain⟨j,hj⟩:=List.mem_iff_getElem?.1 h
 rw[List.getElem?_set] at hj
 by_cases h1:n=j
 ·rw[if_pos h1] at hj
  split at hj
  ·simp only[Option.some.injEq] at hj;exact .inl hj.symm
  ·cases hj
 ·rw[if_neg h1] at hj;exact .inr ⟨j,by omega,hj⟩
section
variable {w0 w w' : World} {H : List (Nat × List Value × Nat)} {D : List (World × List Nat)} {S : List (World × Value)}
theorem Hp.new(h:Hp w0 w H D S)(hl:Later w w'){b e:Nat}{cs:List Value}(hb:b=w.heap.size)(hB:Blk w' b cs e):Hp w0 w' ((b,cs,e)::H) D S:=by
 have hsz:=hl.size
 refine⟨h.low.trans hl,fun x hx=>?_,two_cons (fun y hy=>?_) h.nes,fun d hd=>⟨(h.dat d hd).1,fun k hk=>?_⟩,h.dis,fun s hs k hk=>?_,h.apt⟩
 ·rcases List.mem_cons.1 hx with rfl|hx
  ·exact⟨hB,by have:=h.low.size;simp only;omega⟩
  ·exact⟨(h.own x hx).1.later hl,(h.own x hx).2⟩
 ·have:=(h.own y hy).1.lt
  simp only;omega
 ·obtain⟨h1,h2,h3,h4⟩:=(h.dat d hd).2 k hk
  refine⟨h1.later hl,h2,(Below.block hl k h1.lt).trans h3,fun x hx=>?_⟩
  rcases List.mem_cons.1 hx with rfl|hx
  ·have:=h1.lt;simp only;omega
  ·exact h4 x hx
 ·obtain⟨h1,h2,h3,h4,h5⟩:=h.spn s hs k hk
  refine⟨h1.later hl,h2,(Below.block hl k h1.lt).trans h3,fun x hx=>?_,h5⟩
  rcases List.mem_cons.1 hx with rfl|hx
  ·have:=h1.lt;simp only;omega
  ·exact h4 x hx
theorem Hp.later(h:Hp w0 w H D S)(hl:Later w w'):Hp w0 w' H D S:=
 ⟨h.low.trans hl,(fun x hx=>⟨(h.own x hx).1.later hl,(h.own x hx).2⟩),h.nes,(fun d hd=>⟨(h.dat d hd).1,fun k hk=>by
  obtain⟨h1,h2,h3,h4⟩:=(h.dat d hd).2 k hk
  exact⟨h1.later hl,h2,(Below.block hl k h1.lt).trans h3,h4⟩⟩),h.dis,(fun s hs k hk=>by
  obtain⟨h1,h2,h3,h4⟩:=h.spn s hs k hk
  exact⟨h1.later hl,h2,(Below.block hl k h1.lt).trans h3,h4⟩),h.apt⟩
theorem Hp.drew(h:Hp w0 w H D S):Hp w0 w.drew H D S:=h.later (Later.refl w).drew
theorem Hp.blk(h:Hp w0 w H D S)(i:Nat){b e:Nat}{cs:List Value}(hi:H[i]?=some (b,cs,e)):Blk w b cs e:=(h.own _ (List.mem_of_getElem? hi)).1
theorem Hp.ge(h:Hp w0 w H D S)(i:Nat){b e:Nat}{cs:List Value}(hi:H[i]?=some (b,cs,e)):w0.heap.size≤b:=(h.own _ (List.mem_of_getElem? hi)).2
theorem Hp.wrote(h:Hp w0 w H D S)(i:Nat){b e e':Nat}{cs cs':List Value}(hi:H[i]?=some (b,cs,e))(hw:Wrote b w w')(hB:Blk w' b cs' e'):Hp w0 w' (H.set i (b,cs',e')) D S:=by
 refine⟨h.low.trans' (hw.below (h.ge i hi)),fun x hx=>?_,two_set (fun j y hj hji=>?_) h.nes,fun d hd=>⟨(h.dat d hd).1,fun k hk=>?_⟩,h.dis,fun s hs k hk=>?_,h.apt⟩
 ·rcases mem_set' hx with rfl|⟨j,hji,hj⟩
  ·exact⟨hB,h.ge i hi⟩
  ·have h1:=h.own x (List.mem_of_getElem? hj)
   exact⟨h1.1.same (hw.same _ (h.nes j i x _ hj hi hji)),h1.2⟩
 ·exact⟨fun e=>h.nes i j _ y hi hj (Ne.symm hji) e,fun e=>h.nes j i y _ hj hi hji e⟩
 ·obtain⟨h1,h2,h3,h4⟩:=(h.dat d hd).2 k hk
  have hkb:k≠b:=fun e=>h4 _ (List.mem_of_getElem? hi) e.symm
  refine⟨h1.same (hw.same k hkb),h2,(hw.same k hkb).trans h3,fun x hx=>?_⟩
  rcases mem_set' hx with rfl|⟨j,hji,hj⟩
  ·exact fun e=>hkb e.symm
  ·exact h4 x (List.mem_of_getElem? hj)
 ·obtain⟨h1,h2,h3,h4,h5⟩:=h.spn s hs k hk
  have hkb:k≠b:=fun e=>h4 _ (List.mem_of_getElem? hi) e.symm
  refine⟨h1.same (hw.same k hkb),h2,(hw.same k hkb).trans h3,fun x hx=>?_,h5⟩
  rcases mem_set' hx with rfl|⟨j,hji,hj⟩
  ·exact fun e=>hkb e.symm
  ·exact h4 x (List.mem_of_getElem? hj)
theorem Hp.lt(h:Hp w0 w H D S)(j:Nat){wk:World}{F:List Nat}(hj:D[j]?=some (wk,F)):∀k∈F,k<w.heap.size:=fun k hk=>((h.dat _ (List.mem_of_getElem? hj)).2 k hk).1.lt
theorem Hp.same(h:Hp w0 w H D S)(j:Nat){wk:World}{F:List Nat}(hj:D[j]?=some (wk,F)):∀k∈F,w.heap[k]?=wk.heap[k]?:=fun k hk=>((h.dat _ (List.mem_of_getElem? hj)).2 k hk).2.2.1
theorem Hp.drop{x:Nat×List Value×Nat}(h:Hp w0 w (x::H) D S):Hp w0 w H D S:=
 ⟨h.low,(fun y hy=>h.own y (List.mem_cons_of_mem _ hy)),two_tail h.nes,(fun d hd=>⟨(h.dat d hd).1,fun k hk=>by
  obtain⟨h1,h2,h3,h4⟩:=(h.dat d hd).2 k hk
  exact⟨h1,h2,h3,fun y hy=>h4 y (List.mem_cons_of_mem _ hy)⟩⟩),h.dis,(fun s hs k hk=>by
  obtain⟨h1,h2,h3,h4,h5⟩:=h.spn s hs k hk
  exact⟨h1,h2,h3,fun y hy=>h4 y (List.mem_cons_of_mem _ hy),h5⟩),h.apt⟩
theorem Hp.empty(h:Hp w0 w H D S)(wk:World):Hp w0 w H ((wk,[])::D) S:=
 ⟨h.low,h.own,h.nes,(fun d hd=>by
  rcases List.mem_cons.1 hd with rfl|hd
  ·exact⟨List.nodup_nil,fun k hk=>by cases hk⟩
  ·exact h.dat d hd),two_cons (fun d hd=>⟨(fun k hk=>by cases hk),fun k hk hm=>by cases hm⟩) h.dis,(fun s hs k hk=>by
  obtain⟨h1,h2,h3,h4,h5⟩:=h.spn s hs k hk
  refine⟨h1,h2,h3,h4,fun d hd hm=>?_⟩
  rcases List.mem_cons.1 hd with rfl|hd
  ·cases hm
  ·exact h5 d hd hm),h.apt⟩
theorem Hp.give{b e:Nat}{cs:List Value}(h:Hp w0 w ((b,cs,e)::H) D S){F:List Nat}(hF:F=[]∨F=[b]):Hp w0 w H ((w,F)::D) S:=by
 have h':=h.drop
 rcases hF with rfl|rfl
 ·exact h'.empty w
 have hb:=h.own (b,cs,e) (List.mem_cons_self ..)
 have t1:=two_head h.nes
 refine⟨h'.low,h'.own,h'.nes,(fun d hd=>?_),two_cons (fun d hd=>⟨fun k hk hm=>?_,fun k hm hk=>?_⟩) h'.dis,(fun s hs k hk=>?_),h'.apt⟩
 ·rcases List.mem_cons.1 hd with rfl|hd
  ·refine⟨by simp,fun k hk=>?_⟩
   simp only[List.mem_singleton] at hk
   subst hk
   exact⟨⟨_,_,hb.1⟩,hb.2,rfl,fun x hx=>(t1 x hx).2⟩
  ·exact h'.dat d hd
 ·simp only[List.mem_singleton] at hk
  subst hk
  exact((h.dat d hd).2 k hm).2.2.2 _ (List.mem_cons_self ..) rfl
 ·simp only[List.mem_singleton] at hk
  subst hk
  exact((h.dat d hd).2 k hm).2.2.2 _ (List.mem_cons_self ..) rfl
 ·obtain⟨h1,h2,h3,h4,h5⟩:=h'.spn s hs k hk
  refine⟨h1,h2,h3,h4,fun d hd hm=>?_⟩
  rcases List.mem_cons.1 hd with rfl|hd
  ·simp only[List.mem_singleton] at hm
   exact(h.spn s hs k hk).2.2.2.1 _ (List.mem_cons_self ..) hm.symm
  ·exact h5 d hd hm
theorem Hp.off(h:Hp w0 w H D S)(i:Nat){wk:World}{v:Value}(hi:S[i]?=some (wk,v))(j:Nat){wj:World}{F:List Nat}(hj:D[j]?=some (wj,F)):∀k∈F,G.own v≠some k:=fun k hk hv=>
 (h.spn _ (List.mem_of_getElem? hi) k hv).2.2.2.2 _ (List.mem_of_getElem? hj) hk
theorem Hp.buf(h:Hp w0 w H D S)(i:Nat){wk:World}{v:Value}(hi:S[i]?=some (wk,v)){e sz m:Nat}{cs:List Value}(hB:Buf wk e sz v m cs):Buf w e sz v m cs:=
 hB.same fun b hb=>(h.spn _ (List.mem_of_getElem? hi) b hb).2.2.1
end
theorem Opn.append{w:World}{F G:List Nat}(hF:Opn w F)(hG:Opn w G):Opn w (F++G):=fun k hk=>(List.mem_append.1 hk).elim (hF k) (hG k)
end Go.Proofs.YtjmjamhhppoimaaGreat.G
namespace Go.Proofs.YtjmjamhhppoimaaGreat.D
open Go.RowKit G
set_option linter.unusedVariables false
structure Quiv where
 n:Int
 fr:List Int
 to:List Int
def quivR:Rp Quiv:=mapR (fun q=>(q.n,q.fr,q.to)) (seqR intR (seqR intsR intsR))
theorem quivR.mk{w:World}{q:Quiv}{v1 v2:Value}{F1 F2:List Nat}(hn:In64 q.n)(h1:intsR.V w q.fr [v1] F1)(h2:intsR.V w q.to [v2] F2):quivR.V w q [.int .i64 q.n,v1,v2] (F1++F2):=
 ⟨[.int .i64 q.n],[v1,v2],[],F1++F2,⟨rfl,rfl,hn⟩,⟨[v1],[v2],F1,F2,h1,h2,rfl,rfl⟩,rfl,rfl⟩
def allIn(lo hi:Int)(xs:List Int):Bool:=xs.all fun x=>decide (lo≤x)&&decide (x≤hi)
theorem allIn_spec{lo hi:Int}{xs:List Int}(h:allIn lo hi xs=true){k:Nat}(hk:k<xs.length):lo≤xs.getD k 0∧xs.getD k 0≤hi:=by
 unfold allIn at h
 rw[List.all_eq_true] at h
 have:=h xs[k] (List.getElem_mem hk)
 rw[Bool.and_eq_true,decide_eq_true_eq,decide_eq_true_eq] at this
 simpa[hk] using this
def okQ(q:Quiv):Bool:=decide (1≤q.n)&&decide (q.n≤5)&&decide (q.fr.length=q.to.length)&&decide (q.fr.length≤6)&&allIn 0 (q.n-1) q.fr&&allIn 0 (q.n-1) q.to
theorem okQ_spec{q:Quiv}(h:okQ q=true):1≤q.n∧q.n≤5∧q.fr.length=q.to.length∧q.fr.length≤6∧allIn 0 (q.n-1) q.fr=true∧allIn 0 (q.n-1) q.to=true:=by
 unfold okQ at h
 simp only[Bool.and_eq_true,decide_eq_true_eq] at h
 exact⟨h.1.1.1.1.1,h.1.1.1.1.2,h.1.1.1.2,h.1.1.2,h.1.2,h.2⟩
theorem okQ_fr{q:Quiv}(h:okQ q=true){k:Nat}(hk:k<q.fr.length):0≤q.fr.getD k 0∧q.fr.getD k 0<q.n:=by
 have:=allIn_spec (okQ_spec h).2.2.2.2.1 hk;omega
theorem okQ_to{q:Quiv}(h:okQ q=true){k:Nat}(hk:k<q.fr.length):0≤q.to.getD k 0∧q.to.getD k 0<q.n:=by
 have:=allIn_spec (okQ_spec h).2.2.2.2.2 (by have:=(okQ_spec h).2.2.1;omega:k<q.to.length);omega
theorem mul_bd{a b A B:Int}(h1:-A≤a)(h2:a≤A)(h3:-B≤b)(h4:b≤B):-(A*B)≤a*b∧a*b≤A*B:=by
 have hA:0≤A:=by omega
 have hB:0≤B:=by omega
 have e1:0≤(A-a)*(B-b):=Int.mul_nonneg (by omega) (by omega)
 have e2:0≤(A+a)*(B+b):=Int.mul_nonneg (by omega) (by omega)
 have e3:0≤(A-a)*(B+b):=Int.mul_nonneg (by omega) (by omega)
 have e4:0≤(A+a)*(B-b):=Int.mul_nonneg (by omega) (by omega)
 simp only[Int.sub_mul,Int.mul_sub,Int.add_mul,Int.mul_add] at e1 e2 e3 e4
 constructor<;>omega
def dotK(x y:List Int):Nat→Int
 |0=>0
 |k+1=>dotK x y k+x.getD k 0*y.getD k 0
theorem dotK_bd{x y:List Int}(hx:allIn (-100) 100 x=true)(hy:allIn (-100) 100 y=true):∀k,k≤x.length→k≤y.length→-(10000*(k:Int))≤dotK x y k∧dotK x y k≤10000*(k:Int)
 |0,_,_=>by simp[dotK]
 |k+1,h1,h2=>by
  have ih:=dotK_bd hx hy k (by omega) (by omega)
  have a:=allIn_spec hx (k:=k) (by omega)
  have b:=allIn_spec hy (k:=k) (by omega)
  have m:=mul_bd (A:=100) (B:=100) (by omega) a.2 (by omega) b.2
  simp only[dotK]
  omega
end Go.Proofs.YtjmjamhhppoimaaGreat.D
namespace Go.Proofs.YtjmjamhhppoimaaGreat.G
open Go.RowKit
set_option linter.unusedVariables false
abbrev Own:=List (Nat×List Value×Nat)
class At1 (H:Own) (b:Nat) (cs:outParam (List Value)) (e:outParam Nat) (U:outParam (List Value→Own)):Prop where
 h:∃i,H[i]?=some (b,cs,e)∧∀c,U c=H.set i (b,c,e)
instance At1.there(x:Nat×List Value×Nat)(H:Own)(b:Nat)(cs:List Value)(e:Nat)(U:List Value→Own)[h:At1 H b cs e U]:At1 (x::H) b cs e (fun c=>x::U c):=by
 obtain⟨i,h1,h2⟩:=h.h
 exact⟨i+1,by simpa using h1,fun c=>by rw[h2];rfl⟩
theorem ii{H:Own}{b e:Nat}{cs:List Value}{U:List Value→Own}[h:At1 H b cs e U]:At1 H b cs e U:=h
section
variable {P : Program} {n : Nat} {Q : Exit → Env → World → Prop} {E : Env} {w : World} {ops : Array Oper} {os : List Oper}
variable {d : Option Tmp} {ty : TypeId} {pos : String} {af : Array Edge} {g : Option (Nat × Bool)} {x y z : Operand}
variable {w0 : World} {H : Own} {D : List (World × List Nat)} {S : List (World × Value)}
theorem Hp.at1(hH:Hp w0 w H D S){b e:Nat}{cs:List Value}{U:List Value→Own}(h:At1 H b cs e U):Blk w b cs e:=by
 obtain⟨i,h1,_⟩:=h.h;exact hH.blk i h1
theorem Sil.loadO(hH:Hp w0 w H D S){t:TypeId}[h1:One P t]{b o e:Nat}{cs:List Value}{U:List Value→Own}{v:Value}(hx:ev E x=.pointer (some ⟨b,o,none⟩))(hi:At1 H b cs e U)(ho:cs[o]?=some v):
  Sil P E ⟨d,.load t x,ty,pos,af,g⟩ v w:=Sil.load hx ((hH.at1 hi).cell ho)
theorem Sil.loadGO(hH:Hp w0 w H D S){t sz bys:Nat}{zz:Value}[h1:Agg P t][hz:HasI P t sz bys zz]{b e:Nat}{vs:List Value}{U:List Value→Own}(hx:ev E x=.pointer (some ⟨b,0,none⟩))(hi:At1 H b vs e U)(hl:vs.length=sz):
  Sil P E ⟨d,.load t x,ty,pos,af,g⟩ (.agg vs.toArray) w:=Sil.loadAgg hx (hH.at1 hi).cells hl
theorem kM(hH:Hp w0 w H D S){t e bys:Nat}{zz:Value}[hu:HasU P t (.slice e)][hi:HasI P e 1 bys zz]{m:Nat}{l:Int}(hx:ev E x=.int .i64 l)(hy:ev E y=.int .i64 l)(hl:l=(m:Int))(hz:zz.cells=#[zz])
  (hb:bys*m≤281474976710656) (hw:want n ops ⟨d,.makeSlice t x y,ty,pos,af,g⟩ E=true) (hd:fits n d=true) (hm:m≤9223372036854775807)
  (h:∀b w',Hp w0 w' ((b,List.replicate m zz,e)::H) D S→Rg P n ops os Q (put E d (.slice (some ⟨b,0,none⟩) m m)) w'):Rg P n ops (⟨d,.makeSlice t x y,ty,pos,af,g⟩::os) Q E w:=
 Rg.make1 hx hy hl hz hb hm hw hd fun b w' hb _ hl hB=>h b w' (hH.new hl hb hB)
theorem t0(hH:Hp w0 w H D S){t e sz bys:Nat}{zz:Value}[hu:HasU P t (.slice e)][hi:HasI P e sz bys zz](hw:want n ops ⟨d,.buildSlice t 0 #[],ty,pos,af,g⟩ E=true)(hd:fits n d=true)
  (h:∀b w',Hp w0 w' ((b,[],e)::H) D S→Rg P n ops os Q (put E d (.slice (some ⟨b,0,none⟩) 0 0)) w'):Rg P n ops (⟨d,.buildSlice t 0 #[],ty,pos,af,g⟩::os) Q E w:=
 Rg.lit (cs:=[]) (vs:=[]) rfl (by simp) (by simp[Instr.fill]) hw hd fun b w' hb _ hl hB=>h b w' (hH.new hl hb hB)
def idx:Nat→List Value→List (Nat×Value)
 |_,[]=>[]
 |k,v::vs=>(k,v)::idx (k+1) vs
theorem overlay(c:List Value):∀(o:Nat) (i:Nat) (A:List Value),o+i+c.length≤A.length→
  ((c.zipIdx i).foldl (fun(cs:Array Value) (x:Value×Nat)=>cs.setIfInBounds (o+x.2) x.1) A.toArray)=(A.take (o+i)++c++A.drop (o+i+c.length)).toArray:=by
 induction c with
 |nil=>intro o i A h;simp
 |cons u c ih=>
  intro o i A h
  simp only[List.zipIdx_cons,List.foldl_cons]
  simp only[List.length_cons] at h
  rw[List.setIfInBounds_toArray,ih o (i+1) (A.set (o+i) u) (by simp;omega)]
  congr 1
  have h1:(A.set (o+i) u).take (o+(i+1))=A.take (o+i)++[u]:=by
   rw[←Nat.add_assoc,List.take_succ_eq_append_getElem (by simp;omega),List.take_set,List.set_eq_of_length_le (by simp;omega)]
   simp
  have h2:(A.set (o+i) u).drop (o+(i+1)+c.length)=A.drop (o+i+(u::c).length):=by
   rw[List.drop_set_of_lt (by omega)]
   congr 1
   simp;omega
  rw[h1,h2];simp
theorem fill_all{sz:Nat}:∀(vs:List Value) (k:Nat) (A:List Value),(∀v∈vs,v.cells.size=sz)→A.length=(k+vs.length)*sz→
  Instr.fill (fun i=>some (i*sz,sz)) A.toArray (idx k vs)=some (A.take (k*sz)++vs.flatMap (·.cells.toList)).toArray
 |[],k,A,_,hA=>by
  simp only[idx,Instr.fill,List.flatMap_nil,List.append_nil]
  rw[List.take_of_length_le (by simp at hA;omega)]
 |v::vs,k,A,hv,hA=>by
  have h1:=hv v (by simp)
  have hle:k*sz+sz≤A.length:=by
   rw[hA,←Nat.succ_mul];exact Nat.mul_le_mul_right _ (by simp)
  have hov:=overlay v.cells.toList (k*sz) 0 A (by simp[h1];omega)
  simp only[idx,Instr.fill,h1]
  rw[if_neg (by simp;omega)]
  have e:(v.cells.zipIdx.foldl (fun(cs:Array Value) (x:Value×Nat)=>cs.setIfInBounds (k*sz+x.2) x.1) A.toArray)=(A.take (k*sz)++v.cells.toList++A.drop (k*sz+sz)).toArray:=by
   rw[←Array.foldl_toList,Array.toList_zipIdx]
   exact hov.trans (by simp[h1])
  have e':(v.cells.zipIdx.foldl (fun(cs:Array Value) x=>match x with|(c,j)=>cs.setIfInBounds (k*sz+j) c) A.toArray)=(A.take (k*sz)++v.cells.toList++A.drop (k*sz+sz)).toArray:=e
  rw[e']
  have hl:(A.take (k*sz)++v.cells.toList).length=(k+1)*sz:=by
   simp[h1,Nat.succ_mul];omega
  rw[fill_all vs (k+1) _ (fun u hu=>hv u (by simp[hu])) (by simp[h1,Nat.min_eq_left (show k*sz≤A.length by omega)];rw[hA];simp[Nat.add_mul];omega)]
  rw[List.take_append_of_le_length (by omega),List.take_of_length_le (by omega)]
  simp
theorem Acc.slice{α:Type}{R:Rp α}{e:Nat}{v:Value}{l:List α}{F:List Nat}(h:Acc R w e v l F):∃p c,v=.slice p l.length c:=by
 obtain⟨vss,Fs,h1,_⟩:=h
 rcases h1.2 with⟨h0,p,rfl⟩|⟨b,c,cur,rfl,_⟩
 ·exact⟨p,0,by rw[h0]⟩
 ·exact⟨_,_,rfl⟩
theorem flat_apart{Fs:List (List Nat)}:Fs.flatten.Nodup→∀(i j k:Nat),i≠j→k∈Fs.getD i []→k∉Fs.getD j []:=by
 induction Fs with
 |nil=>intro _ i j k _ h;simp at h
 |cons L Fs ih=>
  intro hn i j k hij hk hj
  rw[List.flatten_cons] at hn
  obtain⟨h1,h2,h3⟩:=List.nodup_append.1 hn
  cases i with
  |zero=>
   cases j with
   |zero=>exact hij rfl
   |succ j=>exact h3 k (by simpa using hk) k (mem_getD_flatten (by simpa using hj)) rfl
  |succ i=>
   cases j with
   |zero=>exact h3 k (by simpa using hj) k (mem_getD_flatten (by simpa using hk)) rfl
   |succ j=>exact ih h2 i j k (by omega) (by simpa using hk) (by simpa using hj)
theorem flat_nodup{Fs:List (List Nat)}:Fs.flatten.Nodup→∀i,(Fs.getD i []).Nodup:=by
 induction Fs with
 |nil=>intro _ i;simp
 |cons L Fs ih=>
  intro hn i
  rw[List.flatten_cons] at hn
  obtain⟨h1,h2,h3⟩:=List.nodup_append.1 hn
  cases i with
  |zero=>simpa using h1
  |succ i=>simpa using ih h2 i
theorem listR.lens{α:Type}{R:Rp α}{l:List α}{p:Option Addr}{m c:Nat}{F:List Nat}(h:(listR R).V w l [.slice p m c] F)(hn:F.Nodup){i:Nat}(hi:i<l.length):
  ∃b o us Fi,p=some ⟨b,o,none⟩∧Cells w b (o+i*R.nc) us∧R.V w l[i] us Fi∧b∈F∧(∀k∈Fi,k∈F)∧Fi.Nodup∧b∉Fi∧
   ∀w' x',Marked Fi w w'→R.V w' x' us Fi→(listR R).V w' (l.set i x') [.slice p m c] F:=by
 obtain⟨p',c',h1,h2,h3,hl⟩:=h
 simp only[List.cons.injEq,Value.slice.injEq,and_true] at h1
 obtain⟨rfl,rfl,rfl⟩:=h1
 rcases hl with⟨rfl,_⟩|⟨b,o,Fs,rfl,rfl,ht,hlen,he⟩
 ·simp at hi
 ·obtain⟨us,hc,hv⟩:=he i _ (List.getElem?_eq_getElem hi)
  obtain⟨hb,hfl⟩:=List.nodup_cons.1 hn
  refine⟨b,o,us,Fs.getD i [],rfl,hc,hv,List.mem_cons_self ..,fun k hk=>List.mem_cons_of_mem _ (mem_getD_flatten hk),flat_nodup hfl i,fun hk=>hb (mem_getD_flatten hk),fun w' x' hm hv'=>?_⟩
  have hbs:w'.heap[b]?=w.heap[b]?:=hm.same b fun hk=>hb (mem_getD_flatten hk)
  refine⟨some ⟨b,o,none⟩,c,by rw[List.length_set],by simpa using h2,h3,.inr ⟨b,o,Fs,rfl,rfl,ht.same hbs,by simpa using hlen,fun j y hj=>?_⟩⟩
  rw[List.getElem?_set] at hj
  by_cases hij:i=j
  ·subst hij
   rw[if_pos rfl,if_pos hi] at hj
   simp only[Option.some.injEq] at hj
   subst hj
   exact⟨us,hc.same hbs,hv'⟩
  ·rw[if_neg hij] at hj
   obtain⟨ws,hc2,hv2⟩:=he j y hj
   exact⟨ws,hc2.same hbs,R.stab hv2 fun k hk=>hm.same k (flat_apart hfl j i k (Ne.symm hij) hk)⟩
end
section
variable {P : Program} {ops : Array Oper} {Q : Exit → Act → World → Prop} {md : Region.Mode}
def YieldsL(P:Program)(ops:Array Oper)(o:Oper)(v:Value)(a:Act)(w:World):Prop:=
 (Region.wanted o (yielded ops a.tmps)=true∧∀w',Later w w'→(execOp a.eval o).run P w'=.ok (.value v) w')∨
 (Region.wanted o (yielded ops a.tmps)=false∧v=undef)
theorem YieldsL.later{o:Oper}{v:Value}{a:Act}{w w':World}(h:YieldsL P ops o v a w)(hl:Later w w'):YieldsL P ops o v a w':=
 h.imp (fun⟨hw,hv⟩=>⟨hw,fun w2 h2=>hv w2 (hl.trans h2)⟩) id
theorem YieldsL.wpOp{i:Nat}{o:Oper}{v:Value}{a:Act}{w:World}(hi:ops[i]?=some o)(hy:YieldsL P ops o v a w)
  {K:Act→World→Prop} (h:K (a.put o.dst v) w):wpOp P ops Q i K a w:=by
 unfold Go.wpOp
 simp only[hi]
 rcases hy with⟨hw,hv⟩|⟨hw,rfl⟩
 ·simp only[hw,if_true,Oper.wp,hv w (Later.refl w),Oper.upon];exact .inl h
 ·simp only[hw,Bool.false_eq_true,if_false];exact h
theorem YieldsL.of_same{o:Oper}{v:Value}{a a':Act}{w:World}(hy:YieldsL P ops o v a w)(he:execOp a'.eval o=execOp a.eval o)
  (hw:Region.wanted o (yielded ops a'.tmps)=Region.wanted o (yielded ops a.tmps)):YieldsL P ops o v a' w:=by
 unfold YieldsL at*
 rw[he,hw]
 exact hy
theorem wpOp_putY(Y:Act→Prop){j:Nat}{oi oj:Oper}{v:Value}(hj:ops[j]?=some oj)(hap:oi.apart ops oj=true)
  (hsi:∀cs b,oi.op≠.select cs b) (hsj:∀cs b,oj.op≠.select cs b)
  (hQ:∀c a w,Q (.panic c) (a.put oi.dst v) w→Q (.panic c) a w) {K:Act→World→Prop} {a:Act} {w:World}
  (keep:∀(a:Act),Y a→∀u,Y (a.put oj.dst u)) (keepd:∀(a:Act),Y a→∀d,Y {a with defers:=d::a.defers})
  (hy:Y a) (h:wpOp P ops Q j K (a.put oi.dst v) w):
  wpOp P ops Q j (fun a' w'=>Y a'∧K (a'.put oi.dst v) w') a w:=by
 obtain⟨h1,h2,h3⟩:=Oper.apart_spec hap
 have keepD:∀d,Y {a with defers:=d::a.defers}:=fun d=>keepd a hy d
 unfold wpOp at*
 simp only[hj] at*
 rw[wanted_put oj a oi.dst v h1] at h
 split
 ·rename_i hw
  simp only[hw,if_true] at h
  rcases h with h|⟨hasks,hlets⟩
  case inr=>exact .inr ⟨by unfold Oper.asks at*;rw[execOp_put oj hsj a oi.dst v h1] at hasks;exact hasks,hlets⟩
  refine .inl ?_
  unfold Oper.wp at*
  rw[execOp_put oj hsj a oi.dst v h1] at h
  generalize (execOp a.eval oj).run P w=r at*
  cases r with
  |ok n w'=>
   cases n<;>simp only[Oper.upon] at h⊢
   case value u=>exact⟨keep a hy u,by rw[←Act.put_comm a v u h2];exact h⟩
   case skip=>exact⟨keep a hy _,by rw[←Act.put_comm a v undef h2];exact h⟩
   case defer d=>
    refine⟨keep _ (keepD d) _,?_⟩
    rw[←Act.put_comm _ v undef h2,←Act.put_defers]
    exact h
   case enter f args=>
    refine Calls.mono h fun e w'' he=>?_
    cases e with
    |returned u=>exact⟨keep a hy u,by rw[←Act.put_comm a v u h2];exact he⟩
    |panicked c=>exact hQ _ _ _ he
    |outgrown=>exact he
   case row row args=>exact Rows.mono h fun u w'' he=>⟨keep a hy u,by rw[←Act.put_comm a v u h2];exact he⟩
  |halt x w'=>
   cases x<;>simp only[Oper.upon] at h⊢
   case panic u=>exact hQ _ _ _ h
 ·rename_i hw
  simp only[hw] at h
  exact⟨keep a hy _,by rw[←Act.put_comm a v undef h2];exact h⟩
def YD(P:Program)(ops:Array Oper)(o:Oper)(v:Value)(pu:Bool)(a:Act)(w:World):Prop:=match pu with
 |true=>∀w',YieldsL P ops o v a w'
 |false=>YieldsL P ops o v a w
theorem YD.now{o:Oper}{v:Value}{pu:Bool}{a:Act}{w:World}(h:YD P ops o v pu a w):YieldsL P ops o v a w:=by
 cases pu with
 |true=>exact h w
 |false=>exact h
theorem YD.later{o:Oper}{v:Value}{pu:Bool}{a:Act}{w w':World}(h:YD P ops o v pu a w)(hl:pu=false→Later w w'):YD P ops o v pu a w':=by
 cases pu with
 |true=>exact h
 |false=>exact YieldsL.later h (hl rfl)
theorem wpOp_putL{pu:Bool}{j:Nat}{oi oj:Oper}{v:Value}(hj:ops[j]?=some oj)(hap:oi.apart ops oj=true)
  (hsi:∀cs b,oi.op≠.select cs b) (hsj:∀cs b,oj.op≠.select cs b)
  (hQ:∀c a w,Q (.panic c) (a.put oi.dst v) w→Q (.panic c) a w) {K:Act→World→Prop} {a:Act} {w:World}
  (hy:YD P ops oi v pu a w) (h:wpOp P ops Q j K (a.put oi.dst v) w):
  wpOp P ops Q j (fun a' w'=>YD P ops oi v pu a' w∧K (a'.put oi.dst v) w') a w:=by
 obtain⟨h1,h2,h3⟩:=Oper.apart_spec hap
 refine wpOp_putY (fun a=>YD P ops oi v pu a w) hj hap hsi hsj hQ (fun a hy u=>?_) (fun a hy d=>?_) hy h
 ·cases pu with
  |true=>exact fun w'=>(hy w').of_same (execOp_put oi hsi a oj.dst u h3) (wanted_put oi a oj.dst u h3)
  |false=>exact YieldsL.of_same hy (execOp_put oi hsi a oj.dst u h3) (wanted_put oi a oj.dst u h3)
 ·cases pu with
  |true=>exact fun w'=>(hy w').of_same rfl rfl
  |false=>exact YieldsL.of_same hy rfl rfl
def needs(md:Region.Mode)(ops:Array Oper):Nat→Nat→Nat→Bool
 |0,_,_=>false
 |f+1,j,i=>match ops[j]? with
  |some o=>o.after.any fun e=>Region.binds md e&&(Nat.beq e.on i||needs md ops f e.on i)
  |none=>false
def isLoad(ops:Array Oper)(i:Nat):Bool:=match ops[i]? with
 |some o=>(match o.op with|.load _ _=>true|_=>false)
 |none=>false
def tailOk(md:Region.Mode)(m:Nat)(ops:Array Oper):Bool:=
 (List.range ops.size).all fun j=>bif Nat.blt j m then true else(List.range m).all fun i=>bif isLoad ops i then needs md ops ops.size j i else true
def Closed(md:Region.Mode)(ops:Array Oper)(listed:Array Bool):Prop:=
 ∀(a:Nat) oa,ops[a]?=some oa→listed.getD a false=true→∀e∈oa.after,Region.binds md e=true→listed.getD e.on false=true
theorem Closed.start:Closed md ops (Array.replicate ops.size false):=fun a oa ha hl=>by
 have hlt:=(Array.getElem?_eq_some_iff.1 ha).1
 simp[hlt] at hl
theorem getD_set_true{l:Array Bool}{i j:Nat}(h:l.getD j false=true):(l.setIfInBounds i true).getD j false=true:=by
 by_cases hj:j<l.size
 ·by_cases e:i=j
  ·subst e;simp[hj]
  ·simp[hj] at h⊢
   rw[Array.getElem_setIfInBounds_ne]
   ·exact h
   ·exact e
 ·simp[Array.getElem?_eq_none (Nat.le_of_not_lt hj)] at h
theorem Closed.set{listed:Array Bool}(h:Closed md ops listed){i:Nat}(hi:i∈Region.ready md ops listed):Closed md ops (listed.setIfInBounds i true):=fun a oa ha hl e he hb=>by
 obtain⟨hun,o,ho,hall⟩:=mem_ready.1 hi
 by_cases hai:a=i
 ·subst hai
  rw[ho] at ha
  simp only[Option.some.injEq] at ha
  subst ha
  exact getD_set_true (hall e he hb)
 ·refine getD_set_true (h a oa ha ?_ e he hb)
  by_cases hj:a<listed.size
  ·simp[hj] at hl⊢
   rwa [Array.getElem_setIfInBounds_ne _ (fun e=>hai e.symm)] at hl
  ·rw[Array.getD_eq_getD_getElem?,Array.getElem?_eq_none (by simpa using hj)] at hl
   simp at hl
theorem needs_listed{listed:Array Bool}(h:Closed md ops listed):∀(f j:Nat) (oj:Oper) (i:Nat),ops[j]?=some oj→(∀e∈oj.after,Region.binds md e=true→listed.getD e.on false=true)→needs md ops f j i=true→listed.getD i false=true
 |0,_,_,_,_,_,hn=>by simp[needs] at hn
 |f+1,j,oj,i,hj,hall,hn=>by
  simp only[needs,hj] at hn
  obtain⟨e,he,hb⟩:=Array.any_eq_true'.1 hn
  rw[Bool.and_eq_true,Bool.or_eq_true] at hb
  have h1:=hall e he hb.1
  rcases hb.2 with h2|h2
  ·rw[←Nat.eq_of_beq_eq_true h2];exact h1
  ·cases ho:ops[e.on]? with
   |none=>
    cases f with
    |zero=>simp[needs] at h2
    |succ f=>simp[needs,ho] at h2
   |some oe=>exact needs_listed h f e.on oe i ho (h e.on oe ho h1) h2
def wpAnyL(P:Program)(md:Region.Mode)(m:Nat)(ops:Array Oper)(Q:Exit→Act→World→Prop):Nat→Array Bool→Act→World→Prop
 |0,listed,a,w=>Region.ready md ops listed=[]∧Q .normal a w
 |fuel+1,listed,a,w=>
  (Region.ready md ops listed=[]→Q .normal a w)∧
  ∀i∈Region.ready md ops listed,wpOp P ops Q i (fun a' w'=>(m≤i∨Later w w')∧wpAnyL P md m ops Q fuel (listed.setIfInBounds i true) a' w') a w
theorem wpAny_of_later{m:Nat}:∀(fuel:Nat) (listed:Array Bool) (a:Act) (w:World),wpAnyL P md m ops Q fuel listed a w→wpAny P md ops Q fuel listed a w
 |0,_,_,_,h=>h
 |fuel+1,_,_,_,h=>⟨h.1,fun i hi=>wpOp_mono (fun a' w' h'=>wpAny_of_later fuel _ a' w' h'.2) (h.2 i hi)⟩
theorem tailOk_spec{m i j:Nat}(h:tailOk md m ops=true)(hld:isLoad ops i=true)(him:i<m)(hjm:m≤j){oj:Oper}(hj:ops[j]?=some oj):needs md ops ops.size j i=true:=by
 unfold tailOk at h
 rw[List.all_eq_true] at h
 have h1:=h j (List.mem_range.2 (Array.getElem?_eq_some_iff.1 hj).1)
 have hb:Nat.blt j m=false:=by rw[←Bool.not_eq_true,Nat.blt_eq];omega
 simp only[hb,cond_false] at h1
 rw[List.all_eq_true] at h1
 have h2:=h1 i (List.mem_range.2 him)
 rwa [hld,cond_true] at h2
theorem upon_mono{o:Oper}{a:Act}{K K':Act→World→Prop}{Q Q':Exit→Act→World→Prop}{r:Result Next}(h:∀a w,K a w→K' a w)(hq:∀e a w,e≠.normal→Q e a w→Q' e a w)
  (hh:o.upon P a K Q r):o.upon P a K' Q' r:=by
 unfold Oper.upon at*
 split at hh
 ·exact h _ _ hh
 ·exact h _ _ hh
 ·exact h _ _ hh
 ·refine Calls.mono hh fun e w'' he=>?_
  cases e with
  |returned v=>exact h _ _ he
  |panicked c=>exact hq _ _ _ (by simp) he
  |outgrown=>obtain⟨a0,w0,h0⟩:=he;exact⟨a0,w0,hq _ _ _ (by simp) h0⟩
 ·exact Rows.mono hh fun v w'' he=>h _ _ he
 ·exact hq _ _ _ (by simp) hh
 ·exact hh.elim
theorem wpAnyL_first{pu:Bool}{m:Nat}{i:Nat}(him:pu=false→i<m∧isLoad ops i=true)(htail:tailOk md m ops=true){oi:Oper}{v:Value}(hi:ops[i]?=some oi)(hsel:∀(j:Nat) (o:Oper) cs b,ops[j]?=some o→o.op≠.select cs b)
  (hQ:∀c a w,Q (.panic c) (a.put oi.dst v) w→Q (.panic c) a w):
  ∀(fuel:Nat) (listed:Array Bool) (a:Act) (w:World),Closed md ops listed→
   (∀j oj,ops[j]?=some oj→j≠i→listed.getD j true=false→(∀e∈oj.after,Region.binds md e=true→e.on≠i)→oi.apart ops oj=true)→
   i∈Region.ready md ops listed→YD P ops oi v pu a w→
   wpAnyL P md m ops Q fuel (listed.setIfInBounds i true) (a.put oi.dst v) w→wpAnyL P md m ops Q (fuel+1) listed a w:=by
 intro fuel
 induction fuel with
 |zero=>
  intro listed a w _ _ hr hy H
  refine⟨fun h=>(by rw[h] at hr;cases hr),fun j hj=>?_⟩
  by_cases hji:j=i
  ·subst hji;exact hy.now.wpOp hi ⟨.inr (Later.refl w),H⟩
  ·have:=ready_mono hj hji
   rw[H.1] at this
   cases this
 |succ fuel ih=>
  intro listed a w hcl hfree hr hy H
  refine⟨fun h=>(by rw[h] at hr;cases hr),fun j hj=>?_⟩
  by_cases hji:j=i
  ·subst hji;exact hy.now.wpOp hi ⟨.inr (Later.refl w),H⟩
  ·have h1:=H.2 j (ready_mono hj hji)
   obtain⟨hjun,oj,hoj,hall⟩:=mem_ready.1 hj
   have hun0:=(mem_ready.1 hr).1
   have hnot:∀e∈oj.after,Region.binds md e=true→e.on≠i:=fun e he hb heq=>by
    have h1:=hall e he hb
    rw[heq] at h1
    rcases Nat.lt_or_ge i listed.size with h'|h'
    ·simp[h'] at hun0 h1;rw[hun0] at h1;cases h1
    ·simp[Array.getElem?_eq_none h'] at h1
   have h2:=wpOp_putL hoj (hfree j oj hoj hji hjun hnot) (fun cs b=>hsel i oi cs b hi) (fun cs b=>hsel j oj cs b hoj) hQ hy h1
   have hfree':∀k ok,ops[k]?=some ok→k≠i→(listed.setIfInBounds j true).getD k true=false→
     (∀e∈ok.after,Region.binds md e=true→e.on≠i)→oi.apart ops ok=true:=fun k ok hk hki hun hno=>by
    refine hfree k ok hk hki ?_ hno
    by_cases hjk:j=k
    ·subst hjk;exact hjun
    ·rw[getD_set_ne true hjk] at hun;exact hun
   have hjm:pu=false→¬m≤j:=fun hpu hjm=>by
    have hL:=needs_listed hcl _ j oj i hoj hall (tailOk_spec htail (him hpu).2 (him hpu).1 hjm hoj)
    rcases Nat.lt_or_ge i listed.size with h'|h'
    ·simp[h'] at hun0 hL;rw[hun0] at hL;cases hL
    ·simp[Array.getElem?_eq_none h'] at hL
   refine wpOp_mono (fun a' w' h3=>?_) h2
   refine⟨h3.2.1,ih (listed.setIfInBounds j true) a' w' (hcl.set hj) hfree' (ready_mono hr (Ne.symm hji)) (h3.1.later fun hpu=>h3.2.1.resolve_left (hjm hpu)) ?_⟩
   rw[Array.setIfInBounds_comm _ _ hji]
   exact h3.2.2
class NoPan (Q:Exit→Env→World→Prop):Prop where
 h:∀c E w,¬Q (.panic c) E w
def RgA(P:Program)(n m:Nat)(ops:Array Oper)(fuel:Nat)(listed:Array Bool)(Q:Exit→Env→World→Prop)(E:Env)(w:World):Prop:=
 (Region.noSelect ops&&tailOk .any m ops)=true→Closed .any ops listed→∀a,Fits n a E→wpAnyL P .any m ops (Up n Q) fuel listed a w
variable {n m : Nat} {fuel : Nat} {listed : Array Bool} {E : Env} {w : World}
theorem Wp.draw{Q:Exit→Env→World→Prop}{id:Nat}(m:Nat)(hm:P.follows .mixedOrders=true)(hst:(Region.noSelect ops&&tailOk .any m ops)=true)
  (h:RgA P n m ops ops.size (Array.replicate ops.size false) Q E w.drew):Wp P n (.region id ops true) Q E w:=by
 unfold Wp
 intro a ha
 exact wp_region_any hm (wpAny_of_later _ _ _ _ (h hst Closed.start a ha))
theorem RgA.nil{Q:Exit→Env→World→Prop}(hr:Region.ready .any ops listed=[])(h:Q .normal E w):RgA P n m ops fuel listed Q E w:=fun hst hcl a ha=>by
 cases fuel with
 |zero=>exact⟨hr,E,ha,h⟩
 |succ f=>exact⟨fun _=>⟨E,ha,h⟩,by rw[hr];simp⟩
theorem RgA.take{Q:Exit→Env→World→Prop}[hQ:NoPan Q](i:Nat){o:Oper}{v:Value}(ho:ops[i]?=some o)
  (hc:(Nat.blt i m&&isLoad ops i&&Region.free .any ops listed i&&(Region.ready .any ops listed).contains i)=true)
  (hs:Sil P E o v w) (hw:want n ops o E=true) (hd:fits n o.dst=true) (h:RgA P n m ops fuel (listed.setIfInBounds i true) Q (put E o.dst v) w):
  RgA P n m ops (fuel+1) listed Q E w:=fun hst hcl a ha=>by
 simp only[Bool.and_eq_true] at hc
 obtain⟨⟨⟨h1,h0⟩,h4⟩,h5⟩:=hc
 obtain⟨h2,h3⟩:=by rw[Bool.and_eq_true] at hst;exact hst
 refine wpAnyL_first (pu:=false) (fun _=>⟨by rwa [Nat.blt_eq] at h1,h0⟩) h3 ho (Region.noSelect_spec h2) ?_ fuel listed a w hcl (Region.free_spec ho h4) (by simpa using h5) ?_ (h hst (hcl.set (by simpa using h5)) _ (ha.put' hd v))
 ·intro c a w ⟨E,_,hp⟩;exact absurd hp (hQ.h _ _ _)
 ·refine .inl ⟨by rw[want_eq ha];exact hw,fun w' hl=>?_⟩
  rw[ha.eval]
  unfold Sil at hs
  exact hs w' hl
theorem RgA.pure{Q:Exit→Env→World→Prop}[hQ:NoPan Q](i:Nat){o:Oper}{v:Value}(ho:ops[i]?=some o)
  (hc:(Region.free .any ops listed i&&(Region.ready .any ops listed).contains i)=true)
  (hs:∀w,Sil P E o v w) (hw:want n ops o E=true) (hd:fits n o.dst=true) (h:RgA P n m ops fuel (listed.setIfInBounds i true) Q (put E o.dst v) w):
  RgA P n m ops (fuel+1) listed Q E w:=fun hst hcl a ha=>by
 simp only[Bool.and_eq_true] at hc
 obtain⟨h4,h5⟩:=hc
 obtain⟨h2,h3⟩:=by rw[Bool.and_eq_true] at hst;exact hst
 refine wpAnyL_first (pu:=true) (fun h=>by cases h) h3 ho (Region.noSelect_spec h2) ?_ fuel listed a w hcl (Region.free_spec ho h4) (by simpa using h5) ?_ (h hst (hcl.set (by simpa using h5)) _ (ha.put' hd v))
 ·intro c a w ⟨E,_,hp⟩;exact absurd hp (hQ.h _ _ _)
 ·intro w'
  refine .inl ⟨by rw[want_eq ha];exact hw,fun w2 hl=>?_⟩
  rw[ha.eval]
  have:=hs w'
  unfold Sil at this
  exact this w2 hl
theorem RgA.skip{Q:Exit→Env→World→Prop}[hQ:NoPan Q](i:Nat){o:Oper}(ho:ops[i]?=some o)
  (hc:(Region.free .any ops listed i&&(Region.ready .any ops listed).contains i)=true)
  (hw:want n ops o E=false) (hd:fits n o.dst=true) (h:RgA P n m ops fuel (listed.setIfInBounds i true) Q (put E o.dst undef) w):
  RgA P n m ops (fuel+1) listed Q E w:=fun hst hcl a ha=>by
 simp only[Bool.and_eq_true] at hc
 obtain⟨h4,h5⟩:=hc
 obtain⟨h2,h3⟩:=by rw[Bool.and_eq_true] at hst;exact hst
 refine wpAnyL_first (pu:=true) (fun h=>by cases h) h3 ho (Region.noSelect_spec h2) ?_ fuel listed a w hcl (Region.free_spec ho h4) (by simpa using h5) ?_ (h hst (hcl.set (by simpa using h5)) _ (ha.put' hd undef))
 ·intro c a w ⟨E,_,hp⟩;exact absurd hp (hQ.h _ _ _)
 ·exact fun w'=>.inr ⟨by rw[want_eq ha];exact hw,rfl⟩
theorem tk{Q:Exit→Env→World→Prop}[hQ:NoPan Q](i:Nat){o:Oper}{v:Value}(ho:ops[i]?=some o)
  (hc:(Region.free .any ops listed i&&(Region.ready .any ops listed).contains i)=true)
  (hs:∀w,Sil P E o v w) (hw:want n ops o E=true) (hd:fits n o.dst=true) (h:RgA P n m ops fuel (listed.setIfInBounds i true) Q (put E o.dst v) w):
  RgA P n m ops (fuel+1) listed Q E w:=RgA.pure i ho hc hs hw hd h
theorem RgA.only{Q:Exit→Env→World→Prop}(i:Nat){o:Oper}(ho:ops[i]?=some o)(hr:Region.ready .any ops listed=[i])
  (h:Rg P n ops [o] (Th (fun E' w'=>(m≤i∨Later w w')∧RgA P n m ops fuel (listed.setIfInBounds i true) Q E' w') Q) E w):
  RgA P n m ops (fuel+1) listed Q E w:=fun hst hcl a ha=>by
 have hcl':Closed .any ops (listed.setIfInBounds i true):=hcl.set (by rw[hr];simp)
 refine⟨fun h0=>(by rw[hr] at h0;cases h0),fun j hj=>?_⟩
 rw[hr] at hj
 obtain rfl:j=i:=by simpa using hj
 unfold Rg at h
 have h1:=h a ha
 unfold wpList at h1
 unfold wpOp
 simp only[ho]
 split
 ·rename_i hw
  rw[if_pos hw] at h1
  rcases h1 with h1|⟨h1,a0,w0,E0,hE0,hq⟩
  ·refine .inl ?_
   unfold Oper.wp at*
   refine upon_mono ?_ ?_ h1
   ·intro a' w' ⟨E',hf',hq⟩;exact⟨hq.1,hq.2 hst hcl' a' hf'⟩
   ·intro e a' w' hne ⟨E',hf',hq⟩
    refine⟨E',hf',?_⟩
    cases e<;>first|exact hq|exact absurd rfl hne
  ·exact .inr ⟨h1,a0,w0,E0,hE0,hq⟩
 ·rename_i hw
  rw[if_neg hw] at h1
  obtain⟨E',hf',hq⟩:=h1
  exact⟨hq.1,hq.2 hst hcl' _ hf'⟩
end
attribute [irreducible] RgA
theorem jT{K:Env→World→Prop}{Q:Exit→Env→World→Prop}{e:Exit}{E:Env}{w:World}(h:Th K Q e E w):Th K Q e E w:=h
section
variable {P : Program} {ops : Array Oper} {Q : Exit → Env → World → Prop} {n m : Nat} {fuel : Nat} {listed : Array Bool} {E : Env} {w : World}
theorem ld [hQ : NoPan Q] (i : Nat) {o : Oper} {v : Value} (h : RgA P n m ops fuel (listed.setIfInBounds i true) Q (put E o.dst v) w) (ho : ops[i]? = some o := by exact rfl)
    (hc : (Nat.blt i m && isLoad ops i && Region.free .any ops listed i && (Region.ready .any ops listed).contains i) = true := by kernel_rfl)
    (hs : Sil P E o v w := by
      first
        | exact Sil.loadO hH rfl ii rfl | exact Sil.loadGO hH rfl ii rfl | exact Sil.load rfl (by assumption) | exact Sil.load rfl (Blk.cell (by assumption) rfl) | exact Sil.loadAgg rfl (Blk.cells (by assumption)) rfl)
    (hw : want n ops o E = true := by exact rfl) (hd : fits n o.dst = true := by exact rfl) : RgA P n m ops (fuel + 1) listed Q E w := RgA.take i ho hc hs hw hd h
theorem nd(h:Q .normal E w)(hr:Region.ready .any ops listed=[]:=by kernel_rfl):RgA P n m ops fuel listed Q E w:=RgA.nil hr h
end
structure Touched (F:List Nat) (w w':World):Prop where
 same:∀k,k<w.heap.size→k∉F→w'.heap[k]?=w.heap[k]?
 size:w.heap.size≤w'.heap.size
 os:w'.os=w.os
 tape:w'.tape=w.tape
 output:w'.output=w.output
theorem Touched.later{F:List Nat}{w w':World}(h:Later w w'):Touched F w w':=⟨fun k hk _=>Below.block h k hk,h.size,h.os,h.tape,h.output⟩
theorem Touched.trans{F:List Nat}{a b c:World}(h:Touched F a b)(k:Touched F b c):Touched F a c:=
 ⟨fun j hj hf=>(k.same j (by have:=h.size;omega) hf).trans (h.same j hj hf),Nat.le_trans h.size k.size,k.os.trans h.os,k.tape.trans h.tape,k.output.trans h.output⟩
theorem Touched.mono{F G':List Nat}{a b:World}(h:Touched F a b)(hs:∀k∈F,k∈G'):Touched G' a b:=⟨fun j hj hf=>h.same j hj fun hm=>hf (hs j hm),h.size,h.os,h.tape,h.output⟩
theorem Touched.below{F:List Nat}{a b:World}{B:Nat}(h:Touched F a b)(hB:B≤a.heap.size)(hF:∀k∈F,B≤k):Below B a b:=
 ⟨h.os,h.tape,h.output,h.size,fun k hk=>h.same k (by omega) fun hf=>by have:=hF k hf;omega⟩
abbrev matR:Rp (List (List Int)):=listR intsR
def get2(m:List (List Int))(i k:Nat):Int:=(m.getD i []).getD k 0
def set2(m:List (List Int))(i k:Nat)(y:Int):List (List Int):=m.set i ((m.getD i []).set k y)
theorem matR.row{w:World}{m:List (List Int)}{p:Option Addr}{l c:Nat}{F:List Nat}(h:matR.V w m [.slice p l c] F)(hn:F.Nodup){i k:Nat}(hi:i<m.length)(hk:k<(m.getD i []).length):
  ∃b o rb ro rc,p=some ⟨b,o,none⟩∧w.cell? ⟨b,o+i,none⟩=some (.slice (some ⟨rb,ro,none⟩) (m.getD i []).length rc)∧w.cell? ⟨rb,ro+k,none⟩=some (.int .i64 (get2 m i k))∧In64 (get2 m i k)∧rb∈F∧
   ∀w2 y cur e,In64 y→Blk w rb cur e→Wrote rb w w2→Blk w2 rb (cur.set (ro+k) (.int .i64 y)) e→matR.V w2 (set2 m i k y) [.slice p l c] F:=by
 obtain⟨b,o,us,Fi,rfl,hc,hv,hb,hFi,hni,hbi,hcont⟩:=listR.lens h hn hi
 have hmi:m.getD i []=m[i]:=by simp[hi]
 rw[hmi] at hk⊢
 obtain⟨rp,rc,rfl,h1,h2,hl⟩:=id hv
 obtain⟨rb,ro,rfl,hcell,hin,hrb⟩:=hl.int hk
 have hg:get2 m i k=m[i][k]:=by simp[get2,hi,hk]
 rw[hg]
 refine⟨b,o,rb,ro,rc,rfl,?_,hcell,hin,hFi rb hrb,fun w2 y cur e hy hB hw hB2=>?_⟩
 ·have:=hc 0 _ rfl
  simpa[intsR,listR] using this
 ·have h3:=intsR.set hv hk hy hB hw hB2
  have h4:=hcont w2 _ (Marked.wrote hw hrb) h3
  rw[←hmi] at h4;exact h4
end Go.Proofs.YtjmjamhhppoimaaGreat.G
namespace Go.Proofs.YtjmjamhhppoimaaGreat.G
open Go.RowKit Go.WideShapes
set_option linter.unusedVariables false
class Rds (P:Program) (t:Nat) {α:outParam Type} (R:outParam (Rp α)):Prop where
 h:∀{H:Type} (enc:TypeId×Value→H) (w:World) (fuel:Nat) (cs:List Value) (d:DataW H) (ps:List MemPlace),DataW.trod enc P w 0 (fun _=>true) true fuel t cs=some (d,ps)→∃x F,R.V w x cs F
 nc:P.cellsOf t=R.nc
class RdsF (P:Program) (fs:List Field) (o:Nat) {α:outParam Type} (R:outParam (Rp α)):Prop where
 h:∀{H:Type} (enc:TypeId×Value→H) (w:World) (fuel:Nat) (cs:List Value) (xs:List (DataW H×List MemPlace)),
  fs.mapM (fun f=>DataW.trod enc P w 0 (fun _=>true) true fuel f.type ((cs.drop f.offset).take (P.cellsOf f.type)))=some xs→∃x F,R.V w x ((cs.drop o).take R.nc) F
theorem Rds.int{P:Program}{t:Nat}(hu:P.underlying t=some (.int .i64))(hc:P.cellsOf t=1):Rds P t intR:=by
 refine⟨fun enc w fuel cs d ps h=>?_,hc⟩
 cases fuel with
 |zero=>simp[DataW.trod] at h
 |succ fuel=>
  simp only[DataW.trod,hu] at h
  split at h<;>first|cases h|skip
  all_goals rename_i heq
  all_goals try simp only[Option.some.injEq,TypeDesc.int.injEq,reduceCtorEq] at heq
  subst heq
  split at h
  ·rename_i k n hk
   obtain⟨rfl,hw⟩:=hk
   refine⟨_,[],rfl,rfl,?_⟩
   simpa[Lit.wf,IntKind.min,IntKind.max,IntKind.signed,IntKind.bits,In64] using hw
  ·cases h
theorem mapM_some{α β:Type}{f:α→Option β}:∀{l:List α} {ys:List β},l.mapM f=some ys→ys.length=l.length∧∀(i:Nat) a,l[i]?=some a→∃y,f a=some y
 |[],ys,h=>by simp at h;subst h;exact⟨rfl,fun i a hi=>by simp at hi⟩
 |a::l,ys,h=>by
  simp only[List.mapM_cons,Option.bind_eq_bind,Option.bind_eq_some_iff] at h
  obtain⟨y,hy,zs,hz,h⟩:=h
  simp only[Option.pure_def,Option.some.injEq] at h
  subst h
  obtain⟨h1,h2⟩:=mapM_some hz
  refine⟨by simp[h1],fun i b hi=>?_⟩
  cases i with
  |zero=>simp at hi;subst hi;exact⟨y,hy⟩
  |succ i=>exact h2 i b (by simpa using hi)
theorem cells?_some{w:World}{a:Addr}{n:Nat}{cs:List Value}(h:w.cells? 0 a n=some cs):cs.length=n∧(0<n→a.spot=none)∧(a.spot=none→Cells w a.block a.off cs):=by
 simp only[World.cells?,Nat.zero_le,if_true] at h
 obtain⟨h1,h2⟩:=mapM_some h
 rw[List.length_range] at h1
 have key:∀i,i<n→w.cell? (a.add i)=cs[i]?:=by
  clear h2
  have gen:∀(l:List Nat) (cs:List Value),l.mapM (fun i=>w.cell? (a.add i))=some cs→∀(j i:Nat),l[j]?=some i→w.cell? (a.add i)=cs[j]?:=by
   intro l
   induction l with
   |nil=>intro cs _ j i hj;simp at hj
   |cons x l ih=>
    intro cs hcs j i hj
    simp only[List.mapM_cons,Option.bind_eq_bind,Option.bind_eq_some_iff] at hcs
    obtain⟨y,hy,zs,hz,hcs⟩:=hcs
    simp only[Option.pure_def,Option.some.injEq] at hcs
    subst hcs
    cases j with
    |zero=>simp at hj;subst hj;simpa using hy
    |succ j=>simpa using ih zs hz j i (by simpa using hj)
  intro i hi
  exact gen _ _ h i i (by simp[hi])
 have hsp:0<n→a.spot=none:=fun hn=>by
  have h0:=key 0 hn
  have e0:a.add 0=a:=by simp[Addr.add]
  rw[e0] at h0
  have hlt:0<cs.length:=by omega
  rw[List.getElem?_eq_getElem hlt] at h0
  unfold World.cell? at h0
  split at h0
  ·split at h0
   ·cases h0
   ·rename_i hs;simpa using hs
  ·cases h0
 refine⟨h1,hsp,fun hs i v hv=>?_⟩
 have hi:i<n:=by have:=(List.getElem?_eq_some_iff.1 hv).1;omega
 have:=key i hi
 obtain⟨b,o,s⟩:=a
 simp only at hs
 subst hs
 rw[add_none] at this
 rw[this];exact hv
theorem Rds.slice{P:Program}{t e:Nat}{α:Type}{R:Rp α}(hu:P.underlying t=some (.slice e))(hc:P.cellsOf t=1)(he:Rds P e R)(hn:0<R.nc):Rds P t (listR R):=by
 refine⟨fun enc w fuel cs d ps h=>?_,hc⟩
 cases fuel with
 |zero=>simp[DataW.trod] at h
 |succ fuel=>
  simp only[DataW.trod,hu] at h
  split at h<;>first|cases h|skip
  all_goals rename_i heq
  all_goals try simp only[Option.some.injEq,TypeDesc.slice.injEq,reduceCtorEq] at heq
  ·exact⟨[],[],none,0,rfl,Nat.le_refl _,Nat.zero_le _,.inl ⟨rfl,rfl⟩⟩
  ·rename_i e' a len cap
   subst heq
   split at h
   ·rename_i hb
    obtain⟨_,hlc,hcm⟩:=hb
    simp only[Option.bind_eq_some_iff,Option.map_eq_some_iff] at h
    obtain⟨elems,hel,_⟩:=h
    obtain⟨h1,h2⟩:=mapM_some hel
    have each:∀i,i<len→∃x vs F,a.spot=none∧Cells w a.block (a.off+i*R.nc) vs∧R.V w x vs F:=fun i hi=>by
     obtain⟨y,hy⟩:=h2 i i (by simp[hi])
     obtain⟨vs,hvs,hy⟩:=Option.bind_eq_some_iff.1 hy
     rw[he.nc] at hvs
     obtain⟨c1,c2,c3⟩:=cells?_some hvs
     obtain⟨dd,pp⟩:=y
     obtain⟨x,F,hV⟩:=he.h enc w fuel vs dd pp hy
     have hs:a.spot=none:=by
      have hs1:=c2 hn
      unfold Addr.add at hs1
      split at hs1
      ·exact hs1
      ·rename_i hne
       obtain⟨y0,hy0⟩:=h2 0 0 (List.getElem?_range (by omega))
       obtain⟨vs0,hvs0,_⟩:=Option.bind_eq_some_iff.1 hy0
       rw[he.nc] at hvs0
       have:=(cells?_some hvs0).2.1 hn
       simpa[Addr.add] using this
     obtain⟨b,o,s⟩:=a
     simp only at hs
     subst hs
     rw[add_none] at c3
     exact⟨x,vs,F,rfl,c3 rfl,hV⟩
    by_cases h0:len=0
    ·subst h0
     exact⟨[],[],some a,cap,rfl,Nat.zero_le _,hcm,.inl ⟨rfl,rfl⟩⟩
    ·obtain⟨_,_,_,hsp,_⟩:=each 0 (by omega)
     obtain⟨b,o,s⟩:=a
     simp only at hsp
     subst hsp
     have cho:∀m,m≤len→∃(l:List α) (Fs:List (List Nat)),l.length=m∧Elems R w b o l Fs:=by
      intro m
      induction m with
      |zero=>intro _;exact⟨[],[],rfl,rfl,fun k x hx=>by simp at hx⟩
      |succ m ih=>
       intro hm
       obtain⟨l,Fs,hl,hF,hE⟩:=ih (by omega)
       obtain⟨x,vs,F,_,hcl,hV⟩:=each m (by omega)
       refine⟨l++[x],Fs++[F],by simp[hl],by simp[hF],fun k y hy=>?_⟩
       by_cases hk:k<l.length
       ·rw[List.getElem?_append_left hk] at hy
        obtain⟨us,e1,e2⟩:=hE k y hy
        refine⟨us,e1,?_⟩
        have:(Fs++[F]).getD k []=Fs.getD k []:=by
         simp only[List.getD_eq_getElem?_getD];rw[List.getElem?_append_left (by omega)]
        rw[this];exact e2
       ·rw[List.getElem?_append_right (by omega)] at hy
        have hk2:k=m:=by
         have:=(List.getElem?_eq_some_iff.1 hy).1
         simp at this;omega
        subst hk2
        rw[hl] at hy
        simp at hy
        subst hy
        refine⟨vs,hcl,?_⟩
        have:(Fs++[F]).getD k []=F:=by
         simp only[List.getD_eq_getElem?_getD];rw[List.getElem?_append_right (by omega)]
         simp[hF,hl]
        rw[this];exact hV
     obtain⟨l,Fs,hl,hE⟩:=cho len (Nat.le_refl _)
     have hthere:There w b:=by
      obtain⟨x,vs,F,_,hcl,hV⟩:=each 0 (by omega)
      refine hcl.there (fun e=>?_)
      have:=R.len hV
      rw[e] at this;simp at this;omega
     exact⟨l,b::Fs.flatten,some ⟨b,o,none⟩,cap,by rw[hl],by omega,hcm,.inr ⟨b,o,Fs,rfl,rfl,hthere,hE⟩⟩
   ·cases h
theorem RdsF.one{P:Program}{f:Field}{o:Nat}{α:Type}{R:Rp α}(ho:f.offset=o)(hr:Rds P f.type R):RdsF P [f] o R:=⟨fun enc w fuel cs xs h=>by
 obtain⟨_,h2⟩:=mapM_some h
 obtain⟨⟨dd,pp⟩,hy⟩:=h2 0 f rfl
 subst ho
 rw[hr.nc] at hy
 exact hr.h enc w fuel _ dd pp hy⟩
theorem RdsF.cons{P:Program}{f:Field}{fs:List Field}{o o':Nat}{α β:Type}{R:Rp α}{S:Rp β}(ho:f.offset=o)(hr:Rds P f.type R)(ho':o'=o+R.nc)(hs:RdsF P fs o' S):RdsF P (f::fs) o (seqR R S):=⟨fun enc w fuel cs xs h=>by
 simp only[List.mapM_cons,Option.bind_eq_bind,Option.bind_eq_some_iff] at h
 obtain⟨⟨dd,pp⟩,hy,zs,hz,_⟩:=h
 subst ho
 subst ho'
 rw[hr.nc] at hy
 obtain⟨x,F,h1⟩:=hr.h enc w fuel _ dd pp hy
 obtain⟨y,G,h2⟩:=hs.h enc w fuel cs zs hz
 refine⟨(x,y),F++G,_,_,F,G,h1,h2,?_,rfl⟩
 show((cs.drop f.offset).take (R.nc+S.nc))=_
 rw[List.take_add,List.drop_drop]⟩
theorem Rds.struct{P:Program}{t:Nat}{fields:Array Field}{α β:Type}{R:Rp α}{g:β→α}(f:α→β)(hgf:∀x,g (f x)=x)(hu:P.underlying t=some (.struct fields))(hc:P.cellsOf t=R.nc)(hr:RdsF P fields.toList 0 R):Rds P t (mapR g R):=by
 refine⟨fun enc w fuel cs d ps h=>?_,hc⟩
 cases fuel with
 |zero=>simp[DataW.trod] at h
 |succ fuel=>
  simp only[DataW.trod,hu] at h
  split at h
  ·rename_i hlen
   obtain⟨xs,hxs,_⟩:=Option.map_eq_some_iff.1 h
   obtain⟨x,F,hV⟩:=hr.h enc w fuel cs xs hxs
   refine⟨f x,F,?_⟩
   show R.V w (g (f x)) cs F
   rw[hgf]
   rw[List.drop_zero,List.take_of_length_le (by omega)] at hV
   exact hV
  ·cases h
theorem Rds.arg1{P:Program}{t:Nat}{α:Type}{R:Rp α}(hr:Rds P t R){H:Type}{enc:TypeId×Value→H}{w:World}{v:Value}{d:DataW H}{ps:List MemPlace}(h:DataW.Trod enc P w 0 (fun _=>true) true t v d ps)(hv:v.cells=#[v]):∃x F,R.V w x [v] F:=by
 obtain⟨fuel,hf⟩:=h
 rw[hv] at hf
 exact hr.h enc w fuel _ _ _ hf
end Go.Proofs.YtjmjamhhppoimaaGreat.G
