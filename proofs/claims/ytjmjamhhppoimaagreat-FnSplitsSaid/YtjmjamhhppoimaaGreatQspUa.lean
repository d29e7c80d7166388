/- Texts that the proof needs: Ua. -/
import Derived.WalkKit
import Derived.ProofKit
import Derived.Orders
import Derived.Deep.LoopGhost
import Derived.OrdersHeld
namespace Go.Proofs.YtjmjamhhppoimaaGreat.G
open Go.RowKit
set_option linter.unusedVariables false
abbrev Env:=Nat→Value
def upd(E:Env)(d:Nat)(v:Value):Env:=fun t=>bif Nat.beq t d then v else E t
def fr(l:List Value):Env:=fun t=>l.getD t undef
def ev(E:Env):Operand→Value
 |.tmp t=>E t
 |.const v=>v
 |.global g=>.pointer (some ⟨g,0,none⟩)
 |.func f=>.func (.func f) #[] #[]
theorem ltB{a b:Nat}(h:Nat.blt a b=true):a<b:=by rwa [Nat.blt_eq] at h
theorem leB{a b:Nat}(h:Nat.ble a b=true):a≤b:=Nat.le_of_ble_eq_true h
theorem upd_same(E:Env)(d:Nat)(v:Value):upd E d v d=v:=by simp[upd]
theorem upd_ne(E:Env){d t:Nat}(v:Value)(h:t≠d):upd E d v t=E t:=by
 have:Nat.beq t d=false:=by rw[←Bool.not_eq_true];intro hb;exact h (Nat.eq_of_beq_eq_true hb)
 simp[upd,this]
structure Fits (n:Nat) (a:Act) (E:Env):Prop where
 size:a.tmps.size=n
 defers:a.defers=[]
 get:∀t,a.tmps.getD t undef=E t
theorem Fits.eval{n:Nat}{a:Act}{E:Env}(h:Fits n a E):a.eval=ev E:=by
 funext x
 cases x with
 |tmp t=>exact h.get t
 |const v=>rfl
 |global g=>rfl
 |func f=>rfl
theorem Fits.put{n:Nat}{a:Act}{E:Env}(h:Fits n a E){d:Nat}(hd:d<n)(v:Value):Fits n (a.put (some d) v) (upd E d v):=by
 refine⟨by simp[Act.put,h.size],h.defers,fun t=>?_⟩
 by_cases e:t=d
 ·subst e
  rw[upd_same]
  have:t<a.tmps.size:=by rw[h.size];exact hd
  simp[Act.put,this]
 ·rw[upd_ne _ _ e,←h.get t]
  simp only[Act.put,Array.getD_eq_getD_getElem?,Array.getElem?_setIfInBounds]
  rw[if_neg (fun x=>e x.symm)]
def Up(n:Nat)(Q:Exit→Env→World→Prop):Exit→Act→World→Prop:=fun e a w=>∃E,Fits n a E∧Q e E w
def Wp(P:Program)(n:Nat)(c:Code)(Q:Exit→Env→World→Prop)(E:Env)(w:World):Prop:=
 ∀a,Fits n a E→c.wp P (Up n Q) a w
def Th(K:Env→World→Prop)(Q:Exit→Env→World→Prop):Exit→Env→World→Prop
 |.normal,E,w=>K E w
 |e,E,w=>Q e E w
def Bk(id:Nat)(Q:Exit→Env→World→Prop):Exit→Env→World→Prop
 |.exit id',E,w=>bif Nat.beq id' id then Q .normal E w else Q (.exit id') E w
 |e,E,w=>Q e E w
section
variable {P : Program} {n : Nat} {Q : Exit → Env → World → Prop} {E : Env} {w : World}
theorem Wp.mono{c:Code}{Q':Exit→Env→World→Prop}(h:Wp P n c Q E w)(hq:∀e E w,Q e E w→Q' e E w):Wp P n c Q' E w:=
 fun a ha=>wp_mono (h a ha) fun e a w ⟨E',hf,hq'⟩=>⟨E',hf,hq e E' w hq'⟩
theorem Wp.skip(h:Q .normal E w):Wp P n .skip Q E w:=fun _ ha=>wp_skip ⟨E,ha,h⟩
theorem Wp.ret(h:Q .ret E w):Wp P n .ret Q E w:=fun _ ha=>wp_ret ⟨E,ha,h⟩
theorem Wp.exit{id:Nat}(h:Q (.exit id) E w):Wp P n (.exit id) Q E w:=fun _ ha=>wp_exit ⟨E,ha,h⟩
theorem Wp.seq{x y:Code}(h:Wp P n x (Th (Wp P n y Q) Q) E w):Wp P n (.seq x y) Q E w:=fun a ha=>
 wp_seq (wp_mono (h a ha) fun e a w ⟨E',hf,hq⟩=>by
  cases e<;>first|exact hq a hf|exact⟨E',hf,hq⟩)
theorem Wp.block{id:Nat}{c:Code}(h:Wp P n c (Bk id Q) E w):Wp P n (.block id c) Q E w:=fun a ha=>
 wp_block (wp_mono (h a ha) fun e a w ⟨E',hf,hq⟩=>by
  cases e with
  |exit id'=>
   simp only[Exit.inBlock]
   by_cases hid:id'=id
   ·subst hid
    simp only[Bk,Nat.beq_refl,cond_true] at hq
    simp only[if_true]
    exact⟨E',hf,hq⟩
   ·have hb:Nat.beq id' id=false:=by rw[←Bool.not_eq_true];intro hb;exact hid (Nat.eq_of_beq_eq_true hb)
    simp only[Bk,hb,cond_false] at hq
    simp only[hid,if_false]
    exact⟨E',hf,hq⟩
  |_=>exact⟨E',hf,hq⟩)
theorem Wp.cond{c:Operand}{x y:Code}{b:Bool}(hc:ev E c=.bool b)(ht:b=true→Wp P n x Q E w)(hf:b=false→Wp P n y Q E w):Wp P n (.cond c x y) Q E w:=fun a ha=>by
 have hc':a.eval c=.bool b:=by rw[ha.eval];exact hc
 exact wp_cond_split hc' (fun h=>ht h a ha) (fun h=>hf h a ha)
end
def mem:List Nat→Nat→Bool
 |[],_=>false
 |a::l,t=>bif Nat.beq t a then true else mem l t
def memO(S:List Nat):Option Nat→Bool|some d=>mem S d|none=>true
section
variable {P : Program} {n : Nat} {Q : Exit → Env → World → Prop} {E : Env} {w : World}
def Rg(P:Program)(n:Nat)(ops:Array Oper)(os:List Oper)(Q:Exit→Env→World→Prop)(E:Env)(w:World):Prop:=
 ∀a,Fits n a E→wpList P ops (Up n Q) os a w
theorem Wp.region{id:Nat}{l:List Oper}(h:Rg P n l.toArray l Q E w):Wp P n (.region id l.toArray false) Q E w:=
 fun a ha=>wp_region_lit (h a ha)
def want(n:Nat)(ops:Array Oper)(o:Oper)(E:Env):Bool:=
 match o.guard with
 |none=>true
 |some (j,b)=>match (ops[j]?).bind (·.dst) with
  |some d=>bif Nat.blt d n then(match E d with|.bool c=>c==b|_=>false) else false
  |none=>false
theorem want_eq{ops:Array Oper}{o:Oper}{a:Act}(ha:Fits n a E):Region.wanted o (yielded ops a.tmps)=want n ops o E:=by
 unfold Region.wanted want
 cases o.guard with
 |none=>rfl
 |some p=>
  obtain⟨j,b⟩:=p
  simp only[yielded]
  cases hd:(ops[j]?).bind (·.dst) with
  |none=>simp
  |some d=>
   simp only[Option.bind_some]
   by_cases hlt:d<n
   ·have h1:Nat.blt d n=true:=by simpa[Nat.blt_eq] using hlt
    have h2:d<a.tmps.size:=by rw[ha.size];exact hlt
    have h3:a.tmps[d]?=some (E d):=by rw[←ha.get d,Array.getD_eq_getD_getElem?];simp[h2]
    rw[h3,h1]
    simp only[cond_true]
    cases E d<;>simp
   ·have h1:Nat.blt d n=false:=by rw[←Bool.not_eq_true,Nat.blt_eq];exact hlt
    have h2:¬d<a.tmps.size:=by rw[ha.size];exact hlt
    have h3:a.tmps[d]?=none:=by rw[Array.getElem?_eq_none_iff];exact Nat.le_of_not_lt h2
    rw[h3,h1]
    simp
theorem Rg.nil{ops:Array Oper}(h:Q .normal E w):Rg P n ops [] Q E w:=fun _ ha=>⟨E,ha,h⟩
def put(E:Env)(d:Option Nat)(v:Value):Env:=match d with|some d=>upd E d v|none=>E
def fits(n:Nat):Option Nat→Bool|some d=>Nat.blt d n|none=>true
theorem Fits.put'{a:Act}(ha:Fits n a E){d:Option Nat}(hd:fits n d=true)(v:Value):Fits n (a.put d v) (G.put E d v):=by
 cases d with
 |none=>exact ha
 |some d=>exact ha.put (by simpa[fits,Nat.blt_eq] using hd) v
theorem Rg.val{ops:Array Oper}{os:List Oper}{o:Oper}{v:Value}{w':World}(hw:want n ops o E=true)
  (hr:(execOp (ev E) o).run P w=.ok (.value v) w') (hd:fits n o.dst=true) (h:Rg P n ops os Q (put E o.dst v) w'):Rg P n ops (o::os) Q E w:=fun a ha=>by
 unfold wpList
 rw[want_eq ha,hw,if_pos rfl]
 refine .inl ?_
 rw[Oper.wp,ha.eval,hr]
 exact h _ (ha.put' hd v)
theorem Rg.unit{ops:Array Oper}{os:List Oper}{o:Oper}{w':World}(hw:want n ops o E=true)
  (hr:(execOp (ev E) o).run P w=.ok .skip w') (hd:fits n o.dst=true) (h:Rg P n ops os Q (put E o.dst undef) w'):Rg P n ops (o::os) Q E w:=fun a ha=>by
 unfold wpList
 rw[want_eq ha,hw,if_pos rfl]
 refine .inl ?_
 rw[Oper.wp,ha.eval,hr]
 exact h _ (ha.put' hd undef)
theorem Rg.skip{ops:Array Oper}{os:List Oper}{o:Oper}(hw:want n ops o E=false)(hd:fits n o.dst=true)
  (h:Rg P n ops os Q (put E o.dst undef) w):Rg P n ops (o::os) Q E w:=fun a ha=>by
 unfold wpList
 rw[want_eq ha,hw,if_neg (by simp)]
 exact h _ (ha.put' hd undef)
theorem upd_eq_self{d:Nat}{v:Value}(h:E d=v):upd E d v=E:=by
 funext t
 by_cases e:t=d
 ·subst e;rw[upd_same,h]
 ·rw[upd_ne _ _ e]
def Run(P:Program)(f:FuncId)(args:List Value)(w:World)(R:Value→World→Prop):Prop:=
 Calls P f args.toArray w fun e w'=>∃v,e=.returned v∧R v w'
theorem Run.calls{f:FuncId}{args:List Value}{R:Value→World→Prop}(h:Run P f args w R):Calls P f args.toArray w fun e w'=>∃v,e=.returned v∧R v w':=h
theorem Run.mono{f:FuncId}{args:List Value}{R R':Value→World→Prop}(h:Run P f args w R)(hr:∀v w',R v w'→R' v w'):Run P f args w R':=
 Calls.mono h fun e w' ⟨v,he,hR⟩=>⟨v,he,hr v w' hR⟩
theorem Rg.enter{ops:Array Oper}{os:List Oper}{o:Oper}{f:FuncId}{args:List Value}{w':World}{R:Value→World→Prop}(hw:want n ops o E=true)
  (hr:(execOp (ev E) o).run P w=.ok (.enter f args.toArray) w') (hd:fits n o.dst=true) (hc:Run P f args w' R)
  (h:∀v w'',R v w''→Rg P n ops os Q (put E o.dst v) w''):Rg P n ops (o::os) Q E w:=fun a ha=>by
 unfold wpList
 rw[want_eq ha,hw,if_pos rfl]
 refine .inl ?_
 rw[Oper.wp,ha.eval,hr]
 refine Calls.mono hc fun e w'' ⟨v,he,hR⟩=>?_
 subst he
 exact h v w'' hR _ (ha.put' hd v)
end
def Fin(P:Program)(fn:Func)(R:Value→World→Prop):Exit→Env→World→Prop
 |.normal,E,w|.ret,E,w=>∃v,(∀tmps:Array Value,(∀t,tmps.getD t undef=E t)→(results fn tmps).run P w=.ok v w)∧R v w
 |_,_,_=>False
theorem Run.intro{P:Program}{f:FuncId}{fn:Func}{c:Code}{args:List Value}{w:World}{R:Value→World→Prop}
  (hf:P.funcs[f]?=some fn) (hb:fn.body=some c) (ha:args.length≤fn.ntmps) (h:Wp P fn.ntmps c (Fin P fn R) (fr args) w):Run P f args w R:=by
 refine calls_of_wp hf hb ?_
 have hfit:Fits fn.ntmps {tmps:=args.toArray++Array.replicate (fn.ntmps-args.toArray.size) undef,defers:=[]} (fr args):=by
  refine⟨by simp;omega,rfl,fun t=>?_⟩
  simp only[fr,Array.getD_eq_getD_getElem?,List.getD_eq_getElem?_getD,Array.getElem?_append,List.size_toArray,List.getElem?_toArray]
  by_cases h1:t<args.length
  ·rw[if_pos h1]
  ·have h2:args[t]?=none:=by rw[List.getElem?_eq_none_iff];omega
   rw[if_neg h1,h2]
   simp only[Array.getElem?_replicate]
   split<;>rfl
 refine wp_mono (h _ hfit) fun e a w' ⟨E',hf',hq⟩=>?_
 cases e with
 |normal=>obtain⟨v,hv,hR⟩:=hq;exact⟨hf'.defers,v,hv _ hf'.get,v,rfl,hR⟩
 |ret=>obtain⟨v,hv,hR⟩:=hq;exact⟨hf'.defers,v,hv _ hf'.get,v,rfl,hR⟩
 |panic c=>exact hq.elim
 |exit i=>exact hq.elim
 |goto i=>exact hq.elim
 |outgrown=>exact hq.elim
theorem Run.go{P:Program}{f:FuncId}{fn:Func}{n:Nat}{c:Code}{args:List Value}{w:World}{R:Value→World→Prop}
  (hf:P.funcs[f]?=some fn) (hn:fn.ntmps=n) (hb:fn.body=some c) (ha:Nat.ble args.length n=true) (h:Wp P n c (Fin P fn R) (fr args) w):Run P f args w R:=by
 subst hn
 exact Run.intro hf hb (Nat.le_of_ble_eq_true ha) h
attribute [irreducible] Wp Rg Run
class HasU (P:Program) (t:Nat) (d:outParam TypeDesc):Prop where
 u:P.underlying t=some d
class HasI (P:Program) (t:Nat) (sz bys:outParam Nat) (z:outParam Value):Prop where
 i:(P.info? t).map (fun i=>(i.zero,i.size,i.bytes))=some (some z,sz,bys)
class HasF (P:Program) (s i:Nat) (off:outParam Nat):Prop where
 f:∀b o w,(Instr.fieldAt s (.pointer (some ⟨b,o,none⟩)) i).run P w=.ok (.pointer (some ⟨b,o+off,none⟩)) w
class One (P:Program) (t:Nat):Prop where
 h:∀w,(isAgg t).run P w=.ok false w
class Agg (P:Program) (t:Nat):Prop where
 h:∀w,(isAgg t).run P w=.ok true w
theorem add_none(b o n:Nat):(⟨b,o,none⟩:Addr).add n=⟨b,o+n,none⟩:=by
 unfold Addr.add;split
 ·rename_i h;subst h;rfl
 ·rfl
section
variable {P : Program}
theorem HasI.ex{t sz bys:Nat}{z:Value}(h:HasI P t sz bys z):∃i,P.info? t=some i∧i.zero=some z∧i.size=sz∧i.bytes=bys:=by
 have:=h.i
 cases hi:P.info? t with
 |none=>rw[hi] at this;cases this
 |some i=>
  rw[hi] at this
  simp only[Option.map_some,Option.some.injEq,Prod.mk.injEq] at this
  exact⟨i,rfl,this.1,this.2.1,this.2.2⟩
theorem HasI.sizeOf{t sz bys:Nat}{z:Value}(h:HasI P t sz bys z)(w:World):(sizeOf t).run P w=.ok sz w:=by
 obtain⟨i,h1,h2,h3,h4⟩:=h.ex
 simp[Go.sizeOf,typeInfo,h1,h3]
theorem HasI.zeroV{t sz bys:Nat}{z:Value}(h:HasI P t sz bys z)(w:World):(zeroValue t).run P w=.ok z w:=by
 obtain⟨i,h1,h2,h3,h4⟩:=h.ex
 simp[zeroValue,typeInfo,h1,h2]
theorem HasU.und{t:Nat}{d:TypeDesc}(h:HasU P t d)(w:World):(underlying t).run P w=.ok d w:=by
 have:=h.u
 simp[Go.underlying,this]
theorem HasF.of{s i off sz bys:Nat}{z:Value}{fields:Array Field}{f:Field}(hu:HasU P s (.struct fields))(hf:fields[i]?=some f)(hi:HasI P f.type sz bys z)(h0:sz≠0)(ho:f.offset=off):HasF P s i off:=by
 refine⟨fun b o w=>?_⟩
 subst ho
 have h1:=hu.und w
 have h2:=hi.sizeOf w
 simp only[Instr.fieldAt,Sem.run_bind,h1,Result.andThen_ok,hf,Instr.sureAddr,Sem.run_pure,fieldPlace,h2,h0,if_false,add_none]
theorem One.of{t:Nat}{d:TypeDesc}(hu:HasU P t d)(hd:(match d with|.struct _|.array _ _=>true|_=>false)=false):One P t:=by
 refine⟨fun w=>?_⟩
 have h1:=hu.und w
 simp only[isAgg,Sem.run_bind,h1,Result.andThen_ok]
 cases d<;>first|rfl|cases hd
theorem Agg.of{t:Nat}{d:TypeDesc}(hu:HasU P t d)(hd:(match d with|.struct _|.array _ _=>true|_=>false)=true):Agg P t:=by
 refine⟨fun w=>?_⟩
 have h1:=hu.und w
 simp only[isAgg,Sem.run_bind,h1,Result.andThen_ok]
 cases d<;>first|rfl|cases hd
end
def Later(w w':World):Prop:=Below w.heap.size w w'
theorem Later.refl(w:World):Later w w:=Below.refl _ _
theorem Later.size{w w':World}(h:Later w w'):w.heap.size≤w'.heap.size:=Below.size h
theorem Later.trans{a b c:World}(h:Later a b)(k:Later b c):Later a c:=Below.trans h (Below.mono k h.size)
theorem Later.cell{w w':World}(h:Later w w'){a:Addr}{v:Value}(hc:w.cell? a=some v):w'.cell? a=some v:=
 (Below.cell h (World.block_lt_of_cell? w a hc)).trans hc
theorem Later.drew{w w':World}(h:Later w w'):Later w w'.drew:=Below.drew h
def Sil(P:Program)(E:Env)(o:Oper)(v:Value)(w:World):Prop:=∀w',Later w w'→(execOp (ev E) o).run P w'=.ok (.value v) w'
section
variable {P : Program} {n : Nat} {Q : Exit → Env → World → Prop} {E : Env} {w : World} {ops : Array Oper} {os : List Oper}
variable {d : Option Tmp} {ty : TypeId} {pos : String} {af : Array Edge} {g : Option (Nat × Bool)} {x y z : Operand}
theorem Sil.move{v:Value}(hx:ev E x=v):Sil P E ⟨d,.move x,ty,pos,af,g⟩ v w:=fun w' _=>by
 simp[execOp,hx]
theorem Sil.assign{v:Value}(hx:ev E x=v):Sil P E ⟨d,.assign x,ty,pos,af,g⟩ v w:=fun w' _=>by
 simp[execOp,hx]
theorem Sil.pickT{v:Value}{b:Bool}(hx:ev E x=.bool b)(hb:b=true)(hy:ev E y=v):Sil P E ⟨d,.pick x y z,ty,pos,af,g⟩ v w:=fun w' _=>by
 simp[execOp,hx,asBool,hb,hy]
theorem Sil.pickF{v:Value}{b:Bool}(hx:ev E x=.bool b)(hb:b=false)(hz:ev E z=v):Sil P E ⟨d,.pick x y z,ty,pos,af,g⟩ v w:=fun w' _=>by
 simp[execOp,hx,asBool,hb,hz]
theorem Sil.notT{t:TypeId}(hx:ev E x=.bool true):Sil P E ⟨d,.unOp .not t x,ty,pos,af,g⟩ (.bool false) w:=fun w' _=>by
 simp[execOp,hx,Op.unary]
theorem Sil.notF{t:TypeId}(hx:ev E x=.bool false):Sil P E ⟨d,.unOp .not t x,ty,pos,af,g⟩ (.bool true) w:=fun w' _=>by
 simp[execOp,hx,Op.unary]
theorem Sil.not{t:TypeId}{b:Bool}(hx:ev E x=.bool b):Sil P E ⟨d,.unOp .not t x,ty,pos,af,g⟩ (.bool (!b)) w:=fun w' _=>by
 simp[execOp,hx,Op.unary]
theorem Sil.neg{t:TypeId}{k:IntKind}{a:Int}(hx:ev E x=.int k a):Sil P E ⟨d,.unOp .neg t x,ty,pos,af,g⟩ (.int k (k.wrap (-a))) w:=fun w' _=>by
 simp[execOp,hx,Op.unary,Op.intArith]
section cmp
variable {t t' : TypeId} {k : IntKind} {a b : Int} (hx : ev E x = .int k a) (hy : ev E y = .int k b)
include hx hy
theorem Sil.lss:Sil P E ⟨d,.binOp .lss t x y t',ty,pos,af,g⟩ (.bool (decide (a<b))) w:=fun w' _=>by
 simp[execOp,hx,hy,eqGuard,binOp,Op.intCmp]
theorem Sil.leq:Sil P E ⟨d,.binOp .leq t x y t',ty,pos,af,g⟩ (.bool (decide (a≤b))) w:=fun w' _=>by
 simp[execOp,hx,hy,eqGuard,binOp,Op.intCmp]
theorem Sil.gtr:Sil P E ⟨d,.binOp .gtr t x y t',ty,pos,af,g⟩ (.bool (decide (b<a))) w:=fun w' _=>by
 simp[execOp,hx,hy,eqGuard,binOp,Op.intCmp]
theorem Sil.geq:Sil P E ⟨d,.binOp .geq t x y t',ty,pos,af,g⟩ (.bool (decide (b≤a))) w:=fun w' _=>by
 simp[execOp,hx,hy,eqGuard,binOp,Op.intCmp]
theorem Sil.eql:Sil P E ⟨d,.binOp .eql t x y t',ty,pos,af,g⟩ (.bool (decide (a=b))) w:=fun w' _=>by
 simp[execOp,hx,hy,eqGuard,binOp,Op.intCmp];rfl
theorem Sil.neq:Sil P E ⟨d,.binOp .neq t x y t',ty,pos,af,g⟩ (.bool (decide (a≠b))) w:=fun w' _=>by
 simp[execOp,hx,hy,eqGuard,binOp,Op.intCmp];rfl
theorem Sil.addW:Sil P E ⟨d,.binOp .add t x y t',ty,pos,af,g⟩ (.int k (k.wrap (a+b))) w:=fun w' _=>by
 simp[execOp,hx,hy,eqGuard,binOp,Op.intArith]
theorem Sil.subW:Sil P E ⟨d,.binOp .sub t x y t',ty,pos,af,g⟩ (.int k (k.wrap (a-b))) w:=fun w' _=>by
 simp[execOp,hx,hy,eqGuard,binOp,Op.intArith]
theorem Sil.mulW:Sil P E ⟨d,.binOp .mul t x y t',ty,pos,af,g⟩ (.int k (k.wrap (a*b))) w:=fun w' _=>by
 simp[execOp,hx,hy,eqGuard,binOp,Op.intArith]
theorem Sil.remW(hb:b≠0):Sil P E ⟨d,.binOp .rem t x y t',ty,pos,af,g⟩ (.int k (a.tmod b)) w:=fun w' _=>by
 simp[execOp,hx,hy,eqGuard,binOp,Op.intDiv,hb]
theorem Sil.quoW(hb:b≠0):Sil P E ⟨d,.binOp .quo t x y t',ty,pos,af,g⟩ (.int k (k.wrap (a.tdiv b))) w:=fun w' _=>by
 simp[execOp,hx,hy,eqGuard,binOp,Op.intDiv,hb]
end cmp
def In64(a:Int):Prop:=-9223372036854775808≤a∧a≤9223372036854775807
theorem In64.mk{a:Int}(h:-9223372036854775808≤a∧a≤9223372036854775807):In64 a:=h
theorem wrap_in{a:Int}(h:In64 a):IntKind.i64.wrap a=a:=by
 obtain⟨h1,h2⟩:=h
 have:=IntWalk.i64_in a
 exact IntWalk.i64_in a (by omega)
section arith
variable {t t' : TypeId} {a b c : Int} (hx : ev E x = .int .i64 a) (hy : ev E y = .int .i64 b)
include hx hy
theorem Sil.add(hr:In64 (a+b)):Sil P E ⟨d,.binOp .add t x y t',ty,pos,af,g⟩ (.int .i64 (a+b)) w:=by
 have:=Sil.addW (P:=P) (d:=d) (t:=t) (t':=t') (ty:=ty) (pos:=pos) (af:=af) (g:=g) (w:=w) hx hy
 rwa [wrap_in hr] at this
theorem Sil.sub(hr:In64 (a-b)):Sil P E ⟨d,.binOp .sub t x y t',ty,pos,af,g⟩ (.int .i64 (a-b)) w:=by
 have:=Sil.subW (P:=P) (d:=d) (t:=t) (t':=t') (ty:=ty) (pos:=pos) (af:=af) (g:=g) (w:=w) hx hy
 rwa [wrap_in hr] at this
theorem Sil.mul(hr:In64 (a*b)):Sil P E ⟨d,.binOp .mul t x y t',ty,pos,af,g⟩ (.int .i64 (a*b)) w:=by
 have:=Sil.mulW (P:=P) (d:=d) (t:=t) (t':=t') (ty:=ty) (pos:=pos) (af:=af) (g:=g) (w:=w) hx hy
 rwa [wrap_in hr] at this
end arith
theorem Sil.len{t:TypeId}{e:TypeId}[hu:HasU P t (.slice e)]{p:Option Addr}{l c:Nat}(hx:ev E x=.slice p l c):
  Sil P E ⟨d,.call ⟨.builtin .len,#[x],#[t]⟩,ty,pos,af,g⟩ (.int .i64 (l:Int)) w:=fun w' _=>by
 have h1:=hu.und w'
 simp[execOp,resolve,hx,invoke,builtin,Builtin.len_,h1,goInt]
theorem Sil.cap{t:TypeId}{e:TypeId}[hu:HasU P t (.slice e)]{p:Option Addr}{l c:Nat}(hx:ev E x=.slice p l c):
  Sil P E ⟨d,.call ⟨.builtin .cap,#[x],#[t]⟩,ty,pos,af,g⟩ (.int .i64 (c:Int)) w:=fun w' _=>by
 have h1:=hu.und w'
 simp[execOp,resolve,hx,invoke,builtin,Builtin.cap_,h1,goInt]
theorem Sil.fieldAddr{s i off:Nat}[hf:HasF P s i off]{b o:Nat}(hx:ev E x=.pointer (some ⟨b,o,none⟩)):
  Sil P E ⟨d,.fieldAddr s x i,ty,pos,af,g⟩ (.pointer (some ⟨b,o+off,none⟩)) w:=fun w' _=>by
 have h1:=hf.f b o w'
 simp only[execOp,hx,Sem.run_bind,h1,Result.andThen_ok];rfl
theorem Sil.load{t:TypeId}[h1:One P t]{a:Addr}{v:Value}(hx:ev E x=.pointer (some a))(hc:w.cell? a=some v):
  Sil P E ⟨d,.load t x,ty,pos,af,g⟩ v w:=fun w' hl=>by
 have h2:=h1.h w'
 have h3:=hl.cell hc
 simp[execOp,hx,Instr.loadAt,Instr.sureAddr,loadVar,h2,h3]
def Cells(w:World)(b o:Nat)(vs:List Value):Prop:=∀i v,vs[i]?=some v→w.cell? ⟨b,o+i,none⟩=some v
theorem Cells.later{w w':World}{b o:Nat}{vs:List Value}(h:Cells w b o vs)(hl:Later w w'):Cells w' b o vs:=fun i v hv=>hl.cell (h i v hv)
theorem run_loadCellsFrom{w:World}{b o:Nat}{vs:List Value}(h:Cells w b o vs):∀(m i:Nat) (acc:Array Value),i+m=vs.length→
  (loadCellsFrom ⟨b,o,none⟩ i m acc).run P w=.ok (acc++(vs.drop i).toArray) w:=by
 intro m
 induction m with
 |zero=>intro i acc hi;simp[loadCellsFrom,List.drop_of_length_le (show vs.length≤i by omega)]
 |succ m ih=>
  intro i acc hi
  have hlt:i<vs.length:=by omega
  have h1:=h i vs[i] (by simp[hlt])
  simp only[loadCellsFrom,add_none,Sem.run_bind,run_load,h1,Result.andThen_ok]
  rw[ih (i+1) _ (by omega),List.drop_eq_getElem_cons hlt]
  simp
theorem run_loadCells{w:World}{b o m:Nat}{vs:List Value}(h:Cells w b o vs)(hm:vs.length=m):(loadCells ⟨b,o,none⟩ m).run P w=.ok vs.toArray w:=by
 have:=run_loadCellsFrom (P:=P) h m 0 #[] (by omega)
 simpa[loadCells] using this
theorem Sil.loadAgg{t sz bys:Nat}{zz:Value}[h1:Agg P t][hi:HasI P t sz bys zz]{b o:Nat}{vs:List Value}(hx:ev E x=.pointer (some ⟨b,o,none⟩))(hc:Cells w b o vs)(hl:vs.length=sz):
  Sil P E ⟨d,.load t x,ty,pos,af,g⟩ (.agg vs.toArray) w:=fun w' hw=>by
 have h2:=h1.h w'
 have h3:=run_loadCells (P:=P) (hc.later hw) hl
 have h4:=hi.sizeOf w'
 simp[execOp,hx,Instr.loadAt,Instr.sureAddr,loadVar,h2,h3,h4]
theorem Sil.indexAddr{t e sz bys:Nat}{zz:Value}[hu:HasU P t (.slice e)][hi:HasI P e sz bys zz]{b o l c k:Nat}{kd:IntKind}{i:Int}(hx:ev E x=.slice (some ⟨b,o,none⟩) l c)(hy:ev E y=.int kd i)
  (hk:i=(k:Int)) (hlt:k<l):Sil P E ⟨d,.indexAddr t x y,ty,pos,af,g⟩ (.pointer (some ⟨b,o+k*sz,none⟩)) w:=fun w' _=>by
 have h1:=hu.und w'
 have h2:=hi.sizeOf w'
 subst hk
 have h3:(0:Int)≤(k:Int)∧(k:Int)<(l:Int):=⟨by omega,by omega⟩
 simp[execOp,hx,hy,Instr.indexAt,asIntOf,h1,h2,add_none,hlt]
theorem Sil.extract{i:Nat}{vs:Array Value}{v:Value}(hx:ev E x=.tuple vs)(hv:vs[i]?=some v):
  Sil P E ⟨d,.extract x i,ty,pos,af,g⟩ v w:=fun w' _=>by
 simp[execOp,hx,Instr.extract,hv]
theorem Sil.makeFunc{fn:Fn}{fs cs:Array Operand}{vs us:List Value}(hf:fs.toList.map (ev E)=vs)(hc:cs.toList.map (ev E)=us):
  Sil P E ⟨d,.makeFunc fn fs cs,ty,pos,af,g⟩ (.func fn vs.toArray us.toArray) w:=fun w' _=>by
 subst hf;subst hc
 have e1:(Array.map (ev E) fs)=(fs.toList.map (ev E)).toArray:=by apply Array.ext';simp
 have e2:(Array.map (ev E) cs)=(cs.toList.map (ev E)).toArray:=by apply Array.ext';simp
 simp only[execOp,Instr.makeFunc,e1,e2];rfl
theorem run_call {f : FuncId} {args : Array Operand} {ats : Array TypeId} {vs : List Value} {fn : Func} (hf : P.funcs[f]? = some fn) (hn : (fn.name == "runtime.NumGoroutine") = false) (hb : fn.body.isNone = false)
    (hv : args.toList.map (ev E) = vs) (w : World) : (execOp (ev E) ⟨d, .call ⟨.value (.func f), args, ats⟩, ty, pos, af, g⟩).run P w = .ok (.enter f vs.toArray) w := by
  subst hv
  have e : (Array.map (ev E) args) = (args.toList.map (ev E)).toArray := by apply Array.ext'; simp
  have hn' : ¬ fn.name = "runtime.NumGoroutine" := by simpa using hn
  have hb' : ¬ fn.body = none := fun h => by rw [h] at hb; cases hb
  simp [execOp, resolve, ev, Deferred.ofValue, invoke, callFunc, hf, hn', hb', e]
class IsFn (P : Program) (f : Nat) : Prop where
  h : ∃ fn, P.funcs[f]? = some fn ∧ (fn.name == "runtime.NumGoroutine") = false ∧ fn.body.isNone = false
theorem Rg.call{f:FuncId}{args:Array Operand}{ats:Array TypeId}{vs:List Value}{R:Value→World→Prop}[hf:IsFn P f](hc:Run P f vs w R)(hv:args.toList.map (ev E)=vs)
  (hw:want n ops ⟨d,.call ⟨.value (.func f),args,ats⟩,ty,pos,af,g⟩ E=true) (hd:fits n d=true) (h:∀v w',R v w'→Rg P n ops os Q (put E d v) w'):
  Rg P n ops (⟨d,.call ⟨.value (.func f),args,ats⟩,ty,pos,af,g⟩::os) Q E w:=by
 obtain⟨fn,h1,h2,h3⟩:=hf.h
 exact Rg.enter hw (run_call h1 h2 h3 hv w) hd hc h
theorem Rg.callV {f : FuncId} {args : Array Operand} {ats : Array TypeId} {vs cs : List Value} {R : Value → World → Prop} [hf : IsFn P f] (hx : ev E x = .func (.func f) #[] cs.toArray) (hc : Run P f (vs ++ cs) w R) (hv : args.toList.map (ev E) = vs)
    (hw : want n ops ⟨d, .call ⟨.value x, args, ats⟩, ty, pos, af, g⟩ E = true) (hd : fits n d = true) (h : ∀ v w', R v w' → Rg P n ops os Q (put E d v) w') :
    Rg P n ops (⟨d, .call ⟨.value x, args, ats⟩, ty, pos, af, g⟩ :: os) Q E w := by
  obtain ⟨fn, h1, h2, h3⟩ := hf.h
  refine Rg.enter (args := vs ++ cs) hw ?_ hd hc h
  subst hv
  have e : (Array.map (ev E) args) = (args.toList.map (ev E)).toArray := by apply Array.ext'; simp
  have hn' : ¬ fn.name = "runtime.NumGoroutine" := by simpa using h2
  have hb' : ¬ fn.body = none := fun h => by rw [h] at h3; cases h3
  simp [execOp, resolve, hx, Deferred.ofValue, invoke, callFunc, h1, hn', hb', e]
end
attribute [irreducible] Sil
def Blk(w:World)(b:Nat)(cs:List Value)(e:Nat):Prop:=w.heap[b]?=some (.cells cs.toArray e (0,0))
theorem Blk.lt{w:World}{b:Nat}{cs:List Value}{e:Nat}(h:Blk w b cs e):b<w.heap.size:=(Array.getElem?_eq_some_iff.1 h).1
theorem Blk.cell{w:World}{b:Nat}{cs:List Value}{e:Nat}(h:Blk w b cs e){o:Nat}{v:Value}(ho:cs[o]?=some v):w.cell? ⟨b,o,none⟩=some v:=by
 unfold Blk at h;simp[World.cell?,h,ho]
theorem Blk.cells{w:World}{b:Nat}{cs:List Value}{e:Nat}(h:Blk w b cs e):Cells w b 0 cs:=fun i v hv=>h.cell (by simpa using hv)
theorem Blk.same{w w':World}{b:Nat}{cs:List Value}{e:Nat}(h:Blk w b cs e)(hs:w'.heap[b]?=w.heap[b]?):Blk w' b cs e:=hs.trans h
theorem Blk.unfrozen{w:World}{b:Nat}{cs:List Value}{e:Nat}(h:Blk w b cs e)(o:Nat):w.frozen? ⟨b,o,none⟩=false:=by
 unfold Blk at h;simp[World.frozen?,h]
theorem Later.alloc(w:World)(o:Obj):Later w (w.alloc o):=Below.alloc (Below.refl _ _) (Nat.le_refl _) o
theorem Blk.new(w:World)(cs:List Value)(e:Nat):Blk (w.alloc (.cells cs.toArray e)) w.heap.size cs e:=heap_alloc_new w _
section
variable {P : Program} {n : Nat} {Q : Exit → Env → World → Prop} {E : Env} {w : World} {ops : Array Oper} {os : List Oper}
variable {d : Option Tmp} {ty : TypeId} {pos : String} {af : Array Edge} {g : Option (Nat × Bool)} {x y z : Operand}
theorem run_box{e:TypeId}{v:Value}{cs:List Value}(hx:ev E x=v)(hv:v.cells=cs.toArray)(w:World):
  (execOp (ev E) ⟨d,.box e x,ty,pos,af,g⟩).run P w=.ok (.value (.pointer (some ⟨w.heap.size,0,none⟩))) (w.alloc (.cells cs.toArray e)):=by
 subst hx
 simp[execOp,Instr.box,newVar,newRow,hv]
theorem run_alloc{e sz bys:Nat}{zz:Value}[hi:HasI P e sz bys zz]{cs:List Value}(hv:zz.cells=cs.toArray)(w:World):
  (execOp (ev E) ⟨d,.alloc e,ty,pos,af,g⟩).run P w=.ok (.value (.pointer (some ⟨w.heap.size,0,none⟩))) (w.alloc (.cells cs.toArray e)):=by
 have h1:=hi.zeroV w
 simp[execOp,Instr.alloc,h1,newVar,newRow,hv]
def oneAll(cs:List Value):Prop:=∀u∈cs,u.oneCell'=true
def own:Value→Option Nat
 |.slice (some a) _ (_+1)=>some a.block
 |_=>none
def Buf(w:World)(e sz:Nat)(v:Value)(m:Nat)(cs:List Value):Prop:=
 cs.length=m*sz∧((m=0∧∃p,v=.slice p 0 0)∨
  ∃b c cur,v=.slice (some ⟨b,0,none⟩) m (c+1)∧Blk w b cur e∧m≤c+1∧c+1≤maxLen∧cur.length=(c+1)*sz∧cur.take (m*sz)=cs)
def Src(w:World)(v:Value)(m:Nat)(news:List Value):Prop:=
 ∃p c,v=.slice p m c∧(news=[]∨∃b o,p=some ⟨b,o,none⟩∧Cells w b o news)
theorem Buf.nil(w:World)(e sz:Nat):Buf w e sz (.slice none 0 0) 0 []:=⟨by simp,.inl ⟨rfl,none,rfl⟩⟩
theorem Buf.ofBlk{w:World}{b e sz m:Nat}{cs:List Value}(h:Blk w b cs e)(hm:m≤maxLen)(hl:cs.length=m*sz):Buf w e sz (.slice (some ⟨b,0,none⟩) m m) m cs:=by
 refine⟨hl,?_⟩
 cases m with
 |zero=>exact .inl ⟨rfl,_,rfl⟩
 |succ c=>exact .inr ⟨b,c,cs,rfl,h,Nat.le_refl _,hm,hl,by rw[←hl];exact List.take_length⟩
theorem Buf.same{w w':World}{e sz m:Nat}{v:Value}{cs:List Value}(h:Buf w e sz v m cs)(hs:∀b,own v=some b→w'.heap[b]?=w.heap[b]?):Buf w' e sz v m cs:=by
 refine⟨h.1,?_⟩
 rcases h.2 with h|⟨b,c,cur,rfl,h2,h3⟩
 ·exact .inl h
 ·exact .inr ⟨b,c,cur,rfl,h2.same (hs b rfl),h3⟩
theorem Buf.src{w:World}{e sz m:Nat}{v:Value}{cs:List Value}(h:Buf w e sz v m cs):Src w v m cs:=by
 rcases h.2 with⟨rfl,p,rfl⟩|⟨b,c,cur,rfl,h2,h3,h4,h5,h6⟩
 ·exact⟨p,0,rfl,.inl (List.eq_nil_of_length_eq_zero (by simpa using h.1))⟩
 ·refine⟨_,_,rfl,.inr ⟨b,0,rfl,fun i u hu=>h2.cells i u ?_⟩⟩
  rw[←h6,List.getElem?_take] at hu
  split at hu
  ·exact hu
  ·cases hu
structure Grew (w w':World) (v v':Value):Prop where
 same:∀k,k<w.heap.size→some k≠own v→w'.heap[k]?=w.heap[k]?
 size:w.heap.size≤w'.heap.size
 os:w'.os=w.os
 tape:w'.tape=w.tape
 output:w'.output=w.output
 own:own v'=own v∨∃b,own v'=some b∧w.heap.size≤b
theorem Blk.set{w:World}{b:Nat}{cs:List Value}{e:Nat}(h:Blk w b cs e)(o:Nat)(v:Value):Blk (w.setCell ⟨b,o,none⟩ v) b (cs.set o v) e:=by
 unfold Blk at*
 simp only[World.setCell,Array.getElem?_modify,h,if_true,Option.map_some]
 simp
theorem setCell_other(w:World)(a:Addr)(v:Value)(k:Nat)(h:k≠a.block):(w.setCell a v).heap[k]?=w.heap[k]?:=Below.heap_setCell w a v k h
structure Wrote (b:Nat) (w w':World):Prop where
 same:∀k,k≠b→w'.heap[k]?=w.heap[k]?
 size:w'.heap.size=w.heap.size
 os:w'.os=w.os
 tape:w'.tape=w.tape
 output:w'.output=w.output
theorem Wrote.setCell(w:World)(b o:Nat)(v:Value):Wrote b w (w.setCell ⟨b,o,none⟩ v):=
 ⟨fun k hk=>setCell_other w _ v k hk,by simp[World.setCell],rfl,rfl,rfl⟩
theorem oneAll_nil:oneAll []:=fun u hu=>by cases hu
def Res(P:Program)(E:Env)(w:World):ResultVar→Value→Prop
 |.tmp t,v=>E t=v
 |.cell t ty,v=>∃a,E t=.pointer (some a)∧(loadVar ty a).run P w=.ok v w
theorem Res.val{t:Nat}:Res P E w (.tmp t) (E t):=rfl
theorem Res.agg{t ty sz bys b o:Nat}{zz:Value}{vs:List Value}[h1:Agg P ty][hi:HasI P ty sz bys zz](h:E t=.pointer (some ⟨b,o,none⟩))(hc:Cells w b o vs)(hl:vs.length=sz):Res P E w (.cell t ty) (.agg vs.toArray):=by
 refine⟨_,h,?_⟩
 have h2:=h1.h w
 have h3:=run_loadCells (P:=P) hc hl
 have h4:=hi.sizeOf w
 simp[loadVar,h2,h3,h4]
theorem Res.one{t ty b o:Nat}{v:Value}[h1:One P ty](h:E t=.pointer (some ⟨b,o,none⟩))(hc:w.cell? ⟨b,o,none⟩=some v):Res P E w (.cell t ty) v:=by
 refine⟨_,h,?_⟩
 have h2:=h1.h w
 simp[loadVar,h2,hc]
def resOf(tmps:Array Value):ResultVar→Sem Value
 |.tmp t=>pure (tmps.getD t undef)
 |.cell a t=>do loadVar t (←asAddr (tmps.getD a undef))
theorem results_eq(fn:Func)(tmps:Array Value):results fn tmps=(do
  let vs ←fn.results.mapM (resOf tmps)
  pure (if h:vs.size=1 then vs[0] else .tuple vs)):=by
 unfold results
 congr 1
theorem Res.run{r:ResultVar}{v:Value}(h:Res P E w r v)(tmps:Array Value)(ht:∀t,tmps.getD t undef=E t):(resOf tmps r).run P w=.ok v w:=by
 cases r with
 |tmp t=>simp only[Res] at h;simp only[resOf,ht,h];rfl
 |cell t ty=>
  obtain⟨a,h1,h2⟩:=h
  simp only[resOf,ht,h1,Sem.run_bind]
  simp[asAddr,h2]
end
def There(w:World)(b:Nat):Prop:=∃cs e f,w.heap[b]?=some (.cells cs e f)
theorem There.lt{w:World}{b:Nat}(h:There w b):b<w.heap.size:=by
 obtain⟨cs,e,f,h⟩:=h;exact(Array.getElem?_eq_some_iff.1 h).1
theorem There.same{w w':World}{b:Nat}(h:There w b)(hs:w'.heap[b]?=w.heap[b]?):There w' b:=by
 obtain⟨cs,e,f,h⟩:=h;exact⟨cs,e,f,hs.trans h⟩
theorem Cells.same{w w':World}{b o:Nat}{vs:List Value}(h:Cells w b o vs)(hs:w'.heap[b]?=w.heap[b]?):Cells w' b o vs:=fun i v hv=>
 (World.cell?_of_block (w:=w) (a:=⟨b,o+i,none⟩) hs).trans (h i v hv)
theorem Cells.there{w:World}{b o:Nat}{vs:List Value}(h:Cells w b o vs)(h0:vs≠[]):There w b:=by
 cases vs with
 |nil=>exact absurd rfl h0
 |cons v vs=>
  have:=h 0 v rfl
  unfold World.cell? at this
  split at this
  ·rename_i cs e f hb;exact⟨cs,e,f,hb⟩
  ·cases this
theorem Cells.drop{w:World}{b o:Nat}{vs us:List Value}(h:Cells w b o (vs++us)):Cells w b (o+vs.length) us:=fun i v hv=>by
 have:=h (vs.length+i) v (by rw[List.getElem?_append_right (by omega)];simpa using hv)
 rwa [←Nat.add_assoc] at this
theorem Cells.take{w:World}{b o:Nat}{vs us:List Value}(h:Cells w b o (vs++us)):Cells w b o vs:=fun i v hv=>
 h i v (by rw[List.getElem?_append_left (List.getElem?_eq_some_iff.1 hv).1];exact hv)
structure Rp (α:Type) where
 nc:Nat
 V:World→α→List Value→List Nat→Prop
 len:∀{w x vs F},V w x vs F→vs.length=nc
 one:∀{w x vs F},V w x vs F→oneAll vs
 inb:∀{w x vs F},V w x vs F→∀k∈F,There w k
 stab:∀{w w' x vs F},V w x vs F→(∀k∈F,w'.heap[k]?=w.heap[k]?)→V w' x vs F
section
variable {α β : Type}
def Elems(R:Rp α)(w:World)(b o:Nat)(l:List α)(Fs:List (List Nat)):Prop:=
 Fs.length=l.length∧∀k x,l[k]?=some x→∃vs,Cells w b (o+k*R.nc) vs∧R.V w x vs (Fs.getD k [])
def LV(R:Rp α)(w:World)(p:Option Addr)(l:List α)(F:List Nat):Prop:=
 (l=[]∧F=[])∨∃b o Fs,p=some ⟨b,o,none⟩∧F=b::Fs.flatten∧There w b∧Elems R w b o l Fs
theorem mem_getD_flatten{Fs:List (List Nat)}{k j:Nat}(h:j∈Fs.getD k []):j∈Fs.flatten:=by
 rw[List.getD_eq_getElem?_getD] at h
 cases hk:Fs[k]? with
 |none=>rw[hk] at h;cases h
 |some L=>rw[hk] at h;exact List.mem_flatten.2 ⟨L,List.mem_of_getElem? hk,h⟩
def listR(R:Rp α):Rp (List α) where
 nc:=1
 V:=fun w l vs F=>∃p c,vs=[.slice p l.length c]∧l.length≤c∧c≤maxLen∧LV R w p l F
 len:=fun⟨p,c,h,_⟩=>by rw[h];rfl
 one:=fun⟨p,c,h,_⟩=>by rw[h];intro u hu;simp at hu;subst hu;rfl
 inb:=fun⟨p,c,h,_,_,hl⟩ k hk=>by
  rcases hl with⟨_,rfl⟩|⟨b,o,Fs,rfl,rfl,ht,hlen,he⟩
  ·cases hk
  ·rcases List.mem_cons.1 hk with rfl|hk
   ·exact ht
   ·obtain⟨L,hL,hkL⟩:=List.mem_flatten.1 hk
    obtain⟨j,hj,rfl⟩:=List.getElem_of_mem hL
    have hx:=he j _ (List.getElem?_eq_getElem (hlen▸hj))
    obtain⟨vs,_,hv⟩:=hx
    exact R.inb hv k (by simpa[List.getD_eq_getElem?_getD,hj] using hkL)
 stab:=fun⟨p,c,h,h1,h2,hl⟩ hs=>by
  refine⟨p,c,h,h1,h2,?_⟩
  rcases hl with hl|⟨b,o,Fs,rfl,rfl,ht,hlen,he⟩
  ·exact .inl hl
  ·refine .inr ⟨b,o,Fs,rfl,rfl,ht.same (hs b (List.mem_cons_self ..)),hlen,fun k x hx=>?_⟩
   obtain⟨vs,hc,hv⟩:=he k x hx
   exact⟨vs,hc.same (hs b (List.mem_cons_self ..)),R.stab hv fun j hj=>hs j (List.mem_cons_of_mem _ (mem_getD_flatten hj))⟩
end
def Wb(w:World)(b:Nat):Prop:=∃cs e,Blk w b cs e
theorem Wb.lt{w:World}{b:Nat}(h:Wb w b):b<w.heap.size:=by obtain⟨_,_,h⟩:=h;exact h.lt
end Go.Proofs.YtjmjamhhppoimaaGreat.G
namespace Go.Proofs.YtjmjamhhppoimaaGreat.D
open Go.RowKit G
set_option linter.unusedVariables false
structure Quiv where
 n:Int
 fr:List Int
 to:List Int
def allIn(lo hi:Int)(xs:List Int):Bool:=xs.all fun x=>decide (lo≤x)&&decide (x≤hi)
theorem allIn_spec{lo hi:Int}{xs:List Int}(h:allIn lo hi xs=true){k:Nat}(hk:k<xs.length):lo≤xs.getD k 0∧xs.getD k 0≤hi:=by
 unfold allIn at h
 rw[List.all_eq_true] at h
 have:=h xs[k] (List.getElem_mem hk)
 rw[Bool.and_eq_true,decide_eq_true_eq,decide_eq_true_eq] at this
 simpa[hk] using this
def okQ(q:Quiv):Bool:=decide (1≤q.n)&&decide (q.n≤5)&&decide (q.fr.length=q.to.length)&&decide (q.fr.length≤6)&&allIn 0 (q.n-1) q.fr&&allIn 0 (q.n-1) q.to
theorem okQ_spec{q:Quiv}(h:okQ q=true):1≤q.n∧q.n≤5∧q.fr.length=q.to.length∧q.fr.length≤6∧allIn 0 (q.n-1) q.fr=true∧allIn 0 (q.n-1) q.to=true:=by
 unfold okQ at h
 simp only[Bool.and_eq_true,decide_eq_true_eq] at h
 exact⟨h.1.1.1.1.1,h.1.1.1.1.2,h.1.1.1.2,h.1.1.2,h.1.2,h.2⟩
theorem okQ_fr{q:Quiv}(h:okQ q=true){k:Nat}(hk:k<q.fr.length):0≤q.fr.getD k 0∧q.fr.getD k 0<q.n:=by
 have:=allIn_spec (okQ_spec h).2.2.2.2.1 hk;omega
theorem okQ_to{q:Quiv}(h:okQ q=true){k:Nat}(hk:k<q.fr.length):0≤q.to.getD k 0∧q.to.getD k 0<q.n:=by
 have:=allIn_spec (okQ_spec h).2.2.2.2.2 (by have:=(okQ_spec h).2.2.1;omega:k<q.to.length);omega
end Go.Proofs.YtjmjamhhppoimaaGreat.D
namespace Go.Proofs.YtjmjamhhppoimaaGreat.G
open Go.RowKit
set_option linter.unusedVariables false
abbrev Own:=List (Nat×List Value×Nat)
class At1 (H:Own) (b:Nat) (cs:outParam (List Value)) (e:outParam Nat) (U:outParam (List Value→Own)):Prop where
 h:∃i,H[i]?=some (b,cs,e)∧∀c,U c=H.set i (b,c,e)
instance At1.there(x:Nat×List Value×Nat)(H:Own)(b:Nat)(cs:List Value)(e:Nat)(U:List Value→Own)[h:At1 H b cs e U]:At1 (x::H) b cs e (fun c=>x::U c):=by
 obtain⟨i,h1,h2⟩:=h.h
 exact⟨i+1,by simpa using h1,fun c=>by rw[h2];rfl⟩
section
variable {P : Program} {n : Nat} {Q : Exit → Env → World → Prop} {E : Env} {w : World} {ops : Array Oper} {os : List Oper}
variable {d : Option Tmp} {ty : TypeId} {pos : String} {af : Array Edge} {g : Option (Nat × Bool)} {x y z : Operand}
variable {w0 : World} {H : Own} {D : List (World × List Nat)} {S : List (World × Value)}
def idx:Nat→List Value→List (Nat×Value)
 |_,[]=>[]
 |k,v::vs=>(k,v)::idx (k+1) vs
theorem overlay(c:List Value):∀(o:Nat) (i:Nat) (A:List Value),o+i+c.length≤A.length→
  ((c.zipIdx i).foldl (fun(cs:Array Value) (x:Value×Nat)=>cs.setIfInBounds (o+x.2) x.1) A.toArray)=(A.take (o+i)++c++A.drop (o+i+c.length)).toArray:=by
 induction c with
 |nil=>intro o i A h;simp
 |cons u c ih=>
  intro o i A h
  simp only[List.zipIdx_cons,List.foldl_cons]
  simp only[List.length_cons] at h
  rw[List.setIfInBounds_toArray,ih o (i+1) (A.set (o+i) u) (by simp;omega)]
  congr 1
  have h1:(A.set (o+i) u).take (o+(i+1))=A.take (o+i)++[u]:=by
   rw[←Nat.add_assoc,List.take_succ_eq_append_getElem (by simp;omega),List.take_set,List.set_eq_of_length_le (by simp;omega)]
   simp
  have h2:(A.set (o+i) u).drop (o+(i+1)+c.length)=A.drop (o+i+(u::c).length):=by
   rw[List.drop_set_of_lt (by omega)]
   congr 1
   simp;omega
  rw[h1,h2];simp
theorem fill_all{sz:Nat}:∀(vs:List Value) (k:Nat) (A:List Value),(∀v∈vs,v.cells.size=sz)→A.length=(k+vs.length)*sz→
  Instr.fill (fun i=>some (i*sz,sz)) A.toArray (idx k vs)=some (A.take (k*sz)++vs.flatMap (·.cells.toList)).toArray
 |[],k,A,_,hA=>by
  simp only[idx,Instr.fill,List.flatMap_nil,List.append_nil]
  rw[List.take_of_length_le (by simp at hA;omega)]
 |v::vs,k,A,hv,hA=>by
  have h1:=hv v (by simp)
  have hle:k*sz+sz≤A.length:=by
   rw[hA,←Nat.succ_mul];exact Nat.mul_le_mul_right _ (by simp)
  have hov:=overlay v.cells.toList (k*sz) 0 A (by simp[h1];omega)
  simp only[idx,Instr.fill,h1]
  rw[if_neg (by simp;omega)]
  have e:(v.cells.zipIdx.foldl (fun(cs:Array Value) (x:Value×Nat)=>cs.setIfInBounds (k*sz+x.2) x.1) A.toArray)=(A.take (k*sz)++v.cells.toList++A.drop (k*sz+sz)).toArray:=by
   rw[←Array.foldl_toList,Array.toList_zipIdx]
   exact hov.trans (by simp[h1])
  have e':(v.cells.zipIdx.foldl (fun(cs:Array Value) x=>match x with|(c,j)=>cs.setIfInBounds (k*sz+j) c) A.toArray)=(A.take (k*sz)++v.cells.toList++A.drop (k*sz+sz)).toArray:=e
  rw[e']
  have hl:(A.take (k*sz)++v.cells.toList).length=(k+1)*sz:=by
   simp[h1,Nat.succ_mul];omega
  rw[fill_all vs (k+1) _ (fun u hu=>hv u (by simp[hu])) (by simp[h1,Nat.min_eq_left (show k*sz≤A.length by omega)];rw[hA];simp[Nat.add_mul];omega)]
  rw[List.take_append_of_le_length (by omega),List.take_of_length_le (by omega)]
  simp
end
section
variable {P : Program} {ops : Array Oper} {Q : Exit → Act → World → Prop} {md : Region.Mode}
def YieldsL(P:Program)(ops:Array Oper)(o:Oper)(v:Value)(a:Act)(w:World):Prop:=
 (Region.wanted o (yielded ops a.tmps)=true∧∀w',Later w w'→(execOp a.eval o).run P w'=.ok (.value v) w')∨
 (Region.wanted o (yielded ops a.tmps)=false∧v=undef)
theorem YieldsL.later{o:Oper}{v:Value}{a:Act}{w w':World}(h:YieldsL P ops o v a w)(hl:Later w w'):YieldsL P ops o v a w':=
 h.imp (fun⟨hw,hv⟩=>⟨hw,fun w2 h2=>hv w2 (hl.trans h2)⟩) id
theorem YieldsL.wpOp{i:Nat}{o:Oper}{v:Value}{a:Act}{w:World}(hi:ops[i]?=some o)(hy:YieldsL P ops o v a w)
  {K:Act→World→Prop} (h:K (a.put o.dst v) w):wpOp P ops Q i K a w:=by
 unfold Go.wpOp
 simp only[hi]
 rcases hy with⟨hw,hv⟩|⟨hw,rfl⟩
 ·simp only[hw,if_true,Oper.wp,hv w (Later.refl w),Oper.upon];exact .inl h
 ·simp only[hw,Bool.false_eq_true,if_false];exact h
theorem YieldsL.of_same{o:Oper}{v:Value}{a a':Act}{w:World}(hy:YieldsL P ops o v a w)(he:execOp a'.eval o=execOp a.eval o)
  (hw:Region.wanted o (yielded ops a'.tmps)=Region.wanted o (yielded ops a.tmps)):YieldsL P ops o v a' w:=by
 unfold YieldsL at*
 rw[he,hw]
 exact hy
theorem wpOp_putY(Y:Act→Prop){j:Nat}{oi oj:Oper}{v:Value}(hj:ops[j]?=some oj)(hap:oi.apart ops oj=true)
  (hsi:∀cs b,oi.op≠.select cs b) (hsj:∀cs b,oj.op≠.select cs b)
  (hQ:∀c a w,Q (.panic c) (a.put oi.dst v) w→Q (.panic c) a w) {K:Act→World→Prop} {a:Act} {w:World}
  (keep:∀(a:Act),Y a→∀u,Y (a.put oj.dst u)) (keepd:∀(a:Act),Y a→∀d,Y {a with defers:=d::a.defers})
  (hy:Y a) (h:wpOp P ops Q j K (a.put oi.dst v) w):
  wpOp P ops Q j (fun a' w'=>Y a'∧K (a'.put oi.dst v) w') a w:=by
 obtain⟨h1,h2,h3⟩:=Oper.apart_spec hap
 have keepD:∀d,Y {a with defers:=d::a.defers}:=fun d=>keepd a hy d
 unfold wpOp at*
 simp only[hj] at*
 rw[wanted_put oj a oi.dst v h1] at h
 split
 ·rename_i hw
  simp only[hw,if_true] at h
  rcases h with h|⟨hasks,hlets⟩
  case inr=>exact .inr ⟨by unfold Oper.asks at*;rw[execOp_put oj hsj a oi.dst v h1] at hasks;exact hasks,hlets⟩
  refine .inl ?_
  unfold Oper.wp at*
  rw[execOp_put oj hsj a oi.dst v h1] at h
  generalize (execOp a.eval oj).run P w=r at*
  cases r with
  |ok n w'=>
   cases n<;>simp only[Oper.upon] at h⊢
   case value u=>exact⟨keep a hy u,by rw[←Act.put_comm a v u h2];exact h⟩
   case skip=>exact⟨keep a hy _,by rw[←Act.put_comm a v undef h2];exact h⟩
   case defer d=>
    refine⟨keep _ (keepD d) _,?_⟩
    rw[←Act.put_comm _ v undef h2,←Act.put_defers]
    exact h
   case enter f args=>
    refine Calls.mono h fun e w'' he=>?_
    cases e with
    |returned u=>exact⟨keep a hy u,by rw[←Act.put_comm a v u h2];exact he⟩
    |panicked c=>exact hQ _ _ _ he
    |outgrown=>exact he
   case row row args=>exact Rows.mono h fun u w'' he=>⟨keep a hy u,by rw[←Act.put_comm a v u h2];exact he⟩
  |halt x w'=>
   cases x<;>simp only[Oper.upon] at h⊢
   case panic u=>exact hQ _ _ _ h
 ·rename_i hw
  simp only[hw] at h
  exact⟨keep a hy _,by rw[←Act.put_comm a v undef h2];exact h⟩
def YD(P:Program)(ops:Array Oper)(o:Oper)(v:Value)(pu:Bool)(a:Act)(w:World):Prop:=match pu with
 |true=>∀w',YieldsL P ops o v a w'
 |false=>YieldsL P ops o v a w
theorem YD.now{o:Oper}{v:Value}{pu:Bool}{a:Act}{w:World}(h:YD P ops o v pu a w):YieldsL P ops o v a w:=by
 cases pu with
 |true=>exact h w
 |false=>exact h
theorem YD.later{o:Oper}{v:Value}{pu:Bool}{a:Act}{w w':World}(h:YD P ops o v pu a w)(hl:pu=false→Later w w'):YD P ops o v pu a w':=by
 cases pu with
 |true=>exact h
 |false=>exact YieldsL.later h (hl rfl)
theorem wpOp_putL{pu:Bool}{j:Nat}{oi oj:Oper}{v:Value}(hj:ops[j]?=some oj)(hap:oi.apart ops oj=true)
  (hsi:∀cs b,oi.op≠.select cs b) (hsj:∀cs b,oj.op≠.select cs b)
  (hQ:∀c a w,Q (.panic c) (a.put oi.dst v) w→Q (.panic c) a w) {K:Act→World→Prop} {a:Act} {w:World}
  (hy:YD P ops oi v pu a w) (h:wpOp P ops Q j K (a.put oi.dst v) w):
  wpOp P ops Q j (fun a' w'=>YD P ops oi v pu a' w∧K (a'.put oi.dst v) w') a w:=by
 obtain⟨h1,h2,h3⟩:=Oper.apart_spec hap
 refine wpOp_putY (fun a=>YD P ops oi v pu a w) hj hap hsi hsj hQ (fun a hy u=>?_) (fun a hy d=>?_) hy h
 ·cases pu with
  |true=>exact fun w'=>(hy w').of_same (execOp_put oi hsi a oj.dst u h3) (wanted_put oi a oj.dst u h3)
  |false=>exact YieldsL.of_same hy (execOp_put oi hsi a oj.dst u h3) (wanted_put oi a oj.dst u h3)
 ·cases pu with
  |true=>exact fun w'=>(hy w').of_same rfl rfl
  |false=>exact YieldsL.of_same hy rfl rfl
def needs(md:Region.Mode)(ops:Array Oper):Nat→Nat→Nat→Bool
 |0,_,_=>false
 |f+1,j,i=>match ops[j]? with
  |some o=>o.after.any fun e=>Region.binds md e&&(Nat.beq e.on i||needs md ops f e.on i)
  |none=>false
def isLoad(ops:Array Oper)(i:Nat):Bool:=match ops[i]? with
 |some o=>(match o.op with|.load _ _=>true|_=>false)
 |none=>false
def tailOk(md:Region.Mode)(m:Nat)(ops:Array Oper):Bool:=
 (List.range ops.size).all fun j=>bif Nat.blt j m then true else(List.range m).all fun i=>bif isLoad ops i then needs md ops ops.size j i else true
def Closed(md:Region.Mode)(ops:Array Oper)(listed:Array Bool):Prop:=
 ∀(a:Nat) oa,ops[a]?=some oa→listed.getD a false=true→∀e∈oa.after,Region.binds md e=true→listed.getD e.on false=true
theorem Closed.start:Closed md ops (Array.replicate ops.size false):=fun a oa ha hl=>by
 have hlt:=(Array.getElem?_eq_some_iff.1 ha).1
 simp[hlt] at hl
theorem getD_set_true{l:Array Bool}{i j:Nat}(h:l.getD j false=true):(l.setIfInBounds i true).getD j false=true:=by
 by_cases hj:j<l.size
 ·by_cases e:i=j
  ·subst e;simp[hj]
  ·simp[hj] at h⊢
   rw[Array.getElem_setIfInBounds_ne]
   ·exact h
   ·exact e
 ·simp[Array.getElem?_eq_none (Nat.le_of_not_lt hj)] at h
theorem Closed.set{listed:Array Bool}(h:Closed md ops listed){i:Nat}(hi:i∈Region.ready md ops listed):Closed md ops (listed.setIfInBounds i true):=fun a oa ha hl e he hb=>by
 obtain⟨hun,o,ho,hall⟩:=mem_ready.1 hi
 by_cases hai:a=i
 ·subst hai
  rw[ho] at ha
  simp only[Option.some.injEq] at ha
  subst ha
  exact getD_set_true (hall e he hb)
 ·refine getD_set_true (h a oa ha ?_ e he hb)
  by_cases hj:a<listed.size
  ·simp[hj] at hl⊢
   rwa [Array.getElem_setIfInBounds_ne _ (fun e=>hai e.symm)] at hl
  ·rw[Array.getD_eq_getD_getElem?,Array.getElem?_eq_none (by simpa using hj)] at hl
   simp at hl
theorem needs_listed{listed:Array Bool}(h:Closed md ops listed):∀(f j:Nat) (oj:Oper) (i:Nat),ops[j]?=some oj→(∀e∈oj.after,Region.binds md e=true→listed.getD e.on false=true)→needs md ops f j i=true→listed.getD i false=true
 |0,_,_,_,_,_,hn=>by simp[needs] at hn
 |f+1,j,oj,i,hj,hall,hn=>by
  simp only[needs,hj] at hn
  obtain⟨e,he,hb⟩:=Array.any_eq_true'.1 hn
  rw[Bool.and_eq_true,Bool.or_eq_true] at hb
  have h1:=hall e he hb.1
  rcases hb.2 with h2|h2
  ·rw[←Nat.eq_of_beq_eq_true h2];exact h1
  ·cases ho:ops[e.on]? with
   |none=>
    cases f with
    |zero=>simp[needs] at h2
    |succ f=>simp[needs,ho] at h2
   |some oe=>exact needs_listed h f e.on oe i ho (h e.on oe ho h1) h2
def wpAnyL(P:Program)(md:Region.Mode)(m:Nat)(ops:Array Oper)(Q:Exit→Act→World→Prop):Nat→Array Bool→Act→World→Prop
 |0,listed,a,w=>Region.ready md ops listed=[]∧Q .normal a w
 |fuel+1,listed,a,w=>
  (Region.ready md ops listed=[]→Q .normal a w)∧
  ∀i∈Region.ready md ops listed,wpOp P ops Q i (fun a' w'=>(m≤i∨Later w w')∧wpAnyL P md m ops Q fuel (listed.setIfInBounds i true) a' w') a w
theorem wpAny_of_later{m:Nat}:∀(fuel:Nat) (listed:Array Bool) (a:Act) (w:World),wpAnyL P md m ops Q fuel listed a w→wpAny P md ops Q fuel listed a w
 |0,_,_,_,h=>h
 |fuel+1,_,_,_,h=>⟨h.1,fun i hi=>wpOp_mono (fun a' w' h'=>wpAny_of_later fuel _ a' w' h'.2) (h.2 i hi)⟩
theorem tailOk_spec{m i j:Nat}(h:tailOk md m ops=true)(hld:isLoad ops i=true)(him:i<m)(hjm:m≤j){oj:Oper}(hj:ops[j]?=some oj):needs md ops ops.size j i=true:=by
 unfold tailOk at h
 rw[List.all_eq_true] at h
 have h1:=h j (List.mem_range.2 (Array.getElem?_eq_some_iff.1 hj).1)
 have hb:Nat.blt j m=false:=by rw[←Bool.not_eq_true,Nat.blt_eq];omega
 simp only[hb,cond_false] at h1
 rw[List.all_eq_true] at h1
 have h2:=h1 i (List.mem_range.2 him)
 rwa [hld,cond_true] at h2
theorem upon_mono{o:Oper}{a:Act}{K K':Act→World→Prop}{Q Q':Exit→Act→World→Prop}{r:Result Next}(h:∀a w,K a w→K' a w)(hq:∀e a w,e≠.normal→Q e a w→Q' e a w)
  (hh:o.upon P a K Q r):o.upon P a K' Q' r:=by
 unfold Oper.upon at*
 split at hh
 ·exact h _ _ hh
 ·exact h _ _ hh
 ·exact h _ _ hh
 ·refine Calls.mono hh fun e w'' he=>?_
  cases e with
  |returned v=>exact h _ _ he
  |panicked c=>exact hq _ _ _ (by simp) he
  |outgrown=>obtain⟨a0,w0,h0⟩:=he;exact⟨a0,w0,hq _ _ _ (by simp) h0⟩
 ·exact Rows.mono hh fun v w'' he=>h _ _ he
 ·exact hq _ _ _ (by simp) hh
 ·exact hh.elim
theorem wpAnyL_first{pu:Bool}{m:Nat}{i:Nat}(him:pu=false→i<m∧isLoad ops i=true)(htail:tailOk md m ops=true){oi:Oper}{v:Value}(hi:ops[i]?=some oi)(hsel:∀(j:Nat) (o:Oper) cs b,ops[j]?=some o→o.op≠.select cs b)
  (hQ:∀c a w,Q (.panic c) (a.put oi.dst v) w→Q (.panic c) a w):
  ∀(fuel:Nat) (listed:Array Bool) (a:Act) (w:World),Closed md ops listed→
   (∀j oj,ops[j]?=some oj→j≠i→listed.getD j true=false→(∀e∈oj.after,Region.binds md e=true→e.on≠i)→oi.apart ops oj=true)→
   i∈Region.ready md ops listed→YD P ops oi v pu a w→
   wpAnyL P md m ops Q fuel (listed.setIfInBounds i true) (a.put oi.dst v) w→wpAnyL P md m ops Q (fuel+1) listed a w:=by
 intro fuel
 induction fuel with
 |zero=>
  intro listed a w _ _ hr hy H
  refine⟨fun h=>(by rw[h] at hr;cases hr),fun j hj=>?_⟩
  by_cases hji:j=i
  ·subst hji;exact hy.now.wpOp hi ⟨.inr (Later.refl w),H⟩
  ·have:=ready_mono hj hji
   rw[H.1] at this
   cases this
 |succ fuel ih=>
  intro listed a w hcl hfree hr hy H
  refine⟨fun h=>(by rw[h] at hr;cases hr),fun j hj=>?_⟩
  by_cases hji:j=i
  ·subst hji;exact hy.now.wpOp hi ⟨.inr (Later.refl w),H⟩
  ·have h1:=H.2 j (ready_mono hj hji)
   obtain⟨hjun,oj,hoj,hall⟩:=mem_ready.1 hj
   have hun0:=(mem_ready.1 hr).1
   have hnot:∀e∈oj.after,Region.binds md e=true→e.on≠i:=fun e he hb heq=>by
    have h1:=hall e he hb
    rw[heq] at h1
    rcases Nat.lt_or_ge i listed.size with h'|h'
    ·simp[h'] at hun0 h1;rw[hun0] at h1;cases h1
    ·simp[Array.getElem?_eq_none h'] at h1
   have h2:=wpOp_putL hoj (hfree j oj hoj hji hjun hnot) (fun cs b=>hsel i oi cs b hi) (fun cs b=>hsel j oj cs b hoj) hQ hy h1
   have hfree':∀k ok,ops[k]?=some ok→k≠i→(listed.setIfInBounds j true).getD k true=false→
     (∀e∈ok.after,Region.binds md e=true→e.on≠i)→oi.apart ops ok=true:=fun k ok hk hki hun hno=>by
    refine hfree k ok hk hki ?_ hno
    by_cases hjk:j=k
    ·subst hjk;exact hjun
    ·rw[getD_set_ne true hjk] at hun;exact hun
   have hjm:pu=false→¬m≤j:=fun hpu hjm=>by
    have hL:=needs_listed hcl _ j oj i hoj hall (tailOk_spec htail (him hpu).2 (him hpu).1 hjm hoj)
    rcases Nat.lt_or_ge i listed.size with h'|h'
    ·simp[h'] at hun0 hL;rw[hun0] at hL;cases hL
    ·simp[Array.getElem?_eq_none h'] at hL
   refine wpOp_mono (fun a' w' h3=>?_) h2
   refine⟨h3.2.1,ih (listed.setIfInBounds j true) a' w' (hcl.set hj) hfree' (ready_mono hr (Ne.symm hji)) (h3.1.later fun hpu=>h3.2.1.resolve_left (hjm hpu)) ?_⟩
   rw[Array.setIfInBounds_comm _ _ hji]
   exact h3.2.2
class NoPan (Q:Exit→Env→World→Prop):Prop where
 h:∀c E w,¬Q (.panic c) E w
def RgA(P:Program)(n m:Nat)(ops:Array Oper)(fuel:Nat)(listed:Array Bool)(Q:Exit→Env→World→Prop)(E:Env)(w:World):Prop:=
 (Region.noSelect ops&&tailOk .any m ops)=true→Closed .any ops listed→∀a,Fits n a E→wpAnyL P .any m ops (Up n Q) fuel listed a w
variable {n m : Nat} {fuel : Nat} {listed : Array Bool} {E : Env} {w : World}
theorem Wp.draw{Q:Exit→Env→World→Prop}{id:Nat}(m:Nat)(hm:P.follows .mixedOrders=true)(hst:(Region.noSelect ops&&tailOk .any m ops)=true)
  (h:RgA P n m ops ops.size (Array.replicate ops.size false) Q E w.drew):Wp P n (.region id ops true) Q E w:=by
 unfold Wp
 intro a ha
 exact wp_region_any hm (wpAny_of_later _ _ _ _ (h hst Closed.start a ha))
theorem RgA.nil{Q:Exit→Env→World→Prop}(hr:Region.ready .any ops listed=[])(h:Q .normal E w):RgA P n m ops fuel listed Q E w:=fun hst hcl a ha=>by
 cases fuel with
 |zero=>exact⟨hr,E,ha,h⟩
 |succ f=>exact⟨fun _=>⟨E,ha,h⟩,by rw[hr];simp⟩
theorem RgA.take{Q:Exit→Env→World→Prop}[hQ:NoPan Q](i:Nat){o:Oper}{v:Value}(ho:ops[i]?=some o)
  (hc:(Nat.blt i m&&isLoad ops i&&Region.free .any ops listed i&&(Region.ready .any ops listed).contains i)=true)
  (hs:Sil P E o v w) (hw:want n ops o E=true) (hd:fits n o.dst=true) (h:RgA P n m ops fuel (listed.setIfInBounds i true) Q (put E o.dst v) w):
  RgA P n m ops (fuel+1) listed Q E w:=fun hst hcl a ha=>by
 simp only[Bool.and_eq_true] at hc
 obtain⟨⟨⟨h1,h0⟩,h4⟩,h5⟩:=hc
 obtain⟨h2,h3⟩:=by rw[Bool.and_eq_true] at hst;exact hst
 refine wpAnyL_first (pu:=false) (fun _=>⟨by rwa [Nat.blt_eq] at h1,h0⟩) h3 ho (Region.noSelect_spec h2) ?_ fuel listed a w hcl (Region.free_spec ho h4) (by simpa using h5) ?_ (h hst (hcl.set (by simpa using h5)) _ (ha.put' hd v))
 ·intro c a w ⟨E,_,hp⟩;exact absurd hp (hQ.h _ _ _)
 ·refine .inl ⟨by rw[want_eq ha];exact hw,fun w' hl=>?_⟩
  rw[ha.eval]
  unfold Sil at hs
  exact hs w' hl
theorem RgA.pure{Q:Exit→Env→World→Prop}[hQ:NoPan Q](i:Nat){o:Oper}{v:Value}(ho:ops[i]?=some o)
  (hc:(Region.free .any ops listed i&&(Region.ready .any ops listed).contains i)=true)
  (hs:∀w,Sil P E o v w) (hw:want n ops o E=true) (hd:fits n o.dst=true) (h:RgA P n m ops fuel (listed.setIfInBounds i true) Q (put E o.dst v) w):
  RgA P n m ops (fuel+1) listed Q E w:=fun hst hcl a ha=>by
 simp only[Bool.and_eq_true] at hc
 obtain⟨h4,h5⟩:=hc
 obtain⟨h2,h3⟩:=by rw[Bool.and_eq_true] at hst;exact hst
 refine wpAnyL_first (pu:=true) (fun h=>by cases h) h3 ho (Region.noSelect_spec h2) ?_ fuel listed a w hcl (Region.free_spec ho h4) (by simpa using h5) ?_ (h hst (hcl.set (by simpa using h5)) _ (ha.put' hd v))
 ·intro c a w ⟨E,_,hp⟩;exact absurd hp (hQ.h _ _ _)
 ·intro w'
  refine .inl ⟨by rw[want_eq ha];exact hw,fun w2 hl=>?_⟩
  rw[ha.eval]
  have:=hs w'
  unfold Sil at this
  exact this w2 hl
theorem RgA.skip{Q:Exit→Env→World→Prop}[hQ:NoPan Q](i:Nat){o:Oper}(ho:ops[i]?=some o)
  (hc:(Region.free .any ops listed i&&(Region.ready .any ops listed).contains i)=true)
  (hw:want n ops o E=false) (hd:fits n o.dst=true) (h:RgA P n m ops fuel (listed.setIfInBounds i true) Q (put E o.dst undef) w):
  RgA P n m ops (fuel+1) listed Q E w:=fun hst hcl a ha=>by
 simp only[Bool.and_eq_true] at hc
 obtain⟨h4,h5⟩:=hc
 obtain⟨h2,h3⟩:=by rw[Bool.and_eq_true] at hst;exact hst
 refine wpAnyL_first (pu:=true) (fun h=>by cases h) h3 ho (Region.noSelect_spec h2) ?_ fuel listed a w hcl (Region.free_spec ho h4) (by simpa using h5) ?_ (h hst (hcl.set (by simpa using h5)) _ (ha.put' hd undef))
 ·intro c a w ⟨E,_,hp⟩;exact absurd hp (hQ.h _ _ _)
 ·exact fun w'=>.inr ⟨by rw[want_eq ha];exact hw,rfl⟩
theorem RgA.only{Q:Exit→Env→World→Prop}(i:Nat){o:Oper}(ho:ops[i]?=some o)(hr:Region.ready .any ops listed=[i])
  (h:Rg P n ops [o] (Th (fun E' w'=>(m≤i∨Later w w')∧RgA P n m ops fuel (listed.setIfInBounds i true) Q E' w') Q) E w):
  RgA P n m ops (fuel+1) listed Q E w:=fun hst hcl a ha=>by
 have hcl':Closed .any ops (listed.setIfInBounds i true):=hcl.set (by rw[hr];simp)
 refine⟨fun h0=>(by rw[hr] at h0;cases h0),fun j hj=>?_⟩
 rw[hr] at hj
 obtain rfl:j=i:=by simpa using hj
 unfold Rg at h
 have h1:=h a ha
 unfold wpList at h1
 unfold wpOp
 simp only[ho]
 split
 ·rename_i hw
  rw[if_pos hw] at h1
  rcases h1 with h1|⟨h1,a0,w0,E0,hE0,hq⟩
  ·refine .inl ?_
   unfold Oper.wp at*
   refine upon_mono ?_ ?_ h1
   ·intro a' w' ⟨E',hf',hq⟩;exact⟨hq.1,hq.2 hst hcl' a' hf'⟩
   ·intro e a' w' hne ⟨E',hf',hq⟩
    refine⟨E',hf',?_⟩
    cases e<;>first|exact hq|exact absurd rfl hne
  ·exact .inr ⟨h1,a0,w0,E0,hE0,hq⟩
 ·rename_i hw
  rw[if_neg hw] at h1
  obtain⟨E',hf',hq⟩:=h1
  exact⟨hq.1,hq.2 hst hcl' _ hf'⟩
end
attribute [irreducible] RgA
structure Touched (F:List Nat) (w w':World):Prop where
 same:∀k,k<w.heap.size→k∉F→w'.heap[k]?=w.heap[k]?
 size:w.heap.size≤w'.heap.size
 os:w'.os=w.os
 tape:w'.tape=w.tape
 output:w'.output=w.output
theorem Touched.later{F:List Nat}{w w':World}(h:Later w w'):Touched F w w':=⟨fun k hk _=>Below.block h k hk,h.size,h.os,h.tape,h.output⟩
theorem Touched.trans{F:List Nat}{a b c:World}(h:Touched F a b)(k:Touched F b c):Touched F a c:=
 ⟨fun j hj hf=>(k.same j (by have:=h.size;omega) hf).trans (h.same j hj hf),Nat.le_trans h.size k.size,k.os.trans h.os,k.tape.trans h.tape,k.output.trans h.output⟩
theorem Touched.below{F:List Nat}{a b:World}{B:Nat}(h:Touched F a b)(hB:B≤a.heap.size)(hF:∀k∈F,B≤k):Below B a b:=
 ⟨h.os,h.tape,h.output,h.size,fun k hk=>h.same k (by omega) fun hf=>by have:=hF k hf;omega⟩
end Go.Proofs.YtjmjamhhppoimaaGreat.G
namespace Go.Proofs.YtjmjamhhppoimaaGreat.G
open Go.RowKit Go.WideShapes
set_option linter.unusedVariables false
class Rds (P:Program) (t:Nat) {α:outParam Type} (R:outParam (Rp α)):Prop where
 h:∀{H:Type} (enc:TypeId×Value→H) (w:World) (fuel:Nat) (cs:List Value) (d:DataW H) (ps:List MemPlace),DataW.trod enc P w 0 (fun _=>true) true fuel t cs=some (d,ps)→∃x F,R.V w x cs F
 nc:P.cellsOf t=R.nc
theorem mapM_some{α β:Type}{f:α→Option β}:∀{l:List α} {ys:List β},l.mapM f=some ys→ys.length=l.length∧∀(i:Nat) a,l[i]?=some a→∃y,f a=some y
 |[],ys,h=>by simp at h;subst h;exact⟨rfl,fun i a hi=>by simp at hi⟩
 |a::l,ys,h=>by
  simp only[List.mapM_cons,Option.bind_eq_bind,Option.bind_eq_some_iff] at h
  obtain⟨y,hy,zs,hz,h⟩:=h
  simp only[Option.pure_def,Option.some.injEq] at h
  subst h
  obtain⟨h1,h2⟩:=mapM_some hz
  refine⟨by simp[h1],fun i b hi=>?_⟩
  cases i with
  |zero=>simp at hi;subst hi;exact⟨y,hy⟩
  |succ i=>exact h2 i b (by simpa using hi)
theorem cells?_some{w:World}{a:Addr}{n:Nat}{cs:List Value}(h:w.cells? 0 a n=some cs):cs.length=n∧(0<n→a.spot=none)∧(a.spot=none→Cells w a.block a.off cs):=by
 simp only[World.cells?,Nat.zero_le,if_true] at h
 obtain⟨h1,h2⟩:=mapM_some h
 rw[List.length_range] at h1
 have key:∀i,i<n→w.cell? (a.add i)=cs[i]?:=by
  clear h2
  have gen:∀(l:List Nat) (cs:List Value),l.mapM (fun i=>w.cell? (a.add i))=some cs→∀(j i:Nat),l[j]?=some i→w.cell? (a.add i)=cs[j]?:=by
   intro l
   induction l with
   |nil=>intro cs _ j i hj;simp at hj
   |cons x l ih=>
    intro cs hcs j i hj
    simp only[List.mapM_cons,Option.bind_eq_bind,Option.bind_eq_some_iff] at hcs
    obtain⟨y,hy,zs,hz,hcs⟩:=hcs
    simp only[Option.pure_def,Option.some.injEq] at hcs
    subst hcs
    cases j with
    |zero=>simp at hj;subst hj;simpa using hy
    |succ j=>simpa using ih zs hz j i (by simpa using hj)
  intro i hi
  exact gen _ _ h i i (by simp[hi])
 have hsp:0<n→a.spot=none:=fun hn=>by
  have h0:=key 0 hn
  have e0:a.add 0=a:=by simp[Addr.add]
  rw[e0] at h0
  have hlt:0<cs.length:=by omega
  rw[List.getElem?_eq_getElem hlt] at h0
  unfold World.cell? at h0
  split at h0
  ·split at h0
   ·cases h0
   ·rename_i hs;simpa using hs
  ·cases h0
 refine⟨h1,hsp,fun hs i v hv=>?_⟩
 have hi:i<n:=by have:=(List.getElem?_eq_some_iff.1 hv).1;omega
 have:=key i hi
 obtain⟨b,o,s⟩:=a
 simp only at hs
 subst hs
 rw[add_none] at this
 rw[this];exact hv
theorem Rds.slice{P:Program}{t e:Nat}{α:Type}{R:Rp α}(hu:P.underlying t=some (.slice e))(hc:P.cellsOf t=1)(he:Rds P e R)(hn:0<R.nc):Rds P t (listR R):=by
 refine⟨fun enc w fuel cs d ps h=>?_,hc⟩
 cases fuel with
 |zero=>simp[DataW.trod] at h
 |succ fuel=>
  simp only[DataW.trod,hu] at h
  split at h<;>first|cases h|skip
  all_goals rename_i heq
  all_goals try simp only[Option.some.injEq,TypeDesc.slice.injEq,reduceCtorEq] at heq
  ·exact⟨[],[],none,0,rfl,Nat.le_refl _,Nat.zero_le _,.inl ⟨rfl,rfl⟩⟩
  ·rename_i e' a len cap
   subst heq
   split at h
   ·rename_i hb
    obtain⟨_,hlc,hcm⟩:=hb
    simp only[Option.bind_eq_some_iff,Option.map_eq_some_iff] at h
    obtain⟨elems,hel,_⟩:=h
    obtain⟨h1,h2⟩:=mapM_some hel
    have each:∀i,i<len→∃x vs F,a.spot=none∧Cells w a.block (a.off+i*R.nc) vs∧R.V w x vs F:=fun i hi=>by
     obtain⟨y,hy⟩:=h2 i i (by simp[hi])
     obtain⟨vs,hvs,hy⟩:=Option.bind_eq_some_iff.1 hy
     rw[he.nc] at hvs
     obtain⟨c1,c2,c3⟩:=cells?_some hvs
     obtain⟨dd,pp⟩:=y
     obtain⟨x,F,hV⟩:=he.h enc w fuel vs dd pp hy
     have hs:a.spot=none:=by
      have hs1:=c2 hn
      unfold Addr.add at hs1
      split at hs1
      ·exact hs1
      ·rename_i hne
       obtain⟨y0,hy0⟩:=h2 0 0 (List.getElem?_range (by omega))
       obtain⟨vs0,hvs0,_⟩:=Option.bind_eq_some_iff.1 hy0
       rw[he.nc] at hvs0
       have:=(cells?_some hvs0).2.1 hn
       simpa[Addr.add] using this
     obtain⟨b,o,s⟩:=a
     simp only at hs
     subst hs
     rw[add_none] at c3
     exact⟨x,vs,F,rfl,c3 rfl,hV⟩
    by_cases h0:len=0
    ·subst h0
     exact⟨[],[],some a,cap,rfl,Nat.zero_le _,hcm,.inl ⟨rfl,rfl⟩⟩
    ·obtain⟨_,_,_,hsp,_⟩:=each 0 (by omega)
     obtain⟨b,o,s⟩:=a
     simp only at hsp
     subst hsp
     have cho:∀m,m≤len→∃(l:List α) (Fs:List (List Nat)),l.length=m∧Elems R w b o l Fs:=by
      intro m
      induction m with
      |zero=>intro _;exact⟨[],[],rfl,rfl,fun k x hx=>by simp at hx⟩
      |succ m ih=>
       intro hm
       obtain⟨l,Fs,hl,hF,hE⟩:=ih (by omega)
       obtain⟨x,vs,F,_,hcl,hV⟩:=each m (by omega)
       refine⟨l++[x],Fs++[F],by simp[hl],by simp[hF],fun k y hy=>?_⟩
       by_cases hk:k<l.length
       ·rw[List.getElem?_append_left hk] at hy
        obtain⟨us,e1,e2⟩:=hE k y hy
        refine⟨us,e1,?_⟩
        have:(Fs++[F]).getD k []=Fs.getD k []:=by
         simp only[List.getD_eq_getElem?_getD];rw[List.getElem?_append_left (by omega)]
        rw[this];exact e2
       ·rw[List.getElem?_append_right (by omega)] at hy
        have hk2:k=m:=by
         have:=(List.getElem?_eq_some_iff.1 hy).1
         simp at this;omega
        subst hk2
        rw[hl] at hy
        simp at hy
        subst hy
        refine⟨vs,hcl,?_⟩
        have:(Fs++[F]).getD k []=F:=by
         simp only[List.getD_eq_getElem?_getD];rw[List.getElem?_append_right (by omega)]
         simp[hF,hl]
        rw[this];exact hV
     obtain⟨l,Fs,hl,hE⟩:=cho len (Nat.le_refl _)
     have hthere:There w b:=by
      obtain⟨x,vs,F,_,hcl,hV⟩:=each 0 (by omega)
      refine hcl.there (fun e=>?_)
      have:=R.len hV
      rw[e] at this;simp at this;omega
     exact⟨l,b::Fs.flatten,some ⟨b,o,none⟩,cap,by rw[hl],by omega,hcm,.inr ⟨b,o,Fs,rfl,rfl,hthere,hE⟩⟩
   ·cases h
theorem Rds.arg1{P:Program}{t:Nat}{α:Type}{R:Rp α}(hr:Rds P t R){H:Type}{enc:TypeId×Value→H}{w:World}{v:Value}{d:DataW H}{ps:List MemPlace}(h:DataW.Trod enc P w 0 (fun _=>true) true t v d ps)(hv:v.cells=#[v]):∃x F,R.V w x [v] F:=by
 obtain⟨fuel,hf⟩:=h
 rw[hv] at hf
 exact hr.h enc w fuel _ _ _ hf
end Go.Proofs.YtjmjamhhppoimaaGreat.G
