/- Texts that the proof needs: Ur, Uk. -/
import Derived.Test.YtjmjamhhppoimaaGreatQspUj
namespace Go.Proofs.YtjmjamhhppoimaaGreat.V
open Go.RowKit G D
set_option linter.unusedVariables false
set_option linter.unusedSimpArgs false
inductive Pl
 |n
 |p (i:Nat) (r:Pl)
 |l (i:Nat) (r:Pl)
 |k (i:Nat) (r:Pl)
 |j (i:Nat) (r:Pl)
 |o (i:Nat) (b:Bool) (r:Pl)
 |g (d:Nat) (r:Pl)
 |h (i:Nat) (r:Pl)
 |a (bs:List (Nat×Bool×Pl))
def PA(_:Pl)(G:Prop):Prop:=G
def PO(_:Nat)(G:Prop):Prop:=G
def PN(G:Prop):Prop:=G
def ABs(F:Nat→Bool→Pl→Prop):List (Nat×Bool×Pl)→Prop
 |[]=>True
 |(i,b,r)::bs=>F i b r∧ABs F bs
theorem ABs.mem{F:Nat→Bool→Pl→Prop}:∀{bs:List (Nat×Bool×Pl)},ABs F bs→∀i∈bs.map (·.1),∃b r,F i b r
 |[],_,i,hi=>by simp at hi
 |(j,b,r)::bs,h,i,hi=>by
  rw[List.map_cons,List.mem_cons] at hi
  rcases hi with rfl|hi
  ·exact⟨b,r,h.1⟩
  ·exact ABs.mem h.2 i hi
theorem Pz(pl:Pl){G:Prop}(h:PA pl G):G:=h
theorem yU{i:Nat}{G:Prop}(h:G):PO i G:=h
theorem lf{G:Prop}(h:G):PN G:=h
theorem yH{i:Nat}{r:Pl}{G G':Prop}(h:PA r G')(f:G'→G):PA (.h i r) G:=f h
theorem kkP{i:Nat}{r:Pl}{G:Prop}(h:PA (.p i r) G):PA (.k i r) G:=h
theorem jjL{i:Nat}{r:Pl}{G:Prop}(h:PA (.l i r) G):PA (.j i r) G:=h
section
variable {P : Program} {w0 : World} {MP : Fr} {st : St} {o : Oper} {a : AV}
theorem silA(h:ASil true P w0 MP st o a:=by
 first
  |exact A.mov (a:=.i _) rfl|exact A.mov (a:=.b _) rfl|exact A.mov (a:=.sl _ _ _ _) rfl|exact A.mov (a:=.dt _ _ _) rfl|exact A.mov (a:=.agg _) rfl|exact A.mov (a:=.nl) rfl|exact A.mov (a:=.em) rfl|exact A.mov (a:=.pt _ _ _ _) rfl|exact A.mov (a:=.ip _) rfl|exact A.mov (a:=.fn _ _) rfl|exact A.mov (a:=.tu _) rfl|exact A.mov (a:=.q _) rfl|exact A.mov rfl|exact A.asg (a:=.i _) rfl|exact A.asg (a:=.b _) rfl|exact A.asg (a:=.sl _ _ _ _) rfl|exact A.asg (a:=.dt _ _ _) rfl|exact A.asg (a:=.agg _) rfl|exact A.asg (a:=.nl) rfl|exact A.asg (a:=.em) rfl|exact A.asg (a:=.pt _ _ _ _) rfl|exact A.asg (a:=.ip _) rfl|exact A.asg (a:=.fn _ _) rfl|exact A.asg (a:=.tu _) rfl|exact A.asg (a:=.q _) rfl|exact A.asg rfl|exact A.fldP rfl|exact A.fldI rfl rfl|exact A.lss rfl rfl|exact A.add rfl rfl (by first|assumption|exact In64.mk (by omega))|exact A.sub rfl rfl (by first|assumption|exact In64.mk (by omega))|exact A.eql rfl rfl|exact A.neq rfl rfl|exact A.leq rfl rfl|exact A.gtr rfl rfl|exact A.geq rfl rfl|exact A.mul rfl rfl (by first|assumption|exact In64.mk (by omega))|exact A.remP rfl rfl (by omega) (by omega)|exact A.quoP rfl rfl (by omega) (by omega)|exact A.eqN rfl|exact A.idxE (k:=0) rfl rfl rfl (by first|rfl|omega|(simp;done)|(simp;omega)) rfl (by first|omega|(simp;omega))|exact A.idxF (k:=0) rfl rfl rfl (by first|omega|(simp;omega))|exact A.idxS (k:=0) rfl rfl rfl rfl rfl (by first|omega|(simp;omega))|exact A.idxD (k:=0) rfl rfl rfl rfl|exact A.idxE (k:=1) rfl rfl rfl (by first|rfl|omega|(simp;done)|(simp;omega)) rfl (by first|omega|(simp;omega))|exact A.idxF (k:=1) rfl rfl rfl (by first|omega|(simp;omega))|exact A.idxS (k:=1) rfl rfl rfl rfl rfl (by first|omega|(simp;omega))|exact A.idxD (k:=1) rfl rfl rfl rfl|exact A.idxE rfl rfl rfl (by first|rfl|omega|(simp;done)|(simp;omega)) rfl (by first|omega|(simp;omega))|exact A.idxF rfl rfl rfl (by first|omega|(simp;omega))|exact A.idxE rfl rfl rfl (by first|rfl|omega|(simp;done)|(simp;omega)) (Int.toNat_of_nonneg (by omega)).symm (by first|omega|(simp;omega))|exact A.idxF rfl rfl (Int.toNat_of_nonneg (by omega)).symm (by first|omega|(simp;omega))|exact A.idxS rfl rfl rfl rfl rfl (by first|omega|(simp;omega))|exact A.notT rfl|exact A.notF rfl|exact A.not rfl|exact A.neg rfl (by first|assumption|exact In64.mk (by omega))|exact A.pickT (a:=.b _) rfl rfl|exact A.pickF (a:=.b _) rfl rfl|exact A.pickT (a:=.i _) rfl rfl|exact A.pickF (a:=.i _) rfl rfl|exact A.pickT (a:=.sl _ _ _ _) rfl rfl|exact A.pickF (a:=.sl _ _ _ _) rfl rfl|exact A.pickT (a:=.dt _ _ _) rfl rfl|exact A.pickF (a:=.dt _ _ _) rfl rfl|exact A.pickT (a:=.agg _) rfl rfl|exact A.pickF (a:=.agg _) rfl rfl|exact A.ext rfl rfl|exact A.mkF rfl|exact A.addW rfl rfl|exact A.subW rfl rfl|exact A.mulW rfl rfl|exact A.lenS rfl|exact A.lenE rfl|exact A.lenN rfl|exact A.lenM rfl|exact A.lenD rfl|exact A.slcS rfl rfl rfl rfl rfl (by first|omega|(simp;omega)) (by first|omega|(simp;omega))|exact A.slcD rfl rfl rfl (by first|omega|(simp;omega)) (by first|omega|(simp;omega))|exact A.bl (rs:=[_,_,_]) (by repeat' first|exact Bq.nil|apply Bq.cons (a:=.i _) rfl rfl|apply Bq.cons (a:=.sl _ _ _ _) rfl rfl|apply Bq.cons (a:=.dt _ _ _) rfl rfl|apply Bq.cons (a:=.b _) rfl rfl|apply Bq.cons (a:=.nl) rfl rfl|apply Bq.cons (a:=.em) rfl rfl|apply Bq.cons (a:=.agg _) rfl rfl) rfl|exact A.bl (rs:=[_,_]) (by repeat' first|exact Bq.nil|apply Bq.cons (a:=.i _) rfl rfl|apply Bq.cons (a:=.sl _ _ _ _) rfl rfl|apply Bq.cons (a:=.dt _ _ _) rfl rfl|apply Bq.cons (a:=.b _) rfl rfl|apply Bq.cons (a:=.nl) rfl rfl|apply Bq.cons (a:=.em) rfl rfl|apply Bq.cons (a:=.agg _) rfl rfl) rfl|exact A.bl (rs:=[_,_,_,_,_,_]) (by repeat' first|exact Bq.nil|apply Bq.cons (a:=.i _) rfl rfl|apply Bq.cons (a:=.sl _ _ _ _) rfl rfl|apply Bq.cons (a:=.dt _ _ _) rfl rfl|apply Bq.cons (a:=.b _) rfl rfl|apply Bq.cons (a:=.nl) rfl rfl|apply Bq.cons (a:=.em) rfl rfl|apply Bq.cons (a:=.agg _) rfl rfl) rfl):ASil true P w0 MP st o a:=h
theorem ldA(h:ASil false P w0 MP st o a:=by
 first
  |exact A.ldI rfl|exact A.ldR rfl rfl rfl rfl rfl rfl|exact A.ldE rfl rfl (by first|rfl|omega|(simp;done)|(simp;omega)) (by first|omega|(simp;omega)) rfl rfl|exact A.ldF rfl rfl (by first|rfl|omega|(simp;done)|(simp;omega)) (by first|omega|(simp;omega)) rfl|exact A.ldG rfl rfl rfl|exact A.ldRG rfl rfl rfl rfl rfl rfl rfl|exact A.ldEG rfl rfl (by first|rfl|omega|(simp;done)|(simp;omega)) (by first|omega|(simp;omega)) rfl rfl|exact A.ldFG rfl rfl (by first|rfl|omega|(simp;done)|(simp;omega)) (by first|omega|(simp;omega)) rfl):ASil false P w0 MP st o a:=h
theorem silQ(h:ASil true P w0 MP st o a:=by
 first
  |exact A.idxQ rfl rfl rfl (by omega) (by omega) (by first|rfl|(simp[tab_len];done)) (by first|rfl|(simp[tab_len];done))
  |exact A.idxQD rfl rfl (by omega) (by omega)
  |exact A.idxRD rfl rfl (by omega)):ASil true P w0 MP st o a:=h
end
section
variable {P : Program} {n : Nat} {w0 : World} {MP : Fr} {Q : Exit → St → Prop} {E : Nat → AV} {hp : Nat → Ob} {nx m fuel : Nat} {ops : Array Oper} {listed : Array Bool} {d : Option Tmp} {op : Op} {ty : Nat} {pos : String} {af : Array Edge} {g : Option (Nat × Bool)} {ph : Bool} {I0 : Nat → Prop} {T : Exit → Env → World → Prop} {i : Nat} {r : Pl} {a : AV} {b : Bool}
theorem yP[ANoPan Q](h:PA r (ARA P n w0 MP m ops fuel (listed.setIfInBounds i true) Q ⟨putE E d a,hp,nx⟩))(ho:ops[i]?=some ⟨d,op,ty,pos,af,g⟩:=by exact rfl)(hc:(Region.free .any ops listed i&&(Region.ready .any ops listed).contains i)=true:=by kernel_rfl)(hs:ASil true P w0 MP ⟨E,hp,nx⟩ ⟨d,op,ty,pos,af,g⟩ a:=by exact silA)(hw:awant n ops ⟨d,op,ty,pos,af,g⟩ E true=true:=by exact rfl)(hd:fits n d=true:=by exact rfl):PA (.p i r) (ARA P n w0 MP m ops (fuel+1) listed Q ⟨E,hp,nx⟩):=ARA.pure i ho hc hs hw hd (by rw[putA_eq];exact h)
theorem yL[ANoPan Q](h:PA r (ARA P n w0 MP m ops fuel (listed.setIfInBounds i true) Q ⟨putE E d a,hp,nx⟩))(ho:ops[i]?=some ⟨d,op,ty,pos,af,g⟩:=by exact rfl)(hc:(Nat.blt i m&&isLoad ops i&&Region.free .any ops listed i&&(Region.ready .any ops listed).contains i)=true:=by kernel_rfl)(hs:ASil false P w0 MP ⟨E,hp,nx⟩ ⟨d,op,ty,pos,af,g⟩ a:=by exact ldA)(hw:awant n ops ⟨d,op,ty,pos,af,g⟩ E true=true:=by exact rfl)(hd:fits n d=true:=by exact rfl):PA (.l i r) (ARA P n w0 MP m ops (fuel+1) listed Q ⟨E,hp,nx⟩):=ARA.take i ho hc hs hw hd (by rw[putA_eq];exact h)
theorem yK[ANoPan Q](h:PA r (ARA P n w0 MP m ops fuel (listed.setIfInBounds i true) Q ⟨putE E d (.tu []),hp,nx⟩))(ho:ops[i]?=some ⟨d,op,ty,pos,af,g⟩:=by exact rfl)(hc:(Region.free .any ops listed i&&(Region.ready .any ops listed).contains i)=true:=by kernel_rfl)(hw:awant n ops ⟨d,op,ty,pos,af,g⟩ E false=true:=by exact rfl)(hd:fits n d=true:=by exact rfl):PA (.k i r) (ARA P n w0 MP m ops (fuel+1) listed Q ⟨E,hp,nx⟩):=ARA.skip i ho hc hw hd (by rw[putA_eq];exact h)
theorem yJ[ANoPan Q](h:PA r (ARA P n w0 MP m ops fuel (listed.setIfInBounds i true) Q ⟨putE E d (.tu []),hp,nx⟩))(ho:ops[i]?=some ⟨d,op,ty,pos,af,g⟩:=by exact rfl)(hc:(Region.free .any ops listed i&&(Region.ready .any ops listed).contains i)=true:=by kernel_rfl)(hw:awant n ops ⟨d,op,ty,pos,af,g⟩ E false=true:=by exact rfl)(hd:fits n d=true:=by exact rfl):PA (.j i r) (ARA P n w0 MP m ops (fuel+1) listed Q ⟨E,hp,nx⟩):=ARA.skip i ho hc hw hd (by rw[putA_eq];exact h)
theorem yO{o:Oper}{st:St}(h:PO i (ARg P n w0 MP b ops [o] (ATh (fun st=>PA r (ARA P n w0 MP m ops fuel (listed.setIfInBounds i true) Q st)) Q) st))(ho:ops[i]?=some o:=by exact rfl)(hr:Region.ready .any ops listed=[i]:=by kernel_rfl)(hl:(b||Nat.ble m i)=true:=by exact rfl):PA (.o i b r) (ARA P n w0 MP m ops (fuel+1) listed Q st):=ARA.only i b ho hr hl h
theorem yN{st:St}(h:PN (Q .normal st))(hr:Region.ready .any ops listed=[]:=by kernel_rfl):PA .n (ARA P n w0 MP m ops fuel listed Q st):=ARA.nil hr h
theorem yD(ht:b=true→PA r (ARA P n w0 MP m ops fuel listed Q ⟨updA E i (.b true),hp,nx⟩))(hf:b=false→PA r (ARA P n w0 MP m ops fuel listed Q ⟨updA E i (.b false),hp,nx⟩))(hE:E i=.b b:=by exact rfl):PA (.g i r) (ARA P n w0 MP m ops fuel listed Q ⟨E,hp,nx⟩):=ARA.split i hE ht hf
theorem yT(h:PA r (ARA P n w0 MP m ops fuel listed Q ⟨updA E i (.b true),hp,nx⟩))(hE:E i=.b b:=by exact rfl)(hb:b=true:=by first|assumption|rfl|(simp only[decide_eq_true_eq,Bool.not_eq_true',decide_eq_false_iff_not,Bool.and_eq_true,Bool.or_eq_true];omega)):PA (.g i r) (ARA P n w0 MP m ops fuel listed Q ⟨E,hp,nx⟩):=ARA.split i hE (fun _=>h) (fun hn=>by rw[hb] at hn;cases hn)
theorem yF(h:PA r (ARA P n w0 MP m ops fuel listed Q ⟨updA E i (.b false),hp,nx⟩))(hE:E i=.b b:=by exact rfl)(hb:b=false:=by first|assumption|rfl|(simp only[decide_eq_false_iff_not,Bool.not_eq_false',decide_eq_true_eq,Bool.and_eq_false_iff,Bool.or_eq_false_iff];omega)):PA (.g i r) (ARA P n w0 MP m ops fuel listed Q ⟨E,hp,nx⟩):=ARA.split i hE (fun hn=>by rw[hb] at hn;cases hn) (fun _=>h)
theorem yA{st:St}{bs:List (Nat×Bool×Pl)}(h:ABs (fun i b r=>∃o,ops[i]?=some o∧(b||Nat.ble m i)=true∧PO i (ARg P n w0 MP b ops [o] (ATh (fun st=>PA r (ARA P n w0 MP m ops fuel (listed.setIfInBounds i true) Q st)) Q) st)) bs)(hr:Region.ready .any ops listed=bs.map (·.1):=by kernel_rfl)(hne:bs.isEmpty=false:=by exact rfl):PA (.a bs) (ARA P n w0 MP m ops (fuel+1) listed Q st):=
 ARA.any _ hr (by cases bs with|nil=>cases hne|cons=>simp) fun i hi=>by
  obtain⟨b,r,o,h1,h2,h3⟩:=h.mem i hi
  exact⟨o,b,h1,h2,h3⟩
theorem yC{st:St}{o:Oper}{bs:List (Nat×Bool×Pl)}(h:PO i (ARg P n w0 MP b ops [o] (ATh (fun st=>PA r (ARA P n w0 MP m ops fuel (listed.setIfInBounds i true) Q st)) Q) st))(t:ABs (fun i b r=>∃o,ops[i]?=some o∧(b||Nat.ble m i)=true∧PO i (ARg P n w0 MP b ops [o] (ATh (fun st=>PA r (ARA P n w0 MP m ops fuel (listed.setIfInBounds i true) Q st)) Q) st)) bs)(ho:ops[i]?=some o:=by exact rfl)(hl:(b||Nat.ble m i)=true:=by exact rfl):ABs (fun i b r=>∃o,ops[i]?=some o∧(b||Nat.ble m i)=true∧PO i (ARg P n w0 MP b ops [o] (ATh (fun st=>PA r (ARA P n w0 MP m ops fuel (listed.setIfInBounds i true) Q st)) Q) st)) ((i,b,r)::bs):=⟨⟨o,ho,hl,h⟩,t⟩
theorem xP(h:PA r (ARI ph I0 T P n w0 MP ops fuel (listed.setIfInBounds i true) Q ⟨putE E d a,hp,nx⟩))(ho:ops[i]?=some ⟨d,op,ty,pos,af,g⟩:=by exact rfl)(hc:(Region.free .any ops listed i&&(Region.ready .any ops listed).contains i)=true:=by kernel_rfl)(hs:ASil true P w0 MP ⟨E,hp,nx⟩ ⟨d,op,ty,pos,af,g⟩ a:=by exact silA)(hw:awant n ops ⟨d,op,ty,pos,af,g⟩ E true=true:=by exact rfl)(hd:fits n d=true:=by exact rfl):PA (.p i r) (ARI ph I0 T P n w0 MP ops (fuel+1) listed Q ⟨E,hp,nx⟩):=ARI.pure i ho hc hs hw hd (by rw[putA_eq];exact h)
theorem xL(h:PA r (ARI true I0 T P n w0 MP ops fuel (listed.setIfInBounds i true) Q ⟨putE E d a,hp,nx⟩))(ho:ops[i]?=some ⟨d,op,ty,pos,af,g⟩:=by exact rfl)(hc:(Region.free .any ops listed i&&(Region.ready .any ops listed).contains i)=true:=by kernel_rfl)(hs:ASilI P w0 MP ⟨E,hp,nx⟩ ⟨d,op,ty,pos,af,g⟩ a:=by first|exact A.ldII rfl|exact A.ldGI rfl rfl rfl)(hw:awant n ops ⟨d,op,ty,pos,af,g⟩ E true=true:=by exact rfl)(hd:fits n d=true:=by exact rfl):PA (.l i r) (ARI true I0 T P n w0 MP ops (fuel+1) listed Q ⟨E,hp,nx⟩):=ARI.take i ho hc hs hw hd (by rw[putA_eq];exact h)
theorem xA{st:St}{bs:List (Nat×Bool×Pl)}(h:ABs (fun i b r=>∃o,ops[i]?=some o∧PO i (ARg P n w0 MP false ops [o] (ATh (fun st=>PA r (ARI false I0 T P n w0 MP ops fuel (listed.setIfInBounds i true) Q st)) Q) st)) bs)(hr:Region.ready .any ops listed=bs.map (·.1):=by kernel_rfl)(hne:bs.isEmpty=false:=by exact rfl):PA (.a bs) (ARI ph I0 T P n w0 MP ops (fuel+1) listed Q st):=
 ARI.any _ hr (by cases bs with|nil=>cases hne|cons=>simp) fun i hi=>by
  obtain⟨b,r,o,h1,h3⟩:=h.mem i hi
  exact⟨o,h1,h3⟩
theorem xO{o:Oper}{st:St}(h:PO i (ARg P n w0 MP false ops [o] (ATh (fun st=>PA r (ARI false I0 T P n w0 MP ops fuel (listed.setIfInBounds i true) Q st)) Q) st))(ho:ops[i]?=some o:=by exact rfl)(hr:Region.ready .any ops listed=[i]:=by kernel_rfl):PA (.o i b r) (ARI ph I0 T P n w0 MP ops (fuel+1) listed Q st):=xA (bs:=[(i,b,r)]) ⟨⟨o,ho,h⟩,trivial⟩ hr rfl
theorem xC{st:St}{o:Oper}{bs:List (Nat×Bool×Pl)}(h:PO i (ARg P n w0 MP false ops [o] (ATh (fun st=>PA r (ARI false I0 T P n w0 MP ops fuel (listed.setIfInBounds i true) Q st)) Q) st))(t:ABs (fun i b r=>∃o,ops[i]?=some o∧PO i (ARg P n w0 MP false ops [o] (ATh (fun st=>PA r (ARI false I0 T P n w0 MP ops fuel (listed.setIfInBounds i true) Q st)) Q) st)) bs)(ho:ops[i]?=some o:=by exact rfl):ABs (fun i b r=>∃o,ops[i]?=some o∧PO i (ARg P n w0 MP false ops [o] (ATh (fun st=>PA r (ARI false I0 T P n w0 MP ops fuel (listed.setIfInBounds i true) Q st)) Q) st)) ((i,b,r)::bs):=⟨⟨o,ho,h⟩,t⟩
theorem xN{st:St}(h:PN (Q .normal st))(hr:Region.ready .any ops listed=[]:=by kernel_rfl):PA .n (ARI ph I0 T P n w0 MP ops fuel listed Q st):=ARI.nil hr h
end
theorem yS{p p':Prop}(h:p')(hs:p'→p:=by
 intro h
 first|exact yP h|exact yL h|exact yU h|exact ARg.nil (ATh.normal h)|exact yO h|exact yK h|exact kkP h|exact yJ h|exact jjL h|exact yA h|exact yN h|exact yT h|exact yF h):p:=hs h
theorem xS{p p':Prop}(h:p')(hs:p'→p:=by
 intro h
 first|exact xP h|exact xL h|exact yU h|exact ARg.nil (ATh.normal h)|exact xO h|exact xK h|exact kkP h|exact xJ h|exact jjL h|exact xA h|exact xN h|exact xT h|exact xF h):p:=hs h
theorem ySQ{p p':Prop}(h:p')(hs:p'→p:=by
 intro h
 first|exact yP h|exact yL h|exact yP h (hs:=by exact silQ)|exact yL h (hs:=by exact A.ldQ rfl rfl (by omega) (by omega) (by first|rfl|(simp[tab_len];done)))|exact yU h|exact ARg.nil (ATh.normal h)|exact yO h|exact yK h|exact kkP h|exact yJ h|exact jjL h|exact yA h|exact yN h|exact yT h|exact yF h):p:=hs h
theorem xSQ{p p':Prop}(h:p')(hs:p'→p:=by
 intro h
 first|exact xP h|exact xL h|exact xP h (hs:=by exact silQ)|exact yU h|exact ARg.nil (ATh.normal h)|exact xO h|exact xK h|exact kkP h|exact xJ h|exact jjL h|exact xA h|exact xN h|exact xT h|exact xF h):p:=hs h
attribute [irreducible] PA PO PN
theorem RVL.setj{N:Nat}{C:Nat→Option Conc}{Im:Nat→Prop}{w:World}:∀{cs:List AV} {us:List Value} {j:Nat} {a':AV},RVL N C Im w cs us→(∀v,us[j]?=some v→RV N C Im w a' v)→RVL N C Im w (cs.set j a') us
 |[],us,j,a',h,_=>h
 |b::cs,us,0,a',⟨v,vs,h1,h2,h3⟩,hv=>by subst h1;exact⟨v,vs,rfl,hv v rfl,h3⟩
 |b::cs,us,j+1,a',⟨v,vs,h1,h2,h3⟩,hv=>by
  subst h1
  exact⟨v,vs,rfl,h2,RVL.setj h3 fun u hu=>hv u (by simpa using hu)⟩
theorem upsA_flt{β:Type}{S:List Nat}{E:Nat→β}:∀(l:List (Nat×β)) (t:Nat),mem S t=false→upsA l E t=upsA (l.filter fun p=>!mem S p.1) E t
 |[],_,_=>rfl
 |(d,v)::l,t,ht=>by
  have ih:=upsA_flt (S:=S) (E:=E) l t ht
  cases hd:mem S d with
  |true=>
   have hne:t≠d:=by rintro rfl;rw[hd] at ht;cases ht
   rw[List.filter_cons_of_neg (by simp[hd]),←ih]
   exact updA_ne _ _ hne
  |false=>
   rw[List.filter_cons_of_pos (by simp[hd])]
   by_cases e:t=d
   ·subst e;exact(updA_same _ _ _).trans (updA_same _ _ _).symm
   ·exact(updA_ne _ _ e).trans (ih.trans (updA_ne _ _ e).symm)
theorem AgrA.lit{S:List Nat}{l1 l0:List (Nat×AV)}(h:(l1.filter fun p=>!mem S p.1)=l0.filter fun p=>!mem S p.1):AgrA S (upsA l1 fun _=>.no) (upsA l0 fun _=>.no):=fun t ht=>by
 rw[upsA_flt l1 t ht,h,←upsA_flt l0 t ht]
theorem AgrH.lit{m:Nat}{l l0:List (Nat×Ob)}(h0:((keys l0).all fun o=>mem (keys l) o||Nat.ble m o)=true):AgrH m l (fun _=>.dead) (upsA l0 fun _=>.dead):=by
 have a:=AgrH.head (l':=l0) h0 (AgrH.refl (m:=m) (l:=l) (h:=fun _=>Ob.dead))
 exact fun o ho hk=>(a o ho hk).symm
structure Tl (T:Prop):Prop where
 t:T
theorem tailedT{T G:Prop}(h:Tl T→G)(t:T):G:=h ⟨t⟩
theorem Sim.freezeG{w0 w:World}{MP:Fr}{st:St}{E:Env}{t j o m sz:Nat}{l:Bool}{xs ys:List (List AV)}{cs:List AV}(ht:st.E t=.agg cs)(hj:cs[j]?=some (.sl o m 0 m))(hh:st.hp o=.live l sz xs)(hn:xs.length=m)(hp:xs.flatten.all pureB=true)(hy:frzLL ((xs.drop 0).take m)=ys)(hs:Sim w0 MP st E w):
  Sim w0 MP ⟨updA st.E t (.agg (cs.set j (.dt false sz ys))),updA st.hp o .dead,st.nx⟩ E w:=by
 obtain⟨C,Im,hm⟩:=hs
 obtain⟨cc,hcc,hO⟩:=hm.obj o l sz xs hh
 have hv:=hm.slot t
 rw[ht] at hv
 obtain⟨us,hus,hrl⟩:=hv
 obtain⟨v,hvj,hvv⟩:=RVL.get hrl hj
 have hview:=OR.view (J:=fun k=>Im k∨k∈blks cc) hcc hO (fun k hk=>.inl hk) (fun k hk=>.inr hk) hn hvv hp hy
 have h1:=(hm.kill o).imAdd (blks cc) (fun k hk=>(hO.wb k hk).lt) hO.ge (fun o' c' hc' k hk hk'=>by
  by_cases e:o'=o
  ·subst e;rw[updA_same] at hc';cases hc'
  ·rw[updA_ne _ _ e] at hc';exact hm.dis o o' cc c' (Ne.symm e) hcc hc' k hk hk')
 have hs1:=h1.slot t
 have hs2:RV st.nx (updA C o Option.none) (fun k=>Im k∨k∈blks cc) w (.agg cs) (E t):=by rw[←ht];exact hs1
 obtain⟨us2,hus2,hrl2⟩:=hs2
 have hu:us2=us:=by
  rw[hus] at hus2
  have:=Value.agg.inj hus2
  exact(Array.toList_inj.2 this.symm)
 subst hu
 have h2:=h1.upd t (a:=.agg (cs.set j (.dt false sz ys))) (v:=E t) ⟨us2,hus2,RVL.setj hrl2 fun u hu=>by
  rw[hvj] at hu
  cases hu
  exact RV.imm (N:=st.nx) (C:=updA C o Option.none) hview⟩
 rw[G.upd_eq_self rfl] at h2
 exact⟨_,_,h2⟩
section
variable {P : Program} {n : Nat} {w0 : World} {MP : Fr} {Q : Exit → St → Prop} {E : Nat → AV} {hp : Nat → Ob} {nx : Nat} {I0 : Nat → Prop} {T : Exit → Env → World → Prop} {fuel : Nat} {ops : Array Oper} {listed : Array Bool}
theorem dzG{α:Type}[Enc α]{m0:Nat}(t j:Nat){o m sz:Nat}{l oo:Bool}{ls:List α}{cs:List AV}(ht:E t=.agg cs)(hj:cs[j]?=some (.sl o m 0 m))(hh:hp o=.live l sz (V.E oo ls))(hn:ls.length=m)(h:ARA P n w0 MP m0 ops fuel listed Q ⟨updA E t (.agg (cs.set j (.dt false sz (V.E false ls)))),updA hp o .dead,nx⟩):ARA P n w0 MP m0 ops fuel listed Q ⟨E,hp,nx⟩:=
 ARA.ghost (fun E' w hs=>Sim.freezeG (st:=⟨E,hp,nx⟩) ht hj hh (by rw[E_length,hn]) (E_pure oo ls) (by rw[E_drop,E_take,E_frz,take_all hn]) hs) h
end
end Go.Proofs.YtjmjamhhppoimaaGreat.V
