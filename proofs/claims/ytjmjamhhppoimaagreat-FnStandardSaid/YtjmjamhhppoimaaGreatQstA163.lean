/- Texts that the proof needs: A162, A166, Uz, A163. -/
import Derived.Test.YtjmjamhhppoimaaGreatQstA161
namespace Go.Proofs.YtjmjamhhppoimaaGreat.V
open V.Enc (enc)
open Go.RowKit G D
set_option linter.unusedVariables false
set_option linter.unusedSimpArgs false
set_option maxHeartbeats 4000000
set_option maxRecDepth 4000
attribute [local irreducible] AW ARg ARA ARet MRet ASil AC AM AMx
abbrev strA(s:ByteArray):AV:=.q fun v=>v=.string s
theorem l1Pick_x(b:List UInt8)(hl:b.length≤1048576)(l:List ByteArray)(h0:0<l.length)(h1:l.length≤1000):AD Tryz.prog 335 [ar false l] b (fun s:ByteArray=>∃k,k<l.length∧s=l.getD k default) (fun s=>[strA s]):=by
 refine AD.go Tryz.func335 Tryz.ntmps335 rfl rfl fun i h hi w0 mp hw=>?_;simp[WfL,WfA,E_length,Enc.enc,In64] at hw
 have hB:=l1Below_x b hl l.length
 repeat' first|refine s1 ?_|(refine kR ?_;first|(refine F.dr 0 (hB) (by assumption) ?_;intro x i2 h2 hx hi2;refine F.xk ?_))|fail
 obtain⟨k,rfl⟩:∃k:Nat,x=k:=⟨x.toNat,by have:=hx.1 (by omega);omega⟩
 have hk:=hx.1 (by omega)
 clear hx
 repeat' first|refine s1 ?_|fail
 exact F.rd (l.getD k default) ⟨k,by omega,rfl⟩ hi2 (F.retM rfl ⟨rfl,trivial⟩)
theorem digit_x(n:Int)(hn:0≤n∧n≤9):AMx Tryz.prog 394 [.i n] [] (fun s:ByteArray=>s.size=1) (fun s=>[strA s]) (fun _=>[]):=by
 refine AMx.go Tryz.func394 Tryz.ntmps394 rfl rfl fun w0 mp hw=>?_;simp[WfL,WfA,E_length,Enc.enc,In64] at hw
 by_cases h0:n=0
 ·repeat' first|refine s1 ?_|fail
  exact F.rx _ rfl (F.retM rfl trivial)
 ·repeat' first|refine s1 ?_|fail
  refine F.loop (σ:=Nat×ByteArray) [0,3,5,10,11,12,13,14,15,16,17,18,19,20,21,22,23,24,25,26] (fun s=>[(0,.i (if s.1=0 then n else 0)),(3,strA s.2)]) (fun _=>[]) (fun s=>s.1≤1∧s.2.size=s.1) (fun s=>1-s.1) (0,_) ⟨rfl,rfl,trivial⟩ trivial ⟨by simp,rfl⟩ ?_
  rintro⟨k,s⟩ ⟨h1,h2⟩
  dsimp only at h1 h2⊢
  by_cases hk:k=0
  ·subst hk
   rw[if_pos rfl]
   repeat' first|refine s1 ?_|(refine kR ?_;first|refine F.sil (A.remP rfl rfl (by omega) (by omega)) rfl rfl ?_|refine F.sil (A.cvIQ rfl) rfl rfl ?_|refine F.lit1C (a:=.q _) rfl rfl rfl rfl ?_|refine F.sil (A.cvB1 rfl rfl) rfl rfl ?_|refine F.sil (A.addStr rfl rfl (by rw[strOfNums_size];simp;omega)) rfl rfl ?_|refine F.sil (A.quoP rfl rfl (by omega) (by omega)) rfl rfl ?_)|fail
   exact⟨(1,_),F.fit ⟨iE (by simp;omega),rfl,trivial⟩ trivial,⟨by simp,by simp[ByteArray.size_append,strOfNums_size,h2]⟩,by simp⟩
  ·rw[if_neg hk]
   repeat' first|refine s1 ?_|fail
   exact F.rx s (by omega) (F.retM rfl trivial)
theorem specFormatQuiver_x(q:Quiv):AMx Tryz.prog 382 [.agg (enc false q)] [] (fun s:ByteArray=>s.size≤20) (fun s=>[strA s]) (fun _=>[]):=by
 refine AMx.go Tryz.func382 Tryz.ntmps382 rfl rfl fun w0 mp hw=>?_;simp[WfL,WfA,E_length,Enc.enc,In64] at hw
 have hQ:=specIsQuiver_a q
 cases hq:okQ q with
 |false=>
  rw[hq] at hQ
  repeat' first|refine s1 ?_|(refine kR ?_;first|refine F.c (hQ) ?_)|fail
  exact F.rx .empty (by decide) (F.retM rfl trivial)
 |true=>
  rw[hq] at hQ
  have h5:=okQ_spec hq
  have hD:=digit_x q.n (by omega)
  repeat' first|refine s1 ?_|(refine kR ?_;first|refine F.c (hQ) ?_|(refine F.x [] (hD) ?_;rintro s hs;refine F.xk ?_)|refine F.sil (A.addStr rfl rfl (by rw[hs];decide)) rfl rfl ?_)|fail
  refine AW.freezeP (α:=Quiv) (oo:=false) q 1 rfl rfl ?_
  refine F.loop (σ:=Nat×ByteArray) [3,4,12,13,14,15,16,17,18,19,20,21,22,23,24,25,26,27,28,29,30,31,32,33,34] (fun s=>[(3,strA s.2),(4,.i s.1)]) (fun _=>[]) (fun s=>s.1≤q.fr.length∧s.2.size=2+3*s.1) (fun s=>q.fr.length-s.1) (0,_) ⟨rfl,rfl,trivial⟩ trivial ⟨Nat.zero_le _,by simp[ByteArray.size_append,hs];rfl⟩ ?_
  rintro⟨k,z⟩ ⟨k1,k2⟩
  dsimp only at k1 k2⊢
  by_cases hk:k<q.fr.length
  ·have f:0≤q.fr.getD k default∧q.fr.getD k default<q.n:=okQ_fr hq (by omega)
   have t:0≤q.to.getD k default∧q.to.getD k default<q.n:=okQ_to hq (by omega)
   have hF:=digit_x (q.fr.getD k default) (by omega)
   have hT:=digit_x (q.to.getD k default) (by omega)
   repeat' first|refine s1 ?_|fail
   refine AW.draw 17 G.mixed (by kernel_rfl) ?_
   refine Pz (.p 0<|.p 1<|.p 2<|.l 3<|.p 4<|.p 5<|.l 6<|.p 9<|.l 10<|.p 11<|.p 12<|.l 13<|.o 7 true<|.p 8<|.o 14 true<|.p 15<|.p 16<|.n) ?_
   repeat' first|(refine yU (i:=7) ?_;first|refine s1 ?_|(refine F.x [] (hF) ?_;rintro a ha;refine F.xk ?_))|(refine yU (i:=14) ?_;first|refine s1 ?_|(refine F.x [] (hT) ?_;rintro c hc';refine F.xk ?_))|refine yP (i:=1) ?_ (hs:=by exact(A.addStr rfl rfl (show(z.size:Int)+((1:Nat):Int)≤_ by omega)))|refine yP (i:=8) ?_ (hs:=by exact(A.addStr rfl rfl (by rw[ByteArray.size_append,ha];show((z.size+1:Nat):Int)+((1:Nat):Int)≤_;omega)))|refine yP (i:=15) ?_ (hs:=by exact(A.addStr rfl rfl (by rw[ByteArray.size_append,ByteArray.size_append,ha,hc'];show((z.size+1+1:Nat):Int)+((1:Nat):Int)≤_;omega)))|refine yS ?_|refine s1 ?_|fail
   any_goals refine lf ?_
   all_goals
    repeat' first|refine s1 ?_|fail
    exact⟨(k+1,_),F.fit ⟨rfl,rfl,trivial⟩ trivial,⟨by omega,by rw[ByteArray.size_append,ByteArray.size_append,ByteArray.size_append,ha,hc'];show z.size+1+1+1=2+3*(k+1);omega⟩,by show q.fr.length-(k+1)<q.fr.length-k;omega⟩
  ·repeat' first|refine s1 ?_|fail
   exact F.rx z (by omega) (F.retM rfl trivial)
def cutP(n:Nat)(l:List ByteArray):Prop:=0<l.length∧l.length≤n+1∧∀k,k<l.length→(l.getD k default).size≤n
theorem l6Cut_x(s:ByteArray)(z:Int)(hs:s.size≤1000):AMx Tryz.prog 381 [strA s,.q fun v=>v=.int .u8 z] [] (cutP s.size) (fun l=>[.dt true 1 (E true l)]) (fun _=>[]):=by
 refine AMx.go Tryz.func381 Tryz.ntmps381 rfl rfl fun w0 mp hw=>?_;simp[WfL,WfA,E_length,Enc.enc,In64] at hw
 repeat' first|refine s1 ?_|fail
 refine AW.open 5 1 (.inr rfl) ?_
 refine F.loop (σ:=Nat×List ByteArray×ByteArray) [5,6,7,9,10,11,12,13,14,15,16,17,18,19,20,21,22,23,24,25,26,27,28,29,30] (fun s=>[(5,.sl 0 s.2.1.length 0 s.2.1.length),(6,strA s.2.2),(7,.i s.1)]) (fun s=>[(0,.live false 1 (E true s.2.1))]) (fun x=>x.1≤s.size∧x.2.1.length≤x.1∧x.2.2.size≤x.1∧∀k,k<x.2.1.length→(x.2.1.getD k default).size≤s.size) (fun x=>s.size-x.1) (0,[],_) ⟨rfl,rfl,rfl,trivial⟩ ⟨rfl,trivial⟩ ⟨Nat.zero_le _,Nat.zero_le _,Nat.zero_le _,fun k hk=>absurd hk (Nat.not_lt_zero _)⟩ ?_
 rintro⟨k,l,p⟩ ⟨k1,k2,k3,k4⟩
 dsimp only at k1 k2 k3 k4⊢
 by_cases hk:k<s.size
 ·obtain⟨u,hu⟩:∃u,s[k]?=some u:=⟨s[k],by simp[hk]⟩
  by_cases hz:(u.toNat:Int)=z
  ·repeat' first|refine s1 ?_|(refine kR ?_;first|refine F.sil (A.lenStr (by omega) rfl) rfl rfl ?_|refine F.sil (A.idxStr rfl rfl hu) rfl rfl ?_|refine F.sil (A.eqlQ rfl rfl) rfl rfl ?_|refine F.lit1C (a:=.q _) rfl rfl rfl rfl ?_|refine F.a1 ByteArray ?_)|fail
   exact⟨(k+1,l++[p],_),F.fit ⟨by show _=AV.sl 0 (l++[p]).length 0 (l++[p]).length;rw[List.length_append];rfl,rfl,rfl,trivial⟩ ⟨obE rfl,trivial⟩,⟨by omega,by simp;omega,Nat.zero_le _,fun j hj=>by
    by_cases h:j<l.length
    ·have:=k4 j h
     simpa[List.getElem?_append_left h,List.getD_eq_getElem?_getD] using this
    ·obtain rfl:j=l.length:=by simp at hj;omega
     simp;omega⟩,by show s.size-(k+1)<s.size-k;omega⟩
  ·repeat' first|refine s1 ?_|(refine kR ?_;first|refine F.sil (A.lenStr (by omega) rfl) rfl rfl ?_|refine F.sil (A.idxStr rfl rfl hu) rfl rfl ?_|refine F.sil (A.eqlQ rfl rfl) rfl rfl ?_|refine F.sil (A.slcStr rfl rfl rfl (by omega) (by omega) (by omega)) rfl rfl ?_|refine F.sil (A.addStr rfl rfl (by simp[ByteArray.size_extract];omega)) rfl rfl ?_)|fail
   exact⟨(k+1,l,_),F.fit ⟨rfl,rfl,rfl,trivial⟩ ⟨rfl,trivial⟩,⟨by omega,by show l.length≤k+1;omega,by simp[ByteArray.size_append,ByteArray.size_extract];omega,k4⟩,by show s.size-(k+1)<s.size-k;omega⟩
 ·obtain rfl:k=s.size:=by omega
  repeat' first|refine s1 ?_|(refine kR ?_;first|refine F.sil (A.lenStr (by omega) rfl) rfl rfl ?_|refine F.lit1C (a:=.q _) rfl rfl rfl rfl ?_|refine F.a1 ByteArray ?_)|fail
  refine F.rx (l++[p]) ⟨by simp,by simp;omega,fun j hj=>?_⟩ (F.retM rfl trivial)
  by_cases h:j<l.length
  ·have:=k4 j h
   simpa[List.getElem?_append_left h,List.getD_eq_getElem?_getD] using this
  ·obtain rfl:j=l.length:=by simp at hj;omega
   simp;omega
end Go.Proofs.YtjmjamhhppoimaaGreat.V
namespace Go.Proofs.YtjmjamhhppoimaaGreat.V
open Go.RowKit G D
set_option linter.unusedVariables false
set_option linter.unusedSimpArgs false
set_option maxHeartbeats 4000000
set_option maxRecDepth 4000
attribute [local irreducible] AW ARg ARA ARet MRet ASil AC AM AMx AD
theorem big_a(b:List UInt8):AC Tryz.prog 8 [ar false b] [.b (decide ((1048576:Int)<b.length))]:=by
 refine AC.go Tryz.func8 Tryz.ntmps8 rfl rfl fun w0 hw=>?_;simp[WfL,WfA,E_length,Enc.enc,In64] at hw
 repeat' first|refine s1 ?_|fail
 (refine kZ ?_;exact F.ret rfl)
theorem sameInts_a(xs ys:List Int):AC Tryz.prog 16 [ar false xs,ar false ys] [.b (decide (xs=ys))]:=by
 refine AC.go Tryz.func16 Tryz.ntmps16 rfl rfl fun w0 hw=>?_;simp[WfL,WfA,E_length,Enc.enc,In64] at hw
 by_cases hl:xs.length=ys.length
 ·repeat' first|refine s1 ?_|fail
  refine F.loop (σ:=Nat) [4,5,11,12,13,14,15,16,17,18,19,20,21,22,23,24,25] (fun k=>[(5,.i k)]) (fun _=>[]) (fun k=>k≤xs.length∧∀j,j<k→xs.getD j default=ys.getD j default) (fun k=>xs.length-k) 0 ⟨rfl,trivial⟩ trivial ⟨Nat.zero_le _,fun j hj=>absurd hj (Nat.not_lt_zero _)⟩ ?_
  rintro k ⟨k1,k2⟩
  by_cases hk:k<xs.length
  ·by_cases he:xs.getD k default=ys.getD k default
   ·repeat' first|refine s1 ?_|fail
    refine AW.draw 9 G.mixed (by kernel_rfl) ?_
    refine Pz (.p 0<|.p 1<|.p 2<|.l 3<|.p 4<|.p 5<|.p 6<|.l 7<|.p 8<|.n) ?_
    repeat' first|refine yS ?_|refine s1 ?_|fail
    any_goals refine lf ?_
    all_goals
     repeat' first|refine s1 ?_|fail
     exact⟨k+1,F.fit ⟨rfl,trivial⟩ trivial,⟨by omega,fun j hj=>by rcases Nat.lt_succ_iff_lt_or_eq.1 hj with h|h;exact k2 j h;rw[h];exact he⟩,by omega⟩
   ·have e:decide (xs=ys)=false:=decide_eq_false fun h=>he (by rw[h])
    rw[e]
    repeat' first|refine s1 ?_|fail
    refine AW.draw 9 G.mixed (by kernel_rfl) ?_
    refine Pz (.p 0<|.p 1<|.p 2<|.l 3<|.p 4<|.p 5<|.p 6<|.l 7<|.p 8<|.n) ?_
    repeat' first|refine yS ?_|refine s1 ?_|fail
    any_goals refine lf ?_
    all_goals
     repeat' first|refine s1 ?_|fail
     (refine kZ ?_;exact F.ret rfl)
  ·have e:decide (xs=ys)=true:=decide_eq_true (List.ext_getElem hl fun j h1 h2=>by have:=k2 j (by omega);simpa[h1,h2] using this)
   rw[e]
   repeat' first|refine s1 ?_|fail
   (refine kZ ?_;exact F.ret rfl)
 ·have e:decide (xs=ys)=false:=decide_eq_false fun h=>hl (by rw[h])
  rw[e]
  repeat' first|refine s1 ?_|fail
  (refine kZ ?_;exact F.ret rfl)
end Go.Proofs.YtjmjamhhppoimaaGreat.V
namespace Go.Proofs.YtjmjamhhppoimaaGreat.V
open Go.RowKit G
set_option linter.unusedVariables false
set_option linter.unusedSimpArgs false
def outB:AV→Bool
 |.agg cs=>cs.all pureB&&ownL' cs
 |a=>pureB a&&ownA a
theorem ResM.resL{N:Nat}{C:Nat→Option Conc}{J:Nat→Prop}{w:World}{rs:List AV}{vs:List Value}{F:List Nat}(h:ResM N C J w rs vs F)(ho:rs.all outB=true):ResL w rs vs F:=by
 induction h with
 |nil=>exact .nil
 |@cell a v rs vs F G h1 _ ih=>
  rw[List.all_cons,Bool.and_eq_true] at ho
  refine .cell ?_ (ih ho.2)
  cases a with
  |agg cs=>
   cases h1 with
   |at1 h3 h4 _=>obtain⟨us,rfl,_⟩:=h3;cases h4
  |_=>
   have h2:=ho.1
   simp only[outB,Bool.and_eq_true] at h2
   exact(h1.pure (by simp[h2.1])).own (by simp[ownL',h2.2])
 |@agg cs us rs vs F G h1 _ ih=>
  rw[List.all_cons,Bool.and_eq_true] at ho
  have h2:=ho.1
  simp only[outB,Bool.and_eq_true] at h2
  exact .agg ((h1.pure h2.1).own h2.2) (ih ho.2)
def ACx(P:Program)(f:FuncId)(bs:List AV){ι:Type}(p:ι→Prop)(rs:ι→List AV):Prop:=∀(w:World) (us:List Value),RVs w bs us→Run P f us w fun v w'=>Later w w'∧∃i,p i∧∃vs F,v=tupV vs∧ResL w' (rs i) vs F∧F.Nodup∧∀k∈F,w.heap.size≤k
theorem ACx.ofAMx{P:Program}{f:FuncId}{bs:List AV}{ι:Type}{p:ι→Prop}{rs:ι→List AV}(h:AMx P f bs [] p rs (fun _=>[]))(ho:∀i,(rs i).all outB=true):ACx P f bs p rs:=fun w us hus=>by
 have hS:Sm w (Fr0 w) ⟨fun _=>.no,obS [],0⟩ noC (Fr0 w).J (fr []) w:=by
  refine⟨⟨fun _ _ _=>rfl,Nat.le_refl _,rfl,rfl,rfl⟩,fun _ h=>h,fun t=>trivial,fun _ _=>rfl,(fun o l sz xs h=>by cases h),fun _ _=>rfl,(fun o o' cc cc' _ h=>by cases h),fun k hk=>.inl hk,fun p hp=>by cases hp⟩
 refine(h w (Fr0 w) noC (fr []) us hS hus).mono fun v w' ⟨i,hp,C',J',E',hb,vs,F,e,hR,hL,hF⟩=>?_
 exact⟨Later.ofTouched hb.tch,i,hp,vs,F,e,hR.resL (ho i),hL.nd,fun k hk=>(hL.ge k hk).elim id fun h=>by cases h⟩
section
variable {P : Program} {n : Nat} {w0 : World} {MP : Fr} {Q : Exit → St → Prop} {E : Nat → AV} {hp : Nat → Ob} {nx : Nat} {lb : Bool} {ops : Array Oper} {os : List Oper} {d : Option Tmp} {ty : TypeId} {pos : String} {af : Array Edge} {g : Option (Nat × Bool)} {args : Array Operand} {ats : Array TypeId}
def CC(P:Program)(n:Nat)(w0:World)(MP:Fr)(lb:Bool)(ops:Array Oper)(os:List Oper)(Q:Exit→St→Prop)(E:Nat→AV)(hp:Nat→Ob)(nx:Nat)(d:Option Tmp)(rs:List AV):Prop:=
 ∃zs ob,ThwR nx rs zs ob∧ARg P n w0 MP lb ops os Q ⟨putE E d (tupA zs),addO hp nx ob,nx+ob.length⟩
theorem F.cx {f : FuncId} {bs : List AV} {ι : Type} {p : ι → Prop} {rs : ι → List AV} [hf : IsFn P f] (hc : ACx P f bs p rs) (h : ∀ i, p i → CC P n w0 MP lb ops os Q E hp nx d (rs i)) (hs : SnapL hp (args.toList.map (evA ⟨E, hp, nx⟩)) bs := by (repeat' first | exact SnapL.nil | refine SnapL.i ?_ | refine SnapL.bo ?_ | refine SnapL.q ?_ | refine SnapL.dt ?_ | refine SnapL.slE rfl (by first | rfl | omega | (simp; done) | (simp; omega)) ?_ | refine SnapL.slV rfl (by first | rfl | omega | (simp; done) | (simp; omega)) ?_ | refine SnapL.nd ?_ | refine SnapL.ed ?_ | refine SnapL.nl ?_ | refine SnapL.agg ?_ ?_ | refine SnapL.fn ?_ ?_ | refine SnapL.ip ?_ | refine SnapL.pt rfl rfl rfl rfl ?_ rfl ?_) <;> fail)
    (hw : awant n ops ⟨d, .call ⟨.value (.func f), args, ats⟩, ty, pos, af, g⟩ E true = true := by exact rfl) (hd : fits n d = true := by exact rfl) : ARg P n w0 MP lb ops (⟨d, .call ⟨.value (.func f), args, ats⟩, ty, pos, af, g⟩ :: os) Q ⟨E, hp, nx⟩ := fun E' w ⟨C, Im, hm⟩ => by
  refine G.Rg.call (hc w _ (hs.spec hm (hm.evL _))) rfl (awant_spec (st := ⟨E, hp, nx⟩) hm hw) hd ?_
  rintro v w' ⟨hl, i, hpi, hr⟩
  obtain ⟨zs, ob, ht, hA⟩ := h i hpi
  have hS := hm.called (d := d) ht hl hr
  unfold callS at hS
  rw [putA_eq] at hS
  exact (hA _ _ hS).mono fun e E2 w2 hq => ⟨fun hb => hl.trans (hq.1 hb), hq.2⟩
theorem F.ck{rs zs:List AV}{a:AV}{ob:List (Nat×List (List AV))}(h:ARg P n w0 MP lb ops os Q ⟨putE E d a,addO hp nx ob,nx+ob.length⟩)(ht:ThwR nx rs zs ob:=by(repeat' first|exact ThwR.nil|apply ThwR.agg|apply ThwR.cell|exact Thw.nil|apply Thw.at1 rfl|apply Thw.ow (E_length _ _)|apply Thw.ow rfl)<;>fail)(ha:tupA zs=a:=by exact rfl):CC P n w0 MP lb ops os Q E hp nx d rs:=by
 subst ha;exact⟨zs,ob,ht,h⟩
end
end Go.Proofs.YtjmjamhhppoimaaGreat.V
namespace Go.Proofs.YtjmjamhhppoimaaGreat.V
open V.Enc (enc)
open Go.RowKit G D
set_option linter.unusedVariables false
set_option linter.unusedSimpArgs false
set_option maxHeartbeats 4000000
set_option maxRecDepth 4000
attribute [local irreducible] AW ARg ARA ARet MRet ASil AC AM AMx ACx
theorem specFormatQuiver_c(q:Quiv):ACx Tryz.prog 382 [.agg (enc false q)] (fun s:ByteArray=>s.size≤20) (fun s=>[strA s]):=ACx.ofAMx (specFormatQuiver_x q) (fun s=>rfl)
def lenQ(n:Nat)(q:Quiv):Prop:=q.fr.length≤n∧q.to.length≤n
theorem specParseQuiver_x(s:ByteArray)(hs:s.size≤100):AMx Tryz.prog 336 [strA s] [] (fun x:Quiv×Bool=>lenQ 100 x.1) (fun x=>[.agg (enc true x.1),.b x.2]) (fun _=>[]):=by
 refine AMx.go Tryz.func336 Tryz.ntmps336 rfl rfl fun w0 mp hw=>?_;simp[WfL,WfA,E_length,Enc.enc,In64] at hw
 have hC:=l6Cut_x s 32 (by omega)
 repeat' first|refine s1 ?_|(refine kR ?_;first|(refine F.x [] (hC) ?_;rintro l ⟨l0,l1,l2⟩;refine F.xk ?_))|fail
 have h00:(l.getD (0+0) default).size≤s.size:=l2 0 l0
 by_cases hw2:((l.getD (0+0) default).size:Int)=2
 ·obtain⟨z0,hz0⟩:∃z,(l.getD (0+0) default)[0]?=some z:=⟨_,getElem?_pos _ 0 (by omega)⟩
  have hzb:=UInt8.toNat_lt z0
  by_cases h30:(s.size:Int)≤30
  ·repeat' first|refine s1 ?_|(refine kR ?_;first|refine F.sil (A.lenStr (by omega) rfl) rfl rfl ?_|refine F.sil (A.idxStr (k:=0) rfl rfl hz0) rfl rfl ?_|refine F.sil (A.cvQI rfl (In64.mk (by omega))) rfl rfl ?_)|fail
   generalize hv:(z0.toNat:Int)-48=v
   have hvb:In64 v:=by rw[←hv];unfold In64;omega
   refine AW.only [(0,strA s),(2,.pt 0 1 0 0),(4,.sl 1 l.length 0 l.length),(5,.pt 2 1 0 0),(6,.i 1)] [(0,.live false 3 [[.i 0,.nl,.nl]]),(1,.live false 1 (E true l)),(2,.live false 3 [[.i v,.em,.em]])] 3 ⟨rfl,rfl,rfl,rfl,rfl,trivial⟩ ⟨rfl,rfl,rfl,trivial⟩ rfl ?_
   refine AW.openV (o:=2) (j:=1) 1 rfl rfl (.inr rfl) rfl ?_
   refine AW.openV (o:=2) (j:=2) 1 rfl rfl (.inr rfl) rfl ?_
   refine F.loop (σ:=Nat×List Int×List Int) [3,6,29,30,31,32,33,34,35,36,37,38,39,40,41,42,43,44,45,46,47,48,49,50,51,52,53,54,55,56,57,58,59,60,61,62,63,64,65] (fun x=>[(6,.i ((x.1+1:Nat):Int))]) (fun x=>[(2,.live false 3 [[.i v,.sl 3 x.1 0 x.1,.sl 4 x.1 0 x.1]]),(3,.live false 1 (E true x.2.1)),(4,.live false 1 (E true x.2.2))]) (fun x=>x.1+1≤l.length∧x.2.1.length=x.1∧x.2.2.length=x.1) (fun x=>l.length-x.1) (0,[],[]) ⟨rfl,trivial⟩ ⟨rfl,rfl,rfl,trivial⟩ ⟨by omega,rfl,rfl⟩ ?_
   rintro⟨k,fr,to⟩ ⟨k1,k2,k3⟩
   dsimp only at k1 k2 k3⊢
   by_cases hk:k+1<l.length
   ·have hk0:(l.getD (0+(k+1)) default).size≤s.size:=by rw[Nat.zero_add];exact l2 (k+1) hk
    by_cases hs2:((l.getD (0+(k+1)) default).size:Int)=2
    ·obtain⟨u0,hu0⟩:∃z,(l.getD (0+(k+1)) default)[0]?=some z:=⟨_,getElem?_pos _ 0 (by omega)⟩
     obtain⟨u1,hu1⟩:∃z,(l.getD (0+(k+1)) default)[1]?=some z:=⟨_,getElem?_pos _ 1 (by omega)⟩
     have hub0:=UInt8.toNat_lt u0
     have hub1:=UInt8.toNat_lt u1
     repeat' first|refine s1 ?_|(refine kR ?_;first|refine F.sil (A.lenStr (by omega) rfl) rfl rfl ?_)|fail
     refine AW.draw 10 G.mixed (by kernel_rfl) ?_
     refine Pz (.p 0<|.l 1<|.p 2<|.p 3<|.p 4<|.l 5<|.p 6<|.p 7<|.p 8<|.o 9 true<|.o 10 false<|.p 11<|.o 12 false<|.n) ?_
     repeat' first|refine yP (i:=6) ?_ (hs:=by exact(A.idxStr (k:=0) rfl rfl hu0))|refine yP (i:=7) ?_ (hs:=by exact(A.cvQI rfl (In64.mk (by omega))))|(refine yU (i:=10) ?_;first|refine s1 ?_|refine F.a1 Int ?_)|refine yS ?_|refine s1 ?_|fail
     any_goals refine lf ?_
     all_goals
      refine ATh.normal ?_
      refine AW.draw 10 G.mixed (by kernel_rfl) ?_
      refine Pz (.p 0<|.l 1<|.p 2<|.p 3<|.p 4<|.l 5<|.p 6<|.p 7<|.p 8<|.o 9 true<|.o 10 false<|.p 11<|.o 12 false<|.n) ?_
      repeat' first|refine yP (i:=6) ?_ (hs:=by exact(A.idxStr (k:=1) rfl rfl hu1))|refine yP (i:=7) ?_ (hs:=by exact(A.cvQI rfl (In64.mk (by omega))))|(refine yU (i:=10) ?_;first|refine s1 ?_|refine F.a1 Int ?_)|refine yS ?_|refine s1 ?_|fail
      any_goals refine lf ?_
      all_goals
       repeat' first|refine s1 ?_|fail
       exact⟨(k+1,fr++[(u0.toNat:Int)-48],to++[(u1.toNat:Int)-48]),F.fit ⟨rfl,trivial⟩ ⟨rfl,obE rfl,obE rfl,trivial⟩,⟨by omega,by simp;omega,by simp;omega⟩,by show l.length-(k+1)<l.length-k;omega⟩
    ·repeat' first|refine s1 ?_|(refine kR ?_;first|refine F.sil (A.lenStr (by omega) rfl) rfl rfl ?_)|fail
     exact F.rx (⟨0,[],[]⟩,false) ⟨Nat.zero_le _,Nat.zero_le _⟩ (F.retM rfl trivial)
   ·obtain hkl:k+1=l.length:=by omega
    have hF:=specFormatQuiver_c ⟨v,fr,to⟩
    repeat' first|refine s1 ?_|(refine kR ?_;first|(refine F.cx (hF) ?_;rintro z hz;refine F.ck ?_)|refine F.sil (A.neqS rfl rfl) rfl rfl ?_)|fail
    generalize (z.toList !=s.toList)=c
    cases c with
    |true=>
     repeat' first|refine s1 ?_|fail
     exact F.rx (⟨0,[],[]⟩,false) ⟨Nat.zero_le _,Nat.zero_le _⟩ (F.retM rfl trivial)
    |false=>
     repeat' first|refine s1 ?_|fail
     exact F.rx (⟨v,fr,to⟩,true) ⟨by show fr.length≤100;omega,by show to.length≤100;omega⟩ (F.retM rfl trivial)
  ·repeat' first|refine s1 ?_|(refine kR ?_;first|refine F.sil (A.lenStr (by omega) rfl) rfl rfl ?_)|fail
   exact F.rx (⟨0,[],[]⟩,false) ⟨Nat.zero_le _,Nat.zero_le _⟩ (F.retM rfl trivial)
 ·repeat' first|refine s1 ?_|(refine kR ?_;first|refine F.sil (A.lenStr (by omega) rfl) rfl rfl ?_)|fail
  exact F.rx (⟨0,[],[]⟩,false) ⟨Nat.zero_le _,Nat.zero_le _⟩ (F.retM rfl trivial)
def nameL:List ByteArray:=[⟨#[65,49]⟩,⟨#[65,50]⟩,⟨#[65,51]⟩,⟨#[65,51,105,110]⟩,⟨#[65,52]⟩,⟨#[68,52]⟩,⟨#[68,53]⟩,⟨#[75,50]⟩,⟨#[115,116,97,114,52]⟩,⟨#[115,113,117,97,114,101]⟩,⟨#[108,111,111,112]⟩,⟨#[99,105,114,99,108,101]⟩]
theorem l6Names_a:AC Tryz.prog 380 [] [.dt true 1 (E true nameL)]:=by
 refine AC.go Tryz.func380 Tryz.ntmps380 rfl rfl fun w0 hw=>?_;simp[WfL,WfA,E_length,Enc.enc,In64] at hw
 repeat' first|refine s1 ?_|(refine kR ?_;first|refine F.litN (xs:=V.E true nameL) rfl rfl rfl rfl rfl rfl rfl rfl ?_)|fail
 (refine kZ ?_;exact F.ret rfl)
theorem specNamedQuiver_x(s:ByteArray):AMx Tryz.prog 235 [strA s] [] (fun x:Quiv×Bool=>lenQ 100 x.1) (fun x=>[.agg (enc true x.1),.b x.2]) (fun _=>[]):=by
 refine AMx.go Tryz.func235 Tryz.ntmps235 rfl rfl fun w0 mp hw=>?_;simp[WfL,WfA,E_length,Enc.enc,In64] at hw
 have hP:=fun t ht=>specParseQuiver_x t ht
 iterate 14 (refine s1 ?_)
 refine F.cut (σ:=ByteArray) [4,8,9,10,11,12,13,14,15,16,17,18,19,20,21,22,23,24,25,26,27,28,29,30,31] (fun t=>[(4,strA t)]) (fun _=>[]) (fun t=>t.size≤100) ?_ (fun t ht=>?_)
 ·repeat' first|refine s1 ?_|(refine kR ?_;first|refine F.sil (A.eqlS rfl rfl) rfl rfl ?_)|(refine s2 ?_ ?_<;>intro hc<;>(try simp only[decide_eq_true_eq,decide_eq_false_iff_not,Bool.not_eq_true',Bool.not_eq_false'] at hc))|fail
  all_goals exact⟨_,F.fit ⟨rfl,trivial⟩ trivial,by show ByteArray.size _≤_;decide⟩
 ·repeat' first|refine s1 ?_|(refine kR ?_;first|(refine F.x [] ((hP t ht)) ?_;rintro⟨q,c⟩ hq;refine F.xk ?_))|fail
  exact F.rx (q,c) hq (F.retM rfl trivial)
end Go.Proofs.YtjmjamhhppoimaaGreat.V
