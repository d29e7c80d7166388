/- Texts that the proof needs: Uo, Ue, Up, A160, A161. -/
import Derived.Test.YtjmjamhhppoimaaGreatQstUv
import Derived.Test.YtjmjamhhppoimaaGreatQstUn
import Derived.Laws.BytesArg
import Derived.Laws.Strings2
namespace Go.Proofs.YtjmjamhhppoimaaGreat.V
open Go.RowKit G
set_option linter.unusedVariables false
set_option linter.unusedSimpArgs false
instance:Enc UInt8:=⟨fun _ b=>[.q fun v=>v=.int .u8 (b.toNat:Int)],1,fun _ _=>rfl,fun _ _=>rfl,fun _ _=>rfl,fun _=>rfl⟩
instance:Enc ByteArray:=⟨fun _ b=>[.q fun v=>v=.string b],1,fun _ _=>rfl,fun _ _=>rfl,fun _ _=>rfl,fun _=>rfl⟩
instance:Inhabited ByteArray:=⟨.empty⟩
def andZ(a b:Int):Int:=IntKind.wrap .i64 (((a%18446744073709551616).toNat&&&(b%18446744073709551616).toNat:Nat):Int)
def xorZ(a b:Int):Int:=IntKind.wrap .i64 (((a%18446744073709551616).toNat ^^^ (b%18446744073709551616).toNat:Nat):Int)
theorem wrapI_in(n:Int):In64 (IntKind.wrap .i64 n):=by
 have:=V.In64.wr n
 rwa [←IntWalk.i64_left] at this
theorem andZ_bd(a:Int)(k:Nat)(hk:k≤62):0≤andZ a ((2^k-1:Nat):Int)∧andZ a ((2^k-1:Nat):Int)≤((2^k-1:Nat):Int):=by
 have h1:2^k≤2^62:=Nat.pow_le_pow_right (by omega) hk
 have h0:(((2^k-1:Nat):Int)%18446744073709551616).toNat=2^k-1:=by
  generalize 2^k=z at h1⊢
  omega
 unfold andZ
 rw[h0]
 have h2:(a%18446744073709551616).toNat&&&(2^k-1)≤2^k-1:=Nat.and_le_right
 generalize (a%18446744073709551616).toNat&&&(2^k-1)=r at h2⊢
 rw[IntWalk.i64_in _ (by generalize 2^k=z at h1 h2;omega)]
 omega
section
variable {P : Program} {w0 : World} {MP : Fr} {st : St} {d : Option Tmp} {ty : TypeId} {pos : String} {af : Array Edge} {g : Option (Nat × Bool)} {x y : Operand} {t t' : Nat}
theorem A.andZ{a b:Int}(hx:evA st x=.i a)(hy:evA st y=.i b):ASil true P w0 MP st ⟨d,.binOp .and t x y t',ty,pos,af,g⟩ (.i (V.andZ a b)):=fun C Im E w hm=>by
 have h1:=(hm.evI hx).1
 have h2:=(hm.evI hy).1
 refine⟨.int .i64 (V.andZ a b),fun w'=>?_,rfl,wrapI_in _⟩
 unfold Sil
 intro w2 _
 have e:(BitVec.ofInt 64 a&&&BitVec.ofInt 64 b).toNat=(a%18446744073709551616).toNat&&&(b%18446744073709551616).toNat:=by
  rw[BitVec.toNat_and,BitVec.toNat_ofInt,BitVec.toNat_ofInt]
  rfl
 simp only[execOp,h1,h2,eqGuard,binOp,Op.intBits,IntKind.bits,V.andZ]
 rw[←e]
 rfl
theorem A.xorZ{a b:Int}(hx:evA st x=.i a)(hy:evA st y=.i b):ASil true P w0 MP st ⟨d,.binOp .xor t x y t',ty,pos,af,g⟩ (.i (V.xorZ a b)):=fun C Im E w hm=>by
 have h1:=(hm.evI hx).1
 have h2:=(hm.evI hy).1
 refine⟨.int .i64 (V.xorZ a b),fun w'=>?_,rfl,wrapI_in _⟩
 unfold Sil
 intro w2 _
 have e:(BitVec.ofInt 64 a ^^^ BitVec.ofInt 64 b).toNat=(a%18446744073709551616).toNat ^^^ (b%18446744073709551616).toNat:=by
  rw[BitVec.toNat_xor,BitVec.toNat_ofInt,BitVec.toNat_ofInt]
  rfl
 simp only[execOp,h1,h2,eqGuard,binOp,Op.intBits,IntKind.bits,V.xorZ]
 rw[←e]
 rfl
theorem A.shrU{a:Int}{m:Nat}{k:IntKind}(hx:evA st x=.i a)(hy:evA st y=.q (fun v=>v=.int k (m:Int)))(hm0:m≤62):ASil true P w0 MP st ⟨d,.binOp .shr t x y t',ty,pos,af,g⟩ (.i (a/2^m)):=fun C Im E w hm=>by
 have h1:=hm.evI hx
 have h2:=hm.evQ hy
 have hp:(0:Int)<2^m:=Int.pow_pos (by omega)
 refine⟨.int .i64 (a/2^m),fun w'=>?_,rfl,?_⟩
 ·unfold Sil
  intro w2 _
  have hmm:min m 64=m:=by omega
  have hf:a.fdiv (2^m)=a/2^m:=Int.fdiv_eq_ediv_of_nonneg _ (by omega)
  simp[execOp,h1.1,h2,eqGuard,binOp,Op.shift,IntKind.bits,hmm,hf]
 ·have h3:=h1.2
  generalize (2:Int)^m=z at hp
  have e:=Int.mul_ediv_add_emod a z
  have e2:=Int.emod_nonneg a (Int.ne_of_gt hp)
  have e3:=Int.emod_lt_of_pos a hp
  unfold In64 at*
  constructor
  ·apply Int.le_ediv_of_mul_le hp
   have:(-9223372036854775808:Int)*z≤-9223372036854775808*1:=Int.mul_le_mul_of_nonpos_left (by omega) (by omega)
   omega
  ·apply Int.le_of_lt_add_one
   apply Int.ediv_lt_of_lt_mul hp
   have:(9223372036854775807+1:Int)*1≤(9223372036854775807+1)*z:=Int.mul_le_mul_of_nonneg_left (by omega) (by omega)
   omega
theorem A.nilP{o n k j:Nat}(hx:evA st x=.pt o n k j):ASil true P w0 MP st ⟨d,.nilCheck x,ty,pos,af,g⟩ (.pt o n k j):=fun C Im E w hm=>by
 have h:=hm.ev x
 rw[hx] at h
 obtain⟨b,q,h1,h2⟩:=h
 refine⟨.pointer (some ⟨b,q,none⟩),fun w'=>?_,b,q,rfl,h2⟩
 unfold Sil
 intro w2 _
 simp[execOp,h1]
end
abbrev curO(b:List UInt8)(i h:Int):List (List AV):=[[.dt false 1 (V.E false b),.i i,.i h]]
def okI(b:List UInt8)(i:Int):Prop:=0≤i∧i≤b.length
def AD(P:Program)(f:FuncId)(bs:List AV)(b:List UInt8){α:Type}(p:α→Prop)(rs:α→List AV):Prop:=
 ∀i h,okI b i→AMx P f (.pt 0 1 0 0::bs) [(3,curO b i h)] (fun x:α×Int×Int=>p x.1∧okI b x.2.1) (fun x=>rs x.1) (fun x=>[(3,curO b x.2.1 x.2.2)])
theorem AD.mono{P:Program}{f:FuncId}{bs:List AV}{b:List UInt8}{α:Type}{p q:α→Prop}{rs:α→List AV}(h:AD P f bs b p rs)(hq:∀a,p a→q a):AD P f bs b q rs:=fun i h' hi w mp C E0 us hS hus=>
 (h i h' hi w mp C E0 us hS hus).mono fun v w' ⟨x,hx,hr⟩=>⟨x,⟨hq _ hx.1,hx.2⟩,hr⟩
section
variable {P : Program} {n : Nat} {w0 : World} {MP : Fr} {Q : Exit → St → Prop} {E : Nat → AV} {hp : Nat → Ob} {nx : Nat} {lb : Bool} {ops : Array Oper} {os : List Oper} {d : Option Tmp} {ty : TypeId} {pos : String} {af : Array Edge} {g : Option (Nat × Bool)}
theorem F.dr{α:Type}{p:α→Prop}{rs:α→List AV}{b:List UInt8}{i h:Int}{f:FuncId}{args:Array Operand}{ats:Array TypeId}{bs:List AV}[hf:IsFn P f](o:Nat)(hc:AD P f bs b p rs)(hi:okI b i)
  (hh:∀a i' h',p a→okI b i'→CX P n w0 MP lb ops os Q E hp nx d [o] [(3,curO b i h)] (rs a) [(3,curO b i' h')])
  (hob:ObL hp [o] [(3,curO b i h)]:=by(repeat' first|exact ObL.nil|refine ObL.cons rfl (by first|exact E_pure _ _|rfl) ?_)<;>fail)
  (hs:RenL (fun _=>.dead) [o] (args.toList.map (evA ⟨E,hp,nx⟩)) (.pt 0 1 0 0::bs):=by
   (repeat' first
    |exact RenL.nil
    |refine RenL.sl rfl ?_
    |refine RenL.pt rfl ?_
    |refine RenL.agg ?_ ?_
    |refine RenL.sn (by(repeat' first|exact SnapL.nil|refine SnapL.i ?_|refine SnapL.bo ?_|refine SnapL.q ?_|refine SnapL.dt ?_|refine SnapL.nd ?_|refine SnapL.ed ?_|refine SnapL.nl ?_|refine SnapL.agg ?_ ?_|refine SnapL.fn ?_ ?_|refine SnapL.ip ?_)<;>fail) ?_)<;>fail)
  (hw:awant n ops ⟨d,.call ⟨.value (.func f),args,ats⟩,ty,pos,af,g⟩ E true=true:=by exact rfl) (hd:fits n d=true:=by exact rfl) (hlb:lb=false:=by exact rfl):ARg P n w0 MP lb ops (⟨d,.call ⟨.value (.func f),args,ats⟩,ty,pos,af,g⟩::os) Q ⟨E,hp,nx⟩:=
 F.x [o] (hc i h hi) (fun x hx=>hh x.1 x.2.1 x.2.2 hx.1 hx.2) (by simp) hob hs hw hd (.inl hlb)
end
def MRd(P:Program)(res:List ResultVar){α:Type}(p:α→Prop)(rs:α→List AV)(b:List UInt8):Exit→St→Prop
 |.ret,st|.normal,st=>∃a i h,p a∧okI b i∧MRet P 1 res (rs a) [(3,curO b i h)] .ret st
 |_,_=>False
instance(P:Program)(res:List ResultVar){α:Type}(p:α→Prop)(rs:α→List AV)(b:List UInt8):ANoPan (MRd P res p rs b):=⟨fun _ _ h=>h⟩
theorem AD.go{P:Program}{α:Type}{p:α→Prop}{rs:α→List AV}{b:List UInt8}{f:FuncId}{fn:Func}{n:Nat}{c:Code}{bs:List AV}(hf:P.funcs[f]?=some fn)(hn:fn.ntmps=n)(hb:fn.body=some c)(ha:Nat.ble (AV.pt 0 1 0 0::bs).length n=true)
  (h:∀i h,okI b i→∀w0 mp,WfL (.pt 0 1 0 0::bs)→AW P n w0 mp c (MRd P fn.results.toList p rs b) ⟨fun t=>(AV.pt 0 1 0 0::bs).getD t .no,obS [(3,curO b i h)],1⟩):AD P f bs b p rs:=fun i h' hi=>
 AMx.go hf hn hb ha fun w0 mp hw E w hs=>(h i h' hi w0 mp hw E w hs).mono fun e E' w' ⟨st,hs',hq⟩=>⟨st,hs',by
  cases e with
  |normal=>obtain⟨a,i2,h2,q1,q2,q3⟩:=hq;exact⟨(a,i2,h2),⟨q1,q2⟩,q3⟩
  |ret=>obtain⟨a,i2,h2,q1,q2,q3⟩:=hq;exact⟨(a,i2,h2),⟨q1,q2⟩,q3⟩
  |_=>exact hq.elim⟩
theorem F.rd{P:Program}{res:List ResultVar}{α:Type}{p:α→Prop}{rs:α→List AV}{b:List UInt8}{st:St}(a:α){i h:Int}(hp:p a)(hi:okI b i)(hr:MRet P 1 res (rs a) [(3,curO b i h)] .ret st):MRd P res p rs b .ret st:=⟨a,i,h,hp,hi,hr⟩
end Go.Proofs.YtjmjamhhppoimaaGreat.V
namespace Go.Proofs.YtjmjamhhppoimaaGreat.G
open V.Enc (enc)
open Go.RowKit Go.WideShapes
set_option linter.unusedVariables false
def u8R:Rp UInt8 where
 nc:=1
 V:=fun w n vs F=>vs=[.int .u8 n.toNat]∧F=[]
 len:=fun h=>by rw[h.1];rfl
 one:=fun h=>by rw[h.1];intro u hu;simp at hu;subst hu;rfl
 inb:=fun h k hk=>by rw[h.2] at hk;cases hk
 stab:=fun h _=>h
theorem Rds.byte{P:Program}{t:Nat}(hu:P.underlying t=some (.int .u8))(hc:P.cellsOf t=1):Rds P t u8R:=by
 refine⟨fun enc w fuel cs d ps h=>?_,hc⟩
 cases fuel with
 |zero=>simp[DataW.trod] at h
 |succ fuel=>
  simp only[DataW.trod,hu] at h
  split at h<;>first|cases h|skip
  all_goals rename_i heq
  all_goals try simp only[Option.some.injEq,TypeDesc.int.injEq,reduceCtorEq] at heq
  subst heq
  split at h
  ·rename_i k n hk
   obtain⟨rfl,hw⟩:=hk
   have h2:0≤n∧n≤255:=by simpa[Lit.wf,IntKind.min,IntKind.max,IntKind.signed,IntKind.bits] using hw
   refine⟨UInt8.ofNat n.toNat,[],?_,rfl⟩
   rw[UInt8.toNat_ofNat_of_lt' (show n.toNat<256 by omega),Int.toNat_of_nonneg h2.1]
  ·cases h
instance:Rds Tryz.prog 5 u8R:=Rds.byte Tryz.underlying5 (by kernel_rfl)
instance:Rds Tryz.prog 22 (listR u8R):=Rds.slice Tryz.underlying22 (by kernel_rfl) inferInstance (by decide)
end Go.Proofs.YtjmjamhhppoimaaGreat.G
namespace Go.Proofs.YtjmjamhhppoimaaGreat.V
open Go
open Go.RowKit G D
instance:RdE u8R:=⟨rfl,fun h=>by obtain⟨rfl,_⟩:=h;exact .q rfl rfl .nil⟩
set_option linter.unusedSimpArgs false
theorem A.eqlBB{P:Program}{w0:World}{MP:Fr}{d:Option Tmp}{ty:TypeId}{pos:String}{af:Array Edge}{g:Option (Nat×Bool)}{x y:Operand}{t t':Nat}{a b:Bool}{st:St}[hu:HasU P t .bool](hx:evA st x=.b a)(hy:evA st y=.b b):ASil true P w0 MP st ⟨d,.binOp .eql t x y t',ty,pos,af,g⟩ (.b (a==b)):=fun C Im E w hm=>by
 have h1:=hm.evB hx
 have h2:=hm.evB hy
 refine⟨.bool (a==b),fun w'=>?_,rfl⟩
 unfold Sil
 intro w2 _
 have h3:=run_equalIn_bool (P:=P) w2 9999 t a b hu.u
 have h4:(binOp .eql t (.bool a) (.bool b)).run P w2=.ok (.bool (a==b)) w2:=by
  simp only[binOp]
  simp[Op.equal,Op.maxDepth,h3]
 simp[execOp,h1,h2,eqGuard,h4]
end Go.Proofs.YtjmjamhhppoimaaGreat.V
namespace Go.Proofs.YtjmjamhhppoimaaGreat.V
open Go.RowKit G
set_option linter.unusedVariables false
set_option linter.unusedSimpArgs false
section
variable {P : Program} {w0 : World} {MP : Fr} {st : St} {d : Option Tmp} {ty : TypeId} {pos : String} {af : Array Edge} {g : Option (Nat × Bool)} {x y : Operand} {t t' : Nat}
theorem A.eqlQ{k:IntKind}{a b:Int}(hx:evA st x=.q (fun v=>v=.int k a))(hy:evA st y=.q (fun v=>v=.int k b)):ASil true P w0 MP st ⟨d,.binOp .eql t x y t',ty,pos,af,g⟩ (.b (decide (a=b))):=fun C Im E w hm=>by
 have h1:=hm.evQ hx
 have h2:=hm.evQ hy
 refine⟨.bool (decide (a=b)),fun w'=>?_,rfl⟩
 unfold Sil
 intro w2 _
 simp[execOp,h1,h2,eqGuard,binOp,Op.intCmp]
 by_cases h:a=b<;>simp[h]
theorem A.neqS{a b:ByteArray}[hu:HasU P t .string](hx:evA st x=.q (fun v=>v=.string a))(hy:evA st y=.q (fun v=>v=.string b)):ASil true P w0 MP st ⟨d,.binOp .neq t x y t',ty,pos,af,g⟩ (.b (a.toList !=b.toList)):=fun C Im E w hm=>by
 have h1:=hm.evQ hx
 have h2:=hm.evQ hy
 refine⟨.bool (a.toList !=b.toList),fun w'=>?_,rfl⟩
 unfold Sil
 intro w2 _
 have h3:=hu.und w2
 simp[execOp,h1,h2,eqGuard,binOp,Op.stringOp,bne]
theorem A.slcStr{a:ByteArray}{lo hi:Operand}{i j:Int}[hu:HasU P t .string](hx:evA st x=.q (fun v=>v=.string a))(hl:evA st lo=.i i)(hr:evA st hi=.i j)(h0:0≤i)(h1:i≤j)(h2:j≤a.size):ASil true P w0 MP st ⟨d,.slice t x (some lo) (some hi) none,ty,pos,af,g⟩ (.q fun v=>v=.string (a.extract i.toNat j.toNat)):=fun C Im E w hm=>by
 have e1:=hm.evQ hx
 have e2:=(hm.evI hl).1
 have e3:=(hm.evI hr).1
 refine⟨.string (a.extract i.toNat j.toNat),fun w'=>?_,rfl,rfl⟩
 unfold Sil
 intro w2 _
 have h4:=run_slice_string (P:=P) w2 t a .i64 .i64 i j hu.u h0 h1 h2
 have h5:=run_sliceAt_string (P:=P) (w:=w2) t (.string a) (some (.int .i64 i)) (some (.int .i64 j)) none hu.u
 simp[execOp,e1,e2,e3]
 rw[h5,h4]
 rfl
theorem A.cvB1{o e:Nat}{l:Bool}{z:Int}[hs:HasU P t (.slice e)][he:HasU P e (.int .u8)][hu:HasU P t' .string](hx:evA st x=.sl o 1 0 1)(hh:st.hp o=.live l 1 [[.q (fun v=>v=.int .u8 z)]]):ASil false P w0 MP st ⟨d,.convert t t' x,ty,pos,af,g⟩ (.q fun v=>v=.string (strOfNums [z])):=fun C Im E w hm=>by
 have h:=hm.ev x
 rw[hx] at h
 obtain⟨p,c,h1,h2,h3,h4,h5⟩:=h
 obtain⟨cc,hcc,hO⟩:=hm.obj o l _ _ hh
 obtain⟨_,s2,_⟩:=(h5 cc hcc).2 (by rw[hO.len];rfl)
 have hv:=s2 rfl (by rw[hO.len];rfl)
 obtain⟨e',hB⟩:=hO.buf
 have hlen:cc.len=1:=by rw[hO.len];rfl
 have hsz:cc.sz=1:=hO.esz
 have hlay:=hO.lay
 obtain⟨v,hv1,hF,hr⟩:=LayC.get1 (a:=.q (fun v=>v=.int .u8 z)) hlay (fun sz xs e=>by cases e)
 obtain⟨hvz,_⟩:=hr
 refine⟨.string (strOfNums [z]),?_,rfl,rfl⟩
 rcases hB.2 with⟨h0,_⟩|⟨b,c',cur,hp',g2,g3,g4,g5,g6⟩
 ·omega
 unfold Sil
 intro w2 hl
 replace g2:=g2.same (Below.block hl b (Array.getElem?_eq_some_iff.1 (show w.heap[b]?=some _ from g2)).1)
 rw[h1] at hv
 have hx2:G.ev E x=.slice (some ⟨b,0,none⟩) 1 (c'+1):=by
  rw[h1,hv,hp',hlen]
 have hcell:w2.cell? ⟨b,0+0,none⟩=some (.int .u8 z):=by
  refine Blk.cell g2 ?_
  rw[hlen,hsz] at g6
  rw[hv1,hvz] at g6
  cases cur with
  |nil=>cases g6
  |cons u cur=>
   simp at g6
   rw[g6];rfl
 have h7:=run_convert_bytes_arg (P:=P) w2 t e hs.u he.u b 0 1 (c'+1) [z] rfl (fun i hi=>by
  obtain rfl:i=0:=by omega
  exact hcell) t' hu.u
 simp[execOp,hx2]
 rw[h7]
 rfl
end
end Go.Proofs.YtjmjamhhppoimaaGreat.V
namespace Go.Proofs.YtjmjamhhppoimaaGreat.V
open Go.RowKit G D
set_option linter.unusedVariables false
set_option linter.unusedSimpArgs false
set_option maxHeartbeats 4000000
set_option maxRecDepth 60000
attribute [local irreducible] AW ARg ARA ARet MRet ASil AC AM AMx
def curH(b:List UInt8):Nat→Int
 |0=>10101+b.length
 |k+1=>andZ (curH b k*131+((b.getD k default).toNat:Int)+7) 1073741823
theorem l1New_p(b:List UInt8)(hl:b.length≤1048576):AMP Tryz.prog 205 [ar false b] 3 [ar false b,.i 0,.i (curH b (min b.length 4000))]:=by
 refine AMP.go Tryz.func205 Tryz.ntmps205 rfl rfl fun w0 mp hw=>?_
 have hb:∀k,k≤b.length→0≤curH b k∧curH b k≤1073741823:=fun k hk=>by
  cases k with
  |zero=>simp only[curH];omega
  |succ k=>simp only[curH];exact andZ_bd _ 30 (by omega)
 repeat' first|refine s1 ?_|fail
 refine F.loop (σ:=Nat) [3,4,8,9,10,11,12,13,14,15,16,17,18,19,20,21,22,23,24,25,26,27] (fun k=>[(3,.i (curH b k)),(4,.i k)]) (fun _=>[]) (fun k=>k≤min b.length 4000) (fun k=>b.length-k) 0 ⟨rfl,rfl,trivial⟩ trivial (Nat.zero_le _) ?_
 rintro k k1
 have hbk:=hb k (by omega)
 by_cases hk:k<b.length
 ·by_cases hk4:(k:Int)<4000
  ·have e:curH b (k+1)=andZ (curH b k*131+((b.getD k default).toNat:Int)+7) 1073741823:=rfl
   have hz:(b.getD k default).toNat<256:=UInt8.toNat_lt _
   generalize curH b k=h at hbk e⊢
   repeat' first|refine s1 ?_|(refine kR ?_;first|refine F.sil (A.cvQI rfl (In64.mk (by omega))) rfl rfl ?_|refine F.sil (A.andZ rfl rfl) rfl rfl ?_)|fail
   exact⟨k+1,F.fit ⟨iE (by rw[e]),rfl,trivial⟩ trivial,by omega,by omega⟩
  ·obtain rfl:k=min b.length 4000:=by omega
   generalize curH b (min b.length 4000)=h at hbk⊢
   repeat' first|refine s1 ?_|fail
   exact⟨2,0,rfl,rfl,rfl,rfl⟩
 ·obtain rfl:k=min b.length 4000:=by omega
  generalize curH b (min b.length 4000)=h at hbk⊢
  repeat' first|refine s1 ?_|fail
  exact⟨2,0,rfl,rfl,rfl,rfl⟩
end Go.Proofs.YtjmjamhhppoimaaGreat.V
namespace Go.Proofs.YtjmjamhhppoimaaGreat.V
open Go.RowKit G D
set_option linter.unusedVariables false
set_option linter.unusedSimpArgs false
set_option maxHeartbeats 4000000
set_option maxRecDepth 4000
attribute [local irreducible] AW ARg ARA ARet MRet ASil AC AM AMx
theorem l1Byte_x(b:List UInt8)(hl:b.length≤1048576):AD Tryz.prog 325 [] b (fun x:Int=>0≤x∧x≤255) (fun x=>[.i x]):=by
 refine AD.go Tryz.func325 Tryz.ntmps325 rfl rfl fun i h hi w0 mp hw=>?_;simp[WfL,WfA,E_length,Enc.enc,In64] at hw
 unfold okI at*
 repeat' first|refine s1 ?_|(refine kR ?_;first|refine F.sil (A.nilP rfl) rfl rfl ?_|refine F.sil (A.addW rfl rfl) rfl rfl ?_|refine F.sil (A.mulW rfl rfl) rfl rfl ?_)|fail
 refine AW.draw 13 G.mixed (by kernel_rfl) ?_
 refine Pz (.p 0<|.p 1<|.p 2<|.l 3<|.p 4<|.p 5<|.p 6<|.p 7<|.l 8<|.p 9<|.p 10<|.p 11<|.p 12<|.n) ?_
 repeat' first|refine yS ?_|refine s1 ?_|refine yP ?_ (hs:=by exact(A.nilP rfl))|refine yP ?_ (hs:=by exact(A.shrU (m:=33) rfl rfl (by omega)))|refine yP ?_ (hs:=by exact(A.shrU (m:=45) rfl rfl (by omega)))|refine yP ?_ (hs:=by exact(A.xorZ rfl rfl))|refine yP ?_ (hs:=by exact(A.andZ rfl rfl))|fail
 any_goals refine lf ?_
 all_goals
  refine ATh.normal ?_
  generalize hx:andZ (xorZ (RowKit.wrap64 (RowKit.wrap64 (h*6364136223846793005)+1442695040888963407)/2^33) (RowKit.wrap64 (RowKit.wrap64 (h*6364136223846793005)+1442695040888963407)/2^45)) 255=x
  have hb:0≤x∧x≤255:=by rw[←hx];exact andZ_bd _ 8 (by omega)
  clear hx
  refine AW.only [(0,.pt 0 1 0 0),(3,.i x)] [(0,.live false 3 (curO b i (RowKit.wrap64 (RowKit.wrap64 (h*6364136223846793005)+1442695040888963407))))] 1 ⟨rfl,rfl,trivial⟩ ⟨rfl,trivial⟩ rfl ?_
  generalize RowKit.wrap64 (RowKit.wrap64 (h*6364136223846793005)+1442695040888963407)=h'
  by_cases hlt:i<b.length
  ·obtain⟨k,rfl⟩:∃k:Nat,i=k:=⟨i.toNat,by omega⟩
   have hz:(b.getD k default).toNat<256:=UInt8.toNat_lt _
   repeat' first|refine s1 ?_|fail
   refine AW.draw 10 G.mixed (by kernel_rfl) ?_
   refine Pz (.p 0<|.p 1<|.p 2<|.l 3<|.p 4<|.p 5<|.p 6<|.l 7<|.p 8<|.p 9<|.n) ?_
   repeat' first|refine yS ?_|refine s1 ?_|refine yP ?_ (hs:=by exact(A.nilP rfl))|fail
   any_goals refine lf ?_
   all_goals
    repeat' first|refine s1 ?_|fail
    refine AW.draw 15 G.mixed (by kernel_rfl) ?_
    refine Pz (.p 0<|.p 1<|.p 2<|.p 3<|.l 4<|.p 5<|.p 6<|.p 7<|.l 8<|.p 9<|.l 10<|.p 11<|.p 12<|.p 13<|.p 14<|.n) ?_
    repeat' first|refine yS ?_|refine s1 ?_|refine yP ?_ (hs:=by exact(A.nilP rfl))|refine yP ?_ (hs:=by exact(A.cvQI rfl (In64.mk (by omega))))|refine yP ?_ (hs:=by exact(A.andZ rfl rfl))|fail
    any_goals refine lf ?_
    all_goals
     refine ATh.normal ?_
     generalize hx:andZ (x+((b.getD k default).toNat:Int)) 255=y
     have hy:0≤y∧y≤255:=by rw[←hx];exact andZ_bd _ 8 (by omega)
     clear hx
     repeat' first|refine s1 ?_|(refine kR ?_;first|refine F.sil (A.nilP rfl) rfl rfl ?_)|fail
     refine F.rd y hy ?_ (F.retM rfl ⟨rfl,trivial⟩)
     exact⟨by omega,by omega⟩
  ·repeat' first|refine s1 ?_|fail
   refine AW.draw 10 G.mixed (by kernel_rfl) ?_
   refine Pz (.p 0<|.p 1<|.p 2<|.l 3<|.p 4<|.p 5<|.p 6<|.l 7<|.p 8<|.p 9<|.n) ?_
   repeat' first|refine yS ?_|refine s1 ?_|refine yP ?_ (hs:=by exact(A.nilP rfl))|fail
   any_goals refine lf ?_
   all_goals
    repeat' first|refine s1 ?_|fail
    exact F.rd x hb hi (F.retM rfl ⟨rfl,trivial⟩)
def belowI(n x:Int):Prop:=(0<n→0≤x∧x<n)∧(n≤0→x=0)
theorem l1Below_x(b:List UInt8)(hl:b.length≤1048576)(n:Int):AD Tryz.prog 207 [.i n] b (belowI n) (fun x=>[.i x]):=by
 refine AD.go Tryz.func207 Tryz.ntmps207 rfl rfl fun i h hi w0 mp hw=>?_;simp[WfL,WfA,E_length,Enc.enc,In64] at hw
 have hB:=l1Byte_x b hl
 by_cases h0:n≤0
 ·repeat' first|refine s1 ?_|fail
  exact F.rd 0 ⟨fun h=>by omega,fun _=>rfl⟩ hi (F.retM rfl ⟨rfl,trivial⟩)
 ·by_cases h1:n≤256
  ·repeat' first|refine s1 ?_|(refine kR ?_;first|(refine F.dr 0 (hB) (by assumption) ?_;intro x i2 h2 hx hi2;refine F.xk ?_))|fail
   refine F.rd _ ?_ hi2 (F.retM rfl ⟨rfl,trivial⟩)
   exact⟨fun _=>⟨Int.emod_nonneg _ (by omega),Int.emod_lt_of_pos _ (by omega)⟩,fun h=>absurd h h0⟩
  ·repeat' first|refine s1 ?_|(refine kR ?_;first|(refine F.dr 0 (hB) (by assumption) ?_;intro x i2 h2 hx hi2;refine F.xk ?_))|fail
   refine F.rd _ ?_ hi2 (F.retM rfl ⟨rfl,trivial⟩)
   exact⟨fun _=>⟨Int.emod_nonneg _ (by omega),Int.emod_lt_of_pos _ (by omega)⟩,fun h=>absurd h h0⟩
theorem l1Once_x(b:List UInt8)(hl:b.length≤1048576)(n:Int):AD Tryz.prog 232 [.i n] b (fun _:Bool=>True) (fun x=>[.b x]):=by
 refine AD.go Tryz.func232 Tryz.ntmps232 rfl rfl fun i h hi w0 mp hw=>?_;simp[WfL,WfA,E_length,Enc.enc,In64] at hw
 have hB:=l1Below_x b hl n
 repeat' first|refine s1 ?_|(refine kR ?_;first|(refine F.dr 0 (hB) (by assumption) ?_;intro x i2 h2 hx hi2;refine F.xk ?_))|fail
 exact F.rd _ trivial hi2 (F.retM rfl ⟨rfl,trivial⟩)
theorem l1PickInt_x(b:List UInt8)(hl:b.length≤1048576)(l:List Int)(h0:0<l.length)(h1:l.length≤1000):AD Tryz.prog 324 [ar false l] b (fun x:Int=>∃k,k<l.length∧x=l.getD k default) (fun x=>[.i x]):=by
 refine AD.go Tryz.func324 Tryz.ntmps324 rfl rfl fun i h hi w0 mp hw=>?_;simp[WfL,WfA,E_length,Enc.enc,In64] at hw
 have hB:=l1Below_x b hl l.length
 repeat' first|refine s1 ?_|(refine kR ?_;first|(refine F.dr 0 (hB) (by assumption) ?_;intro x i2 h2 hx hi2;refine F.xk ?_))|fail
 obtain⟨k,rfl⟩:∃k:Nat,x=k:=⟨x.toNat,by have:=hx.1 (by omega);omega⟩
 have hk:=hx.1 (by omega)
 clear hx
 repeat' first|refine s1 ?_|fail
 exact F.rd (l.getD k default) ⟨k,by omega,rfl⟩ hi2 (F.retM rfl ⟨rfl,trivial⟩)
end Go.Proofs.YtjmjamhhppoimaaGreat.V
