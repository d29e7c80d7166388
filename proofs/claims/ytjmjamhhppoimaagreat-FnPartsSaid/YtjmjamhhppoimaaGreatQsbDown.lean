/- Texts that the proof needs: A207, A197, A208, Down. -/
import Derived.Test.YtjmjamhhppoimaaGreatQsbA206
import Derived.Test.YtjmjamhhppoimaaGreatQsbA201
import Derived.JoinedOf
namespace Go.Proofs.YtjmjamhhppoimaaGreat.V
open V.Enc (enc)
open Go.RowKit G D
set_option linter.unusedVariables false
set_option linter.unusedSimpArgs false
set_option maxHeartbeats 4000000
set_option maxRecDepth 4000
attribute [local irreducible] AW ARg ARA ARet MRet ASil AC AM AMx ACx AD ARI
def genOk(r:Rep)(v:Int)(x:List Int):Prop:=isRep r=true∧(0≤v∧v.toNat<r.d.length)∧isVec r.p x=true∧(x.length:Int)=r.d.getD v.toNat default
instance(r:Rep)(v:Int)(x:List Int):Decidable (genOk r v x):=by unfold genOk;infer_instance
def genP(r:Rep)(v:Int)(x:List Int):List Spc×Bool:=if genOk r v x then(genA r (begS r v.toNat x),true) else([],false)
theorem genOk.w{r:Rep}{v:Int}{x:List Int}(h:genOk r v x):x.length=(r.d.getD v.toNat default).toNat∧∀j,j<(r.d.getD v.toNat default).toNat→0≤x.getD j default∧x.getD j default≤r.p-1:=by
 obtain⟨h1,h2,h3,h4⟩:=h
 have hl:x.length=(r.d.getD v.toNat default).toNat:=by omega
 refine⟨hl,fun j hj=>?_⟩
 simp only[isVec,Bool.and_eq_true] at h3
 exact allIn_spec h3.2 (by omega)
theorem gen_facts{r:Rep}{v:Int}{x:List Int}(h:(genP r v x).2=true):isSub r (genP r v x).1=true∧(0≤v∧v.toNat<(genP r v x).1.length)∧isVec r.p x=true∧isSpc r.p ((genP r v x).1.getD v.toNat default)=true∧x.length=((genP r v x).1.getD v.toNat default).n.toNat∧hasV r.p ((genP r v x).1.getD v.toNat default) x=true:=by
 unfold genP at h⊢
 by_cases hg:genOk r v x
 ·rw[if_pos hg]
  obtain⟨w1,w2⟩:=hg.w
  obtain⟨h1,h2,h3,h4⟩:=hg
  obtain⟨g1,g2,g3,g4⟩:=gen_has h1 h2.2 w1 w2
  have hl:=(isSub_spec g1).2.1
  exact⟨g1,⟨h2.1,by dsimp only;omega⟩,h3,g2,by dsimp only;rw[g3];exact w1,g4⟩
 ·rw[if_neg hg] at h;cases h
theorem gen_small(r:Rep)(v:Int)(x:List Int):smallS (genP r v x).1:=by
 unfold genP
 by_cases hg:genOk r v x
 ·rw[if_pos hg]
  obtain⟨w1,w2⟩:=hg.w
  exact sub_small (gen_has hg.1 hg.2.1.2 w1 w2).1
 ·rw[if_neg hg]
  exact fun v hv=>absurd hv (Nat.not_lt_zero v)
theorem implGeneratedSub_g(r:Rep)(v:Int)(x:List Int):AM Tryz.prog 51 [.agg (enc false r),.i v,ar false x] [] [.dt true 2 (E false (genP r v x).1),.b (genP r v x).2] []:=by
 unfold genP
 by_cases hg:genOk r v x
 ·rw[if_pos hg]
  obtain⟨w1,w2⟩:=hg.w
  have:=implGeneratedSub_w r v.toNat x hg.1 hg.2.1.2 w1 w2
  rw[Int.toNat_of_nonneg hg.2.1.1] at this
  exact this
 ·rw[if_neg hg]
  refine AM.go Tryz.func51 Tryz.ntmps51 rfl rfl fun w0 mp hw=>?_;simp[WfL,WfA,E_length,Enc.enc,In64] at hw
  have hF:=implIsRep_a r
  cases hr:isRep r with
  |false=>
   rw[hr] at hF
   repeat' first|refine s1 ?_|(refine kR ?_;first|refine F.c (hF) ?_)|fail
   refine kM ?_
   exact F.retM rfl trivial
  |true=>
   rw[hr] at hF
   obtain⟨c1,c2,c3,c4⟩:=areDims_spec (isRep_spec hr).2.1
   have h5:=okQ_spec c1
   have hH:=hasVertex_a r.q v c1
   by_cases hv:0≤v∧v≤r.q.n-1
   ·rw[decide_eq_true hv] at hH
    obtain⟨k,rfl⟩:∃k:Nat,v=k:=⟨v.toNat,by omega⟩
    have hV:=implIsVector_a r.p x
    cases hx:isVec r.p x with
    |false=>
     rw[hx] at hV
     repeat' first|refine s1 ?_|(refine kR ?_;first|refine F.c (hF) ?_|refine F.c (hH) ?_|refine F.c (hV) ?_)|fail
     refine kM ?_
     exact F.retM rfl trivial
    |true=>
     rw[hx] at hV
     have hd:0≤r.d.getD k default∧r.d.getD k default≤4:=allIn_spec c3 (by omega)
     have hne:(x.length:Int)≠r.d.getD k default:=fun e=>hg ⟨hr,⟨by omega,by rw[Int.toNat_natCast];omega⟩,hx,by rw[Int.toNat_natCast];exact e⟩
     repeat' first|refine s1 ?_|(refine kR ?_;first|refine F.c (hF) ?_|refine F.c (hH) ?_|refine F.c (hV) ?_)|fail
     refine kM ?_
     exact F.retM rfl trivial
   ·rw[decide_eq_false hv] at hH
    repeat' first|refine s1 ?_|(refine kR ?_;first|refine F.c (hF) ?_|refine F.c (hH) ?_)|fail
    refine kM ?_
    exact F.retM rfl trivial
theorem specGeneratedSub_g(r:Rep)(v:Int)(x:List Int):AM Tryz.prog 52 [.agg (enc false r),.i v,ar false x] [] [.dt true 2 (E false (genP r v x).1),.b (genP r v x).2] []:=by
 unfold genP
 by_cases hg:genOk r v x
 ·rw[if_pos hg]
  obtain⟨w1,w2⟩:=hg.w
  have:=generatedSub_w r v.toNat x hg.1 hg.2.1.2 w1 w2
  rw[Int.toNat_of_nonneg hg.2.1.1] at this
  exact this
 ·rw[if_neg hg]
  refine AM.go Tryz.func52 Tryz.ntmps52 rfl rfl fun w0 mp hw=>?_;simp[WfL,WfA,E_length,Enc.enc,In64] at hw
  have hF:=specIsRep_a r
  cases hr:isRep r with
  |false=>
   rw[hr] at hF
   repeat' first|refine s1 ?_|(refine kR ?_;first|refine F.c (hF) ?_)|fail
   refine kM ?_
   exact F.retM rfl trivial
  |true=>
   rw[hr] at hF
   obtain⟨c1,c2,c3,c4⟩:=areDims_spec (isRep_spec hr).2.1
   have h5:=okQ_spec c1
   have hI:=l1In_a v 0 ((r.d.length:Int)-1)
   by_cases hv:0≤v∧v≤(r.d.length:Int)-1
   ·rw[decide_eq_true hv] at hI
    obtain⟨k,rfl⟩:∃k:Nat,v=k:=⟨v.toNat,by omega⟩
    have hV:=specIsVector_a r.p x
    cases hx:isVec r.p x with
    |false=>
     rw[hx] at hV
     repeat' first|refine s1 ?_|(refine kR ?_;first|refine F.c (hF) ?_|refine F.c (hI) ?_|refine F.c (hV) ?_)|fail
     refine kM ?_
     exact F.retM rfl trivial
    |true=>
     rw[hx] at hV
     have hd:0≤r.d.getD k default∧r.d.getD k default≤4:=allIn_spec c3 (by omega)
     have hne:(x.length:Int)≠r.d.getD k default:=fun e=>hg ⟨hr,⟨by omega,by rw[Int.toNat_natCast];omega⟩,hx,by rw[Int.toNat_natCast];exact e⟩
     repeat' first|refine s1 ?_|(refine kR ?_;first|refine F.c (hF) ?_|refine F.c (hI) ?_|refine F.c (hV) ?_)|fail
     refine kM ?_
     exact F.retM rfl trivial
   ·rw[decide_eq_false hv] at hI
    repeat' first|refine s1 ?_|(refine kR ?_;first|refine F.c (hF) ?_|refine F.c (hI) ?_)|fail
    refine kM ?_
    exact F.retM rfl trivial
theorem specWholeSub_g(r:Rep):AC Tryz.prog 56 [.agg (enc false r)] [.dt true 2 (E true (if isRep r=true then socK r 0 else[])),.b (isRep r)]:=by
 cases hr:isRep r with
 |false=>
  rw[if_neg (by simp)]
  exact wholeSub_no r hr
 |true=>
  rw[if_pos rfl]
  exact wholeSub_a r hr
end Go.Proofs.YtjmjamhhppoimaaGreat.V
namespace Go.Proofs.YtjmjamhhppoimaaGreat.V
open Go.RowKit G D
set_option linter.unusedVariables false
set_option linter.unusedSimpArgs false
set_option maxHeartbeats 2000000
section
variable {P : Program} {w0 : World} {MP : Fr} {d : Option Tmp} {ty : TypeId} {pos : String} {af : Array Edge} {g : Option (Nat × Bool)} {x y : Operand} {t t' : Nat} {a : Bool} {st : St}
theorem A.eqlSame[hu:HasU P t .bool](hx:evA st x=.b a)(hy:evA st y=.b a):ASil true P w0 MP st ⟨d,.binOp .eql t x y t',ty,pos,af,g⟩ (.b true):=by
 have h:=A.eqlBB (P:=P) (t:=t) (w0:=w0) (MP:=MP) (d:=d) (ty:=ty) (pos:=pos) (af:=af) (g:=g) (t':=t') hx hy
 rwa [show(a==a)=true by simp] at h
theorem A.neqSame[hu:HasU P t .bool](hx:evA st x=.b a)(hy:evA st y=.b a):ASil true P w0 MP st ⟨d,.binOp .neq t x y t',ty,pos,af,g⟩ (.b false):=by
 have h:=A.neqBB (P:=P) (t:=t) (w0:=w0) (MP:=MP) (d:=d) (ty:=ty) (pos:=pos) (af:=af) (g:=g) (t':=t') hx hy
 rwa [show(a !=a)=false by simp] at h
end
end Go.Proofs.YtjmjamhhppoimaaGreat.V
namespace Go.Proofs.YtjmjamhhppoimaaGreat.V
open Go.RowKit G D
set_option linter.unusedVariables false
set_option linter.unusedSimpArgs false
set_option maxHeartbeats 1000000
set_option maxRecDepth 4000
theorem sameL_self(g:List Mat):sameL g g=true:=by simp[sameL,sameM]
theorem seq_facts(r:Rep)(s:List Spc):(seqP r s).2.2.2.2=isSub r s∧((seqP r s).2.2.2.2=true→shortB (seqP r s).1 r (seqP r s).2.1 (seqP r s).2.2.1 (seqP r s).2.2.2.1=true∧isRep (seqP r s).1=true∧isRep (seqP r s).2.1=true∧isRep r=true∧(seqP r s).1.d.sum+(seqP r s).2.1.d.sum=r.d.sum∧dimS s=(seqP r s).1.d∧(0≤(seqP r s).1.d.sum∧(seqP r s).1.d.sum≤8)∧(0≤(seqP r s).2.1.d.sum∧(seqP r s).2.1.d.sum≤8)∧isSub r s=true):=by
 unfold seqP
 by_cases h:isSub r s=true
 ·rw[if_pos h]
  refine⟨h.symm,fun _=>⟨seq_short h,subR_ok h,quoR_ok h,(isSub_spec h).1,quo_sum h,rfl,rep_sum (subR_ok h),rep_sum (quoR_ok h),h⟩⟩
 ·rw[if_neg h]
  exact⟨by simpa using h,fun hc=>by cases hc⟩
theorem metadd_facts(r:Rep)(s t:List Spc):(metP r s t).2=(addP r s t).2∧((metP r s t).2=true→isSub r (metP r s t).1=true∧isSub r (addP r s t).1=true∧isSub r s=true∧isSub r t=true∧(dimS (metP r s t).1).sum+(dimS (addP r s t).1).sum=(dimS s).sum+(dimS t).sum):=by
 unfold metP addP
 by_cases h:isSub r s=true∧isSub r t=true
 ·rw[if_pos h,if_pos h]
  exact⟨rfl,fun _=>⟨metSubs_ok h.1 h.2,addSubs_ok h.1 h.2,h.1,h.2,met_add_dims h.1 h.2⟩⟩
 ·rw[if_neg h,if_neg h]
  exact⟨rfl,fun hc=>by cases hc⟩
theorem nil_small:smallS []:=fun v hv=>absurd hv (Nat.not_lt_zero v)
theorem metP_small(r:Rep)(s t:List Spc):smallS (metP r s t).1:=by
 unfold metP
 by_cases h:isSub r s=true∧isSub r t=true
 ·rw[if_pos h];exact sub_small (metSubs_ok h.1 h.2)
 ·rw[if_neg h];exact nil_small
theorem addP_small(r:Rep)(s t:List Spc):smallS (addP r s t).1:=by
 unfold addP
 by_cases h:isSub r s=true∧isSub r t=true
 ·rw[if_pos h];exact sub_small (addSubs_ok h.1 h.2)
 ·rw[if_neg h];exact nil_small
theorem dims_total{r:Rep}{s:List Spc}(h:isSub r s=true):(dimS s).length≤1000∧(∀j,j<(dimS s).length→-1000≤(dimS s).getD j default∧(dimS s).getD j default≤1000)∧0≤(dimS s).sum∧(dimS s).sum≤8:=by
 obtain⟨d1,d2,d3,d4⟩:=sub_dims h
 have hr:=(isSub_spec h).1
 obtain⟨c1,c2,c3,c4⟩:=areDims_spec (isRep_spec hr).2.1
 have h5:=okQ_spec c1
 have:=rep_sum (subR_ok h)
 refine⟨by omega,fun j hj=>?_,this⟩
 have:=d2 j (by omega)
 have:=d4 j (by omega)
 omega
theorem whole_small(r:Rep):smallS (if isRep r=true then socK r 0 else[]):=by
 by_cases h:isRep r=true
 ·rw[if_pos h]
  exact fun v hv=>spc_small (socK_ok h 0 (Nat.zero_le _) v (by rw[socK_len] at hv;exact hv)).2
 ·rw[if_neg h];exact nil_small
theorem zero_small(r:Rep):smallS (if isRep r=true then radK r 0 else[]):=by
 by_cases h:isRep r=true
 ·rw[if_pos h]
  exact fun v hv=>spc_small (radK_ok h 0 (Nat.zero_le _) v (by rw[radK_len] at hv;exact hv)).2
 ·rw[if_neg h];exact nil_small
end Go.Proofs.YtjmjamhhppoimaaGreat.V
namespace Go.Proofs.YtjmjamhhppoimaaGreat.V
open Go
set_option linter.unusedVariables false
def leads(P:Program)(g:FuncId):List FuncId:=(P.funcs[g]?).elim [] P.leadsTo
theorem closureVia_mem{P:Program}{S:FuncId→Prop}(hS:∀g,S g→∀h∈leads P g,S h):∀(n:Nat) (todo seen:List FuncId),(∀x∈todo,S x)→(∀x∈seen,S x)→∀x∈P.closureVia n todo seen,S x
 |0,todo,seen,h1,h2,x,hx=>by
  unfold Program.closureVia at hx
  exact h2 x (by simpa using hx)
 |n+1,[],seen,h1,h2,x,hx=>by
  unfold Program.closureVia at hx
  exact h2 x (by simpa using hx)
 |n+1,f::todo,seen,h1,h2,x,hx=>by
  unfold Program.closureVia at hx
  split at hx
  ·exact closureVia_mem hS n todo seen (fun y hy=>h1 y (List.mem_cons_of_mem _ hy)) h2 x hx
  ·refine closureVia_mem hS n _ _ (fun y hy=>?_) (fun y hy=>?_) x hx
   ·rcases List.mem_append.1 hy with hy|hy
    ·exact hS f (h1 f (by simp)) y hy
    ·exact h1 y (List.mem_cons_of_mem _ hy)
   ·rcases List.mem_cons.1 hy with rfl|hy
    ·exact h1 _ (by simp)
    ·exact h2 y hy
def downB(P:Program):List FuncId→List FuncId→Bool
 |_,[]=>true
 |seen,g::rest=>!seen.contains g&&(leads P g).all (fun h=>seen.contains h)&&downB P (g::seen) rest
def Closed(P:Program)(T:List FuncId):Prop:=∀g∈T,∀h∈leads P g,h∈T
theorem down_spec{P:Program}:∀(rest seen:List FuncId),downB P seen rest=true→Closed P seen→
  (∀g∈seen,∃T,Closed P T∧(∀h∈leads P g,h∈T)∧g∉T)→
  ∃U,Closed P U∧(∀g∈U,∃T,Closed P T∧(∀h∈leads P g,h∈T)∧g∉T)∧(∀g∈rest,g∈U)∧∀g∈seen,g∈U
 |[],seen,_,hc,hs=>⟨seen,hc,hs,fun g hg=>(by cases hg),fun g hg=>hg⟩
 |g::rest,seen,h,hc,hs=>by
  simp only[downB,Bool.and_eq_true,Bool.not_eq_true',List.all_eq_true] at h
  obtain⟨⟨h1,h2⟩,h3⟩:=h
  have h1:g∉seen:=fun hm=>by rw[List.contains_iff_mem.mpr hm] at h1;cases h1
  have h2:∀x∈leads P g,x∈seen:=fun x hx=>List.contains_iff_mem.mp (h2 x hx)
  obtain⟨U,u1,u2,u3,u4⟩:=down_spec rest (g::seen) h3 (fun a ha b hb=>by
   rcases List.mem_cons.1 ha with rfl|ha
   ·exact List.mem_cons_of_mem _ (h2 b hb)
   ·exact List.mem_cons_of_mem _ (hc a ha b hb)) (fun a ha=>by
   rcases List.mem_cons.1 ha with rfl|ha
   ·exact⟨seen,hc,h2,h1⟩
   ·exact hs a ha)
  refine⟨U,u1,u2,fun a ha=>?_,fun a ha=>u4 a (List.mem_cons_of_mem _ ha)⟩
  rcases List.mem_cons.1 ha with rfl|ha
  ·exact u4 _ (by simp)
  ·exact u3 a ha
theorem recurses_down{P:Program}{f:FuncId}(L:List FuncId)(h:downB P [] L=true)(hf:L.contains f=true):P.recurses f=P.unfollowed f:=by
 obtain⟨U,u1,u2,u3,_⟩:=down_spec L [] h (fun g hg=>by cases hg) (fun g hg=>by cases hg)
 have hU:f∈U:=u3 f (List.contains_iff_mem.mp hf)
 unfold Program.recurses
 suffices hs:((P.closure f).any fun g=>((P.funcs[g]?).elim [] P.leadsTo).any fun h=>(P.closure h).contains g)=false by rw[hs,Bool.or_false]
 rw[List.any_eq_false]
 intro g hg
 have hgU:g∈U:=closureVia_mem (S:=fun x=>x∈U) (fun a ha b hb=>u1 a ha b hb) _ _ _ (fun x hx=>by rw[List.mem_singleton.1 hx];exact hU) (fun x hx=>by cases hx) g hg
 obtain⟨T,t1,t2,t3⟩:=u2 g hgU
 rw[Bool.not_eq_true,List.any_eq_false]
 intro x hx
 rw[Bool.not_eq_true]
 cases hcx:(P.closure x).contains g with
 |false=>rfl
 |true=>
  have hm:=List.contains_iff_mem.mp hcx
  exact absurd (closureVia_mem (S:=fun y=>y∈T) (fun a ha b hb=>t1 a ha b hb) _ _ _ (fun y hy=>by rw[List.mem_singleton.1 hy];exact t2 x hx) (fun y hy=>by cases hy) g hm) t3
end Go.Proofs.YtjmjamhhppoimaaGreat.V
