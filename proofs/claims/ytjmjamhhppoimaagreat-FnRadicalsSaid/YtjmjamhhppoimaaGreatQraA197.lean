/- Texts that the proof needs: A200, A202, A197. -/
import Derived.Test.YtjmjamhhppoimaaGreatQraA195
namespace Go.Proofs.YtjmjamhhppoimaaGreat.V
open Go.RowKit G D
set_option linter.unusedVariables false
set_option linter.unusedSimpArgs false
set_option maxHeartbeats 1000000
set_option maxRecDepth 4000
abbrev Me(p:Int)(s:Spc)(v:Nat→Int):Prop:=Sp p s.b.length s.n.toNat (vecF s.b) v
theorem isSpc_idem{p:Int}{s:Spc}(h:isSpc p s=true):spanL p s.n.toNat s.b=s.b:=by
 simp only[isSpc,Bool.and_eq_true,decide_eq_true_eq] at h
 exact h.2
theorem spc_le{p:Int}{a b:Spc}(ha:isSpc p a=true)(hb:isSpc p b=true)(hn:b.n=a.n)(h1:∀i,i<a.b.length→Me p b (vecF a.b i)):a.b.length≤b.b.length:=by
 have h:=within_eq ha hb hn
 rw[(inS_iff ha hb hn).2 h1,decide_eq_true_eq] at h
 have:=addS_mono ha hb hn
 omega
def Ind(p:Int)(n:Nat)(l:List (List Int)):Prop:=∀co:Nat→Int,(∀t,t<n→Cg p (sumN (fun i=>co i*vecF l i t) l.length) 0)→∀i,i<l.length→Cg p (co i) 0
theorem ind_len{p:Int}{n:Nat}{l:List (List Int)}(hF:isF p=true)(hv:VecB p n l)(h:Ind p n l):(spanL p n l).length=l.length:=by
 have hb:=hv.bd
 have hp:=isF_pos hF
 have e1:(spanL p n l).length=(redK p l.length (vecF l) n).2.length:=spanB_len ..
 have hbt:BdF p n l.length (fun t i=>vecF l i t):=fun t ht i hi=>hb i hi t ht
 have e2:=rank_tr hF hb
 have e3:=kerL_len hF hbt
 refine Classical.byContradiction fun hne=>?_
 have hle:=(spanB_le (show 0<p by omega) hb).1
 have hle:(spanL p n l).length≤l.length:=hle
 have hk:0<(kerL p n l.length fun t i=>vecF l i t).length:=by omega
 obtain⟨s1,j,hj,s2⟩:=kerL_spec hF hbt (gm (d:=default) hk)
 have h3:=h (fun i=>((kerL p n l.length fun t i=>vecF l i t).getD 0 default).getD i default) (fun t ht=>by
  have h4:=s1 t ht
  unfold dotV at h4
  rwa [sumN_eq _ fun i _=>Int.mul_comm ..] at h4) j hj
 rw[s2] at h3
 have:=h3.eq ⟨by omega,by omega⟩ ⟨by omega,by omega⟩
 omega
theorem kerL_at{p:Int}{r c:Nat}{f:Nat→Nat→Int}{k k0:Nat}(hk:k<(kerL p r c f).length)(hk0:k0<(kerL p r c f).length):(freeL c (redK p r f c).2).getD k0 0<c∧vecF (kerL p r c f) k ((freeL c (redK p r f c).2).getD k0 0)=if k=k0 then 1 else 0:=by
 have hl:(kerL p r c f).length=(freeL c (redK p r f c).2).length:=by simp[kerL]
 have hk2:k<(freeL c (redK p r f c).2).length:=by omega
 have hk3:k0<(freeL c (redK p r f c).2).length:=by omega
 have hg:(kerL p r c f).getD k default=kerV p c (redK p r f c).1 (redK p r f c).2 ((freeL c (redK p r f c).2).getD k 0) (redK p r f c).2.length:=by simp[kerL,hk2]
 have hf:=freeL_lt (c:=c) (piv:=(redK p r f c).2) ((freeL c (redK p r f c).2).getD k0 0) (by simp[hk3])
 refine⟨hf.1,?_⟩
 show((kerL p r c f).getD k default).getD _ default=_
 rw[hg,kerV_free hf.1 _ fun i hi e=>hf.2 (by rw[←e];simp[hi])]
 have hpw:(freeL c (redK p r f c).2).Pairwise (·<·):=List.Pairwise.filter _ List.pairwise_lt_range
 by_cases ek:k=k0
 ·subst ek;rw[if_pos rfl,if_pos rfl]
 ·have g1:(freeL c (redK p r f c).2).getD k0 0=(freeL c (redK p r f c).2)[k0]:=by simp[hk3]
  have g2:(freeL c (redK p r f c).2).getD k 0=(freeL c (redK p r f c).2)[k]:=by simp[hk2]
  rw[List.pairwise_iff_getElem] at hpw
  have hne:(freeL c (redK p r f c).2).getD k0 0≠(freeL c (redK p r f c).2).getD k 0:=by
   rw[g1,g2]
   rcases Nat.lt_or_gt_of_ne ek with hlt|hgt
   ·have:=hpw k k0 hk2 hk3 hlt;omega
   ·have:=hpw k0 k hk3 hk2 hgt;omega
  rw[if_neg hne,if_neg ek]
theorem kerL_ind{p:Int}{r c:Nat}{f:Nat→Nat→Int}:Ind p c (kerL p r c f):=fun co h i hi=>by
 have h1:=h _ (kerL_at hi hi).1
 rwa [sumN_eq (g:=fun k=>(if k=i then 1 else 0)*co k) _ fun k hk=>by rw[(kerL_at hk hi).2,Int.mul_comm],sumN_one,if_pos hi] at h1
theorem imgS_len{p:Int}{m:Mat}(h:isMat p m=true):(imgS p m).b.length=(redK p m.r.toNat (ent m) m.c.toNat).2.length:=by
 have hF:=(isMat_spec h).1
 have hb:=ent_bd h
 have hbt:BdF p m.c.toNat m.r.toNat (fun k i=>ent m i k):=fun k hk j hj=>hb j hj k hk
 have hc:VecB p m.r.toNat (rowsL m.c.toNat m.r.toNat fun k i=>ent m i k):=VecB.rows hbt
 have hs:SS p (rowsL m.c.toNat m.r.toNat fun k i=>ent m i k).length m.c.toNat m.r.toNat (vecF (rowsL m.c.toNat m.r.toNat fun k i=>ent m i k)) (fun k i=>ent m i k):=by
  rw[rowsL_len]
  exact⟨fun i hi=>(Sp.row (f:=fun k i=>ent m i k) hi).cg fun j hj=>by rw[vecF_rows hi hj];exact .refl _,fun i hi=>(Sp.row hi).cg fun j hj=>by rw[vecF_rows hi hj];exact .refl _⟩
 have e:(imgS p m).b=spanB p m.c.toNat m.r.toNat (fun k i=>ent m i k):=spanB_uniq hF hc.bd hbt hs
 rw[e,spanB_len]
 exact rank_tr hF hb
theorem met_dot(a b:List (List Int))(x:List Int)(t:Nat):dotV (fcF (a++b) t) x (a++b).length=sumN (fun i=>x.getD i default*vecF a i t) a.length+sumN (fun i=>x.getD (a.length+i) default*vecF b i t) b.length:=by
 unfold dotV
 rw[List.length_append,sumN_split]
 congr 1
 ·exact sumN_eq _ fun i hi=>by
   have:fcF (a++b) t i=vecF a i t:=vecF_app_l hi t
   rw[this,Int.mul_comm]
 ·exact sumN_eq _ fun i _=>by
   have:fcF (a++b) t (a.length+i)=vecF b i t:=vecF_app_r a b i t
   rw[this,Int.mul_comm]
theorem metL_at{p:Int}{a b:Spc}{k t:Nat}(hk:k<(metK p a b).length)(ht:t<a.n.toNat):Cg p (vecF (metL p a b) k t) (sumN (fun i=>((metK p a b).getD k default).getD i default*vecF a.b i t) a.b.length):=by
 have e:(metL p a b).getD k default=cmbV p a.n.toNat a.b ((metK p a b).getD k default) a.b.length:=by simp[metL,hk]
 unfold vecF
 rw[e]
 exact cmbV_cg ht _
theorem met_sp{p:Int}{a b:Spc}(ha:isSpc p a=true)(hb:isSpc p b=true)(hn:b.n=a.n){v:Nat→Int}:Me p (metS p a b) v↔Me p a v∧Me p b v:=by
 obtain⟨h1,h2,h3,h4⟩:=isSpc_spec ha
 obtain⟨_,_,g3,g4⟩:=isSpc_spec hb
 have hp:=isF_pos h1
 have hi:Me p (metS p a b) v↔Sp p (metL p a b).length a.n.toNat (vecF (metL p a b)) v:=(span_ss h1 (metL_vec (a:=a) (b:=b) hp.1).bd).iff v
 rw[hi]
 unfold Me
 rw[hn] at g4⊢
 have hbd:=fcF_bd (h4.app g4)
 rw[metL_len]
 constructor
 ·rintro⟨co,e⟩
  have hx:∀t,t<a.n.toNat→Cg p (v t) (sumN (fun k=>co k*sumN (fun i=>((metK p a b).getD k default).getD i default*vecF a.b i t) a.b.length) (metK p a b).length):=fun t ht=>(e t ht).trans (sumN_cg _ fun k hk=>(Cg.refl _).mul (metL_at hk ht))
  constructor
  ·refine⟨fun i=>sumN (fun k=>co k*((metK p a b).getD k default).getD i default) (metK p a b).length,fun t ht=>(hx t ht).trans ?_⟩
   rw[sumN_eq (g:=fun k=>sumN (fun i=>co k*((metK p a b).getD k default).getD i default*vecF a.b i t) a.b.length) _ fun k _=>by
    rw[←sumN_mul];exact sumN_eq _ fun i _=>(Int.mul_assoc ..).symm,sumN_swap]
   refine sumN_cg _ fun i _=>?_
   rw[Int.mul_comm,←sumN_mul,sumN_eq _ fun k _=>Int.mul_comm ..]
   exact .refl _
  ·refine⟨fun i=>sumN (fun k=>co k*-(((metK p a b).getD k default).getD (a.b.length+i) default)) (metK p a b).length,fun t ht=>(hx t ht).trans ?_⟩
   have hz:∀k,k<(metK p a b).length→Cg p (sumN (fun i=>((metK p a b).getD k default).getD i default*vecF a.b i t) a.b.length) (sumN (fun i=>-(((metK p a b).getD k default).getD (a.b.length+i) default)*vecF b.b i t) b.b.length):=fun k hk=>by
    have h5:=(kerL_spec h1 hbd (gm (d:=default) hk)).1 t ht
    rw[met_dot] at h5
    refine Cg.of_sub ?_
    rw[sumN_eq (h:=fun i=>-(((metK p a b).getD k default).getD (a.b.length+i) default)*vecF b.b i t) (g:=fun i=>(-1)*(((metK p a b).getD k default).getD (a.b.length+i) default*vecF b.b i t)) _ fun i _=>by rw[Int.neg_mul];omega,sumN_mul]
    have e3:∀x y:Int,x-(-1)*y=x+y:=fun x y=>by omega
    rw[e3]
    exact h5
   refine(sumN_cg (g:=fun k=>co k*sumN (fun i=>-(((metK p a b).getD k default).getD (a.b.length+i) default)*vecF b.b i t) b.b.length) _ fun k hk=>(Cg.refl _).mul (hz k hk)).trans ?_
   rw[sumN_eq (g:=fun k=>sumN (fun i=>co k*-(((metK p a b).getD k default).getD (a.b.length+i) default)*vecF b.b i t) b.b.length) _ fun k _=>by
    rw[←sumN_mul];exact sumN_eq _ fun i _=>(Int.mul_assoc ..).symm,sumN_swap]
   refine sumN_cg _ fun i _=>?_
   rw[Int.mul_comm,←sumN_mul,sumN_eq _ fun k _=>Int.mul_comm ..]
   exact .refl _
 ·rintro⟨⟨α,ea⟩,β,eb⟩
  have hlen:(a.b++b.b).length=a.b.length+b.b.length:=List.length_append ..
  have hx:∀i,i<(a.b++b.b).length→(rowL (a.b++b.b).length fun i=>if i<a.b.length then α i else-(β (i-a.b.length))).getD i default=if i<a.b.length then α i else-(β (i-a.b.length)):=fun i hi=>rowL_get _ hi
  generalize (rowL (a.b++b.b).length fun i=>if i<a.b.length then α i else-(β (i-a.b.length)))=x at hx
  have hxa:∀t,sumN (fun i=>x.getD i default*vecF a.b i t) a.b.length=sumN (fun i=>α i*vecF a.b i t) a.b.length:=fun t=>sumN_eq _ fun i hi=>by rw[hx i (by omega),if_pos hi]
  have hk:=kerL_full h1 hbd (x:=x) fun t ht=>by
   rw[met_dot,hxa]
   have e2:sumN (fun i=>x.getD (a.b.length+i) default*vecF b.b i t) b.b.length=(-1)*sumN (fun i=>β i*vecF b.b i t) b.b.length:=by
    rw[←sumN_mul]
    exact sumN_eq _ fun i hi=>by
     rw[hx _ (by omega),if_neg (by omega),Nat.add_sub_cancel_left,Int.neg_mul];omega
   rw[e2]
   have e3:∀x y:Int,x+(-1)*y=x-y:=fun x y=>by omega
   rw[e3]
   exact((ea t ht).symm.trans (eb t ht)).sub0
  obtain⟨co,e⟩:=hk
  refine⟨co,fun t ht=>(ea t ht).trans ?_⟩
  rw[←hxa]
  refine(sumN_cg (g:=fun i=>sumN (fun k=>co k*((metK p a b).getD k default).getD i default) (metK p a b).length*vecF a.b i t) _ fun i hi=>(e i (by omega)).mul (.refl _)).trans ?_
  refine Cg.trans ?_ (sumN_cg (h:=fun k=>co k*sumN (fun i=>((metK p a b).getD k default).getD i default*vecF a.b i t) a.b.length) _ fun k hk=>(Cg.refl _).mul (metL_at hk ht).symm)
  rw[sumN_eq (h:=fun k=>co k*sumN (fun i=>((metK p a b).getD k default).getD i default*vecF a.b i t) a.b.length) (g:=fun k=>sumN (fun i=>co k*((metK p a b).getD k default).getD i default*vecF a.b i t) a.b.length) _ fun k _=>by
   rw[←sumN_mul];exact sumN_eq _ fun i _=>(Int.mul_assoc ..).symm,sumN_swap]
  refine sumN_cg _ fun i _=>?_
  rw[Int.mul_comm,←sumN_mul,sumN_eq _ fun k _=>Int.mul_comm ..]
  exact .refl _
theorem mor_ker{a b:Rep}{f:List Mat}(h:isMor a b f=true){i:Nat}(hi:i<szA a b a.q.fr.length):Cg a.p (dotV (ent (eqM a b) i) (catM f) (szT a b a.d.length)) 0:=by
 have hA:=isMor_are h
 have hcut:=cob_cut hA
 generalize hX:tab (szA a b a.q.fr.length) 1 (mulF a.p (ent (eqM a b)) (ent (colM a b f)) (szT a b a.d.length))=X at hcut
 have hXl:X.length=szA a b a.q.fr.length:=by rw[←hX,tab_len,Nat.mul_one]
 have hcat:=catM_cutL (a:=a) (b:=b) hXl
 rw[hcut] at hcat
 have hz:X.getD i default=0:=by
  have hm:X.getD i default∈X:=gm (by omega)
  rw[←hcat] at hm
  simp only[catM,List.mem_flatMap] at hm
  obtain⟨m,hm1,hm2⟩:=hm
  obtain⟨k,hk,rfl⟩:=List.getElem_of_mem hm1
  have hk2:k<a.q.fr.length:=by rw[cobL_len] at hk;exact hk
  have hc:=cob_mor h hk2
  have e:(cobL a b f).getD k default=(cobL a b f)[k]:=by simp[hk]
  rw[e] at hc
  obtain⟨j,hj,e2⟩:=List.getElem_of_mem hm2
  have:=hc j hj
  have e3:((cobL a b f)[k]).m.getD j default=((cobL a b f)[k]).m[j]:=by simp[hj]
  rw[e3] at this
  rw[←hcat]
  show(List.flatMap Mat.m (cobL a b f)).getD i default=0
  rw[←e2]
  exact this
 have e:=tab_get (r:=szA a b a.q.fr.length) (c:=1) (mulF a.p (ent (eqM a b)) (ent (colM a b f)) (szT a b a.d.length)) hi (show 0<1 by omega)
 rw[Nat.mul_one,Nat.add_zero,hX,hz] at e
 have e4:dotK (ent (eqM a b)) (ent (colM a b f)) i 0 (szT a b a.d.length)=dotV (ent (eqM a b) i) (catM f) (szT a b a.d.length):=by
  rw[dotK_sum]
  exact sumN_eq _ fun k hk=>by
   congr 1
   show(catM _).getD (k*1+0) default=_
   rw[Nat.mul_one];rfl
 refine Cg.iff.2 ?_
 rw[←e4,Int.zero_emod]
 exact e.symm
theorem digV_snoc(p c:Int)(n:Nat):digV p c (n+1)=digV p (c/p) n++[c%p]:=by
 unfold digV
 rw[List.range_succ,List.map_append]
 congr 1
 ·exact List.map_congr_left fun i hi=>by
   have hi:i<n:=by simpa using hi
   unfold digN
   rw[show n+1-1-i=(n-1-i)+1 by omega,quoN_swap]
 ·simp[digN,quoN]
theorem dig_all{q:Nat}(hq:0<q):∀(n:Nat) (xs:List Int),xs.length=n→(∀j,j<n→0≤xs.getD j default∧xs.getD j default≤(q:Int)-1)→∃c:Nat,c<q^n∧digV (q:Int) (c:Int) n=xs
 |0,xs,hl,_=>⟨0,by simp,by rw[List.length_eq_zero_iff.1 hl];rfl⟩
 |n+1,xs,hl,hb=>by
  have hne:xs≠[]:=fun e=>by rw[e] at hl;simp at hl
  have e:=List.dropLast_concat_getLast hne
  generalize xs.getLast hne=y at e
  generalize xs.dropLast=ys at e
  subst e
  have hyl:ys.length=n:=by simpa using hl
  obtain⟨c,hc,hd⟩:=dig_all hq n ys hyl fun j hj=>by
   have:=hb j (by omega)
   simpa[List.getD_eq_getElem?_getD,List.getElem?_append_left (show j<ys.length by omega)] using this
  have hy:=hb n (by omega)
  have e2:(ys++[y]).getD n default=y:=by rw[←hyl];simp
  rw[e2] at hy
  obtain⟨t,rfl⟩:∃t:Nat,y=t:=⟨y.toNat,by omega⟩
  refine⟨c*q+t,?_,?_⟩
  ·rw[Nat.pow_succ]
   have:(c+1)*q≤q^n*q:=Nat.mul_le_mul_right _ hc
   rw[Nat.add_mul] at this
   omega
  ·rw[digV_snoc]
   have d1:((c*q+t:Nat):Int)/(q:Int)=(c:Int):=by
    have:(c*q+t)/q=c:=by rw[Nat.mul_comm,Nat.mul_add_div hq,Nat.div_eq_of_lt (by omega)];omega
    rw[←Int.natCast_ediv,this]
   have d2:((c*q+t:Nat):Int)%(q:Int)=(t:Int):=by
    have:(c*q+t)%q=t:=by rw[Nat.mul_comm,Nat.mul_add_mod,Nat.mod_eq_of_lt (by omega)]
    rw[←Int.natCast_emod,this]
   rw[d1,d2,hd]
end Go.Proofs.YtjmjamhhppoimaaGreat.V
namespace Go.Proofs.YtjmjamhhppoimaaGreat.V
open Go.RowKit G D
set_option linter.unusedVariables false
set_option linter.unusedSimpArgs false
set_option maxHeartbeats 2000000
theorem simple_rep{p:Int}{q:Quiv}{v:Int}(h:(simpleR p q v).2=true):isRep (simpleR p q v).1=true:=by
 unfold simpleR at h⊢
 split at h
 ·rename_i g
  rw[if_pos g]
  obtain⟨hF,hq,v0,v1⟩:=g
  have h5:=okQ_spec hq
  have hl:=oneAt_len q.n v
  have hone:∀w,w<q.n.toNat→(oneAt q.n v).getD w default=if w=v.toNat then 1 else 0:=fun w hw=>by
   unfold oneAt
   by_cases e:v.toNat=w
   ·subst e;simp[hw]
   ·rw[if_neg (fun h=>e h.symm)];simp[hw,e]
  have hb:∀j,j<(oneAt q.n v).length→0≤(oneAt q.n v).getD j default∧(oneAt q.n v).getD j default≤1:=fun j hj=>by
   rw[hone j (by omega)]
   split<;>omega
  have hsum:(oneAt q.n v).sum≤8:=by
   have key:∀(n k:Nat),k<n→((List.replicate n (0:Int)).set k 1).sum=1:=fun n=>by
    induction n with
    |zero=>intro k hk;omega
    |succ n ih=>
     intro k hk
     cases k with
     |zero=>simp[List.replicate_succ]
     |succ k=>simp only[List.replicate_succ,List.set_cons_succ,List.sum_cons];rw[ih k (by omega)];rfl
   have:(oneAt q.n v).sum=1:=key _ _ (by omega)
   omega
  have hs:smallD (oneAt q.n v):=⟨by omega,fun j hj=>by have:=hb j hj;omega⟩
  exact(mapsB_zero p q (oneAt q.n v) hs).rep hF hq (by omega) hs hsum fun j hj=>by have:=hb j hj;omega
 ·cases h
section
variable {P : Program} {w0 : World} {MP : Fr} {d : Option Tmp} {ty : TypeId} {pos : String} {af : Array Edge} {g : Option (Nat × Bool)} {x y : Operand} {t t' : Nat} {a : Bool} {st : St}
theorem A.eqlSame[hu:HasU P t .bool](hx:evA st x=.b a)(hy:evA st y=.b a):ASil true P w0 MP st ⟨d,.binOp .eql t x y t',ty,pos,af,g⟩ (.b true):=by
 have h:=A.eqlBB (P:=P) (t:=t) (w0:=w0) (MP:=MP) (d:=d) (ty:=ty) (pos:=pos) (af:=af) (g:=g) (t':=t') hx hy
 rwa [show(a==a)=true by simp] at h
theorem A.neqSame[hu:HasU P t .bool](hx:evA st x=.b a)(hy:evA st y=.b a):ASil true P w0 MP st ⟨d,.binOp .neq t x y t',ty,pos,af,g⟩ (.b false):=by
 have h:=A.neqBB (P:=P) (t:=t) (w0:=w0) (MP:=MP) (d:=d) (ty:=ty) (pos:=pos) (af:=af) (g:=g) (t':=t') hx hy
 rwa [show(a !=a)=false by simp] at h
end
end Go.Proofs.YtjmjamhhppoimaaGreat.V
