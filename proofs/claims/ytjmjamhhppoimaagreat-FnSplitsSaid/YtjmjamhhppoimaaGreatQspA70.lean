/- Texts that the proof needs: A51, A70. -/
import Derived.Test.YtjmjamhhppoimaaGreatQspB4
namespace Go.Proofs.YtjmjamhhppoimaaGreat.V
open Go.RowKit G D
set_option linter.unusedVariables false
set_option linter.unusedSimpArgs false
set_option maxHeartbeats 1000000
set_option maxRecDepth 4000
def vecF(l:List (List Int)):Nat→Nat→Int:=fun i j=>(l.getD i default).getD j default
theorem rowL_ext{n:Nat}{f g:Nat→Int}(h:∀j,j<n→f j=g j):rowL n f=rowL n g:=List.map_congr_left fun j hj=>h j (by simpa using hj)
theorem rowsL_ext{r n:Nat}{f g:Nat→Nat→Int}(h:∀i,i<r→∀j,j<n→f i j=g i j):rowsL r n f=rowsL r n g:=List.map_congr_left fun i hi=>rowL_ext (h i (by simpa using hi))
theorem vecF_rows{r n:Nat}{f:Nat→Nat→Int}{i j:Nat}(hi:i<r)(hj:j<n):vecF (rowsL r n f) i j=f i j:=by
 unfold vecF;rw[rowsL_get n f hi,rowL_get _ hj]
def spanB(p:Int)(r n:Nat)(f:Nat→Nat→Int):List (List Int):=rowsL (redK p r f n).2.length n (redK p r f n).1
theorem spanB_len(p:Int)(r n:Nat)(f:Nat→Nat→Int):(spanB p r n f).length=(redK p r f n).2.length:=rowsL_len ..
theorem spanB_uniq{p:Int}{r s n:Nat}{f f':Nat→Nat→Int}(hF:isF p=true)(hb:BdF p r n f)(hb':BdF p s n f')(hs:SS p r s n f f'):spanB p r n f=spanB p s n f':=by
 obtain⟨e1,e2⟩:=redK_uniq hF hb hb' hs
 unfold spanB
 rw[←e1]
 exact rowsL_ext e2
def VecB(p:Int)(n:Nat)(l:List (List Int)):Prop:=∀x∈l,x.length=n∧∀j,j<n→0≤x.getD j default∧x.getD j default≤p-1
theorem VecB.bd{p:Int}{n:Nat}{l:List (List Int)}(h:VecB p n l):BdF p l.length n (vecF l):=fun i hi j hj=>(h (l.getD i default) (gm hi)).2 j hj
theorem VecB.app{p:Int}{n:Nat}{x y:List (List Int)}(hx:VecB p n x)(hy:VecB p n y):VecB p n (x++y):=fun z hz=>by
 rcases List.mem_append.1 hz with h|h
 ·exact hx z h
 ·exact hy z h
theorem VecB.rows{p:Int}{r n:Nat}{f:Nat→Nat→Int}(h:BdF p r n f):VecB p n (rowsL r n f):=fun x hx=>by
 simp only[rowsL,List.mem_map,List.mem_range] at hx
 obtain⟨i,hi,rfl⟩:=hx
 exact⟨rowL_len ..,fun j hj=>by rw[rowL_get _ hj];exact h i hi j hj⟩
theorem spanB_vec{p:Int}{r n:Nat}{f:Nat→Nat→Int}(hp:0<p)(hb:BdF p r n f):VecB p n (spanB p r n f):=by
 obtain⟨h1,h2,h3,h4⟩:=redK_bd hp hb n
 exact VecB.rows fun i hi j hj=>h1 i (by omega) j hj
theorem spanB_le{p:Int}{r n:Nat}{f:Nat→Nat→Int}(hp:0<p)(hb:BdF p r n f):(spanB p r n f).length≤r∧(spanB p r n f).length≤n:=by
 rw[spanB_len]
 obtain⟨h1,h2,h3,h4⟩:=redK_bd hp hb n
 exact⟨h2,h3⟩
def spanL(p:Int)(n:Nat)(l:List (List Int)):List (List Int):=spanB p l.length n (vecF l)
theorem spanL_idem{p:Int}{r n:Nat}{f:Nat→Nat→Int}(hF:isF p=true)(hb:BdF p r n f):spanL p n (spanB p r n f)=spanB p r n f:=by
 have hp:=isF_pos hF
 obtain⟨h1,h2⟩:=redK_ech hF hb n (Nat.le_refl _)
 have hv:=spanB_vec (show 0<p by omega) hb
 have hle:=h1.le
 refine spanB_uniq hF hv.bd hb (SS.trans (s:=r) (g:=(redK p r f n).1) ?_ h2.symm)
 have hl:=spanB_len p r n f
 constructor
 ·intro i hi
  rw[hl] at hi
  refine(Sp.row (show i<r by omega)).cg fun j hj=>?_
  rw[spanB,vecF_rows hi hj];exact .refl _
 ·intro i hi
  by_cases e:i<(redK p r f n).2.length
  ·refine(Sp.row (show i<(spanB p r n f).length by omega)).cg fun j hj=>?_
   rw[spanB,vecF_rows e hj];exact .refl _
  ·refine Sp.zero.cg fun j hj=>?_
   rw[h1.low i (by omega) hi j hj];exact .refl _
def pivC(r:Nat)(f:Nat→Nat→Int)(piv:List Nat):List (List Int):=piv.map fun k=>rowL r fun t=>f t k
theorem pivC_len(r:Nat)(f:Nat→Nat→Int)(piv:List Nat):(pivC r f piv).length=piv.length:=by simp[pivC]
theorem pivC_get(r:Nat)(f:Nat→Nat→Int){piv:List Nat}{i:Nat}(hi:i<piv.length):(pivC r f piv).getD i default=rowL r fun t=>f t (piv.getD i 0):=by simp[pivC,hi]
theorem pivC_take(r:Nat)(f:Nat→Nat→Int){piv:List Nat}{i:Nat}(hi:i<piv.length):(pivC r f piv).take (i+1)=(pivC r f piv).take i++[rowL r fun t=>f t (piv.getD i 0)]:=by
 have e:piv.getD i 0=piv[i]:=by simp[hi]
 rw[pivC,List.take_succ_eq_append_getElem (by simpa using hi),e]
 simp
theorem span_cols{p:Int}{r c:Nat}{f:Nat→Nat→Int}(hF:isF p=true)(hb:BdF p r c f):spanL p r (pivC r f (redK p r f c).2)=spanL p r (rowsL c r fun k i=>f i k):=by
 have hp:=isF_pos hF
 obtain⟨h1,h2⟩:=redK_ech hF hb c (Nat.le_refl _)
 obtain⟨_,_,_,h4⟩:=redK_bd (show 0<p by omega) hb c
 have hx:∀i,i<(redK p r f c).2.length→(redK p r f c).2.getD i 0<c:=fun i hi=>h4 _ (by simp[hi])
 have hv1:VecB p r (pivC r f (redK p r f c).2):=fun x hx'=>by
  simp only[pivC,List.mem_map] at hx'
  obtain⟨k,hk,rfl⟩:=hx'
  exact⟨rowL_len ..,fun j hj=>by rw[rowL_get _ hj];exact hb j hj k (h4 k hk)⟩
 have hv2:VecB p r (rowsL c r fun k i=>f i k):=VecB.rows fun k hk i hi=>hb i hi k hk
 refine spanB_uniq hF hv1.bd hv2.bd ⟨fun i hi=>?_,fun k hk=>?_⟩
 ·rw[pivC_len] at hi
  refine(Sp.row (i:=(redK p r f c).2.getD i 0) (by rw[rowsL_len];exact hx i hi)).cg fun t ht=>?_
  rw[vecF_rows (hx i hi) ht]
  unfold vecF
  rw[pivC_get r f hi,rowL_get _ ht];exact .refl _
 ·rw[rowsL_len] at hk
  refine⟨fun i=>(redK p r f c).1 i k,fun t ht=>?_⟩
  rw[vecF_rows hk ht,pivC_len]
  have:=h1.comb (h2.1 t ht) k hk
  refine this.trans ?_
  rw[sumN_eq (g:=fun i=>(redK p r f c).1 i k*vecF (pivC r f (redK p r f c).2) i t) _ fun i hi=>by
   unfold vecF
   rw[pivC_get r f hi,rowL_get _ ht,Int.mul_comm]]
  exact .refl _
def fineB(p n:Int)(l:List (List Int)):Bool:=(l.all fun x=>decide ((x.length:Int)=n)&&isVec p x)&&(isF p&&decide (0≤n∧n≤8)&&decide (l.length≤16))
def isSpc(p:Int)(s:Spc):Bool:=fineB p s.n s.b&&decide (spanL p s.n.toNat s.b=s.b)
theorem fineB_spec{p n:Int}{l:List (List Int)}(h:fineB p n l=true):isF p=true∧(0≤n∧n≤8)∧l.length≤16∧VecB p n.toNat l:=by
 simp only[fineB,isVec,Bool.and_eq_true,decide_eq_true_eq,List.all_eq_true] at h
 refine⟨h.2.1.1,h.2.1.2,h.2.2,fun x hx=>?_⟩
 obtain⟨h1,h2⟩:=h.1 x hx
 exact⟨by omega,fun j hj=>allIn_spec h2.2 (by omega)⟩
theorem fineB_of{p:Int}{n:Nat}{l:List (List Int)}(hF:isF p=true)(hn:n≤8)(hl:l.length≤16)(hv:VecB p n l):fineB p (n:Int) l=true:=by
 simp only[fineB,isVec,Bool.and_eq_true,decide_eq_true_eq,List.all_eq_true]
 refine⟨fun x hx=>?_,⟨hF,by omega⟩,hl⟩
 obtain⟨h1,h2⟩:=hv x hx
 exact⟨by omega,⟨hF,by omega⟩,allIn_all fun j hj=>h2 j (by omega)⟩
theorem isSpc_span{p:Int}{r n:Nat}{f:Nat→Nat→Int}(hF:isF p=true)(hn:n≤8)(hb:BdF p r n f):isSpc p ⟨(n:Nat),spanB p r n f⟩=true:=by
 have hp:=isF_pos hF
 have hle:=spanB_le (show 0<p by omega) hb
 simp only[isSpc,Bool.and_eq_true,decide_eq_true_eq]
 exact⟨fineB_of hF hn (by omega) (spanB_vec (by omega) hb),by rw[Int.toNat_natCast];exact spanL_idem hF hb⟩
theorem isSpc_nil{p:Int}{n:Nat}(hF:isF p=true)(hn:n≤8):isSpc p ⟨(n:Nat),[]⟩=true:=by
 simp only[isSpc,Bool.and_eq_true,decide_eq_true_eq]
 refine⟨fineB_of hF hn (by simp) (fun x hx=>by cases hx),?_⟩
 have hp:=isF_pos hF
 have hb:BdF p 0 n (vecF []):=fun i hi=>absurd hi (by omega)
 have:=(spanB_le (show 0<p by omega) hb).1
 exact List.eq_nil_of_length_eq_zero (by show(spanB p 0 (Int.toNat (n:Int)) (vecF [])).length=0;rw[Int.toNat_natCast];omega)
theorem isSpc_spec{p:Int}{s:Spc}(h:isSpc p s=true):isF p=true∧(0≤s.n∧s.n≤8)∧s.b.length≤16∧VecB p s.n.toNat s.b:=by
 simp only[isSpc,Bool.and_eq_true] at h
 exact fineB_spec h.1
def addS(p:Int)(a b:Spc):Spc:=⟨a.n,spanL p a.n.toNat (a.b++b.b)⟩
def imgS(p:Int)(m:Mat):Spc:=⟨m.r,spanL p m.r.toNat (rowsL m.c.toNat m.r.toNat fun k i=>ent m i k)⟩
theorem addS_ok{p:Int}{a b:Spc}(ha:isSpc p a=true)(hb:isSpc p b=true)(hn:b.n=a.n):isSpc p (addS p a b)=true:=by
 obtain⟨h1,h2,h3,h4⟩:=isSpc_spec ha
 obtain⟨_,_,g3,g4⟩:=isSpc_spec hb
 rw[hn] at g4
 have:=isSpc_span h1 (show a.n.toNat≤8 by omega) (h4.app g4).bd
 rw[Int.toNat_of_nonneg h2.1] at this
 exact this
theorem imgS_ok{p:Int}{m:Mat}(h:isMat p m=true):isSpc p (imgS p m)=true:=by
 obtain⟨h0,h1,h2,h3,h4⟩:=isMat_spec h
 have hv:VecB p m.r.toNat (rowsL m.c.toNat m.r.toNat fun k i=>ent m i k):=VecB.rows fun k hk i hi=>ent_bd h i hi k hk
 have:=isSpc_span h0 (show m.r.toNat≤8 by omega) hv.bd
 rw[Int.toNat_of_nonneg h1.1] at this
 exact this
theorem set_ne{α:Type}[Inhabited α]{L:List α}{i j:Nat}(h:i≠j)(x:α):(L.set i x).getD j default=L.getD j default:=by simp[List.getElem?_set,h]
def radK(r:Rep):Nat→List Spc
 |0=>r.d.map fun d=>⟨d,[]⟩
 |k+1=>(radK r k).set (r.q.to.getD k default).toNat (addS r.p ((radK r k).getD (r.q.to.getD k default).toNat default) (imgS r.p (r.m.getD k default)))
theorem radK_len(r:Rep):∀k,(radK r k).length=r.d.length
 |0=>by simp[radK]
 |k+1=>by rw[radK,List.length_set,radK_len r k]
theorem radK_ok{r:Rep}(h:isRep r=true):∀k,k≤r.q.fr.length→∀v,v<r.d.length→((radK r k).getD v default).n=r.d.getD v default∧isSpc r.p ((radK r k).getD v default)=true
 |0,_,v,hv=>by
  obtain⟨h1,h2,h3,h4⟩:=isRep_spec h
  obtain⟨_,_,c3,_⟩:=areDims_spec h2
  have hd:0≤r.d.getD v default∧r.d.getD v default≤4:=allIn_spec c3 hv
  have e:(radK r 0).getD v default=⟨r.d.getD v default,[]⟩:=by simp[radK,hv]
  rw[e]
  refine⟨rfl,?_⟩
  have:=isSpc_nil (n:=(r.d.getD v default).toNat) h1 (by omega)
  rwa [Int.toNat_of_nonneg hd.1] at this
 |k+1,hk,v,hv=>by
  obtain⟨h1,h2,h3,h4⟩:=isRep_spec h
  obtain⟨c1,c2,c3,_⟩:=areDims_spec h2
  have t:0≤r.q.to.getD k default∧r.q.to.getD k default<r.q.n:=okQ_to c1 (by omega)
  have ih:=radK_ok h k (by omega)
  have hm:=h4 k (by omega)
  simp only[fitM,Bool.and_eq_true,decide_eq_true_eq] at hm
  rw[radK]
  by_cases e:(r.q.to.getD k default).toNat=v
  ·subst e
   obtain⟨i1,i2⟩:=ih _ hv
   rw[set_get (by rw[radK_len];exact hv)]
   refine⟨i1,addS_ok i2 (imgS_ok hm.1.1) ?_⟩
   show(r.m.getD k default).r=_
   rw[i1];exact hm.2
  ·rw[set_ne e _];exact ih v hv
def radL(r:Rep):List Spc:=radK r r.q.fr.length
theorem map_take{α β:Type}[Inhabited α](f:α→β){l:List α}{k:Nat}(h:k<l.length):(l.map f).take (k+1)=(l.map f).take k++[f (l.getD k default)]:=by
 have e:l.getD k default=l[k]:=by simp[h]
 rw[List.take_succ_eq_append_getElem (by simpa using h),e]
 simp
theorem idx_skip{α:Type}[Inhabited α](q:α→Bool)(l:List α):∀k,k≤l.length→(∀j,j<k→q (l.getD j default)=false)→idxFrom q l 0=idxFrom q (l.drop k) k
 |0,_,_=>rfl
 |k+1,hk,h=>by
  rw[idx_skip q l k (by omega) fun j hj=>h j (by omega),idxFrom_drop q l (by omega),h k (by omega)]
  rfl
def leadV(v:List Int):Int:=idxFrom (fun x=>decide (x≠0)) v 0
theorem leadV_at{v:List Int}{k:Nat}(hk:k<v.length)(h0:∀j,j<k→v.getD j default=0)(h1:v.getD k default≠0):leadV v=k:=by
 unfold leadV
 rw[idx_skip _ v k (by omega) fun j hj=>(by show decide (v.getD j default≠0)=false;rw[h0 j hj];rfl),idxFrom_drop _ v hk,decide_eq_true h1]
 rfl
theorem leadV_none{v:List Int}(h0:∀j,j<v.length→v.getD j default=0):leadV v=-1:=by
 unfold leadV
 rw[idx_skip _ v v.length (Nat.le_refl _) fun j hj=>(by show decide (v.getD j default≠0)=false;rw[h0 j hj];rfl),List.drop_length]
 rfl
theorem leadV_neg{v:List Int}(h:leadV v<0):∀j,j<v.length→v.getD j default=0:=by
 unfold leadV at h
 have h2:=idxFrom_any (fun x=>decide (x≠0)) v 0
 rw[decide_eq_false (by omega)] at h2
 intro j hj
 have h3:=(List.any_eq_false.1 h2.symm) _ (gm (d:=default) hj)
 simpa using h3
def rstK(p:Int)(b:List (List Int))(v:List Int):Nat→List Int
 |0=>v
 |n+1=>addK p (p-(rstK p b v n).getD (leadV (b.getD n default)).toNat default) 0 (b.getD n default) (rstK p b v n) (b.getD n default).length
theorem rstK_len(p:Int)(b:List (List Int))(v:List Int):∀n,(rstK p b v n).length=v.length
 |0=>rfl
 |n+1=>by rw[rstK,addK_len,rstK_len p b v n]
theorem addK_get0(p k:Int)(b xs:List Int){t n:Nat}(ht:t<xs.length)(hn:t<n):(addK p k 0 b xs n).getD t default=(xs.getD t default+k*b.getD t default)%p:=by
 simp only[addK,List.getD_eq_getElem?_getD,List.getElem?_map,List.getElem?_range ht,Option.map_some,Option.getD_some]
 rw[if_pos (by omega)]
 rfl
def hasV(p:Int)(s:Spc)(v:List Int):Bool:=decide (leadV (rstK p s.b v s.b.length)<0)
theorem Ech.tr{r n:Nat}{g f:Nat→Nat→Int}{piv:List Nat}{m:Nat}(h:Ech m n g piv)(hl:piv.length=r)(e:∀i,i<r→∀j,j<n→f i j=g i j):Ech r n f piv:=by
 refine⟨by omega,h.lt,h.inc,fun i hi j hj=>?_,fun i h1 h2=>by omega,fun i hi j hj=>?_⟩
 ·rw[e i (by omega) _ (h.lt j hj)];exact h.one i hi j hj
 ·have:=h.lt i hi
  rw[e i (by omega) j (by omega)];exact h.lead i hi j hj
theorem isSpc_ech{p:Int}{s:Spc}(h:isSpc p s=true):∃piv,Ech s.b.length s.n.toNat (vecF s.b) piv∧piv.length=s.b.length:=by
 obtain⟨h1,h2,h3,h4⟩:=isSpc_spec h
 have hp:=isF_pos h1
 simp only[isSpc,Bool.and_eq_true,decide_eq_true_eq] at h
 have h5:=h.2
 obtain⟨e1,e2⟩:=redK_ech h1 h4.bd s.n.toNat (Nat.le_refl _)
 have hl:=spanB_len p s.b.length s.n.toNat (vecF s.b)
 rw[show spanB p s.b.length s.n.toNat (vecF s.b)=s.b from h5] at hl
 refine⟨_,e1.tr hl.symm fun i hi j hj=>?_,hl.symm⟩
 have:vecF (spanB p s.b.length s.n.toNat (vecF s.b)) i j=(redK p s.b.length (vecF s.b) s.n.toNat).1 i j:=vecF_rows (by omega) hj
 rwa [show spanB p s.b.length s.n.toNat (vecF s.b)=s.b from h5] at this
theorem span_ss{p:Int}{r n:Nat}{f:Nat→Nat→Int}(hF:isF p=true)(hb:BdF p r n f):SS p (spanB p r n f).length r n (vecF (spanB p r n f)) f:=by
 obtain⟨h1,h2⟩:=redK_ech hF hb n (Nat.le_refl _)
 have hle:=h1.le
 refine SS.trans (s:=r) (g:=(redK p r f n).1) ?_ h2.symm
 have hl:=spanB_len p r n f
 constructor
 ·intro i hi
  rw[hl] at hi
  refine(Sp.row (show i<r by omega)).cg fun j hj=>?_
  rw[spanB,vecF_rows hi hj];exact .refl _
 ·intro i hi
  by_cases e:i<(redK p r f n).2.length
  ·refine(Sp.row (show i<(spanB p r n f).length by omega)).cg fun j hj=>?_
   rw[spanB,vecF_rows e hj];exact .refl _
  ·refine Sp.zero.cg fun j hj=>?_
   rw[h1.low i (by omega) hi j hj];exact .refl _
theorem Ech.lead_at{p:Int}{n:Nat}{b:List (List Int)}{piv:List Nat}(h:Ech b.length n (vecF b) piv)(hl:piv.length=b.length)(hv:VecB p n b){i:Nat}(hi:i<b.length):leadV (b.getD i default)=(piv.getD i 0:Nat):=by
 have h1:=(hv _ (gm (d:=default) hi)).1
 have h2:=h.lt i (by omega)
 refine leadV_at (by omega) (fun j hj=>h.lead i (by omega) j hj) ?_
 have:=h.one i (by omega) i (by omega)
 rw[if_pos rfl] at this
 show vecF b i (piv.getD i 0)≠0
 omega
theorem rstK_spec{p:Int}{n:Nat}{b:List (List Int)}{piv:List Nat}(hp:2≤p)(h:Ech b.length n (vecF b) piv)(hl:piv.length=b.length)(hv:VecB p n b){v:List Int}(hn:v.length=n)(hb:∀j,j<n→0≤v.getD j default∧v.getD j default≤p-1):
  ∀m,m≤b.length→(∀j,j<n→0≤(rstK p b v m).getD j default∧(rstK p b v m).getD j default≤p-1)∧(∀i,i<m→(rstK p b v m).getD (piv.getD i 0) default=0)∧Sp p b.length n (vecF b) (fun j=>v.getD j default+(-1)*(rstK p b v m).getD j default)
 |0,_=>⟨hb,fun i hi=>absurd hi (by omega),Sp.zero.cg fun j _=>by show Cg p (v.getD j default+-1*v.getD j default) 0;exact⟨0,by omega⟩⟩
 |m+1,hm=>by
  obtain⟨h1,h2,h3⟩:=rstK_spec hp h hl hv hn hb m (by omega)
  have hln:=rstK_len p b v m
  have hbl:=(hv _ (gm (d:=default) (show m<b.length by omega))).1
  have hlead:=h.lead_at hl hv (i:=m) (by omega)
  have hpm:=h.lt m (by omega)
  have e:∀j,j<n→(rstK p b v (m+1)).getD j default=((rstK p b v m).getD j default+(p-(rstK p b v m).getD (piv.getD m 0) default)*vecF b m j)%p:=fun j hj=>by
   rw[rstK,hlead,Int.toNat_natCast,addK_get0 _ _ _ _ (by omega) (by omega)]
   rfl
  refine⟨fun j hj=>by rw[e j hj];exact mod_bd (by omega),fun i hi=>?_,?_⟩
  ·have hi2:=h.lt i (by omega)
   rw[e _ hi2,h.one m (by omega) i (by omega)]
   by_cases em:i=m
   ·subst em
    rw[if_pos rfl,Int.mul_one,show(rstK p b v i).getD (piv.getD i 0) default+(p-(rstK p b v i).getD (piv.getD i 0) default)=p by omega,Int.emod_self]
   ·rw[if_neg (by omega),Int.mul_zero,Int.add_zero,h2 i (by omega)];rfl
  ·refine(h3.add ((Sp.row (show m<b.length by omega)).smul (-(p-(rstK p b v m).getD (piv.getD m 0) default)))).cg fun j hj=>?_
   try dsimp only
   rw[e j hj]
   generalize (rstK p b v m).getD j default=x
   generalize p-(rstK p b v m).getD (piv.getD m 0) default=k
   generalize vecF b m j=y
   have:=Cg.mod p (x+k*y)
   refine((Cg.refl (v.getD j default)).add ((Cg.refl (-1)).mul this)).trans ⟨0,?_⟩
   grind
theorem hasV_iff{p:Int}{s:Spc}(h:isSpc p s=true){v:List Int}(hn:v.length=s.n.toNat)(hb:∀j,j<s.n.toNat→0≤v.getD j default∧v.getD j default≤p-1):hasV p s v=true↔Sp p s.b.length s.n.toNat (vecF s.b) (fun j=>v.getD j default):=by
 obtain⟨h1,h2,h3,h4⟩:=isSpc_spec h
 have hp:=isF_pos h1
 obtain⟨piv,he,hl⟩:=isSpc_ech h
 obtain⟨r1,r2,r3⟩:=rstK_spec (by omega) he hl h4 hn hb s.b.length (Nat.le_refl _)
 have hln:=rstK_len p s.b v s.b.length
 unfold hasV
 rw[decide_eq_true_eq]
 constructor
 ·intro hneg
  have hz:=leadV_neg hneg
  refine r3.cg fun j hj=>?_
  try dsimp only
  rw[hz j (by omega)]
  exact⟨0,by omega⟩
 ·intro hs
  have hd:Sp p s.b.length s.n.toNat (vecF s.b) (fun j=>(rstK p s.b v s.b.length).getD j default):=(hs.add (r3.smul (-1))).cg fun j _=>⟨0,by omega⟩
  have hz:=he.zero hd fun i hi=>by
   try dsimp only
   rw[r2 i (by omega)];exact .refl _
  have:=leadV_none (v:=rstK p s.b v s.b.length) fun j hj=>(hz j (by omega)).eq (r1 j (by omega)) ⟨by omega,by omega⟩
  omega
theorem inc_sub{a b:List Nat}(ha:a.Pairwise (·<·))(hb:b.Pairwise (·<·))(h:∀x∈a,x∈b)(hl:b.length≤a.length):a=b:=by
 have e:a=b.filter (fun x=>decide (x∈a)):=inc_ext ha (hb.filter _) fun x=>by
  simp only[List.mem_filter,decide_eq_true_eq]
  exact⟨fun hx=>⟨h x hx,hx⟩,fun hx=>hx.2⟩
 have s:a.Sublist b:=by
  have:=List.filter_sublist (l:=b) (p:=fun x=>decide (x∈a))
  rwa [←e] at this
 exact s.eq_of_length_le hl
theorem Ech.full{p:Int}{r s c:Nat}{g g':Nat→Nat→Int}{piv piv':List Nat}(hp:2≤p)(h:Ech r c g piv)(h':Ech s c g' piv')(hs:∀i,i<r→Sp p s c g' (g i))(hl:piv.length=piv'.length):∀i,i<s→Sp p r c g (g' i):=by
 have e:piv=piv':=inc_sub h.pw h'.pw (fun k hk=>by
  have hkc:k<c:=by
   obtain⟨i,hi,e⟩:=List.getElem_of_mem hk
   have:=h.lt i hi;simp[hi] at this;omega
  obtain⟨v,h1,h2⟩:=(h.mem hp hkc).mp hk
  exact(h'.mem hp hkc).mpr ⟨v,h1.sub hs,h2⟩) (by omega)
 subst e
 intro i hi
 by_cases e:i<piv.length
 ·have hr:=h.le
  have h1:Sp p s c g' fun j=>g i j+(-1)*g' i j:=(hs i (by omega)).add ((Sp.row hi).smul (-1))
  have h2:=h'.zero h1 fun t ht=>by
   show Cg p (g i _+(-1)*g' i _) 0
   rw[h.one i e t ht,h'.one i e t ht]
   split<;>exact⟨0,by omega⟩
  refine(Sp.row (show i<r by omega)).cg fun j hj=>?_
  have:=(h2 j hj).add (Cg.refl (g' i j))
  rw[Int.zero_add,show g i j+-1*g' i j+g' i j=g i j by omega] at this
  exact this.symm
 ·exact Sp.zero.cg fun j hj=>by rw[h'.low i (by omega) hi j hj];exact .refl _
theorem vecF_app_l{x y:List (List Int)}{i:Nat}(h:i<x.length)(j:Nat):vecF (x++y) i j=vecF x i j:=by
 unfold vecF;simp[List.getElem?_append_left h]
theorem vecF_app_r(x y:List (List Int))(i j:Nat):vecF (x++y) (x.length+i) j=vecF y i j:=by
 unfold vecF;simp[List.getElem?_append_right]
def inS(p:Int)(a b:Spc):Bool:=a.b.all (hasV p b)
theorem inS_iff{p:Int}{a b:Spc}(ha:isSpc p a=true)(hb:isSpc p b=true)(hn:b.n=a.n):inS p a b=true↔∀i,i<a.b.length→Sp p b.b.length b.n.toNat (vecF b.b) (vecF a.b i):=by
 obtain⟨h1,h2,h3,h4⟩:=isSpc_spec ha
 unfold inS
 rw[List.all_eq_true]
 constructor
 ·intro h i hi
  have hv:=h4 _ (gm (d:=default) hi)
  exact(hasV_iff hb (by rw[hn];exact hv.1) (by rw[hn];exact hv.2)).mp (h _ (gm (d:=default) hi))
 ·intro h x hx
  obtain⟨i,hi,rfl⟩:=List.getElem_of_mem hx
  have hv:=h4 _ hx
  refine(hasV_iff hb (by rw[hn];exact hv.1) (by rw[hn];exact hv.2)).mpr ((h i hi).cg fun j _=>?_)
  have e:vecF a.b i j=(a.b[i]).getD j default:=by unfold vecF;simp[hi]
  rw[e];exact .refl _
theorem within_eq{p:Int}{a b:Spc}(ha:isSpc p a=true)(hb:isSpc p b=true)(hn:b.n=a.n):decide ((addS p a b).b.length=b.b.length)=inS p a b:=by
 obtain⟨h1,h2,h3,h4⟩:=isSpc_spec ha
 obtain⟨_,_,g3,g4⟩:=isSpc_spec hb
 have hp:=isF_pos h1
 rw[hn] at g4
 have hv:=h4.app g4
 have hss:=span_ss h1 hv.bd
 rw[Bool.eq_iff_iff,decide_eq_true_eq,inS_iff ha hb hn,hn]
 constructor
 ·intro hl i hi
  obtain⟨pa,ea,la⟩:=isSpc_ech (addS_ok ha hb hn)
  obtain⟨pb,eb,lb⟩:=isSpc_ech hb
  rw[hn] at eb
  have hsub:∀i,i<b.b.length→Sp p (addS p a b).b.length a.n.toNat (vecF (addS p a b).b) (vecF b.b i):=fun i hi=>
   ((hss.2 (a.b.length+i) (by rw[List.length_append];omega)).cg fun j _=>by rw[vecF_app_r];exact .refl _)
  have hfull:=eb.full (by omega) ea hsub (by omega)
  have hA:Sp p (addS p a b).b.length a.n.toNat (vecF (addS p a b).b) (vecF a.b i):=
   ((hss.2 i (by rw[List.length_append];omega)).cg fun j _=>by rw[vecF_app_l hi];exact .refl _)
  exact hA.sub hfull
 ·intro h
  have hS:SS p (a.b++b.b).length b.b.length a.n.toNat (vecF (a.b++b.b)) (vecF b.b):=by
   constructor
   ·intro i hi
    by_cases e:i<a.b.length
    ·exact(h i e).cg fun j _=>by rw[vecF_app_l e];exact .refl _
    ·rw[List.length_append] at hi
     refine(Sp.row (show i-a.b.length<b.b.length by omega)).cg fun j _=>?_
     have:=vecF_app_r a.b b.b (i-a.b.length) j
     rw[show a.b.length+(i-a.b.length)=i by omega] at this
     rw[this];exact .refl _
   ·intro i hi
    refine(Sp.row (show a.b.length+i<(a.b++b.b).length by rw[List.length_append];omega)).cg fun j _=>?_
    rw[vecF_app_r];exact .refl _
  have e:=spanB_uniq h1 hv.bd g4.bd hS
  have e2:spanL p b.n.toNat b.b=b.b:=by
   simp only[isSpc,Bool.and_eq_true,decide_eq_true_eq] at hb
   exact hb.2
  rw[hn] at e2
  show(spanL p a.n.toNat (a.b++b.b)).length=_
  rw[show spanL p a.n.toNat (a.b++b.b)=spanL p a.n.toNat b.b from e,e2]
def appV(p:Int)(m:Mat)(v:List Int):List Int:=rowL m.r.toNat fun i=>sumN (fun k=>ent m i k*v.getD k default) m.c.toNat%p
theorem appV_len(p:Int)(m:Mat)(v:List Int):(appV p m v).length=m.r.toNat:=rowL_len ..
theorem appV_bd{p:Int}(hp:0<p)(m:Mat)(v:List Int){j:Nat}(hj:j<m.r.toNat):0≤(appV p m v).getD j default∧(appV p m v).getD j default≤p-1:=by
 unfold appV;rw[rowL_get _ hj];exact mod_bd hp
theorem dotK_sum(f g:Nat→Nat→Int)(i c:Nat):∀n,dotK f g i c n=sumN (fun k=>f i k*g k c) n
 |0=>rfl
 |n+1=>by rw[dotK,sumN,dotK_sum f g i c n]
theorem tab_one(r:Nat)(f:Nat→Nat→Int):tab r 1 f=rowL r fun i=>f i 0:=by
 simp[tab,rowL,Nat.mod_one]
def imgL(p:Int)(m:Mat)(s:Spc):List (List Int):=s.b.map (appV p m)
theorem imgL_len(p:Int)(m:Mat)(s:Spc):(imgL p m s).length=s.b.length:=by simp[imgL]
theorem imgL_vec{p:Int}(hp:0<p)(m:Mat)(s:Spc):VecB p m.r.toNat (imgL p m s):=fun x hx=>by
 simp only[imgL,List.mem_map] at hx
 obtain⟨v,_,rfl⟩:=hx
 exact⟨appV_len ..,fun j hj=>appV_bd hp m v hj⟩
theorem imgL_take(p:Int)(m:Mat)(s:Spc){i:Nat}(hi:i<s.b.length):(imgL p m s).take (i+1)=(imgL p m s).take i++[appV p m (s.b.getD i default)]:=by
 have e:s.b.getD i default=s.b[i]:=by simp[hi]
 rw[imgL,List.take_succ_eq_append_getElem (by simpa using hi),e]
 simp
def imgSp(p:Int)(m:Mat)(s:Spc):Spc:=⟨m.r,spanL p m.r.toNat (imgL p m s)⟩
theorem imgSp_ok{p:Int}{m:Mat}(h:isMat p m=true)(s:Spc):isSpc p (imgSp p m s)=true:=by
 obtain⟨h0,h1,h2,h3,h4⟩:=isMat_spec h
 have hp:=isF_pos h0
 have:=isSpc_span h0 (show m.r.toNat≤8 by omega) (imgL_vec (show 0<p by omega) m s).bd
 rw[Int.toNat_of_nonneg h1.1] at this
 exact this
def spcAt(r:Rep)(s:List Spc)(v:Nat):Bool:=isSpc r.p (s.getD v default)&&decide ((s.getD v default).n=r.d.getD v default)
def subAt(r:Rep)(s:List Spc)(i:Nat):Bool:=inS r.p (imgSp r.p (r.m.getD i default) (s.getD (r.q.fr.getD i default).toNat default)) (s.getD (r.q.to.getD i default).toNat default)
def isSub(r:Rep)(s:List Spc):Bool:=isRep r&&(decide (s.length=r.d.length)&&((List.range s.length).all (spcAt r s)&&(List.range r.m.length).all (subAt r s)))
theorem isSub_spec{r:Rep}{s:List Spc}(h:isSub r s=true):isRep r=true∧s.length=r.d.length∧(∀v,v<s.length→isSpc r.p (s.getD v default)=true∧(s.getD v default).n=r.d.getD v default)∧∀i,i<r.m.length→subAt r s i=true:=by
 simp only[isSub,Bool.and_eq_true,decide_eq_true_eq,List.all_eq_true] at h
 obtain⟨h1,h2,h3,h4⟩:=h
 refine⟨h1,h2,fun v hv=>?_,fun i hi=>h4 i (by simpa using hi)⟩
 have:=h3 v (by simpa using hv)
 simpa[spcAt] using this
end Go.Proofs.YtjmjamhhppoimaaGreat.V
