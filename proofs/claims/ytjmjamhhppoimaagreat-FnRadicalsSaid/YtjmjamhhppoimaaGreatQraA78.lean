/- Texts that the proof needs: A78. -/
import Derived.Test.YtjmjamhhppoimaaGreatQraA70
namespace Go.Proofs.YtjmjamhhppoimaaGreat.V
open Go.RowKit G D
set_option linter.unusedVariables false
set_option linter.unusedSimpArgs false
set_option maxHeartbeats 1000000
set_option maxRecDepth 4000
theorem sumN_swap(h:Nat→Nat→Int)(n:Nat):∀m,sumN (fun i=>sumN (fun j=>h i j) n) m=sumN (fun j=>sumN (fun i=>h i j) m) n
 |0=>by
  rw[sumN_zero (h:=fun j=>sumN (fun i=>h i j) 0) n fun j _=>rfl];rfl
 |m+1=>by
  rw[sumN,sumN_swap h n m]
  exact(sumN_add (fun j=>sumN (fun i=>h i j) m) (fun j=>h m j) n).symm
theorem appV_get(p:Int)(m:Mat)(v:List Int){j:Nat}(hj:j<m.r.toNat):(appV p m v).getD j default=sumN (fun k=>ent m j k*v.getD k default) m.c.toNat%p:=by
 unfold appV;rw[rowL_get _ hj]
theorem vecF_map{p:Int}{m:Mat}{b:List (List Int)}{i:Nat}(hi:i<b.length)(j:Nat):vecF (b.map (appV p m)) i j=(appV p m (b.getD i default)).getD j default:=by
 unfold vecF;simp[hi]
theorem appV_sp{p:Int}{m:Mat}{b:List (List Int)}{v:List Int}(h:Sp p b.length m.c.toNat (vecF b) (fun j=>v.getD j default)):Sp p b.length m.r.toNat (vecF (b.map (appV p m))) (fun j=>(appV p m v).getD j default):=by
 obtain⟨co,e⟩:=h
 refine⟨co,fun j hj=>?_⟩
 dsimp only
 rw[appV_get p m v hj]
 refine(Cg.mod _ _).trans ((sumN_cg (g:=fun k=>ent m j k*sumN (fun i=>co i*vecF b i k) b.length) _ fun k hk=>(Cg.refl _).mul (e k hk)).trans ?_)
 rw[sumN_eq (g:=fun k=>sumN (fun i=>ent m j k*(co i*vecF b i k)) b.length) _ fun k _=>(sumN_mul _ _ _).symm,sumN_swap]
 refine sumN_cg _ fun i hi=>?_
 rw[vecF_map hi,appV_get p m _ hj,sumN_eq (g:=fun k=>co i*(ent m j k*vecF b i k)) _ fun k _=>by rw[←Int.mul_assoc,←Int.mul_assoc,Int.mul_comm (ent m j k)],sumN_mul]
 exact(Cg.refl _).mul (Cg.mod _ _).symm
theorem appV_cols{p:Int}{m:Mat}(v:List Int):Sp p m.c.toNat m.r.toNat (vecF (rowsL m.c.toNat m.r.toNat fun k i=>ent m i k)) (fun j=>(appV p m v).getD j default):=by
 refine⟨fun k=>v.getD k default,fun j hj=>?_⟩
 dsimp only
 rw[appV_get p m v hj]
 refine(Cg.mod _ _).trans ?_
 rw[sumN_eq (g:=fun k=>v.getD k default*vecF (rowsL m.c.toNat m.r.toNat fun k i=>ent m i k) k j) _ fun k hk=>by rw[vecF_rows hk hj,Int.mul_comm]]
 exact .refl _
theorem imgW_iff{p:Int}{m:Mat}{s T:Spc}(hm:isMat p m=true)(hT:isSpc p T=true)(hn:T.n=m.r):inS p (imgSp p m s) T=true↔∀i,i<s.b.length→Sp p T.b.length T.n.toNat (vecF T.b) (fun j=>(appV p m (s.b.getD i default)).getD j default):=by
 obtain⟨h0,h1,h2,h3,h4⟩:=isMat_spec hm
 have hp:=isF_pos h0
 have hv:=imgL_vec (show 0<p by omega) m s
 have hss:SS p (imgSp p m s).b.length s.b.length m.r.toNat (vecF (imgSp p m s).b) (vecF (imgL p m s)):=by
  have:=span_ss h0 hv.bd
  rw[imgL_len] at this
  show SS p (spanL p m.r.toNat (imgL p m s)).length _ _ (vecF (spanL p m.r.toNat (imgL p m s))) _
  unfold spanL
  rw[imgL_len]
  exact this
 rw[inS_iff (imgSp_ok hm s) hT hn,hn]
 constructor
 ·intro h i hi
  refine((hss.2 i hi).sub h).cg fun j _=>?_
  unfold imgL
  rw[vecF_map hi];exact .refl _
 ·intro h i hi
  refine(hss.1 i hi).sub fun t ht=>(h t ht).cg fun j _=>?_
  unfold imgL
  rw[vecF_map ht];exact .refl _
theorem addS_ss{p:Int}{a b:Spc}(ha:isSpc p a=true)(hb:isSpc p b=true)(hn:b.n=a.n):SS p (addS p a b).b.length (a.b.length+b.b.length) a.n.toNat (vecF (addS p a b).b) (vecF (a.b++b.b)):=by
 obtain⟨h1,h2,h3,h4⟩:=isSpc_spec ha
 obtain⟨_,_,g3,g4⟩:=isSpc_spec hb
 rw[hn] at g4
 have:=span_ss h1 (h4.app g4).bd
 rw[List.length_append] at this
 show SS p (spanL p a.n.toNat (a.b++b.b)).length _ _ (vecF (spanL p a.n.toNat (a.b++b.b))) _
 unfold spanL
 rw[List.length_append]
 exact this
theorem addS_l{p:Int}{a b:Spc}(ha:isSpc p a=true)(hb:isSpc p b=true)(hn:b.n=a.n){i:Nat}(hi:i<a.b.length):Sp p (addS p a b).b.length a.n.toNat (vecF (addS p a b).b) (vecF a.b i):=
 ((addS_ss ha hb hn).2 i (by omega)).cg fun j _=>by rw[vecF_app_l hi];exact .refl _
theorem addS_r{p:Int}{a b:Spc}(ha:isSpc p a=true)(hb:isSpc p b=true)(hn:b.n=a.n){i:Nat}(hi:i<b.b.length):Sp p (addS p a b).b.length a.n.toNat (vecF (addS p a b).b) (vecF b.b i):=
 ((addS_ss ha hb hn).2 (a.b.length+i) (by omega)).cg fun j _=>by rw[vecF_app_r];exact .refl _
theorem arrow_ok{r:Rep}(h:isRep r=true){i:Nat}(hi:i<r.m.length):isMat r.p (r.m.getD i default)=true∧(0≤r.q.fr.getD i default∧(r.q.fr.getD i default).toNat<r.d.length)∧(0≤r.q.to.getD i default∧(r.q.to.getD i default).toNat<r.d.length)∧(r.m.getD i default).c=r.d.getD (r.q.fr.getD i default).toNat default∧(r.m.getD i default).r=r.d.getD (r.q.to.getD i default).toNat default:=by
 obtain⟨h1,h2,h3,h4⟩:=isRep_spec h
 obtain⟨c1,c2,c3,_⟩:=areDims_spec h2
 have f:0≤r.q.fr.getD i default∧r.q.fr.getD i default<r.q.n:=okQ_fr c1 (by omega)
 have t:0≤r.q.to.getD i default∧r.q.to.getD i default<r.q.n:=okQ_to c1 (by omega)
 have hm:=h4 i hi
 simp only[fitM,Bool.and_eq_true,decide_eq_true_eq] at hm
 exact⟨hm.1.1,⟨f.1,by omega⟩,⟨t.1,by omega⟩,hm.1.2,hm.2⟩
theorem isSub_mk{r:Rep}{s:List Spc}(h1:isRep r=true)(h2:s.length=r.d.length)(h3:∀v,v<s.length→isSpc r.p (s.getD v default)=true∧(s.getD v default).n=r.d.getD v default)(h4:∀i,i<r.m.length→subAt r s i=true):isSub r s=true:=by
 simp only[isSub,Bool.and_eq_true,decide_eq_true_eq,List.all_eq_true]
 refine⟨h1,h2,fun v hv=>?_,fun i hi=>h4 i (by simpa using hi)⟩
 have:=h3 v (by simpa using hv)
 simpa[spcAt] using this
theorem rad_mono{r:Rep}(h:isRep r=true):∀k,k<r.q.fr.length→∀v,v<r.d.length→∀i,i<((radK r k).getD v default).b.length→Sp r.p ((radK r (k+1)).getD v default).b.length (r.d.getD v default).toNat (vecF ((radK r (k+1)).getD v default).b) (vecF ((radK r k).getD v default).b i):=fun k hk v hv i hi=>by
 obtain⟨m1,m2,m3,m4,m5⟩:=arrow_ok h (i:=k) (by have:=(isRep_spec h).2.2.1;omega)
 rw[radK]
 by_cases e:(r.q.to.getD k default).toNat=v
 ·subst e
  obtain⟨i1,i2⟩:=radK_ok h k (by omega) _ m3.2
  rw[set_get (by rw[radK_len];exact hv),←i1]
  exact addS_l i2 (imgS_ok m1) (by rw[i1];exact m5) hi
 ·rw[set_ne e _]
  exact Sp.row hi
theorem rad_up{r:Rep}(h:isRep r=true){k:Nat}:∀n,k+n≤r.q.fr.length→∀v,v<r.d.length→∀i,i<((radK r k).getD v default).b.length→Sp r.p ((radK r (k+n)).getD v default).b.length (r.d.getD v default).toNat (vecF ((radK r (k+n)).getD v default).b) (vecF ((radK r k).getD v default).b i)
 |0,_,v,hv,i,hi=>Sp.row hi
 |n+1,hn,v,hv,i,hi=>(rad_up h n (by omega) v hv i hi).sub fun t ht=>rad_mono h (k+n) (by omega) v hv t ht
theorem rad_img{r:Rep}(h:isRep r=true){k:Nat}(hk:k<r.q.fr.length)(x:List Int):Sp r.p ((radL r).getD (r.q.to.getD k default).toNat default).b.length (r.m.getD k default).r.toNat (vecF ((radL r).getD (r.q.to.getD k default).toNat default).b) (fun j=>(appV r.p (r.m.getD k default) x).getD j default):=by
 have hlm:=(isRep_spec h).2.2.1
 obtain⟨m1,m2,m3,m4,m5⟩:=arrow_ok h (i:=k) (by omega)
 obtain⟨h0,h1,h2,h3,h4⟩:=isMat_spec m1
 obtain⟨i1,i2⟩:=radK_ok h k (by omega) _ m3.2
 have hv:VecB r.p (r.m.getD k default).r.toNat (rowsL (r.m.getD k default).c.toNat (r.m.getD k default).r.toNat fun k' i=>ent (r.m.getD k default) i k'):=VecB.rows fun k' hk' i hi=>ent_bd m1 i hi k' hk'
 have hss:=span_ss h0 hv.bd
 have c1:=appV_cols (p:=r.p) (m:=r.m.getD k default) x
 have c2:Sp r.p (imgS r.p (r.m.getD k default)).b.length (r.m.getD k default).r.toNat (vecF (imgS r.p (r.m.getD k default)).b) (fun j=>(appV r.p (r.m.getD k default) x).getD j default):=by
  refine Sp.sub ?_ hss.2
  rw[rowsL_len];exact c1
 have hup:=rad_up h (k:=k+1) (r.q.fr.length-(k+1)) (by omega) _ m3.2
 rw[show k+1+(r.q.fr.length-(k+1))=r.q.fr.length by omega,←m5] at hup
 refine(c2.sub fun t ht=>?_).sub hup
 have:=addS_r i2 (imgS_ok m1) (by rw[i1];exact m5) ht
 rw[radK,set_get (by rw[radK_len];exact m3.2)]
 rw[i1,←m5] at this
 exact this
theorem rad_sub{r:Rep}(h:isRep r=true):isSub r (radL r)=true:=by
 have hlm:=(isRep_spec h).2.2.1
 have hl:(radL r).length=r.d.length:=radK_len r r.q.fr.length
 have key:∀v,v<r.d.length→isSpc r.p ((radL r).getD v default)=true∧((radL r).getD v default).n=r.d.getD v default:=fun v hv=>by
  obtain⟨a1,a2⟩:=radK_ok h r.q.fr.length (Nat.le_refl _) v hv
  exact⟨a2,a1⟩
 refine isSub_mk h hl (fun v hv=>key v (by omega)) fun i hi=>?_
 obtain⟨m1,m2,m3,m4,m5⟩:=arrow_ok h hi
 have kT:=key _ m3.2
 unfold subAt
 rw[imgW_iff m1 kT.1 (by rw[kT.2,m5])]
 intro j hj
 rw[kT.2,←m5]
 exact rad_img h (by omega) _
end Go.Proofs.YtjmjamhhppoimaaGreat.V
