/- Texts that the proof needs: A200. -/
import Derived.Test.YtjmjamhhppoimaaGreatQsbA195
namespace Go.Proofs.YtjmjamhhppoimaaGreat.V
open Go.RowKit G D
set_option linter.unusedVariables false
set_option linter.unusedSimpArgs false
set_option maxHeartbeats 1000000
set_option maxRecDepth 4000
abbrev Me(p:Int)(s:Spc)(v:Nat→Int):Prop:=Sp p s.b.length s.n.toNat (vecF s.b) v
theorem isSpc_idem{p:Int}{s:Spc}(h:isSpc p s=true):spanL p s.n.toNat s.b=s.b:=by
 simp only[isSpc,Bool.and_eq_true,decide_eq_true_eq] at h
 exact h.2
theorem spc_ext{p:Int}{a b:Spc}(ha:isSpc p a=true)(hb:isSpc p b=true)(hn:a.n=b.n)(h1:∀i,i<a.b.length→Me p b (vecF a.b i))(h2:∀i,i<b.b.length→Me p a (vecF b.b i)):a=b:=by
 obtain⟨f1,f2,f3,f4⟩:=isSpc_spec ha
 obtain⟨g1,g2,g3,g4⟩:=isSpc_spec hb
 have ea:=isSpc_idem ha
 have eb:=isSpc_idem hb
 unfold Me at h1 h2
 rw[←hn] at g4 eb h1
 have hu:spanL p a.n.toNat a.b=spanL p a.n.toNat b.b:=spanB_uniq f1 f4.bd g4.bd ⟨h1,h2⟩
 rw[ea,eb] at hu
 cases a;cases b
 dsimp only at hn hu
 subst hn hu
 rfl
def Ind(p:Int)(n:Nat)(l:List (List Int)):Prop:=∀co:Nat→Int,(∀t,t<n→Cg p (sumN (fun i=>co i*vecF l i t) l.length) 0)→∀i,i<l.length→Cg p (co i) 0
theorem ind_len{p:Int}{n:Nat}{l:List (List Int)}(hF:isF p=true)(hv:VecB p n l)(h:Ind p n l):(spanL p n l).length=l.length:=by
 have hb:=hv.bd
 have hp:=isF_pos hF
 have e1:(spanL p n l).length=(redK p l.length (vecF l) n).2.length:=spanB_len ..
 have hbt:BdF p n l.length (fun t i=>vecF l i t):=fun t ht i hi=>hb i hi t ht
 have e2:=rank_tr hF hb
 have e3:=kerL_len hF hbt
 refine Classical.byContradiction fun hne=>?_
 have hle:=(spanB_le (show 0<p by omega) hb).1
 have hle:(spanL p n l).length≤l.length:=hle
 have hk:0<(kerL p n l.length fun t i=>vecF l i t).length:=by omega
 obtain⟨s1,j,hj,s2⟩:=kerL_spec hF hbt (gm (d:=default) hk)
 have h3:=h (fun i=>((kerL p n l.length fun t i=>vecF l i t).getD 0 default).getD i default) (fun t ht=>by
  have h4:=s1 t ht
  unfold dotV at h4
  rwa [sumN_eq _ fun i _=>Int.mul_comm ..] at h4) j hj
 rw[s2] at h3
 have:=h3.eq ⟨by omega,by omega⟩ ⟨by omega,by omega⟩
 omega
theorem kerL_at{p:Int}{r c:Nat}{f:Nat→Nat→Int}{k k0:Nat}(hk:k<(kerL p r c f).length)(hk0:k0<(kerL p r c f).length):(freeL c (redK p r f c).2).getD k0 0<c∧vecF (kerL p r c f) k ((freeL c (redK p r f c).2).getD k0 0)=if k=k0 then 1 else 0:=by
 have hl:(kerL p r c f).length=(freeL c (redK p r f c).2).length:=by simp[kerL]
 have hk2:k<(freeL c (redK p r f c).2).length:=by omega
 have hk3:k0<(freeL c (redK p r f c).2).length:=by omega
 have hg:(kerL p r c f).getD k default=kerV p c (redK p r f c).1 (redK p r f c).2 ((freeL c (redK p r f c).2).getD k 0) (redK p r f c).2.length:=by simp[kerL,hk2]
 have hf:=freeL_lt (c:=c) (piv:=(redK p r f c).2) ((freeL c (redK p r f c).2).getD k0 0) (by simp[hk3])
 refine⟨hf.1,?_⟩
 show((kerL p r c f).getD k default).getD _ default=_
 rw[hg,kerV_free hf.1 _ fun i hi e=>hf.2 (by rw[←e];simp[hi])]
 have hpw:(freeL c (redK p r f c).2).Pairwise (·<·):=List.Pairwise.filter _ List.pairwise_lt_range
 by_cases ek:k=k0
 ·subst ek;rw[if_pos rfl,if_pos rfl]
 ·have g1:(freeL c (redK p r f c).2).getD k0 0=(freeL c (redK p r f c).2)[k0]:=by simp[hk3]
  have g2:(freeL c (redK p r f c).2).getD k 0=(freeL c (redK p r f c).2)[k]:=by simp[hk2]
  rw[List.pairwise_iff_getElem] at hpw
  have hne:(freeL c (redK p r f c).2).getD k0 0≠(freeL c (redK p r f c).2).getD k 0:=by
   rw[g1,g2]
   rcases Nat.lt_or_gt_of_ne ek with hlt|hgt
   ·have:=hpw k k0 hk2 hk3 hlt;omega
   ·have:=hpw k0 k hk3 hk2 hgt;omega
  rw[if_neg hne,if_neg ek]
theorem kerL_ind{p:Int}{r c:Nat}{f:Nat→Nat→Int}:Ind p c (kerL p r c f):=fun co h i hi=>by
 have h1:=h _ (kerL_at hi hi).1
 rwa [sumN_eq (g:=fun k=>(if k=i then 1 else 0)*co k) _ fun k hk=>by rw[(kerL_at hk hi).2,Int.mul_comm],sumN_one,if_pos hi] at h1
theorem kerS_len{p:Int}{m:Mat}(h:isMat p m=true):(kerS p m).b.length+(redK p m.r.toNat (ent m) m.c.toNat).2.length=m.c.toNat:=by
 have hF:=(isMat_spec h).1
 have h1:=ind_len hF (kerL_vec (r:=m.r.toNat) (c:=m.c.toNat) (f:=ent m) (isF_pos hF).1) kerL_ind
 have h2:=kerL_len hF (ent_bd h)
 have h3:(kerS p m).b.length=(spanL p m.c.toNat (kerL p m.r.toNat m.c.toNat (ent m))).length:=rfl
 omega
theorem imgS_len{p:Int}{m:Mat}(h:isMat p m=true):(imgS p m).b.length=(redK p m.r.toNat (ent m) m.c.toNat).2.length:=by
 have hF:=(isMat_spec h).1
 have hb:=ent_bd h
 have hbt:BdF p m.c.toNat m.r.toNat (fun k i=>ent m i k):=fun k hk j hj=>hb j hj k hk
 have hc:VecB p m.r.toNat (rowsL m.c.toNat m.r.toNat fun k i=>ent m i k):=VecB.rows hbt
 have hs:SS p (rowsL m.c.toNat m.r.toNat fun k i=>ent m i k).length m.c.toNat m.r.toNat (vecF (rowsL m.c.toNat m.r.toNat fun k i=>ent m i k)) (fun k i=>ent m i k):=by
  rw[rowsL_len]
  exact⟨fun i hi=>(Sp.row (f:=fun k i=>ent m i k) hi).cg fun j hj=>by rw[vecF_rows hi hj];exact .refl _,fun i hi=>(Sp.row hi).cg fun j hj=>by rw[vecF_rows hi hj];exact .refl _⟩
 have e:(imgS p m).b=spanB p m.c.toNat m.r.toNat (fun k i=>ent m i k):=spanB_uniq hF hc.bd hbt hs
 rw[e,spanB_len]
 exact rank_tr hF hb
theorem met_dot(a b:List (List Int))(x:List Int)(t:Nat):dotV (fcF (a++b) t) x (a++b).length=sumN (fun i=>x.getD i default*vecF a i t) a.length+sumN (fun i=>x.getD (a.length+i) default*vecF b i t) b.length:=by
 unfold dotV
 rw[List.length_append,sumN_split]
 congr 1
 ·exact sumN_eq _ fun i hi=>by
   have:fcF (a++b) t i=vecF a i t:=vecF_app_l hi t
   rw[this,Int.mul_comm]
 ·exact sumN_eq _ fun i _=>by
   have:fcF (a++b) t (a.length+i)=vecF b i t:=vecF_app_r a b i t
   rw[this,Int.mul_comm]
theorem metL_at{p:Int}{a b:Spc}{k t:Nat}(hk:k<(metK p a b).length)(ht:t<a.n.toNat):Cg p (vecF (metL p a b) k t) (sumN (fun i=>((metK p a b).getD k default).getD i default*vecF a.b i t) a.b.length):=by
 have e:(metL p a b).getD k default=cmbV p a.n.toNat a.b ((metK p a b).getD k default) a.b.length:=by simp[metL,hk]
 unfold vecF
 rw[e]
 exact cmbV_cg ht _
theorem met_sp{p:Int}{a b:Spc}(ha:isSpc p a=true)(hb:isSpc p b=true)(hn:b.n=a.n){v:Nat→Int}:Me p (metS p a b) v↔Me p a v∧Me p b v:=by
 obtain⟨h1,h2,h3,h4⟩:=isSpc_spec ha
 obtain⟨_,_,g3,g4⟩:=isSpc_spec hb
 have hp:=isF_pos h1
 have hi:Me p (metS p a b) v↔Sp p (metL p a b).length a.n.toNat (vecF (metL p a b)) v:=(span_ss h1 (metL_vec (a:=a) (b:=b) hp.1).bd).iff v
 rw[hi]
 unfold Me
 rw[hn] at g4⊢
 have hbd:=fcF_bd (h4.app g4)
 rw[metL_len]
 constructor
 ·rintro⟨co,e⟩
  have hx:∀t,t<a.n.toNat→Cg p (v t) (sumN (fun k=>co k*sumN (fun i=>((metK p a b).getD k default).getD i default*vecF a.b i t) a.b.length) (metK p a b).length):=fun t ht=>(e t ht).trans (sumN_cg _ fun k hk=>(Cg.refl _).mul (metL_at hk ht))
  constructor
  ·refine⟨fun i=>sumN (fun k=>co k*((metK p a b).getD k default).getD i default) (metK p a b).length,fun t ht=>(hx t ht).trans ?_⟩
   rw[sumN_eq (g:=fun k=>sumN (fun i=>co k*((metK p a b).getD k default).getD i default*vecF a.b i t) a.b.length) _ fun k _=>by
    rw[←sumN_mul];exact sumN_eq _ fun i _=>(Int.mul_assoc ..).symm,sumN_swap]
   refine sumN_cg _ fun i _=>?_
   rw[Int.mul_comm,←sumN_mul,sumN_eq _ fun k _=>Int.mul_comm ..]
   exact .refl _
  ·refine⟨fun i=>sumN (fun k=>co k*-(((metK p a b).getD k default).getD (a.b.length+i) default)) (metK p a b).length,fun t ht=>(hx t ht).trans ?_⟩
   have hz:∀k,k<(metK p a b).length→Cg p (sumN (fun i=>((metK p a b).getD k default).getD i default*vecF a.b i t) a.b.length) (sumN (fun i=>-(((metK p a b).getD k default).getD (a.b.length+i) default)*vecF b.b i t) b.b.length):=fun k hk=>by
    have h5:=(kerL_spec h1 hbd (gm (d:=default) hk)).1 t ht
    rw[met_dot] at h5
    refine Cg.of_sub ?_
    rw[sumN_eq (h:=fun i=>-(((metK p a b).getD k default).getD (a.b.length+i) default)*vecF b.b i t) (g:=fun i=>(-1)*(((metK p a b).getD k default).getD (a.b.length+i) default*vecF b.b i t)) _ fun i _=>by rw[Int.neg_mul];omega,sumN_mul]
    have e3:∀x y:Int,x-(-1)*y=x+y:=fun x y=>by omega
    rw[e3]
    exact h5
   refine(sumN_cg (g:=fun k=>co k*sumN (fun i=>-(((metK p a b).getD k default).getD (a.b.length+i) default)*vecF b.b i t) b.b.length) _ fun k hk=>(Cg.refl _).mul (hz k hk)).trans ?_
   rw[sumN_eq (g:=fun k=>sumN (fun i=>co k*-(((metK p a b).getD k default).getD (a.b.length+i) default)*vecF b.b i t) b.b.length) _ fun k _=>by
    rw[←sumN_mul];exact sumN_eq _ fun i _=>(Int.mul_assoc ..).symm,sumN_swap]
   refine sumN_cg _ fun i _=>?_
   rw[Int.mul_comm,←sumN_mul,sumN_eq _ fun k _=>Int.mul_comm ..]
   exact .refl _
 ·rintro⟨⟨α,ea⟩,β,eb⟩
  have hlen:(a.b++b.b).length=a.b.length+b.b.length:=List.length_append ..
  have hx:∀i,i<(a.b++b.b).length→(rowL (a.b++b.b).length fun i=>if i<a.b.length then α i else-(β (i-a.b.length))).getD i default=if i<a.b.length then α i else-(β (i-a.b.length)):=fun i hi=>rowL_get _ hi
  generalize (rowL (a.b++b.b).length fun i=>if i<a.b.length then α i else-(β (i-a.b.length)))=x at hx
  have hxa:∀t,sumN (fun i=>x.getD i default*vecF a.b i t) a.b.length=sumN (fun i=>α i*vecF a.b i t) a.b.length:=fun t=>sumN_eq _ fun i hi=>by rw[hx i (by omega),if_pos hi]
  have hk:=kerL_full h1 hbd (x:=x) fun t ht=>by
   rw[met_dot,hxa]
   have e2:sumN (fun i=>x.getD (a.b.length+i) default*vecF b.b i t) b.b.length=(-1)*sumN (fun i=>β i*vecF b.b i t) b.b.length:=by
    rw[←sumN_mul]
    exact sumN_eq _ fun i hi=>by
     rw[hx _ (by omega),if_neg (by omega),Nat.add_sub_cancel_left,Int.neg_mul];omega
   rw[e2]
   have e3:∀x y:Int,x+(-1)*y=x-y:=fun x y=>by omega
   rw[e3]
   exact((ea t ht).symm.trans (eb t ht)).sub0
  obtain⟨co,e⟩:=hk
  refine⟨co,fun t ht=>(ea t ht).trans ?_⟩
  rw[←hxa]
  refine(sumN_cg (g:=fun i=>sumN (fun k=>co k*((metK p a b).getD k default).getD i default) (metK p a b).length*vecF a.b i t) _ fun i hi=>(e i (by omega)).mul (.refl _)).trans ?_
  refine Cg.trans ?_ (sumN_cg (h:=fun k=>co k*sumN (fun i=>((metK p a b).getD k default).getD i default*vecF a.b i t) a.b.length) _ fun k hk=>(Cg.refl _).mul (metL_at hk ht).symm)
  rw[sumN_eq (h:=fun k=>co k*sumN (fun i=>((metK p a b).getD k default).getD i default*vecF a.b i t) a.b.length) (g:=fun k=>sumN (fun i=>co k*((metK p a b).getD k default).getD i default*vecF a.b i t) a.b.length) _ fun k _=>by
   rw[←sumN_mul];exact sumN_eq _ fun i _=>(Int.mul_assoc ..).symm,sumN_swap]
  refine sumN_cg _ fun i _=>?_
  rw[Int.mul_comm,←sumN_mul,sumN_eq _ fun k _=>Int.mul_comm ..]
  exact .refl _
theorem met_add{p:Int}{a b:Spc}(ha:isSpc p a=true)(hb:isSpc p b=true)(hn:b.n=a.n):(metS p a b).b.length+(addS p a b).b.length=a.b.length+b.b.length:=by
 obtain⟨h1,h2,h3,h4⟩:=isSpc_spec ha
 obtain⟨_,_,g3,g4⟩:=isSpc_spec hb
 have hp:=isF_pos h1
 rw[hn] at g4
 have hv:=h4.app g4
 have hbd:=fcF_bd hv
 have hlen:(a.b++b.b).length=a.b.length+b.b.length:=List.length_append ..
 have e1:=kerL_len h1 hbd
 have e2:=rank_tr h1 hv.bd
 have e3:(addS p a b).b.length=(redK p (a.b++b.b).length (vecF (a.b++b.b)) a.n.toNat).2.length:=spanB_len ..
 have e4:(redK p a.n.toNat (fcF (a.b++b.b)) (a.b++b.b).length).2.length=(redK p a.n.toNat (fun j i=>vecF (a.b++b.b) i j) (a.b++b.b).length).2.length:=rfl
 have e5:(metK p a b).length=(kerL p a.n.toNat (a.b++b.b).length (fcF (a.b++b.b))).length:=rfl
 have hi:Ind p a.n.toNat (metL p a b):=fun co h=>by
  rw[metL_len] at h⊢
  obtain⟨pa,ea,la⟩:=isSpc_ech ha
  obtain⟨pb,eb,lb⟩:=isSpc_ech hb
  rw[hn] at eb
  have hx:∀t,t<a.n.toNat→Cg p (sumN (fun i=>sumN (fun k=>co k*((metK p a b).getD k default).getD i default) (metK p a b).length*vecF a.b i t) a.b.length) 0:=fun t ht=>by
   refine Cg.trans ?_ (h t ht)
   refine Cg.trans ?_ (sumN_cg (h:=fun k=>co k*sumN (fun i=>((metK p a b).getD k default).getD i default*vecF a.b i t) a.b.length) _ fun k hk=>(Cg.refl _).mul (metL_at hk ht).symm)
   rw[sumN_eq (h:=fun k=>co k*sumN (fun i=>((metK p a b).getD k default).getD i default*vecF a.b i t) a.b.length) (g:=fun k=>sumN (fun i=>co k*((metK p a b).getD k default).getD i default*vecF a.b i t) a.b.length) _ fun k _=>by
    rw[←sumN_mul];exact sumN_eq _ fun i _=>(Int.mul_assoc ..).symm,sumN_swap]
   refine sumN_cg _ fun i _=>?_
   rw[Int.mul_comm,←sumN_mul,sumN_eq _ fun k _=>Int.mul_comm ..]
   exact .refl _
  have za:=fun i hi=>ea.indep (p:=p) la hx (i:=i) hi
  have hy:∀t,t<a.n.toNat→Cg p (sumN (fun i=>sumN (fun k=>co k*((metK p a b).getD k default).getD (a.b.length+i) default) (metK p a b).length*vecF b.b i t) b.b.length) 0:=fun t ht=>by
   have hz:Cg p (sumN (fun k=>co k*dotV (fcF (a.b++b.b) t) ((metK p a b).getD k default) (a.b++b.b).length) (metK p a b).length) 0:=sumN_cg0 _ fun k hk=>by
    have:=(Cg.refl (co k)).mul ((kerL_spec h1 hbd (gm (d:=default) hk)).1 t ht)
    rwa [Int.mul_zero] at this
   rw[sumN_eq (g:=fun k=>sumN (fun i=>co k*((metK p a b).getD k default).getD i default*vecF a.b i t) a.b.length+sumN (fun i=>co k*((metK p a b).getD k default).getD (a.b.length+i) default*vecF b.b i t) b.b.length) _ fun k _=>by
    rw[met_dot,Int.mul_add,←sumN_mul,←sumN_mul]
    congr 1
    ·exact sumN_eq _ fun i _=>(Int.mul_assoc ..).symm
    ·exact sumN_eq _ fun i _=>(Int.mul_assoc ..).symm,sumN_add,sumN_swap (fun k i=>co k*((metK p a b).getD k default).getD i default*vecF a.b i t),sumN_swap (fun k i=>co k*((metK p a b).getD k default).getD (a.b.length+i) default*vecF b.b i t)] at hz
   have e6:∀(c:Nat→Nat→Int) (w:Nat→Int) (n:Nat),sumN (fun i=>sumN (fun k=>co k*c k i*w i) (metK p a b).length) n=sumN (fun i=>sumN (fun k=>co k*c k i) (metK p a b).length*w i) n:=fun c w n=>sumN_eq _ fun i _=>by
    rw[Int.mul_comm (sumN _ _),←sumN_mul]
    exact sumN_eq _ fun k _=>Int.mul_comm ..
   rw[e6 (fun k i=>((metK p a b).getD k default).getD i default) (fun i=>vecF a.b i t),e6 (fun k i=>((metK p a b).getD k default).getD (a.b.length+i) default) (fun i=>vecF b.b i t)] at hz
   have h6:=(hx t ht).symm.add (Cg.refl (sumN (fun i=>sumN (fun k=>co k*((metK p a b).getD k default).getD (a.b.length+i) default) (metK p a b).length*vecF b.b i t) b.b.length))
   rw[Int.zero_add] at h6
   exact h6.trans hz
  have zb:=fun i hi=>eb.indep (p:=p) lb hy (i:=i) hi
  exact kerL_ind (p:=p) (r:=a.n.toNat) (c:=(a.b++b.b).length) (f:=fcF (a.b++b.b)) co fun i hi=>by
   show Cg p (sumN (fun k=>co k*((metK p a b).getD k default).getD i default) (metK p a b).length) 0
   by_cases h7:i<a.b.length
   ·exact za i h7
   ·have:=zb (i-a.b.length) (by omega)
    rwa [show a.b.length+(i-a.b.length)=i by omega] at this
 have e7:=ind_len h1 (metL_vec (a:=a) (b:=b) hp.1) hi
 rw[metL_len] at e7
 have e8:(metS p a b).b.length=(spanL p a.n.toNat (metL p a b)).length:=rfl
 omega
theorem metSubs_ok{r:Rep}{s t:List Spc}(hs:isSub r s=true)(ht:isSub r t=true):isSub r (pairL (metS r.p) s t)=true:=by
 obtain⟨s1,s2,s3,s4⟩:=isSub_spec hs
 obtain⟨t1,t2,t3,t4⟩:=isSub_spec ht
 have hat:∀v,v<s.length→(pairL (metS r.p) s t).getD v default=metS r.p (s.getD v default) (t.getD v default)∧isSpc r.p (metS r.p (s.getD v default) (t.getD v default))=true∧(t.getD v default).n=(s.getD v default).n:=fun v hv=>⟨pairL_get _ _ _ hv,metS_ok (s3 v hv).1,by rw[(s3 v hv).2,(t3 v (by omega)).2]⟩
 refine isSub_mk s1 (by rw[pairL_len];exact s2) (fun v hv=>?_) fun i hi=>?_
 ·rw[pairL_len] at hv
  rw[(hat v hv).1]
  exact⟨(hat v hv).2.1,(s3 v hv).2⟩
 ·obtain⟨m1,m2,m3,m4,m5⟩:=arrow_ok s1 hi
  have hsi:=s4 i hi
  have hti:=t4 i hi
  unfold subAt at hsi hti⊢
  obtain⟨f1,f2,f3⟩:=hat (r.q.fr.getD i default).toNat (by omega)
  obtain⟨g1,g2,g3⟩:=hat (r.q.to.getD i default).toNat (by omega)
  obtain⟨p1,p2⟩:=s3 (r.q.fr.getD i default).toNat (by omega)
  obtain⟨p3,p4⟩:=s3 (r.q.to.getD i default).toNat (by omega)
  obtain⟨p5,p6⟩:=t3 (r.q.fr.getD i default).toNat (by omega)
  obtain⟨p7,p8⟩:=t3 (r.q.to.getD i default).toNat (by omega)
  rw[f1,g1]
  rw[imgW_iff m1 g2 (by rw[m5];exact p4)]
  intro k hk
  have hmem:=(met_sp p1 p5 f3).1 (Sp.row (p:=r.p) hk)
  have hcs:(s.getD (r.q.fr.getD i default).toNat default).n.toNat=(r.m.getD i default).c.toNat:=by rw[p2,m4]
  have hct:(t.getD (r.q.fr.getD i default).toNat default).n.toNat=(r.m.getD i default).c.toNat:=by rw[p6,m4]
  have x1:=img_span m1 p3 (by rw[m5];exact p4) hsi (x:=(metS r.p (s.getD (r.q.fr.getD i default).toNat default) (t.getD (r.q.fr.getD i default).toNat default)).b.getD k default) (by rw[←hcs];exact hmem.1)
  have x2:=img_span m1 p7 (by rw[m5];exact p8) hti (x:=(metS r.p (s.getD (r.q.fr.getD i default).toNat default) (t.getD (r.q.fr.getD i default).toNat default)).b.getD k default) (by rw[←hct];exact hmem.2)
  exact(met_sp p3 p7 g3).2 ⟨x1,x2⟩
theorem dimS_sum2:∀{a b c d:List Int},b.length=a.length→c.length=a.length→d.length=a.length→(∀v,v<a.length→a.getD v default+b.getD v default=c.getD v default+d.getD v default)→a.sum+b.sum=c.sum+d.sum
 |[],b,c,d,h1,h2,h3,_=>by
  rw[List.length_eq_zero_iff.1 h1,List.length_eq_zero_iff.1 h2,List.length_eq_zero_iff.1 h3]
 |x::a,y::b,z::c,w::d,h1,h2,h3,h=>by
  have h4:=h 0 (by simp)
  have h5:=dimS_sum2 (a:=a) (b:=b) (c:=c) (d:=d) (by simpa using h1) (by simpa using h2) (by simpa using h3) fun v hv=>by simpa using h (v+1) (by simpa using hv)
  simp only[List.getD_cons_zero] at h4
  simp only[List.sum_cons]
  omega
 |x::a,[],c,d,h1,_,_,_=>by simp at h1
 |x::a,y::b,[],d,_,h2,_,_=>by simp at h2
 |x::a,y::b,z::c,[],_,_,h3,_=>by simp at h3
theorem met_add_dims{r:Rep}{s t:List Spc}(hs:isSub r s=true)(ht:isSub r t=true):(dimS (pairL (metS r.p) s t)).sum+(dimS (pairL (addS r.p) s t)).sum=(dimS s).sum+(dimS t).sum:=by
 obtain⟨s1,s2,s3,s4⟩:=isSub_spec hs
 obtain⟨t1,t2,t3,t4⟩:=isSub_spec ht
 refine dimS_sum2 (by simp[dimS,pairL]) (by simp[dimS,pairL]) (by simp[dimS,pairL];omega) fun v hv=>?_
 have hv:v<s.length:=by simpa[dimS,pairL] using hv
 rw[dimS_get (by rw[pairL_len];exact hv),dimS_get (by rw[pairL_len];exact hv),dimS_get hv,dimS_get (by omega),pairL_get _ _ _ hv,pairL_get _ _ _ hv]
 have:=met_add (s3 v hv).1 (t3 v (by omega)).1 (by rw[(s3 v hv).2,(t3 v (by omega)).2])
 omega
end Go.Proofs.YtjmjamhhppoimaaGreat.V
