/- Texts that the proof needs: A200, A202, A204. -/
import Derived.Test.YtjmjamhhppoimaaGreatQspA197
namespace Go.Proofs.YtjmjamhhppoimaaGreat.V
open Go.RowKit G D
set_option linter.unusedVariables false
set_option linter.unusedSimpArgs false
set_option maxHeartbeats 1000000
set_option maxRecDepth 4000
abbrev Me(p:Int)(s:Spc)(v:Nat→Int):Prop:=Sp p s.b.length s.n.toNat (vecF s.b) v
theorem isSpc_idem{p:Int}{s:Spc}(h:isSpc p s=true):spanL p s.n.toNat s.b=s.b:=by
 simp only[isSpc,Bool.and_eq_true,decide_eq_true_eq] at h
 exact h.2
theorem spc_ext{p:Int}{a b:Spc}(ha:isSpc p a=true)(hb:isSpc p b=true)(hn:a.n=b.n)(h1:∀i,i<a.b.length→Me p b (vecF a.b i))(h2:∀i,i<b.b.length→Me p a (vecF b.b i)):a=b:=by
 obtain⟨f1,f2,f3,f4⟩:=isSpc_spec ha
 obtain⟨g1,g2,g3,g4⟩:=isSpc_spec hb
 have ea:=isSpc_idem ha
 have eb:=isSpc_idem hb
 unfold Me at h1 h2
 rw[←hn] at g4 eb h1
 have hu:spanL p a.n.toNat a.b=spanL p a.n.toNat b.b:=spanB_uniq f1 f4.bd g4.bd ⟨h1,h2⟩
 rw[ea,eb] at hu
 cases a;cases b
 dsimp only at hn hu
 subst hn hu
 rfl
theorem spc_le{p:Int}{a b:Spc}(ha:isSpc p a=true)(hb:isSpc p b=true)(hn:b.n=a.n)(h1:∀i,i<a.b.length→Me p b (vecF a.b i)):a.b.length≤b.b.length:=by
 have h:=within_eq ha hb hn
 rw[(inS_iff ha hb hn).2 h1,decide_eq_true_eq] at h
 have:=addS_mono ha hb hn
 omega
def Ind(p:Int)(n:Nat)(l:List (List Int)):Prop:=∀co:Nat→Int,(∀t,t<n→Cg p (sumN (fun i=>co i*vecF l i t) l.length) 0)→∀i,i<l.length→Cg p (co i) 0
theorem ind_len{p:Int}{n:Nat}{l:List (List Int)}(hF:isF p=true)(hv:VecB p n l)(h:Ind p n l):(spanL p n l).length=l.length:=by
 have hb:=hv.bd
 have hp:=isF_pos hF
 have e1:(spanL p n l).length=(redK p l.length (vecF l) n).2.length:=spanB_len ..
 have hbt:BdF p n l.length (fun t i=>vecF l i t):=fun t ht i hi=>hb i hi t ht
 have e2:=rank_tr hF hb
 have e3:=kerL_len hF hbt
 refine Classical.byContradiction fun hne=>?_
 have hle:=(spanB_le (show 0<p by omega) hb).1
 have hle:(spanL p n l).length≤l.length:=hle
 have hk:0<(kerL p n l.length fun t i=>vecF l i t).length:=by omega
 obtain⟨s1,j,hj,s2⟩:=kerL_spec hF hbt (gm (d:=default) hk)
 have h3:=h (fun i=>((kerL p n l.length fun t i=>vecF l i t).getD 0 default).getD i default) (fun t ht=>by
  have h4:=s1 t ht
  unfold dotV at h4
  rwa [sumN_eq _ fun i _=>Int.mul_comm ..] at h4) j hj
 rw[s2] at h3
 have:=h3.eq ⟨by omega,by omega⟩ ⟨by omega,by omega⟩
 omega
theorem kerL_at{p:Int}{r c:Nat}{f:Nat→Nat→Int}{k k0:Nat}(hk:k<(kerL p r c f).length)(hk0:k0<(kerL p r c f).length):(freeL c (redK p r f c).2).getD k0 0<c∧vecF (kerL p r c f) k ((freeL c (redK p r f c).2).getD k0 0)=if k=k0 then 1 else 0:=by
 have hl:(kerL p r c f).length=(freeL c (redK p r f c).2).length:=by simp[kerL]
 have hk2:k<(freeL c (redK p r f c).2).length:=by omega
 have hk3:k0<(freeL c (redK p r f c).2).length:=by omega
 have hg:(kerL p r c f).getD k default=kerV p c (redK p r f c).1 (redK p r f c).2 ((freeL c (redK p r f c).2).getD k 0) (redK p r f c).2.length:=by simp[kerL,hk2]
 have hf:=freeL_lt (c:=c) (piv:=(redK p r f c).2) ((freeL c (redK p r f c).2).getD k0 0) (by simp[hk3])
 refine⟨hf.1,?_⟩
 show((kerL p r c f).getD k default).getD _ default=_
 rw[hg,kerV_free hf.1 _ fun i hi e=>hf.2 (by rw[←e];simp[hi])]
 have hpw:(freeL c (redK p r f c).2).Pairwise (·<·):=List.Pairwise.filter _ List.pairwise_lt_range
 by_cases ek:k=k0
 ·subst ek;rw[if_pos rfl,if_pos rfl]
 ·have g1:(freeL c (redK p r f c).2).getD k0 0=(freeL c (redK p r f c).2)[k0]:=by simp[hk3]
  have g2:(freeL c (redK p r f c).2).getD k 0=(freeL c (redK p r f c).2)[k]:=by simp[hk2]
  rw[List.pairwise_iff_getElem] at hpw
  have hne:(freeL c (redK p r f c).2).getD k0 0≠(freeL c (redK p r f c).2).getD k 0:=by
   rw[g1,g2]
   rcases Nat.lt_or_gt_of_ne ek with hlt|hgt
   ·have:=hpw k k0 hk2 hk3 hlt;omega
   ·have:=hpw k0 k hk3 hk2 hgt;omega
  rw[if_neg hne,if_neg ek]
theorem kerL_ind{p:Int}{r c:Nat}{f:Nat→Nat→Int}:Ind p c (kerL p r c f):=fun co h i hi=>by
 have h1:=h _ (kerL_at hi hi).1
 rwa [sumN_eq (g:=fun k=>(if k=i then 1 else 0)*co k) _ fun k hk=>by rw[(kerL_at hk hi).2,Int.mul_comm],sumN_one,if_pos hi] at h1
theorem kerS_len{p:Int}{m:Mat}(h:isMat p m=true):(kerS p m).b.length+(redK p m.r.toNat (ent m) m.c.toNat).2.length=m.c.toNat:=by
 have hF:=(isMat_spec h).1
 have h1:=ind_len hF (kerL_vec (r:=m.r.toNat) (c:=m.c.toNat) (f:=ent m) (isF_pos hF).1) kerL_ind
 have h2:=kerL_len hF (ent_bd h)
 have h3:(kerS p m).b.length=(spanL p m.c.toNat (kerL p m.r.toNat m.c.toNat (ent m))).length:=rfl
 omega
theorem imgS_len{p:Int}{m:Mat}(h:isMat p m=true):(imgS p m).b.length=(redK p m.r.toNat (ent m) m.c.toNat).2.length:=by
 have hF:=(isMat_spec h).1
 have hb:=ent_bd h
 have hbt:BdF p m.c.toNat m.r.toNat (fun k i=>ent m i k):=fun k hk j hj=>hb j hj k hk
 have hc:VecB p m.r.toNat (rowsL m.c.toNat m.r.toNat fun k i=>ent m i k):=VecB.rows hbt
 have hs:SS p (rowsL m.c.toNat m.r.toNat fun k i=>ent m i k).length m.c.toNat m.r.toNat (vecF (rowsL m.c.toNat m.r.toNat fun k i=>ent m i k)) (fun k i=>ent m i k):=by
  rw[rowsL_len]
  exact⟨fun i hi=>(Sp.row (f:=fun k i=>ent m i k) hi).cg fun j hj=>by rw[vecF_rows hi hj];exact .refl _,fun i hi=>(Sp.row hi).cg fun j hj=>by rw[vecF_rows hi hj];exact .refl _⟩
 have e:(imgS p m).b=spanB p m.c.toNat m.r.toNat (fun k i=>ent m i k):=spanB_uniq hF hc.bd hbt hs
 rw[e,spanB_len]
 exact rank_tr hF hb
theorem met_dot(a b:List (List Int))(x:List Int)(t:Nat):dotV (fcF (a++b) t) x (a++b).length=sumN (fun i=>x.getD i default*vecF a i t) a.length+sumN (fun i=>x.getD (a.length+i) default*vecF b i t) b.length:=by
 unfold dotV
 rw[List.length_append,sumN_split]
 congr 1
 ·exact sumN_eq _ fun i hi=>by
   have:fcF (a++b) t i=vecF a i t:=vecF_app_l hi t
   rw[this,Int.mul_comm]
 ·exact sumN_eq _ fun i _=>by
   have:fcF (a++b) t (a.length+i)=vecF b i t:=vecF_app_r a b i t
   rw[this,Int.mul_comm]
theorem metL_at{p:Int}{a b:Spc}{k t:Nat}(hk:k<(metK p a b).length)(ht:t<a.n.toNat):Cg p (vecF (metL p a b) k t) (sumN (fun i=>((metK p a b).getD k default).getD i default*vecF a.b i t) a.b.length):=by
 have e:(metL p a b).getD k default=cmbV p a.n.toNat a.b ((metK p a b).getD k default) a.b.length:=by simp[metL,hk]
 unfold vecF
 rw[e]
 exact cmbV_cg ht _
theorem met_sp{p:Int}{a b:Spc}(ha:isSpc p a=true)(hb:isSpc p b=true)(hn:b.n=a.n){v:Nat→Int}:Me p (metS p a b) v↔Me p a v∧Me p b v:=by
 obtain⟨h1,h2,h3,h4⟩:=isSpc_spec ha
 obtain⟨_,_,g3,g4⟩:=isSpc_spec hb
 have hp:=isF_pos h1
 have hi:Me p (metS p a b) v↔Sp p (metL p a b).length a.n.toNat (vecF (metL p a b)) v:=(span_ss h1 (metL_vec (a:=a) (b:=b) hp.1).bd).iff v
 rw[hi]
 unfold Me
 rw[hn] at g4⊢
 have hbd:=fcF_bd (h4.app g4)
 rw[metL_len]
 constructor
 ·rintro⟨co,e⟩
  have hx:∀t,t<a.n.toNat→Cg p (v t) (sumN (fun k=>co k*sumN (fun i=>((metK p a b).getD k default).getD i default*vecF a.b i t) a.b.length) (metK p a b).length):=fun t ht=>(e t ht).trans (sumN_cg _ fun k hk=>(Cg.refl _).mul (metL_at hk ht))
  constructor
  ·refine⟨fun i=>sumN (fun k=>co k*((metK p a b).getD k default).getD i default) (metK p a b).length,fun t ht=>(hx t ht).trans ?_⟩
   rw[sumN_eq (g:=fun k=>sumN (fun i=>co k*((metK p a b).getD k default).getD i default*vecF a.b i t) a.b.length) _ fun k _=>by
    rw[←sumN_mul];exact sumN_eq _ fun i _=>(Int.mul_assoc ..).symm,sumN_swap]
   refine sumN_cg _ fun i _=>?_
   rw[Int.mul_comm,←sumN_mul,sumN_eq _ fun k _=>Int.mul_comm ..]
   exact .refl _
  ·refine⟨fun i=>sumN (fun k=>co k*-(((metK p a b).getD k default).getD (a.b.length+i) default)) (metK p a b).length,fun t ht=>(hx t ht).trans ?_⟩
   have hz:∀k,k<(metK p a b).length→Cg p (sumN (fun i=>((metK p a b).getD k default).getD i default*vecF a.b i t) a.b.length) (sumN (fun i=>-(((metK p a b).getD k default).getD (a.b.length+i) default)*vecF b.b i t) b.b.length):=fun k hk=>by
    have h5:=(kerL_spec h1 hbd (gm (d:=default) hk)).1 t ht
    rw[met_dot] at h5
    refine Cg.of_sub ?_
    rw[sumN_eq (h:=fun i=>-(((metK p a b).getD k default).getD (a.b.length+i) default)*vecF b.b i t) (g:=fun i=>(-1)*(((metK p a b).getD k default).getD (a.b.length+i) default*vecF b.b i t)) _ fun i _=>by rw[Int.neg_mul];omega,sumN_mul]
    have e3:∀x y:Int,x-(-1)*y=x+y:=fun x y=>by omega
    rw[e3]
    exact h5
   refine(sumN_cg (g:=fun k=>co k*sumN (fun i=>-(((metK p a b).getD k default).getD (a.b.length+i) default)*vecF b.b i t) b.b.length) _ fun k hk=>(Cg.refl _).mul (hz k hk)).trans ?_
   rw[sumN_eq (g:=fun k=>sumN (fun i=>co k*-(((metK p a b).getD k default).getD (a.b.length+i) default)*vecF b.b i t) b.b.length) _ fun k _=>by
    rw[←sumN_mul];exact sumN_eq _ fun i _=>(Int.mul_assoc ..).symm,sumN_swap]
   refine sumN_cg _ fun i _=>?_
   rw[Int.mul_comm,←sumN_mul,sumN_eq _ fun k _=>Int.mul_comm ..]
   exact .refl _
 ·rintro⟨⟨α,ea⟩,β,eb⟩
  have hlen:(a.b++b.b).length=a.b.length+b.b.length:=List.length_append ..
  have hx:∀i,i<(a.b++b.b).length→(rowL (a.b++b.b).length fun i=>if i<a.b.length then α i else-(β (i-a.b.length))).getD i default=if i<a.b.length then α i else-(β (i-a.b.length)):=fun i hi=>rowL_get _ hi
  generalize (rowL (a.b++b.b).length fun i=>if i<a.b.length then α i else-(β (i-a.b.length)))=x at hx
  have hxa:∀t,sumN (fun i=>x.getD i default*vecF a.b i t) a.b.length=sumN (fun i=>α i*vecF a.b i t) a.b.length:=fun t=>sumN_eq _ fun i hi=>by rw[hx i (by omega),if_pos hi]
  have hk:=kerL_full h1 hbd (x:=x) fun t ht=>by
   rw[met_dot,hxa]
   have e2:sumN (fun i=>x.getD (a.b.length+i) default*vecF b.b i t) b.b.length=(-1)*sumN (fun i=>β i*vecF b.b i t) b.b.length:=by
    rw[←sumN_mul]
    exact sumN_eq _ fun i hi=>by
     rw[hx _ (by omega),if_neg (by omega),Nat.add_sub_cancel_left,Int.neg_mul];omega
   rw[e2]
   have e3:∀x y:Int,x+(-1)*y=x-y:=fun x y=>by omega
   rw[e3]
   exact((ea t ht).symm.trans (eb t ht)).sub0
  obtain⟨co,e⟩:=hk
  refine⟨co,fun t ht=>(ea t ht).trans ?_⟩
  rw[←hxa]
  refine(sumN_cg (g:=fun i=>sumN (fun k=>co k*((metK p a b).getD k default).getD i default) (metK p a b).length*vecF a.b i t) _ fun i hi=>(e i (by omega)).mul (.refl _)).trans ?_
  refine Cg.trans ?_ (sumN_cg (h:=fun k=>co k*sumN (fun i=>((metK p a b).getD k default).getD i default*vecF a.b i t) a.b.length) _ fun k hk=>(Cg.refl _).mul (metL_at hk ht).symm)
  rw[sumN_eq (h:=fun k=>co k*sumN (fun i=>((metK p a b).getD k default).getD i default*vecF a.b i t) a.b.length) (g:=fun k=>sumN (fun i=>co k*((metK p a b).getD k default).getD i default*vecF a.b i t) a.b.length) _ fun k _=>by
   rw[←sumN_mul];exact sumN_eq _ fun i _=>(Int.mul_assoc ..).symm,sumN_swap]
  refine sumN_cg _ fun i _=>?_
  rw[Int.mul_comm,←sumN_mul,sumN_eq _ fun k _=>Int.mul_comm ..]
  exact .refl _
theorem met_add{p:Int}{a b:Spc}(ha:isSpc p a=true)(hb:isSpc p b=true)(hn:b.n=a.n):(metS p a b).b.length+(addS p a b).b.length=a.b.length+b.b.length:=by
 obtain⟨h1,h2,h3,h4⟩:=isSpc_spec ha
 obtain⟨_,_,g3,g4⟩:=isSpc_spec hb
 have hp:=isF_pos h1
 rw[hn] at g4
 have hv:=h4.app g4
 have hbd:=fcF_bd hv
 have hlen:(a.b++b.b).length=a.b.length+b.b.length:=List.length_append ..
 have e1:=kerL_len h1 hbd
 have e2:=rank_tr h1 hv.bd
 have e3:(addS p a b).b.length=(redK p (a.b++b.b).length (vecF (a.b++b.b)) a.n.toNat).2.length:=spanB_len ..
 have e4:(redK p a.n.toNat (fcF (a.b++b.b)) (a.b++b.b).length).2.length=(redK p a.n.toNat (fun j i=>vecF (a.b++b.b) i j) (a.b++b.b).length).2.length:=rfl
 have e5:(metK p a b).length=(kerL p a.n.toNat (a.b++b.b).length (fcF (a.b++b.b))).length:=rfl
 have hi:Ind p a.n.toNat (metL p a b):=fun co h=>by
  rw[metL_len] at h⊢
  obtain⟨pa,ea,la⟩:=isSpc_ech ha
  obtain⟨pb,eb,lb⟩:=isSpc_ech hb
  rw[hn] at eb
  have hx:∀t,t<a.n.toNat→Cg p (sumN (fun i=>sumN (fun k=>co k*((metK p a b).getD k default).getD i default) (metK p a b).length*vecF a.b i t) a.b.length) 0:=fun t ht=>by
   refine Cg.trans ?_ (h t ht)
   refine Cg.trans ?_ (sumN_cg (h:=fun k=>co k*sumN (fun i=>((metK p a b).getD k default).getD i default*vecF a.b i t) a.b.length) _ fun k hk=>(Cg.refl _).mul (metL_at hk ht).symm)
   rw[sumN_eq (h:=fun k=>co k*sumN (fun i=>((metK p a b).getD k default).getD i default*vecF a.b i t) a.b.length) (g:=fun k=>sumN (fun i=>co k*((metK p a b).getD k default).getD i default*vecF a.b i t) a.b.length) _ fun k _=>by
    rw[←sumN_mul];exact sumN_eq _ fun i _=>(Int.mul_assoc ..).symm,sumN_swap]
   refine sumN_cg _ fun i _=>?_
   rw[Int.mul_comm,←sumN_mul,sumN_eq _ fun k _=>Int.mul_comm ..]
   exact .refl _
  have za:=fun i hi=>ea.indep (p:=p) la hx (i:=i) hi
  have hy:∀t,t<a.n.toNat→Cg p (sumN (fun i=>sumN (fun k=>co k*((metK p a b).getD k default).getD (a.b.length+i) default) (metK p a b).length*vecF b.b i t) b.b.length) 0:=fun t ht=>by
   have hz:Cg p (sumN (fun k=>co k*dotV (fcF (a.b++b.b) t) ((metK p a b).getD k default) (a.b++b.b).length) (metK p a b).length) 0:=sumN_cg0 _ fun k hk=>by
    have:=(Cg.refl (co k)).mul ((kerL_spec h1 hbd (gm (d:=default) hk)).1 t ht)
    rwa [Int.mul_zero] at this
   rw[sumN_eq (g:=fun k=>sumN (fun i=>co k*((metK p a b).getD k default).getD i default*vecF a.b i t) a.b.length+sumN (fun i=>co k*((metK p a b).getD k default).getD (a.b.length+i) default*vecF b.b i t) b.b.length) _ fun k _=>by
    rw[met_dot,Int.mul_add,←sumN_mul,←sumN_mul]
    congr 1
    ·exact sumN_eq _ fun i _=>(Int.mul_assoc ..).symm
    ·exact sumN_eq _ fun i _=>(Int.mul_assoc ..).symm,sumN_add,sumN_swap (fun k i=>co k*((metK p a b).getD k default).getD i default*vecF a.b i t),sumN_swap (fun k i=>co k*((metK p a b).getD k default).getD (a.b.length+i) default*vecF b.b i t)] at hz
   have e6:∀(c:Nat→Nat→Int) (w:Nat→Int) (n:Nat),sumN (fun i=>sumN (fun k=>co k*c k i*w i) (metK p a b).length) n=sumN (fun i=>sumN (fun k=>co k*c k i) (metK p a b).length*w i) n:=fun c w n=>sumN_eq _ fun i _=>by
    rw[Int.mul_comm (sumN _ _),←sumN_mul]
    exact sumN_eq _ fun k _=>Int.mul_comm ..
   rw[e6 (fun k i=>((metK p a b).getD k default).getD i default) (fun i=>vecF a.b i t),e6 (fun k i=>((metK p a b).getD k default).getD (a.b.length+i) default) (fun i=>vecF b.b i t)] at hz
   have h6:=(hx t ht).symm.add (Cg.refl (sumN (fun i=>sumN (fun k=>co k*((metK p a b).getD k default).getD (a.b.length+i) default) (metK p a b).length*vecF b.b i t) b.b.length))
   rw[Int.zero_add] at h6
   exact h6.trans hz
  have zb:=fun i hi=>eb.indep (p:=p) lb hy (i:=i) hi
  exact kerL_ind (p:=p) (r:=a.n.toNat) (c:=(a.b++b.b).length) (f:=fcF (a.b++b.b)) co fun i hi=>by
   show Cg p (sumN (fun k=>co k*((metK p a b).getD k default).getD i default) (metK p a b).length) 0
   by_cases h7:i<a.b.length
   ·exact za i h7
   ·have:=zb (i-a.b.length) (by omega)
    rwa [show a.b.length+(i-a.b.length)=i by omega] at this
 have e7:=ind_len h1 (metL_vec (a:=a) (b:=b) hp.1) hi
 rw[metL_len] at e7
 have e8:(metS p a b).b.length=(spanL p a.n.toNat (metL p a b)).length:=rfl
 omega
theorem comp_get{p:Int}{f g:List Mat}{v:Nat}(hv:v<f.length):(compL p f g).getD v default=mulM p (g.getD v default) (f.getD v default):=by simp[compL,hv]
theorem list_ext{f g:List Mat}(hl:f.length=g.length)(h:∀v,v<f.length→f.getD v default=g.getD v default):f=g:=by
 apply List.ext_getElem hl
 intro v g1 g2
 have:=h v g1
 have a1:∀(L:List Mat) (h:v<L.length),L.getD v default=L[v]:=fun L h=>by simp[h]
 rwa [a1 _ g1,a1 _ g2] at this
theorem spc_nil{p:Int}{s:Spc}(h:isSpc p s=true)(hz:∀i,i<s.b.length→∀j,j<s.n.toNat→Cg p (vecF s.b i j) 0):s.b=[]:=by
 obtain⟨h1,h2,h3,h4⟩:=isSpc_spec h
 have hp:=isF_pos h1
 obtain⟨he,hl⟩:=leadN_ech h
 refine List.eq_nil_of_length_eq_zero (Classical.byContradiction fun hne=>?_)
 have h0:0<(leadN s).length:=by rw[leadN_len];omega
 have k1:=hz 0 (by omega) _ (he.lt 0 h0)
 rw[he.one 0 h0 0 h0,if_pos rfl] at k1
 have:=k1.eq ⟨by omega,by omega⟩ ⟨by omega,by omega⟩
 omega
theorem rank_ext{p:Int}{r c:Nat}{f g:Nat→Nat→Int}(hF:isF p=true)(hf:BdF p r c f)(h:∀i,i<r→∀j,j<c→f i j=g i j):(redK p r f c).2.length=(redK p r g c).2.length:=by
 have hg:BdF p r c g:=fun i hi j hj=>by rw[←h i hi j hj];exact hf i hi j hj
 have e:=spanB_uniq hF hf hg (r:=r) (s:=r) (n:=c) ⟨fun i hi=>(Sp.row hi).cg fun j hj=>by rw[h i hi j hj];exact .refl _,fun i hi=>(Sp.row hi).cg fun j hj=>by rw[h i hi j hj];exact .refl _⟩
 rw[←spanB_len,←spanB_len,e]
theorem inv_tab2{p:Int}{n:Nat}{f:Nat→Nat→Int}(hF:isF p=true)(hn:n≤8)(hb:BdF p n n f)(hrk:(redK p n f n).2.length=n):isMat p (tm n n f)=true∧isMat p (tm n n (invF p n f))=true∧mulM p (tm n n f) (tm n n (invF p n f))=idM n∧mulM p (tm n n (invF p n f)) (tm n n f)=idM n:=by
 have hp:=isF_pos hF
 have hX:isMat p (tm n n f)=true:=isMat_tab hF hn hn hb
 have hI:isMat p (tm n n (invF p n f))=true:=isMat_tab hF hn hn (invF_bd hF hb)
 have hD:isMat p (idM n)=true:=isMat_id hF (by omega)
 have ef:∀i,i<n→∀j,j<n→ent (tm n n f) i j=f i j:=fun i hi j hj=>ent_tm _ hi hj
 have eI:∀i,i<n→∀j,j<n→ent (tm n n (invF p n f)) i j=invF p n f i j:=fun i hi j hj=>ent_tm _ hi hj
 have eD:∀i,i<n→∀j,j<n→ent (idM n) i j=idF i j:=fun i hi j hj=>ent_tm (r:=n) (c:=n) _ hi hj
 have e1:mulM p (tm n n f) (tm n n (invF p n f))=idM n:=by
  obtain⟨c1,c2⟩:=mulM_rc hX hI
  refine mat_ext (isMat_mul hX hI) hD c1 c2 fun i hi j hj=>?_
  rw[c1] at hi
  rw[c2] at hj
  have hi:i<n:=hi
  have hj:j<n:=hj
  rw[mul_get hi hj,eD i hi j hj]
  have hsol:=inv_sol hF hb hrk hj
  have hok:=sol_ok hF hb (v:=unitL n j) (fun t ht=>unit_bd hp.1 _ _ t ht) (by rw[hsol])
  rw[hsol] at hok
  have k1:=hok i hi
  rw[unitL_get hi] at k1
  have e2:sumN (fun k=>ent (tm n n f) i k*ent (tm n n (invF p n f)) k j) n=dotV (f i) (rowL n fun i=>invF p n f i j) n:=sumN_eq _ fun k hk=>by
   rw[rowL_get _ hk,ef i hi k hk,eI k hk j hj]
  show sumN (fun k=>ent (tm n n f) i k*ent (tm n n (invF p n f)) k j) n%p=_
  rw[e2]
  have k2:=Cg.iff.1 k1
  rw[k2]
  unfold idF
  split
  ·exact Int.emod_eq_of_lt (by omega) (by omega)
  ·rfl
 refine⟨hX,hI,e1,?_⟩
 have hnil:(kerS p (tm n n f)).b=[]:=by
  have h1:=kerS_len hX
  have h2:(redK p n (ent (tm n n f)) n).2.length=n:=(rank_ext hF hb fun i hi j hj=>(ef i hi j hj).symm).symm.trans hrk
  have h3:(kerS p (tm n n f)).b.length+(redK p n (ent (tm n n f)) n).2.length=n:=h1
  exact List.eq_nil_of_length_eq_zero (by omega)
 obtain⟨c1,c2⟩:=mulM_rc hI hX
 have hm1:=isMat_mul hI hX
 refine mat_ext hm1 hD c1 c2 fun i hi j hj=>?_
 rw[c1] at hi
 rw[c2] at hj
 have hi:i<n:=hi
 have hj:j<n:=hj
 rw[eD i hi j hj]
 have hme:=kerS_mem hX (x:=rowL n fun t=>ent (mulM p (tm n n (invF p n f)) (tm n n f)) t j-idF t j) fun t ht=>by
  have ht:t<n:=ht
  have k1:mulM p (tm n n f) (mulM p (tm n n (invF p n f)) (tm n n f))=tm n n f:=by
   rw[←mul_assoc hX hI hX rfl rfl,e1]
   exact id_mul hX
  have k2:=congrArg (fun m=>ent m t j) k1
  rw[mul_get ht (by rw[c2];exact hj),ef t ht j hj] at k2
  show Cg p (dotV (ent (tm n n f) t) _ n) 0
  unfold dotV
  rw[sumN_eq (g:=fun k=>ent (tm n n f) t k*ent (mulM p (tm n n (invF p n f)) (tm n n f)) k j+(-1)*((if k=j then 1 else 0)*ent (tm n n f) t k)) _ fun k hk=>by
   rw[rowL_get _ hk,Int.mul_sub]
   unfold idF
   by_cases e:k=j
   ·rw[if_pos e];omega
   ·rw[if_neg e];omega,sumN_add,sumN_mul,sumN_one,if_pos hj,ef t ht j hj]
  have k3:Cg p (sumN (fun k=>ent (tm n n f) t k*ent (mulM p (tm n n (invF p n f)) (tm n n f)) k j) n) (f t j):=by
   rw[←k2]
   exact(Cg.mod ..).symm
  have:=k3.sub0
  have e3:∀x y:Int,x+(-1)*y=x-y:=fun x y=>by omega
  rw[e3]
  exact this
 rw[hnil] at hme
 obtain⟨co,k4⟩:=hme
 have k5:=k4 i hi
 dsimp only at k5
 rw[rowL_get _ hi] at k5
 have k6:Cg p (ent (mulM p (tm n n (invF p n f)) (tm n n f)) i j) (idF i j):=Cg.of_sub k5
 exact k6.eq (ent_bd hm1 i (by rw[c1];exact hi) j (by rw[c2];exact hj)) (idF_bd hp.1 _ i hi j hj)
theorem dot_sp{p:Int}{r n:Nat}{f:Nat→Nat→Int}{w x:Nat→Int}(hw:Sp p r n f w)(hz:∀i,i<r→Cg p (sumN (fun l=>x l*f i l) n) 0):Cg p (sumN (fun l=>x l*w l) n) 0:=by
 obtain⟨co,e⟩:=hw
 refine(sumN_cg _ fun l hl=>(Cg.refl (x l)).mul (e l hl)).trans ?_
 rw[sumN_eq (g:=fun l=>sumN (fun i=>co i*(x l*f i l)) r) _ fun l _=>by
  rw[←sumN_mul];exact sumN_eq _ fun i _=>Int.mul_left_comm ..,sumN_swap]
 refine sumN_cg0 _ fun i hi=>?_
 rw[sumN_mul]
 have:=(Cg.refl (co i)).mul (hz i hi)
 rwa [Int.mul_zero] at this
end Go.Proofs.YtjmjamhhppoimaaGreat.V
