/- Texts that the proof needs: A78. -/
import Derived.Test.YtjmjamhhppoimaaGreatQspA70
namespace Go.Proofs.YtjmjamhhppoimaaGreat.V
open Go.RowKit G D
set_option linter.unusedVariables false
set_option linter.unusedSimpArgs false
set_option maxHeartbeats 1000000
set_option maxRecDepth 4000
theorem sumN_swap(h:Nat→Nat→Int)(n:Nat):∀m,sumN (fun i=>sumN (fun j=>h i j) n) m=sumN (fun j=>sumN (fun i=>h i j) m) n
 |0=>by
  rw[sumN_zero (h:=fun j=>sumN (fun i=>h i j) 0) n fun j _=>rfl];rfl
 |m+1=>by
  rw[sumN,sumN_swap h n m]
  exact(sumN_add (fun j=>sumN (fun i=>h i j) m) (fun j=>h m j) n).symm
theorem appV_get(p:Int)(m:Mat)(v:List Int){j:Nat}(hj:j<m.r.toNat):(appV p m v).getD j default=sumN (fun k=>ent m j k*v.getD k default) m.c.toNat%p:=by
 unfold appV;rw[rowL_get _ hj]
theorem vecF_map{p:Int}{m:Mat}{b:List (List Int)}{i:Nat}(hi:i<b.length)(j:Nat):vecF (b.map (appV p m)) i j=(appV p m (b.getD i default)).getD j default:=by
 unfold vecF;simp[hi]
theorem appV_sp{p:Int}{m:Mat}{b:List (List Int)}{v:List Int}(h:Sp p b.length m.c.toNat (vecF b) (fun j=>v.getD j default)):Sp p b.length m.r.toNat (vecF (b.map (appV p m))) (fun j=>(appV p m v).getD j default):=by
 obtain⟨co,e⟩:=h
 refine⟨co,fun j hj=>?_⟩
 dsimp only
 rw[appV_get p m v hj]
 refine(Cg.mod _ _).trans ((sumN_cg (g:=fun k=>ent m j k*sumN (fun i=>co i*vecF b i k) b.length) _ fun k hk=>(Cg.refl _).mul (e k hk)).trans ?_)
 rw[sumN_eq (g:=fun k=>sumN (fun i=>ent m j k*(co i*vecF b i k)) b.length) _ fun k _=>(sumN_mul _ _ _).symm,sumN_swap]
 refine sumN_cg _ fun i hi=>?_
 rw[vecF_map hi,appV_get p m _ hj,sumN_eq (g:=fun k=>co i*(ent m j k*vecF b i k)) _ fun k _=>by rw[←Int.mul_assoc,←Int.mul_assoc,Int.mul_comm (ent m j k)],sumN_mul]
 exact(Cg.refl _).mul (Cg.mod _ _).symm
theorem appV_cols{p:Int}{m:Mat}(v:List Int):Sp p m.c.toNat m.r.toNat (vecF (rowsL m.c.toNat m.r.toNat fun k i=>ent m i k)) (fun j=>(appV p m v).getD j default):=by
 refine⟨fun k=>v.getD k default,fun j hj=>?_⟩
 dsimp only
 rw[appV_get p m v hj]
 refine(Cg.mod _ _).trans ?_
 rw[sumN_eq (g:=fun k=>v.getD k default*vecF (rowsL m.c.toNat m.r.toNat fun k i=>ent m i k) k j) _ fun k hk=>by rw[vecF_rows hk hj,Int.mul_comm]]
 exact .refl _
theorem imgW_iff{p:Int}{m:Mat}{s T:Spc}(hm:isMat p m=true)(hT:isSpc p T=true)(hn:T.n=m.r):inS p (imgSp p m s) T=true↔∀i,i<s.b.length→Sp p T.b.length T.n.toNat (vecF T.b) (fun j=>(appV p m (s.b.getD i default)).getD j default):=by
 obtain⟨h0,h1,h2,h3,h4⟩:=isMat_spec hm
 have hp:=isF_pos h0
 have hv:=imgL_vec (show 0<p by omega) m s
 have hss:SS p (imgSp p m s).b.length s.b.length m.r.toNat (vecF (imgSp p m s).b) (vecF (imgL p m s)):=by
  have:=span_ss h0 hv.bd
  rw[imgL_len] at this
  show SS p (spanL p m.r.toNat (imgL p m s)).length _ _ (vecF (spanL p m.r.toNat (imgL p m s))) _
  unfold spanL
  rw[imgL_len]
  exact this
 rw[inS_iff (imgSp_ok hm s) hT hn,hn]
 constructor
 ·intro h i hi
  refine((hss.2 i hi).sub h).cg fun j _=>?_
  unfold imgL
  rw[vecF_map hi];exact .refl _
 ·intro h i hi
  refine(hss.1 i hi).sub fun t ht=>(h t ht).cg fun j _=>?_
  unfold imgL
  rw[vecF_map ht];exact .refl _
theorem addS_ss{p:Int}{a b:Spc}(ha:isSpc p a=true)(hb:isSpc p b=true)(hn:b.n=a.n):SS p (addS p a b).b.length (a.b.length+b.b.length) a.n.toNat (vecF (addS p a b).b) (vecF (a.b++b.b)):=by
 obtain⟨h1,h2,h3,h4⟩:=isSpc_spec ha
 obtain⟨_,_,g3,g4⟩:=isSpc_spec hb
 rw[hn] at g4
 have:=span_ss h1 (h4.app g4).bd
 rw[List.length_append] at this
 show SS p (spanL p a.n.toNat (a.b++b.b)).length _ _ (vecF (spanL p a.n.toNat (a.b++b.b))) _
 unfold spanL
 rw[List.length_append]
 exact this
theorem addS_l{p:Int}{a b:Spc}(ha:isSpc p a=true)(hb:isSpc p b=true)(hn:b.n=a.n){i:Nat}(hi:i<a.b.length):Sp p (addS p a b).b.length a.n.toNat (vecF (addS p a b).b) (vecF a.b i):=
 ((addS_ss ha hb hn).2 i (by omega)).cg fun j _=>by rw[vecF_app_l hi];exact .refl _
theorem addS_r{p:Int}{a b:Spc}(ha:isSpc p a=true)(hb:isSpc p b=true)(hn:b.n=a.n){i:Nat}(hi:i<b.b.length):Sp p (addS p a b).b.length a.n.toNat (vecF (addS p a b).b) (vecF b.b i):=
 ((addS_ss ha hb hn).2 (a.b.length+i) (by omega)).cg fun j _=>by rw[vecF_app_r];exact .refl _
def addL(p:Int)(s t:List Spc):List Spc:=(List.range s.length).map fun v=>addS p (s.getD v default) (t.getD v default)
theorem addL_len(p:Int)(s t:List Spc):(addL p s t).length=s.length:=by simp[addL]
theorem addL_get(p:Int)(s t:List Spc){v:Nat}(hv:v<s.length):(addL p s t).getD v default=addS p (s.getD v default) (t.getD v default):=by simp[addL,hv]
theorem arrow_ok{r:Rep}(h:isRep r=true){i:Nat}(hi:i<r.m.length):isMat r.p (r.m.getD i default)=true∧(0≤r.q.fr.getD i default∧(r.q.fr.getD i default).toNat<r.d.length)∧(0≤r.q.to.getD i default∧(r.q.to.getD i default).toNat<r.d.length)∧(r.m.getD i default).c=r.d.getD (r.q.fr.getD i default).toNat default∧(r.m.getD i default).r=r.d.getD (r.q.to.getD i default).toNat default:=by
 obtain⟨h1,h2,h3,h4⟩:=isRep_spec h
 obtain⟨c1,c2,c3,_⟩:=areDims_spec h2
 have f:0≤r.q.fr.getD i default∧r.q.fr.getD i default<r.q.n:=okQ_fr c1 (by omega)
 have t:0≤r.q.to.getD i default∧r.q.to.getD i default<r.q.n:=okQ_to c1 (by omega)
 have hm:=h4 i hi
 simp only[fitM,Bool.and_eq_true,decide_eq_true_eq] at hm
 exact⟨hm.1.1,⟨f.1,by omega⟩,⟨t.1,by omega⟩,hm.1.2,hm.2⟩
theorem isSub_mk{r:Rep}{s:List Spc}(h1:isRep r=true)(h2:s.length=r.d.length)(h3:∀v,v<s.length→isSpc r.p (s.getD v default)=true∧(s.getD v default).n=r.d.getD v default)(h4:∀i,i<r.m.length→subAt r s i=true):isSub r s=true:=by
 simp only[isSub,Bool.and_eq_true,decide_eq_true_eq,List.all_eq_true]
 refine⟨h1,h2,fun v hv=>?_,fun i hi=>h4 i (by simpa using hi)⟩
 have:=h3 v (by simpa using hv)
 simpa[spcAt] using this
theorem isSub_img{r:Rep}{s:List Spc}(h:isSub r s=true){i:Nat}(hi:i<r.m.length){j:Nat}(hj:j<(s.getD (r.q.fr.getD i default).toNat default).b.length):Sp r.p (s.getD (r.q.to.getD i default).toNat default).b.length (r.m.getD i default).r.toNat (vecF (s.getD (r.q.to.getD i default).toNat default).b) (fun t=>(appV r.p (r.m.getD i default) ((s.getD (r.q.fr.getD i default).toNat default).b.getD j default)).getD t default):=by
 obtain⟨h1,h2,h3,h4⟩:=isSub_spec h
 obtain⟨m1,m2,m3,m4,m5⟩:=arrow_ok h1 hi
 have hT:=h3 (r.q.to.getD i default).toNat (by omega)
 have hn:(s.getD (r.q.to.getD i default).toNat default).n=(r.m.getD i default).r:=by rw[hT.2,m5]
 have:=(imgW_iff m1 hT.1 hn).mp (h4 i hi) j hj
 rwa [hn] at this
theorem addSubs_ok {r : Rep} {s t : List Spc} (hs : isSub r s = true) (ht : isSub r t = true) : isSub r (addL r.p s t) = true := by
  obtain ⟨h1, h2, h3, h4⟩ := isSub_spec hs
  obtain ⟨_, g2, g3, g4⟩ := isSub_spec ht
  have key : ∀ v, v < s.length → isSpc r.p ((addL r.p s t).getD v default) = true ∧ ((addL r.p s t).getD v default).n = r.d.getD v default := fun v hv => by
    obtain ⟨a1, a2⟩ := h3 v hv
    obtain ⟨b1, b2⟩ := g3 v (by omega)
    rw [addL_get r.p s t hv]
    exact ⟨addS_ok a1 b1 (by rw [b2, a2]), a2⟩
  refine isSub_mk h1 (by rw [addL_len]; exact h2) (fun v hv => key v (by rwa [addL_len] at hv)) fun i hi => ?_
  obtain ⟨m1, m2, m3, m4, m5⟩ := arrow_ok h1 hi
  have kT := key (r.q.to.getD i default).toNat (by omega)
  unfold subAt
  rw [imgW_iff m1 kT.1 (by rw [kT.2, m5])]
  intro j hj
  rw [kT.2, ← m5]
  obtain ⟨f1, f2⟩ := h3 (r.q.fr.getD i default).toNat (by omega)
  obtain ⟨e1, e2⟩ := g3 (r.q.fr.getD i default).toNat (by omega)
  obtain ⟨p1, p2⟩ := h3 (r.q.to.getD i default).toNat (by omega)
  obtain ⟨q1, q2⟩ := g3 (r.q.to.getD i default).toNat (by omega)
  have I1 := fun j hj => isSub_img hs hi (j := j) hj
  have I2 := fun j hj => isSub_img ht hi (j := j) hj
  rw [addL_get r.p s t (by omega)] at hj ⊢
  rw [addL_get r.p s t (by omega)]
  generalize s.getD (r.q.fr.getD i default).toNat default = A at *
  generalize t.getD (r.q.fr.getD i default).toNat default = B at *
  generalize s.getD (r.q.to.getD i default).toNat default = C at *
  generalize t.getD (r.q.to.getD i default).toNat default = D at *
  generalize r.m.getD i default = M at *
  have hAB := addS_ss f1 e1 (by rw [e2, f2])
  rw [f2, ← m4, ← List.length_append] at hAB
  have hx := appV_sp (m := M) (v := (addS r.p A B).b.getD j default) (hAB.1 j hj)
  refine hx.sub fun k hk => ?_
  have hn : D.n = C.n := by rw [q2, p2]
  have hCn : C.n.toNat = M.r.toNat := by rw [p2, m5]
  rw [List.length_append] at hk
  by_cases e : k < A.b.length
  · have := (I1 k e).sub (s := (addS r.p C D).b.length) (g := vecF (addS r.p C D).b) fun t ht => by
      have := addS_l p1 q1 hn ht
      rwa [hCn] at this
    refine this.cg fun j _ => ?_
    rw [vecF_map (by rw [List.length_append]; omega), show (A.b ++ B.b).getD k default = A.b.getD k default by simp [List.getElem?_append_left e]]
    exact .refl _
  · have := (I2 (k - A.b.length) (by omega)).sub (s := (addS r.p C D).b.length) (g := vecF (addS r.p C D).b) fun t ht => by
      have := addS_r p1 q1 hn ht
      rwa [hCn] at this
    refine this.cg fun j _ => ?_
    rw [vecF_map (by rw [List.length_append]; omega), show (A.b ++ B.b).getD k default = B.b.getD (k - A.b.length) default by simp [List.getElem?_append_right (show A.b.length ≤ k by omega)]]
    exact .refl _
end Go.Proofs.YtjmjamhhppoimaaGreat.V
