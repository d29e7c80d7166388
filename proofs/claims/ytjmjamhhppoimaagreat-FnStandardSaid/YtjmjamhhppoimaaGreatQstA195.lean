/- Texts that the proof needs: A195. -/
import Derived.Test.YtjmjamhhppoimaaGreatQstA113
namespace Go.Proofs.YtjmjamhhppoimaaGreat.V
open Go.RowKit G D
set_option linter.unusedVariables false
set_option linter.unusedSimpArgs false
set_option maxHeartbeats 2000000
set_option maxRecDepth 4000
theorem sp_idF{p:Int}{n:Nat}(v:Nat→Int):Sp p n n idF v:=⟨v,fun j hj=>by
 rw[sumN_eq (g:=fun k=>(if k=j then 1 else 0)*v k) _ fun k _=>by
  unfold idF
  by_cases e:k=j
  ·rw[if_pos e,Int.mul_comm]
  ·rw[if_neg e,Int.mul_comm],sumN_one,if_pos hj]
 exact .refl _⟩
theorem spc_full{p:Int}{s:Spc}(h:isSpc p s=true)(hu:∀k,k<s.n.toNat→Sp p s.b.length s.n.toNat (vecF s.b) (idF k)):s.b.length=s.n.toNat:=by
 obtain⟨h1,h2,h3,h4⟩:=isSpc_spec h
 have hp:=isF_pos h1
 have hid:BdF p s.n.toNat s.n.toNat idF:=fun i _ j _=>by unfold idF;split<;>omega
 have e:=spanB_uniq h1 h4.bd hid ⟨fun i hi=>sp_idF _,fun k hk=>hu k hk⟩
 rw[span_id h1] at e
 simp only[isSpc,Bool.and_eq_true,decide_eq_true_eq] at h
 have e2:spanB p s.b.length s.n.toNat (vecF s.b)=s.b:=h.2
 rw[←e2,e,rowsL_len]
theorem img_span{p:Int}{m:Mat}{s T:Spc}(hm:isMat p m=true)(hT:isSpc p T=true)(hn:T.n=m.r)(h:inS p (imgSp p m s) T=true){x:List Int}(hx:Sp p s.b.length m.c.toNat (vecF s.b) (fun j=>x.getD j default)):Sp p T.b.length T.n.toNat (vecF T.b) (fun j=>(appV p m x).getD j default):=by
 have h1:=(imgW_iff hm hT hn).1 h
 have h2:=appV_sp hx
 rw[←hn] at h2
 refine h2.sub fun i hi=>?_
 have e:vecF (s.b.map (appV p m)) i=fun j=>(appV p m (s.b.getD i default)).getD j default:=by
  funext j
  unfold vecF
  congr 1
  simp[hi]
 rw[e]
 exact h1 i hi
theorem sub_path{p:Int}{q:Quiv}{v:Int}{s:List Spc}(hF:isF p=true)(hA:areDims q (projD q v)=true)(hs:isSub (projR p q v) s=true)(h1:1≤(s.getD v.toNat default).b.length):∀(n:Nat) (l:List Int),l.length≤n→chain q v l→Sp p (s.getD (endQ q ⟨v,l⟩).toNat default).b.length (s.getD (endQ q ⟨v,l⟩).toNat default).n.toNat (vecF (s.getD (endQ q ⟨v,l⟩).toNat default).b) (idF (plQ q v l (endQ q ⟨v,l⟩))):=by
 obtain⟨ho,v0,v1,hd⟩:=projD_yes hA
 obtain⟨c1,c2,c3,c4⟩:=areDims_spec hA
 obtain⟨s1,s2,s3,s4⟩:=isSub_spec hs
 have hp:=isF_pos hF
 have hsl:s.length=(projD q v).length:=s2
 have ev:((v.toNat:Nat):Int)=v:=Int.toNat_of_nonneg v0
 have base:Sp p (s.getD v.toNat default).b.length (s.getD v.toNat default).n.toNat (vecF (s.getD v.toNat default).b) (idF (plQ q v [] v)):=by
  have hb:=betw_back (v:=v) ho
  have e0:plQ q v [] v=0:=by
   have:=plQ_at (q:=q) (v:=v) (w:=v) (k:=0) (by rw[hb];simp)
   rw[hb] at this
   exact this
  rw[e0]
  obtain⟨t1,t2⟩:=s3 v.toNat (by omega)
  have en:(s.getD v.toNat default).n.toNat=1:=by
   rw[t2]
   show((projD q v).getD v.toNat default).toNat=1
   rw[hd v.toNat (by omega),ev,hb];rfl
  obtain⟨piv,he,hpl⟩:=isSpc_ech t1
  rw[en] at he⊢
  have hz:=he.lt 0 (by omega)
  have h0:=he.one 0 (by omega) 0 (by omega)
  rw[show piv.getD 0 0=0 by omega,if_pos rfl] at h0
  refine(Sp.row (i:=0) (by omega)).cg fun j hj=>?_
  obtain rfl:j=0:=by omega
  rw[h0]
  exact .refl _
 intro n
 induction n with
 |zero=>
  intro l hl _
  obtain rfl:l=[]:=List.eq_nil_of_length_eq_zero (by omega)
  have e:endQ q ⟨v,[]⟩=v:=by simp[endQ]
  rw[e];exact base
 |succ n ih=>
  intro l hl hc
  by_cases hl0:l=[]
  ·subst hl0
   have e:endQ q ⟨v,[]⟩=v:=by simp[endQ]
   rw[e];exact base
  ·obtain⟨l',i,e1,e2,e3,e4,e5⟩:=chain_last l v hc hl0
   have hll:l'.length≤n:=by rw[e1] at hl;simp at hl;omega
   have hI:=ih l' hll e3
   rw[e4] at hI
   rw[e5]
   have hiq:i<q.fr.length:=e2
   have f:0≤q.fr.getD i default∧q.fr.getD i default<q.n:=okQ_fr c1 hiq
   have t:0≤q.to.getD i default∧q.to.getD i default<q.n:=okQ_to c1 hiq
   have ef:(((q.fr.getD i default).toNat:Nat):Int)=q.fr.getD i default:=Int.toNat_of_nonneg f.1
   have et:(((q.to.getD i default).toNat:Nat):Int)=q.to.getD i default:=Int.toNat_of_nonneg t.1
   have hPr:=projR_ok hF hA
   have hmi:i<(projR p q v).m.length:=by show i<(pjMs q v).length;rw[pjMs_len];exact hiq
   obtain⟨a1,a2,a3,a4,a5⟩:=arrow_ok hPr hmi
   have em:(projR p q v).m.getD i default=pjM q v i:=pjMs_get _ _ hiq
   rw[em] at a1 a4 a5
   obtain⟨b1,b2⟩:=s3 (q.fr.getD i default).toNat (by omega)
   obtain⟨g1,g2⟩:=s3 (q.to.getD i default).toNat (by omega)
   have hsub:=s4 i hmi
   unfold subAt at hsub
   rw[em] at hsub
   have hsub':inS p (imgSp p (pjM q v i) (s.getD (q.fr.getD i default).toNat default)) (s.getD (q.to.getD i default).toNat default)=true:=hsub
   have hac:(pjM q v i).c=(s.getD (q.fr.getD i default).toNat default).n:=by rw[b2];exact a4
   have har:(s.getD (q.to.getD i default).toNat default).n=(pjM q v i).r:=by rw[g2];exact a5.symm
   have hmem:(⟨v,l'⟩:Pth)∈betw q v (q.fr.getD i default):=by
    obtain⟨rk,hAc⟩:=acy_of ho
    unfold betw
    exact List.mem_filter.2 ⟨lfQ_all q 5 v l' e3 (Nat.le_trans (chain_len hAc _ _ e3) (hAc.le v)),decide_eq_true e4⟩
   obtain⟨k1,k2⟩:=plQ_mem hmem
   have hcn:(pjM q v i).c.toNat=(betw q v (q.fr.getD i default)).length:=by show Int.toNat (((betw q v (q.fr.getD i default)).length:Nat):Int)=_;rw[Int.toNat_natCast]
   have hrn:(pjM q v i).r.toNat=(betw q v (q.to.getD i default)).length:=by show Int.toNat (((betw q v (q.to.getD i default)).length:Nat):Int)=_;rw[Int.toNat_natCast]
   have hx:Sp p (s.getD (q.fr.getD i default).toNat default).b.length (pjM q v i).c.toNat (vecF (s.getD (q.fr.getD i default).toNat default).b) (fun j=>(rowL (pjM q v i).c.toNat (idF (plQ q v l' (q.fr.getD i default)))).getD j default):=by
    rw[hac]
    refine hI.cg fun j hj=>?_
    rw[rowL_get _ hj]
    exact .refl _
   refine(img_span a1 g1 har hsub' hx).cg fun j hj=>?_
   rw[har] at hj
   rw[appV_unit a1 hj (by rw[hcn];exact k1)]
   rw[show ent (pjM q v i) j (plQ q v l' (q.fr.getD i default))=pjF q v i (betw q v (q.fr.getD i default)).length j (plQ q v l' (q.fr.getD i default)) from ent_tm _ (by rw[←hrn];exact hj) k1]
   have ek:plcN q v i (plQ q v l' (q.fr.getD i default))=plQ q v l (q.to.getD i default):=by
    rw[plcN_eq,k2,e1]
   unfold pjF idF
   rw[ek]
   by_cases e:j=plQ q v l (q.to.getD i default)
   ·rw[if_pos e.symm,if_pos ⟨k1,e⟩];exact .refl _
   ·rw[if_neg (fun h=>e h.symm),if_neg (fun h=>e h.2)];exact .refl _
theorem sub_all{p:Int}{q:Quiv}{v:Int}{s:List Spc}(hF:isF p=true)(hA:areDims q (projD q v)=true)(hs:isSub (projR p q v) s=true)(h1:1≤(s.getD v.toNat default).b.length):dimS s=projD q v:=by
 obtain⟨ho,v0,v1,hd⟩:=projD_yes hA
 obtain⟨c1,c2,c3,c4⟩:=areDims_spec hA
 obtain⟨s1,s2,s3,s4⟩:=isSub_spec hs
 have hsl:s.length=(projD q v).length:=s2
 have hdl:(dimS s).length=s.length:=by simp[dimS]
 refine List.ext_getElem (by omega) fun w h2 h3=>?_
 have e1:∀(l:List Int) (h:w<l.length),l[w]=l.getD w default:=fun l h=>by simp[h]
 rw[e1 _ h2,e1 _ h3,dimS_get (by omega)]
 obtain⟨t1,t2⟩:=s3 w (by omega)
 have en:(s.getD w default).n.toNat=(betw q v (w:Int)).length:=by
  rw[t2]
  show((projD q v).getD w default).toNat=_
  rw[hd w (by omega),Int.toNat_natCast]
 have hfull:=spc_full t1 fun k hk=>by
  rw[en] at hk
  obtain⟨y1,y2,y3,y4⟩:=betw_path (gm (d:=default) hk)
  have hy:(betw q v (w:Int)).getD k default=⟨v,((betw q v (w:Int)).getD k default).a⟩:=pth_eta y1
  have hsp:=sub_path hF hA hs h1 _ _ (Nat.le_refl _) y2
  rw[←hy,y4,plQ_at hk,Int.toNat_natCast] at hsp
  exact hsp
 rw[hfull,en,hd w (by omega)]
theorem one_ker_img{p:Int}{m:Mat}(h:isMat p m=true)(hc:m.c=1)(hr:m.r=1):1≤(kerS p m).b.length∨1≤(imgS p m).b.length:=by
 have hF:=(isMat_spec h).1
 have hp:=isF_pos hF
 by_cases hz:Cg p (ent m 0 0) 0
 ·left
  have hm:=kerS_mem h (x:=[1]) fun i hi=>by
   rw[hr] at hi
   obtain rfl:i=0:=by simpa using hi
   rw[hc]
   show Cg p (sumN (fun j=>ent m 0 j*([1]:List Int).getD j default) 1) 0
   simp only[sumN]
   have:(0:Int)+ent m 0 0*([1]:List Int).getD 0 default=ent m 0 0:=by simp
   rw[this];exact hz
  rw[hc] at hm
  obtain⟨co,hco⟩:=hm
  rcases Nat.eq_zero_or_pos (kerS p m).b.length with e|e
  ·have:=hco 0 (by decide)
   rw[e] at this
   obtain⟨z,hz⟩:=this
   exfalso
   have hz:(1:Int)=0+p*z:=hz
   rcases Int.lt_trichotomy z 0 with g|g|g
   ·have:=Int.mul_le_mul_of_nonneg_left (show z≤-1 by omega) (show 0≤p by omega);omega
   ·subst g;omega
   ·have:=Int.mul_le_mul_of_nonneg_left (show 1≤z by omega) (show 0≤p by omega);omega
  ·exact e
 ·right
  rcases Nat.eq_zero_or_pos (imgS p m).b.length with e|e
  ·exfalso
   have hb:BdF p m.c.toNat m.r.toNat fun k i=>ent m i k:=fun i hi j hj=>ent_bd h j hj i hi
   have hv:=VecB.rows hb
   have hss:=span_ss hF hv.bd
   have h2:=hss.2 0 (by rw[rowsL_len,hc];decide)
   have hl:(spanB p (rowsL m.c.toNat m.r.toNat fun k i=>ent m i k).length m.r.toNat (vecF (rowsL m.c.toNat m.r.toNat fun k i=>ent m i k))).length=0:=e
   obtain⟨co,hco⟩:=h2
   have:=hco 0 (by rw[hr];decide)
   rw[hl,vecF_rows (by rw[hc];decide) (by rw[hr];decide)] at this
   exact hz this
  ·exact e
theorem ind_proj{p:Int}{q:Quiv}{v:Int}(hF:isF p=true)(hA:areDims q (projD q v)=true):indI (projR p q v)≠0:=by
 have hPr:=projR_ok hF hA
 obtain⟨ho,v0,v1,hd⟩:=projD_yes hA
 obtain⟨c1,c2,c3,c4⟩:=areDims_spec hA
 have ev:((v.toNat:Nat):Int)=v:=Int.toNat_of_nonneg v0
 have hdv:(projD q v).getD v.toNat default=1:=by rw[hd v.toNat (by omega),ev,betw_back ho];rfl
 have hsum:∀(l:List Int),(∀j,j<l.length→0≤l.getD j default)→∀k,k<l.length→l.getD k default≤l.sum:=fun l=>by
  induction l with
  |nil=>intro _ k hk;simp at hk
  |cons a l ih=>
   intro h k hk
   have h0:=h 0 (by simp)
   simp only[List.getD_cons_zero] at h0
   have hl:∀j,j<l.length→0≤l.getD j default:=fun j hj=>by have:=h (j+1) (by simp;omega);simpa using this
   have hnn:0≤l.sum:=by
    cases l with
    |nil=>simp
    |cons b l=>have:=ih hl 0 (by simp);have h1:=hl 0 (by simp);omega
   cases k with
   |zero=>simp only[List.getD_cons_zero,List.sum_cons];omega
   |succ k=>
    have:=ih hl k (by simpa using hk)
    simp only[List.getD_cons_succ,List.sum_cons]
    omega
 have hpos:1≤(projD q v).sum:=by
  have:=hsum (projD q v) (fun j hj=>by have h9:0≤(projD q v).getD j default∧(projD q v).getD j default≤4:=allIn_spec c3 hj;exact h9.1) v.toNat (by omega)
  omega
 have hno:(fsP (projR p q v)).2.2≠true:=fun h=>by
  cases ho2:fsO (projR p q v) with
  |none=>rw[fsP_none ho2] at h;cases h
  |some k=>
   obtain⟨f1,f2,f3,f4,f5⟩:=fs_facts hPr h
   rw[fsP_some ho2] at h f1 f2 f3 f4 f5
   have hm:=num_mor (fitR_refl hPr) (k:Int)
   generalize numL (projR p q v) (projR p q v) k=f at hm h f1 f2 f3 f4 f5
   unfold spP at h f1 f2 f3 f4 f5
   by_cases hc:isMor (projR p q v) (projR p q v) f=true∧(dimS (kerLs (projR p q v).p (powL (projR p q v).p f 8))).sum≠0∧(dimS (imgLs (projR p q v).p (powL (projR p q v).p f 8))).sum≠0
   ·rw[if_pos hc] at f1 f2 f3 f4 f5
    have hg:=mor_pow hm 8
    dsimp only at f1 f2 f3 f4 f5
    generalize powL (projR p q v).p f 8=g at hg f1 f2 f3 f4 f5
    obtain⟨m1,m2,m3,m4,m5⟩:=mor_ok hg
    have hvl:v.toNat<g.length:=by rw[m1];show v.toNat<(projD q v).length;omega
    obtain⟨n1,n2,n3⟩:=m5 v.toNat hvl
    have n2':(g.getD v.toNat default).c=1:=by rw[n2];exact hdv
    have n3':(g.getD v.toNat default).r=1:=by rw[n3];exact hdv
    have hk:(kerLs (projR p q v).p g).getD v.toNat default=kerS (projR p q v).p (g.getD v.toNat default):=(kerLs_ok hg hvl).1
    have hi:(imgLs (projR p q v).p g).getD v.toNat default=imgS (projR p q v).p (g.getD v.toNat default):=(imgLs_ok hg hvl).1
    have hPd:(projR p q v).d.sum=(projD q v).sum:=rfl
    rcases one_ker_img n1 n2' n3' with h1|h1
    ·have:=sub_all hF hA f1 (by rw[hk];exact h1)
     rw[this] at f5
     omega
    ·have:=sub_all hF hA f2 (by rw[hi];exact h1)
     rw[this] at f5
     omega
   ·rw[if_neg hc] at h;cases h
 unfold indI
 rw[if_pos hPr,if_neg (show¬(projR p q v).d.sum=0 from fun h=>by have:(projD q v).sum=0:=h;omega),if_neg hno]
 split<;>decide
end Go.Proofs.YtjmjamhhppoimaaGreat.V
