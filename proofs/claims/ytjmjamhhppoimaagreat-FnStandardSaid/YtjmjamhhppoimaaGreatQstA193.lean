/- Texts that the proof needs: A88, A92, A193. -/
import Derived.Test.YtjmjamhhppoimaaGreatQstA192
namespace Go.Proofs.YtjmjamhhppoimaaGreat.V
open V.Enc (enc)
open Go.RowKit G D
set_option linter.unusedVariables false
set_option linter.unusedSimpArgs false
set_option maxHeartbeats 4000000
set_option maxRecDepth 4000
attribute [local irreducible] AW ARg ARA ARet MRet ASil AC AM ARI
theorem rowL_unit(n k:Nat):rowL n (idF k)=unitL n k:=by
 apply List.ext_getElem (by simp[rowL_len,unitL_len])
 intro i h1 h2
 have hi:i<n:=by simpa[rowL_len] using h1
 have e1:(rowL n (idF k)).getD i default=(rowL n (idF k))[i]:=by simp[List.getElem?_eq_getElem h1]
 have e2:(unitL n k).getD i default=(unitL n k)[i]:=by simp[List.getElem?_eq_getElem h2]
 rw[←e1,←e2,rowL_get _ hi,unitL_get hi]
 unfold idF
 by_cases e:k=i
 ·subst e;rfl
 ·rw[if_neg e,if_neg fun h=>e h.symm]
theorem projP_true{p:Int}{q:Quiv}{v:Int}(h:(projP p q v).2=true):isF p=true∧areDims q (projD q v)=true∧projP p q v=(projR p q v,true):=by
 unfold projP at h⊢
 by_cases hh:isF p=true∧areDims q (projD q v)=true
 ·exact⟨hh.1,hh.2,if_pos hh⟩
 ·rw[if_neg hh] at h;cases h
theorem betw_self{q:Quiv}{v:Int}:1≤(betw q v v).length:=by
 have:(⟨v,[]⟩:Pth)∈betw q v v:=by
  unfold betw
  exact List.mem_filter.2 ⟨lfQ_all q 5 v [] trivial (by simp),decide_eq_true rfl⟩
 exact List.length_pos_of_mem this
theorem appV_col0{p:Int}{m:Mat}(h:isMat p m=true)(hc:0<m.c.toNat):appV p m (unitL m.c.toNat 0)=rowL m.r.toNat fun i=>ent m i 0:=by
 conv=>lhs;unfold appV
 refine rowL_ext fun i hi=>?_
 rw[←appV_get p m _ hi,←rowL_unit,appV_unit h hi hc]
def elP(r:Rep)(v:Int)(f:List Mat):List Int×Bool:=if isRep r=true∧(projP r.p r.q v).2=true∧isMor (projP r.p r.q v).1 r f=true then(rowL (f.getD v.toNat default).r.toNat (fun i=>ent (f.getD v.toNat default) i 0),true) else([],false)
theorem el_ok{r:Rep}{v:Int}{f:List Mat}(h2:(projP r.p r.q v).2=true)(h3:isMor (projP r.p r.q v).1 r f=true):isRep r=true∧0≤v∧v.toNat<f.length∧v.toNat<(projD r.q v).length∧isMat r.p (f.getD v.toNat default)=true∧(f.getD v.toNat default).c=(projD r.q v).getD v.toNat default∧0<(f.getD v.toNat default).c:=by
 obtain⟨h1,h4,h5⟩:=projP_true h2
 rw[h5] at h3
 dsimp only at h3
 obtain⟨m1,m2,m3,m4,m5⟩:=mor_ok h3
 obtain⟨a1,a2,a3⟩:=areM_spec (isMor_are h3)
 obtain⟨_,b2,_,_⟩:=fitR_spec a1
 obtain⟨p1,p2,p3,p4⟩:=projD_yes h4
 obtain⟨c1,c2,c3,c4⟩:=areDims_spec h4
 have hl:f.length=(projD r.q v).length:=m1
 have hv:v.toNat<f.length:=by omega
 obtain⟨n1,n2,n3⟩:=m5 _ hv
 have n2':(f.getD v.toNat default).c=(projD r.q v).getD v.toNat default:=n2
 have hb:=betw_self (q:=r.q) (v:=v)
 have e:=p4 v.toNat (by omega)
 rw[Int.toNat_of_nonneg p2] at e
 exact⟨b2,p2,hv,by omega,n1,n2',by omega⟩
theorem implElementOfMap_a(r:Rep)(v:Int)(f:List Mat):AC Tryz.prog 14 [.agg (enc false r),.i v,ar false f] [.dt true 1 (E true (elP r v f).1),.b (elP r v f).2]:=by
 refine AC.go Tryz.func14 Tryz.ntmps14 rfl rfl fun w0 hw=>?_;simp[WfL,WfA,E_length,Enc.enc,In64] at hw
 have hP:=implProjectiveRep_a r.p r.q v
 have hM:=implIsMorphism_a (projP r.p r.q v).1 r f
 have hok:=fun h2 h3=>el_ok (r:=r) (v:=v) (f:=f) h2 h3
 unfold elP
 cases h2:(projP r.p r.q v).2 with
 |false=>
  rw[h2] at hP
  rw[if_neg (by simp)]
  generalize (projP r.p r.q v).1=PR at hP hM
  repeat' first|refine s1 ?_|refine q1 ?_|(refine kR ?_;first|refine F.c (hP) ?_)|fail
  (refine kZ ?_;exact F.ret rfl)
 |true=>
  rw[h2] at hP
  cases h3:isMor (projP r.p r.q v).1 r f with
  |false=>
   rw[h3] at hM
   rw[if_neg (by simp)]
   generalize (projP r.p r.q v).1=PR at hP hM
   repeat' first|refine s1 ?_|refine q1 ?_|(refine kR ?_;first|refine F.c (hP) ?_|refine F.c (hM) ?_)|fail
   (refine kZ ?_;exact F.ret rfl)
  |true=>
   rw[h3] at hM
   obtain⟨k1,k2,k3,k4,k5,k6,k7⟩:=hok h2 h3
   rw[if_pos ⟨k1,rfl,rfl⟩]
   obtain⟨_,g1,g2,_,_⟩:=isMat_spec k5
   have hC:=column_a (f.getD v.toNat default).r.toNat (f.getD v.toNat default).c.toNat 0 (ent (f.getD v.toNat default)) (by omega) (by omega) (by omega)
   rw[isMat_tm k5] at hC
   have hC:AC Tryz.prog 148 [.agg (enc false (f.getD v.toNat default)),.i 0] [.dt true 1 (E true (rowL (f.getD v.toNat default).r.toNat fun i=>ent (f.getD v.toNat default) i 0))]:=hC
   generalize (rowL (f.getD v.toNat default).r.toNat fun i=>ent (f.getD v.toNat default) i 0)=CO at hC⊢
   generalize (projP r.p r.q v).1=PR at hP hM
   repeat' first|refine s1 ?_|refine q1 ?_|(refine kR ?_;first|refine F.c (hP) ?_|refine F.c (hM) ?_|refine F.c (hC) ?_)|fail
   (refine kZ ?_;exact F.ret rfl)
theorem specElementOfMap_a(r:Rep)(v:Int)(f:List Mat):AC Tryz.prog 28 [.agg (enc false r),.i v,ar false f] [.dt true 1 (E true (elP r v f).1),.b (elP r v f).2]:=by
 refine AC.go Tryz.func28 Tryz.ntmps28 rfl rfl fun w0 hw=>?_;simp[WfL,WfA,E_length,Enc.enc,In64] at hw
 have hF:=specIsRep_a r
 have hP:=specProjectiveRep_a r.p r.q v
 have hM:=specIsMorphism_a (projP r.p r.q v).1 r f
 have hok:=fun h2 h3=>el_ok (r:=r) (v:=v) (f:=f) h2 h3
 unfold elP
 cases h1:isRep r with
 |false=>
  rw[h1] at hF
  rw[if_neg (by simp)]
  repeat' first|refine s1 ?_|refine q1 ?_|(refine kR ?_;first|refine F.c (hF) ?_)|fail
  (refine kZ ?_;exact F.ret rfl)
 |true=>
  rw[h1] at hF
  cases h2:(projP r.p r.q v).2 with
  |false=>
   rw[h2] at hP
   rw[if_neg (by simp)]
   generalize (projP r.p r.q v).1=PR at hP hM
   repeat' first|refine s1 ?_|refine q1 ?_|(refine kR ?_;first|refine F.c (hF) ?_|refine F.c (hP) ?_)|fail
   (refine kZ ?_;exact F.ret rfl)
  |true=>
   rw[h2] at hP
   cases h3:isMor (projP r.p r.q v).1 r f with
   |false=>
    rw[h3] at hM
    rw[if_neg (by simp)]
    generalize (projP r.p r.q v).1=PR at hP hM
    repeat' first|refine s1 ?_|refine q1 ?_|(refine kR ?_;first|refine F.c (hF) ?_|refine F.c (hP) ?_|refine F.c (hM) ?_)|fail
    (refine kZ ?_;exact F.ret rfl)
   |true=>
    rw[h3] at hM
    obtain⟨k1,k2,k3,k4,k5,k6,k7⟩:=hok h2 h3
    rw[if_pos ⟨rfl,rfl,rfl⟩]
    obtain⟨g0,g1,g2,_,_⟩:=isMat_spec k5
    have hp:=isF_pos g0
    have hA:=specApply_a k5 (v:=unitL (f.getD v.toNat default).c.toNat 0) (unitL_len _ _) (unit_bd (by omega) _ _)
    rw[appV_col0 k5 (by omega)] at hA
    obtain⟨p1,p2,p3⟩:=projP_true h2
    rw[p3] at hP hM
    dsimp only at hP hM
    have hN:(projD r.q v).getD (0+v.toNat) default=((f.getD v.toNat default).c.toNat:Int):=by rw[Nat.zero_add,←k6];omega
    rw[show unitL (f.getD v.toNat default).c.toNat 0=(List.replicate (f.getD v.toNat default).c.toNat 0).set (0+0) 1 from rfl] at hA
    generalize hCe:(f.getD v.toNat default).c.toNat=CN at hA hN
    generalize (rowL (f.getD v.toNat default).r.toNat fun i=>ent (f.getD v.toNat default) i 0)=CO at hA⊢
    unfold projR at hP hM
    generalize pjMs r.q v=PM at hP hM
    generalize projD r.q v=DS at hP hM hN k4
    repeat' first|refine s1 ?_|refine q1 ?_|(refine kR ?_;first|refine F.c (hF) ?_|refine F.c (hP) ?_|refine F.c (hM) ?_|refine F.mk (m:=CN) Int rfl rfl (by omega) (mkB (by omega)) (by omega) rfl rfl ?_)|fail
    refine AW.draw 13 G.mixed (by kernel_rfl) ?_
    refine Pz (.p 0<|.l 1<|.p 2<|.p 3<|.p 4<|.l 5<|.p 6<|.o 7 true<|.p 8<|.p 9<|.p 10<|.p 11<|.p 12<|.n) ?_
    repeat' first|refine ySQ ?_|refine s1 ?_|refine q1 ?_|(refine kR ?_;first|refine F.c (hA) ?_)|fail
    any_goals refine lf ?_
    all_goals
     repeat' first|refine s1 ?_|refine q1 ?_|fail
     (refine kZ ?_;exact F.ret rfl)
theorem aloK_pre(r:Rep)(v:Int)(a:List Int)(i:Int):∀k,k≤a.length→aloK r ⟨v,a++[i]⟩ k=aloK r ⟨v,a⟩ k
 |0,_=>rfl
 |k+1,hk=>by
  simp only[aloK]
  rw[aloK_pre r v a i k (by omega)]
  have e:(a++[i]).getD k default=a.getD k default:=by
   simp[List.getD_eq_getElem?_getD,List.getElem?_append_left (show k<a.length by omega)]
  rw[e]
theorem alo_snoc(r:Rep)(v:Int)(a:List Int)(i:Nat):aloM r ⟨v,a++[(i:Int)]⟩=mulM r.p (r.m.getD i default) (aloM r ⟨v,a⟩):=by
 unfold aloM
 have e:(a++[(i:Int)]).length=a.length+1:=by simp
 show aloK r ⟨v,a++[(i:Int)]⟩ (a++[(i:Int)]).length=_
 rw[e]
 simp only[aloK]
 rw[aloK_pre r v a i a.length (Nat.le_refl _)]
 have e2:(a++[(i:Int)]).getD a.length default=(i:Int):=by simp
 rw[e2,Int.toNat_natCast]
theorem appV_mul{p:Int}{x y:Mat}(hx:isMat p x=true)(hy:isMat p y=true)(h:x.c=y.r)(z:List Int):appV p (mulM p x y) z=appV p x (appV p y z):=by
 obtain⟨a1,a2⟩:=mulM_rc hx hy
 unfold appV
 rw[a1,a2]
 refine rowL_ext fun i hi=>?_
 refine Cg.iff.1 ?_
 have h1:Cg p (sumN (fun k=>ent (mulM p x y) i k*z.getD k default) y.c.toNat) (sumN (fun k=>sumN (fun l=>ent x i l*ent y l k) x.c.toNat*z.getD k default) y.c.toNat):=sumN_cg _ fun k hk=>by
  rw[mul_get hi hk]
  exact(Cg.mod ..).mul (.refl _)
 have h2:Cg p (sumN (fun l=>ent x i l*(rowL y.r.toNat fun j=>sumN (fun k=>ent y j k*z.getD k default) y.c.toNat%p).getD l default) x.c.toNat) (sumN (fun l=>ent x i l*sumN (fun k=>ent y l k*z.getD k default) y.c.toNat) x.c.toNat):=sumN_cg _ fun l hl=>by
  rw[rowL_get _ (by rw[←h];exact hl)]
  exact(Cg.refl _).mul (Cg.mod ..)
 refine h1.trans (Cg.trans ?_ h2.symm)
 have e1:sumN (fun k=>sumN (fun l=>ent x i l*ent y l k) x.c.toNat*z.getD k default) y.c.toNat=sumN (fun k=>sumN (fun l=>ent x i l*ent y l k*z.getD k default) x.c.toNat) y.c.toNat:=sumN_eq _ fun k _=>by
  rw[Int.mul_comm,←sumN_mul]
  exact sumN_eq _ fun l _=>by rw[Int.mul_comm]
 have e2:sumN (fun l=>ent x i l*sumN (fun k=>ent y l k*z.getD k default) y.c.toNat) x.c.toNat=sumN (fun l=>sumN (fun k=>ent x i l*ent y l k*z.getD k default) y.c.toNat) x.c.toNat:=sumN_eq _ fun l _=>by
  rw[←sumN_mul]
  exact sumN_eq _ fun k _=>by rw[Int.mul_assoc]
 rw[e1,e2,sumN_swap (fun k l=>ent x i l*ent y l k*z.getD k default) x.c.toNat y.c.toNat]
 exact .refl _
theorem mfpP_ok{r:Rep}{v:Int}{x:List Int}(h:(mfpP r v x).2=true):isRep r=true∧isVec r.p x=true∧(x.length:Int)=r.d.getD v.toNat default∧(projP r.p r.q v).2=true∧(mfpP r v x).1=mfpL r v x:=by
 unfold mfpP at h⊢
 split at h
 ·rename_i g
  rw[if_pos g]
  exact⟨g.1,g.2.1,g.2.2.1,g.2.2.2,rfl⟩
 ·cases h
theorem mfpM_get{r:Rep}{v:Int}{x:List Int}{w t k:Nat}(ht:t<(r.d.getD w default).toNat)(hk:k<(betw r.q v (w:Int)).length):ent (mfpM r v x w) t k=(appV r.p (aloM r ((betw r.q v (w:Int)).getD k default)) x).getD t default:=by
 unfold mfpM
 rw[ent_tm _ ht hk]
 unfold fcF mfpC
 congr 1
 simp[hk]
theorem mfp_mor{r:Rep}{v:Int}{x:List Int}(h:(mfpP r v x).2=true):isMor (projR r.p r.q v) r (mfpL r v x)=true:=by
 obtain⟨hr,hx,hl,hP,_⟩:=mfpP_ok h
 obtain⟨hF,hA,_⟩:=projP_true2 hP
 obtain⟨ho,v0,v1,hd⟩:=projD_yes hA
 obtain⟨c1,c2,c3,c4⟩:=areDims_spec hA
 have hp:=isF_pos hF
 obtain⟨r1,r2,r3,r4⟩:=isRep_spec hr
 obtain⟨d1,d2,d3,d4⟩:=areDims_spec r2
 have hpd:∀w:Nat,w<r.d.length→(projD r.q v).getD w default=((betw r.q v (w:Int)).length:Nat)∧(betw r.q v (w:Int)).length≤4:=fun w hw=>by
  have e:=hd w (by omega)
  have b:0≤(projD r.q v).getD w default∧(projD r.q v).getD w default≤4:=allIn_spec c3 (by omega)
  exact⟨e,by omega⟩
 have hrd:∀w:Nat,w<r.d.length→0≤r.d.getD w default∧r.d.getD w default≤4:=fun w hw=>allIn_spec d3 hw
 have hM:∀w:Nat,w<r.d.length→isMat r.p (mfpM r v x w)=true:=fun w hw=>isMat_tab hF (by have:=hrd w hw;omega) (by have:=(hpd w hw).2;omega) fun t ht k hk=>by
  have e:=mfpM_get (r:=r) (v:=v) (x:=x) ht hk
  unfold mfpM at e
  rw[ent_tm _ ht hk] at e
  rw[e]
  obtain⟨m1,m2,_⟩:=mfp_col (w:=w) hr ⟨v0,v1⟩ hx hl hk
  exact appV_bd (by omega) _ _ (by rw[m2];exact ht)
 have hg:∀w,w<r.d.length→(mfpL r v x).getD w default=mfpM r v x w:=fun w hw=>by simp[mfpL,hw]
 refine mor_mk (proj_fit hr hP) (by rw[mfpL_len];show _=(projD r.q v).length;omega) (fun w hw=>?_) fun i hi=>?_
 ·rw[mfpL_len] at hw
  rw[hg w hw]
  exact⟨hM w hw,(hpd w hw).1.symm,Int.toNat_of_nonneg (hrd w hw).1⟩
 ·have hiq:i<r.q.fr.length:=hi
  have f:0≤r.q.fr.getD i default∧r.q.fr.getD i default<r.q.n:=okQ_fr c1 hiq
  have g:0≤r.q.to.getD i default∧r.q.to.getD i default<r.q.n:=okQ_to c1 hiq
  have wf:(r.q.fr.getD i default).toNat<r.d.length:=by omega
  have wt:(r.q.to.getD i default).toNat<r.d.length:=by omega
  have ef:(((r.q.fr.getD i default).toNat:Nat):Int)=r.q.fr.getD i default:=Int.toNat_of_nonneg f.1
  have et:(((r.q.to.getD i default).toNat:Nat):Int)=r.q.to.getD i default:=Int.toNat_of_nonneg g.1
  show mulM r.p (r.m.getD i default) ((mfpL r v x).getD (r.q.fr.getD i default).toNat default)=mulM r.p ((mfpL r v x).getD (r.q.to.getD i default).toNat default) ((pjMs r.q v).getD i default)
  rw[hg _ wf,hg _ wt,pjMs_get _ _ hiq]
  have hmi:i<r.m.length:=by omega
  obtain⟨a1,a2,a3,a4,a5⟩:=arrow_ok hr hmi
  obtain⟨b1,b2,b3,b4,b5⟩:=prj_arrow hA hiq
  have hmf:=hM _ wf
  have hmt:=hM _ wt
  have hpj:isMat r.p (pjM r.q v i)=true:=isMat_tab hF (by omega) (by omega) fun a ha b hb=>by
   show 0≤pjF r.q v i _ a b∧pjF r.q v i _ a b≤r.p-1
   unfold pjF
   split<;>omega
  have cf:(mfpM r v x (r.q.fr.getD i default).toNat).c=((betw r.q v (r.q.fr.getD i default)).length:Nat):=by show(((betw r.q v _).length:Nat):Int)=_;rw[ef]
  have ct:(mfpM r v x (r.q.to.getD i default).toNat).c=((betw r.q v (r.q.to.getD i default)).length:Nat):=by show(((betw r.q v _).length:Nat):Int)=_;rw[et]
  have rt:(mfpM r v x (r.q.to.getD i default).toNat).r=r.d.getD (r.q.to.getD i default).toNat default:=Int.toNat_of_nonneg (hrd _ wt).1
  obtain⟨p1,p2⟩:=mulM_rc a1 hmf
  obtain⟨q1,q2⟩:=mulM_rc hmt hpj
  refine mat_ext (isMat_mul a1 hmf) (isMat_mul hmt hpj) (by rw[p1,q1,a5,rt]) (by rw[p2,q2,cf];rfl) fun t ht k hk=>?_
  rw[p1,a5] at ht
  rw[p2,cf,Int.toNat_natCast] at hk
  obtain⟨u1,u2⟩:=plcN_ok ho hiq hk
  rw[mul_pj hmt ho hiq hk ct (by rw[rt];exact ht),mfpM_get ht (by rw[et];exact u1),et,u2,alo_snoc]
  have hk':k<(betw r.q v (((r.q.fr.getD i default).toNat:Nat):Int)).length:=by rw[ef];exact hk
  obtain⟨m1,m2,m3,m4,m5,m6,m7⟩:=mfp_col (w:=(r.q.fr.getD i default).toNat) hr ⟨v0,v1⟩ hx hl hk'
  rw[ef] at m1 m2 m5
  have ey:(⟨v,((betw r.q v (r.q.fr.getD i default)).getD k default).a⟩:Pth)=(betw r.q v (r.q.fr.getD i default)).getD k default:=(pth_eta m5).symm
  rw[ey,appV_mul a1 m1 (by rw[a4,m2]),appV_get _ _ _ (by rw[a5];exact ht),mul_get (by rw[a5];exact ht) (by rw[cf,Int.toNat_natCast];exact hk)]
  congr 1
  refine sumN_eq _ fun u hu=>?_
  congr 1
  rw[mfpM_get (by rw[←a4];exact hu) hk',ef]
theorem appV_id{p n:Int}{x:List Int}(hn:(x.length:Int)=n)(hb:∀j,j<x.length→0≤x.getD j default∧x.getD j default≤p-1):appV p (idM n) x=x:=by
 have hn':n.toNat=x.length:=by omega
 unfold appV
 show(rowL (Int.toNat ((n.toNat:Nat):Int)) fun i=>sumN (fun k=>ent (idM n) i k*x.getD k default) (Int.toNat ((n.toNat:Nat):Int))%p)=x
 rw[Int.toNat_natCast,hn']
 refine List.ext_getElem (by rw[rowL_len]) fun j h1 h2=>?_
 have e1:∀(l:List Int) (h:j<l.length),l[j]=l.getD j default:=fun l h=>by simp[h]
 rw[e1 _ h1,e1 _ h2,rowL_get _ h2,sumN_eq (g:=fun k=>(if k=j then 1 else 0)*x.getD k default) _ fun k hk=>by
  rw[show ent (idM n) j k=idF j k from ent_tm _ (by omega) (by omega)]
  unfold idF
  by_cases e:j=k
  ·subst e;rfl
  ·rw[if_neg e,if_neg fun h=>e h.symm],sumN_one,if_pos h2]
 have:=hb j h2
 exact Int.emod_eq_of_lt this.1 (by omega)
theorem el_mfp{r:Rep}{v:Int}{x:List Int}(h:(mfpP r v x).2=true):elP r v (mfpL r v x)=(x,true):=by
 obtain⟨hr,hx,hl,hP,_⟩:=mfpP_ok h
 obtain⟨hF,hA,hPe⟩:=projP_true2 hP
 obtain⟨ho,v0,v1,hd⟩:=projD_yes hA
 obtain⟨r1,r2,r3,r4⟩:=isRep_spec hr
 obtain⟨d1,d2,d3,d4⟩:=areDims_spec r2
 have hv:v.toNat<r.d.length:=by omega
 have ev:((v.toNat:Nat):Int)=v:=Int.toNat_of_nonneg v0
 have hm:isMor (projP r.p r.q v).1 r (mfpL r v x)=true:=by rw[hPe];exact mfp_mor h
 unfold elP
 rw[if_pos ⟨hr,hP,hm⟩]
 have hg:(mfpL r v x).getD v.toNat default=mfpM r v x v.toNat:=by simp[mfpL,hv]
 rw[hg]
 have hvec:∀j,j<x.length→0≤x.getD j default∧x.getD j default≤r.p-1:=fun j hj=>by
  simp only[isVec,Bool.and_eq_true] at hx
  exact allIn_spec hx.2 hj
 have hb:=betw_back (v:=v) ho
 have hrow:(mfpM r v x v.toNat).r.toNat=x.length:=by
  show(((r.d.getD v.toNat default).toNat:Nat):Int).toNat=_
  omega
 rw[hrow]
 refine congrArg (fun l=>(l,true)) ?_
 refine List.ext_getElem (by rw[rowL_len]) fun j h1 h2=>?_
 have e1:∀(l:List Int) (h:j<l.length),l[j]=l.getD j default:=fun l h=>by simp[h]
 rw[e1 _ h1,e1 _ h2,rowL_get _ h2,mfpM_get (by omega) (by rw[ev,hb];simp),ev,hb]
 show(appV r.p (aloM r ⟨v,[]⟩) x).getD j default=_
 have:aloM r ⟨v,[]⟩=idM (r.d.getD v.toNat default):=rfl
 rw[this,appV_id hl hvec]
end Go.Proofs.YtjmjamhhppoimaaGreat.V
