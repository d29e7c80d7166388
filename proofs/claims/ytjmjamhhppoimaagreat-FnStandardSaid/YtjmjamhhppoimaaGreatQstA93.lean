/- Texts that the proof needs: A26, A73, A93. -/
import Derived.Test.YtjmjamhhppoimaaGreatQstC2
namespace Go.Proofs.YtjmjamhhppoimaaGreat.V
open V.Enc (enc)
open Go.RowKit G D
set_option linter.unusedVariables false
set_option linter.unusedSimpArgs false
set_option maxHeartbeats 4000000
set_option maxRecDepth 4000
attribute [local irreducible] AW ARg ARA ARet MRet ASil AC AM
theorem implMor1_a(m:Mat):AC Tryz.prog 152 [.agg (enc false m)] [.b (!isZ m)]:=by
 refine AC.go Tryz.func152 Tryz.ntmps152 rfl rfl fun w0 hw=>?_;simp[WfL,WfA,E_length,Enc.enc,In64] at hw
 have hZ:=isZero_a m
 repeat' first|refine s1 ?_|(refine kR ?_;first|refine F.c (hZ) ?_)|fail
 (refine kZ ?_;exact F.ret rfl)
theorem implIsMorphism_a(a b:Rep)(f:List Mat):AC Tryz.prog 15 [.agg (enc false a),.agg (enc false b),ar false f] [.b (isMor a b f)]:=by
 refine AC.go Tryz.func15 Tryz.ntmps15 rfl rfl fun w0 hw=>?_;simp[WfL,WfA,E_length,Enc.enc,In64] at hw
 have hA:=implAreMatrices_a a b f
 unfold isMor
 cases ha:areM a b f with
 |false=>
  rw[ha] at hA
  repeat' first|refine s1 ?_|(refine kR ?_;first|refine F.c (hA) ?_)|fail
  refine F.ret ?_
  rfl
 |true=>
  rw[ha] at hA
  have hC:=coboundary_a a b f ha
  have hF:=ContainsFuncM_a (cobL a b f) 152 [] (fun m=>!isZ m) (fun _=>.nil) (fun x _=>implMor1_a x)
  have he:((List.range a.q.fr.length).all fun i=>sameM (arX a b f i) (arY a b f i))=!((cobL a b f).any fun m=>!isZ m):=by
   rw[←cobL_all ha,List.not_any_eq_all_not];simp
  rw[he]
  generalize ((cobL a b f).any fun m=>!isZ m)=Y at hF⊢
  generalize cobL a b f=L at hC hF
  repeat' first|refine s1 ?_|(refine kR ?_;first|refine F.c (hA) ?_|refine F.c (hC) ?_|refine F.c (hF) ?_)|fail
  refine F.ret ?_
  simp
theorem specIsMorphism_a(a b:Rep)(f:List Mat):AC Tryz.prog 170 [.agg (enc false a),.agg (enc false b),ar false f] [.b (isMor a b f)]:=by
 refine AC.go Tryz.func170 Tryz.ntmps170 rfl rfl fun w0 hw=>?_;simp[WfL,WfA,E_length,Enc.enc,In64] at hw
 have hA:=specAreMatrices_a a b f
 cases ha:areM a b f with
 |false=>
  rw[ha] at hA
  repeat' first|refine s1 ?_|(refine kR ?_;first|refine F.c (hA) ?_)|fail
  refine F.ret ?_
  rw[isMor,ha];rfl
 |true=>
  rw[ha] at hA
  have h1:=(areM_spec ha).1
  have hh:=Fits.of h1
  have h5:=okQ_spec hh.ok
  have hma:=hh.ma
  have hmb:=hh.mb
  repeat' first|refine s1 ?_|(refine kR ?_;first|refine F.c (hA) ?_)|fail
  refine F.loop (σ:=Nat) [6,7,8,9,15,16,17,18,19,20,21,22,23,24,25,26,27,28,29,30,31,32,33,34,35,36,37,38,39,40,41,42,43,44,45,46,47,48,49,50,51,52,53,54,55,56,57,58,59] (fun k=>[(7,.i k)]) (fun _=>[]) (fun k=>k≤a.q.fr.length∧∀j,j<k→sameM (arX a b f j) (arY a b f j)=true) (fun k=>a.q.fr.length-k) 0 ⟨rfl,trivial⟩ trivial ⟨Nat.zero_le _,fun j hj=>by omega⟩ ?_
  rintro k ⟨g1,g2⟩
  by_cases hlt:k<a.q.fr.length
  ·have hAr:=ArF.of ha hlt
   have fr:=hAr.fr
   have to:=hAr.to
   have hX:=l3MulM_a hAr.mb hAr.ff hAr.cx
   have hY:=l3MulM_a hAr.ft hAr.ma hAr.cy
   rw[show mulM a.p (b.m.getD k default) (f.getD (a.q.fr.getD k default).toNat default)=arX a b f k from rfl] at hX
   rw[show mulM a.p (f.getD (a.q.to.getD k default).toNat default) (a.m.getD k default)=arY a b f k from rfl] at hY
   have hE:=specEqualMatrices_a (arX a b f k) (arY a b f k)
   cases hs:sameM (arX a b f k) (arY a b f k) with
   |true=>
    rw[hs] at hE
    generalize arX a b f k=X at hX hE
    generalize arY a b f k=Y at hY hE
    repeat' first|refine s1 ?_|fail
    refine AW.draw 18 G.mixed (by kernel_rfl) ?_
    refine Pz (.p 0<|.l 1<|.p 2<|.l 3<|.p 4<|.p 5<|.l 6<|.p 7<|.p 8<|.p 9<|.l 10<|.p 11<|.p 12<|.l 13<|.p 14<|.l 15<|.a [(16,true,.o 17 true<|.o 18 false<|.n),(17,true,.o 16 true<|.o 18 false<|.n)]) ?_
    repeat' first|refine yS ?_|refine s1 ?_|refine yC ?_ ?_|exact trivial|(refine kR ?_;first|refine F.c (hX) ?_)|fail
    all_goals
     refine lf ?_
     repeat' first|refine s1 ?_|fail
     refine AW.draw 18 G.mixed (by kernel_rfl) ?_
     refine Pz (.p 0<|.l 1<|.p 2<|.p 3<|.p 4<|.l 5<|.p 6<|.p 7<|.l 8<|.p 9<|.l 10<|.p 11<|.l 12<|.p 13<|.p 14<|.l 15<|.a [(16,true,.o 17 true<|.o 18 false<|.n),(17,true,.o 16 true<|.o 18 false<|.n)]) ?_
     repeat' first|refine yS ?_|refine s1 ?_|refine yC ?_ ?_|exact trivial|(refine kR ?_;first|refine F.c (hY) ?_)|fail
     all_goals
      refine lf ?_
      repeat' first|refine s1 ?_|(refine kR ?_;first|refine F.c (hE) ?_)|fail
      exact⟨k+1,F.fit ⟨rfl,trivial⟩ trivial,⟨by omega,snocP g2 hs⟩,by omega⟩
   |false=>
    rw[hs] at hE
    generalize arX a b f k=X at hX hE
    generalize arY a b f k=Y at hY hE
    repeat' first|refine s1 ?_|fail
    refine AW.draw 18 G.mixed (by kernel_rfl) ?_
    refine Pz (.p 0<|.l 1<|.p 2<|.l 3<|.p 4<|.p 5<|.l 6<|.p 7<|.p 8<|.p 9<|.l 10<|.p 11<|.p 12<|.l 13<|.p 14<|.l 15<|.a [(16,true,.o 17 true<|.o 18 false<|.n),(17,true,.o 16 true<|.o 18 false<|.n)]) ?_
    repeat' first|refine yS ?_|refine s1 ?_|refine yC ?_ ?_|exact trivial|(refine kR ?_;first|refine F.c (hX) ?_)|fail
    all_goals
     refine lf ?_
     repeat' first|refine s1 ?_|fail
     refine AW.draw 18 G.mixed (by kernel_rfl) ?_
     refine Pz (.p 0<|.l 1<|.p 2<|.p 3<|.p 4<|.l 5<|.p 6<|.p 7<|.l 8<|.p 9<|.l 10<|.p 11<|.l 12<|.p 13<|.p 14<|.l 15<|.a [(16,true,.o 17 true<|.o 18 false<|.n),(17,true,.o 16 true<|.o 18 false<|.n)]) ?_
     repeat' first|refine yS ?_|refine s1 ?_|refine yC ?_ ?_|exact trivial|(refine kR ?_;first|refine F.c (hY) ?_)|fail
     all_goals
      refine lf ?_
      repeat' first|refine s1 ?_|(refine kR ?_;first|refine F.c (hE) ?_)|fail
      refine F.ret ?_
      rw[isMor,all_no hlt hs,Bool.and_false]
  ·obtain rfl:k=a.q.fr.length:=by omega
   repeat' first|refine s1 ?_|fail
   refine F.ret ?_
   rw[isMor,ha,all_yes g2];rfl
def sameL(f g:List Mat):Bool:=decide (f.length=g.length)&&(List.range f.length).all fun v=>sameM (f.getD v default) (g.getD v default)
theorem specEqualMorphisms_a(f g:List Mat):AC Tryz.prog 12 [ar false f,ar false g] [.b (sameL f g)]:=by
 refine AC.go Tryz.func12 Tryz.ntmps12 rfl rfl fun w0 hw=>?_;simp[WfL,WfA,E_length,Enc.enc,In64] at hw
 by_cases hl:f.length=g.length
 ·repeat' first|refine s1 ?_|fail
  refine F.loop (σ:=Nat) [4,5,11,12,13,14,15,16,17,18,19,20,21,22,23,24,25,26] (fun k=>[(5,.i k)]) (fun _=>[]) (fun k=>k≤f.length∧∀j,j<k→sameM (f.getD j default) (g.getD j default)=true) (fun k=>f.length-k) 0 ⟨rfl,trivial⟩ trivial ⟨Nat.zero_le _,fun j hj=>by omega⟩ ?_
  rintro k ⟨g1,g2⟩
  by_cases hlt:k<f.length
  ·have hE:=specEqualMatrices_a (f.getD k default) (g.getD k default)
   cases hs:sameM (f.getD k default) (g.getD k default) with
   |true=>
    rw[hs] at hE
    repeat' first|refine s1 ?_|fail
    refine AW.draw 10 G.mixed (by kernel_rfl) ?_
    refine Pz (.p 0<|.p 1<|.p 2<|.l 3<|.p 4<|.p 5<|.p 6<|.l 7<|.o 8 true<|.p 9<|.n) ?_
    repeat' first|refine yS ?_|refine s1 ?_|(refine kR ?_;first|refine F.c (hE) ?_)|fail
    any_goals refine lf ?_
    repeat' first|refine s1 ?_|fail
    exact⟨k+1,F.fit ⟨rfl,trivial⟩ trivial,⟨by omega,snocP g2 hs⟩,by omega⟩
   |false=>
    rw[hs] at hE
    repeat' first|refine s1 ?_|fail
    refine AW.draw 10 G.mixed (by kernel_rfl) ?_
    refine Pz (.p 0<|.p 1<|.p 2<|.l 3<|.p 4<|.p 5<|.p 6<|.l 7<|.o 8 true<|.p 9<|.n) ?_
    repeat' first|refine yS ?_|refine s1 ?_|(refine kR ?_;first|refine F.c (hE) ?_)|fail
    any_goals refine lf ?_
    repeat' first|refine s1 ?_|fail
    refine F.ret ?_
    rw[sameL,all_no hlt hs,Bool.and_false]
  ·obtain rfl:k=f.length:=by omega
   repeat' first|refine s1 ?_|fail
   refine F.ret ?_
   rw[sameL,decide_eq_true hl,all_yes g2];rfl
 ·repeat' first|refine s1 ?_|fail
  refine F.ret ?_
  rw[sameL,decide_eq_false hl];rfl
theorem isMor_are{a b:Rep}{f:List Mat}(h:isMor a b f=true):areM a b f=true:=by
 simp only[isMor,Bool.and_eq_true] at h;exact h.1
def kerLs(p:Int)(f:List Mat):List Spc:=f.map (kerS p)
def imgLs(p:Int)(f:List Mat):List Spc:=f.map (imgS p)
theorem kernelSub_a(p:Int)(f:List Mat)(hf:∀v,v<f.length→isMat p (f.getD v default)=true)(hl:f.length≤1000):AC Tryz.prog 314 [.i p,ar false f] [.dt true 2 (E true (kerLs p f))]:=by
 refine AC.go Tryz.func314 Tryz.ntmps314 rfl rfl fun w0 hw=>?_;simp[WfL,WfA,E_length,Enc.enc,In64] at hw
 have hll:(kerLs p f).length=f.length:=by simp[kerLs]
 repeat' first|refine s1 ?_|fail
 refine AW.open 5 2 (.inl rfl) ?_
 refine F.loop (σ:=Nat) [5,7,10,11,12,13,14,15,16,17,18,19,20,21,22,23,24] (fun k=>[(5,.sl 0 k 0 k),(10,.i k)]) (fun k=>[(0,.live false 2 (E true ((kerLs p f).take k)))]) (fun k=>k≤f.length) (fun k=>f.length-k) 0 ⟨rfl,rfl,trivial⟩ ⟨rfl,trivial⟩ (Nat.zero_le _) ?_
 rintro k k1
 have hp:((kerLs p f).take k).length=k:=by rw[List.length_take];omega
 by_cases hk:k<f.length
 ·have hm:=hf k hk
  have hKe:=matKer_a hm
  have hSp:=kerSpan_a hm
  have hts:(kerLs p f).take (k+1)=(kerLs p f).take k++[kerS p (f.getD k default)]:=map_take _ hk
  generalize kerS p (f.getD k default)=KS at hSp hts
  generalize kerL _ _ _ _=KL at hKe hSp
  repeat' first|refine s1 ?_|fail
  refine AW.draw 9 G.mixed (by kernel_rfl) ?_
  refine Pz (.p 0<|.p 1<|.p 2<|.l 3<|.p 4<|.l 5<|.o 6 true<|.o 7 true<|.o 8 true<|.o 9 false<|.p 10<|.n) ?_
  repeat' first|refine yS ?_|refine s1 ?_|(refine kR ?_;first|refine F.c (hKe) ?_|refine F.c (hSp) ?_|refine F.a1 Spc (a:=KS) ?_)|fail
  all_goals
   refine lf ?_
   repeat' first|refine s1 ?_|fail
   exact⟨k+1,F.fit ⟨rfl,rfl,trivial⟩ ⟨obE (by rw[hts]),trivial⟩,by omega,by omega⟩
 ·obtain rfl:k=f.length:=by omega
  have e:(kerLs p f).take f.length=kerLs p f:=List.take_of_length_le (by omega)
  rw[e]
  clear hp e
  generalize kerLs p f=L at hll⊢
  rw[←hll]
  repeat' first|refine s1 ?_|fail
  (refine kZ ?_;exact F.ret rfl)
theorem imageSub_a(p:Int)(f:List Mat)(hf:∀v,v<f.length→isMat p (f.getD v default)=true)(hl:f.length≤1000):AC Tryz.prog 313 [.i p,ar false f] [.dt true 2 (E true (imgLs p f))]:=by
 refine AC.go Tryz.func313 Tryz.ntmps313 rfl rfl fun w0 hw=>?_;simp[WfL,WfA,E_length,Enc.enc,In64] at hw
 have hll:(imgLs p f).length=f.length:=by simp[imgLs]
 repeat' first|refine s1 ?_|fail
 refine AW.open 5 2 (.inl rfl) ?_
 refine F.loop (σ:=Nat) [5,7,10,11,12,13,14,15,16,17,18,19,20,21,22,23] (fun k=>[(5,.sl 0 k 0 k),(10,.i k)]) (fun k=>[(0,.live false 2 (E true ((imgLs p f).take k)))]) (fun k=>k≤f.length) (fun k=>f.length-k) 0 ⟨rfl,rfl,trivial⟩ ⟨rfl,trivial⟩ (Nat.zero_le _) ?_
 rintro k k1
 have hp:((imgLs p f).take k).length=k:=by rw[List.length_take];omega
 by_cases hk:k<f.length
 ·have hm:=hf k hk
  have hCo:=matCols_a hm
  have hSp:=imgSpan_a hm
  have hts:(imgLs p f).take (k+1)=(imgLs p f).take k++[imgS p (f.getD k default)]:=map_take _ hk
  generalize imgS p (f.getD k default)=IS at hSp hts
  generalize hRL:(rowsL (f.getD k default).c.toNat (f.getD k default).r.toNat fun k_1 i=>ent (f.getD k default) i k_1)=RL at hCo hSp
  repeat' first|refine s1 ?_|fail
  refine AW.draw 8 G.mixed (by kernel_rfl) ?_
  refine Pz (.p 0<|.p 1<|.p 2<|.l 3<|.l 4<|.o 5 true<|.o 6 true<|.o 7 true<|.o 8 false<|.p 9<|.n) ?_
  repeat' first|refine yS ?_|refine s1 ?_|(refine kR ?_;first|refine F.c (hCo) ?_|refine F.c (hSp) ?_|refine F.a1 Spc (a:=IS) ?_)|fail
  all_goals
   refine lf ?_
   repeat' first|refine s1 ?_|fail
   exact⟨k+1,F.fit ⟨rfl,rfl,trivial⟩ ⟨obE (by rw[hts]),trivial⟩,by omega,by omega⟩
 ·obtain rfl:k=f.length:=by omega
  have e:(imgLs p f).take f.length=imgLs p f:=List.take_of_length_le (by omega)
  rw[e]
  clear hp e
  generalize imgLs p f=L at hll⊢
  rw[←hll]
  repeat' first|refine s1 ?_|fail
  (refine kZ ?_;exact F.ret rfl)
theorem mor_ok{a b:Rep}{f:List Mat}(h:isMor a b f=true):f.length=a.d.length∧f.length≤5∧a.p=b.p∧b.d.length=a.d.length∧∀v,v<f.length→isMat a.p (f.getD v default)=true∧(f.getD v default).c=a.d.getD v default∧(f.getD v default).r=b.d.getD v default:=by
 obtain⟨a1,a2,a3⟩:=areM_spec (isMor_are h)
 have hh:=Fits.of a1
 have h5:=okQ_spec hh.ok
 have hda:=hh.da
 have hdb:=hh.db
 refine⟨by omega,by omega,hh.p,by omega,fun v hv=>?_⟩
 have f1:=a3 v hv
 simp only[fitV,Bool.and_eq_true,decide_eq_true_eq] at f1
 exact⟨f1.1.1,f1.1.2,f1.2⟩
theorem kerLs_ok{a b:Rep}{f:List Mat}(h:isMor a b f=true){v:Nat}(hv:v<f.length):(kerLs a.p f).getD v default=kerS a.p (f.getD v default)∧isSpc a.p (kerS a.p (f.getD v default))=true:=by
 obtain⟨m1,m2,m3,m4,m5⟩:=mor_ok h
 exact⟨by simp[kerLs,hv],kerS_ok (m5 v hv).1⟩
theorem imgLs_ok{a b:Rep}{f:List Mat}(h:isMor a b f=true){v:Nat}(hv:v<f.length):(imgLs a.p f).getD v default=imgS a.p (f.getD v default)∧isSpc a.p (imgS a.p (f.getD v default))=true:=by
 obtain⟨m1,m2,m3,m4,m5⟩:=mor_ok h
 exact⟨by simp[imgLs,hv],imgS_ok (m5 v hv).1⟩
theorem mul_get{p:Int}{x y:Mat}{i j:Nat}(hi:i<x.r.toNat)(hj:j<y.c.toNat):ent (mulM p x y) i j=sumN (fun k=>ent x i k*ent y k j) x.c.toNat%p:=by
 unfold mulM
 rw[ent_tm _ hi hj]
 unfold mulF
 rw[dotK_sum]
theorem mat_ext{p:Int}{x y:Mat}(hx:isMat p x=true)(hy:isMat p y=true)(hr:x.r=y.r)(hc:x.c=y.c)(h:∀i,i<x.r.toNat→∀j,j<x.c.toNat→ent x i j=ent y i j):x=y:=by
 rw[←isMat_tm hx,←isMat_tm hy,←hr,←hc]
 unfold tm
 congr 1
 exact tab_ext h
theorem mul_assoc{p:Int}{x y z:Mat}(hx:isMat p x=true)(hy:isMat p y=true)(hz:isMat p z=true)(hxy:x.c=y.r)(hyz:y.c=z.r):mulM p (mulM p x y) z=mulM p x (mulM p y z):=by
 obtain⟨a1,a2⟩:=mulM_rc hx hy
 obtain⟨b1,b2⟩:=mulM_rc hy hz
 have hxy':=isMat_mul hx hy
 have hyz':=isMat_mul hy hz
 obtain⟨c1,c2⟩:=mulM_rc hxy' hz
 obtain⟨d1,d2⟩:=mulM_rc hx hyz'
 refine mat_ext (isMat_mul hxy' hz) (isMat_mul hx hyz') (by rw[c1,a1,d1]) (by rw[c2,d2,b2]) fun i hi j hj=>?_
 rw[c1,a1] at hi
 rw[c2] at hj
 rw[mul_get (by rw[a1];exact hi) hj,mul_get hi (by rw[b2];exact hj),a2]
 refine Cg.iff.1 ?_
 have h1:Cg p (sumN (fun k=>ent (mulM p x y) i k*ent z k j) y.c.toNat) (sumN (fun k=>sumN (fun l=>ent x i l*ent y l k) x.c.toNat*ent z k j) y.c.toNat):=sumN_cg _ fun k hk=>by
  rw[mul_get hi hk]
  exact(Cg.mod ..).mul (.refl _)
 have h2:Cg p (sumN (fun l=>ent x i l*ent (mulM p y z) l j) x.c.toNat) (sumN (fun l=>ent x i l*sumN (fun k=>ent y l k*ent z k j) y.c.toNat) x.c.toNat):=sumN_cg _ fun l hl=>by
  rw[mul_get (by rw[←hxy];exact hl) hj]
  exact(Cg.refl _).mul (Cg.mod ..)
 refine h1.trans (Cg.trans ?_ h2.symm)
 have e1:sumN (fun k=>sumN (fun l=>ent x i l*ent y l k) x.c.toNat*ent z k j) y.c.toNat=sumN (fun k=>sumN (fun l=>ent x i l*ent y l k*ent z k j) x.c.toNat) y.c.toNat:=sumN_eq _ fun k _=>by
  rw[Int.mul_comm,←sumN_mul]
  exact sumN_eq _ fun l _=>by rw[Int.mul_comm]
 have e2:sumN (fun l=>ent x i l*sumN (fun k=>ent y l k*ent z k j) y.c.toNat) x.c.toNat=sumN (fun l=>sumN (fun k=>ent x i l*ent y l k*ent z k j) y.c.toNat) x.c.toNat:=sumN_eq _ fun l _=>by
  rw[←sumN_mul]
  exact sumN_eq _ fun k _=>by rw[Int.mul_assoc]
 rw[e1,e2,sumN_swap (fun k l=>ent x i l*ent y l k*ent z k j) x.c.toNat y.c.toNat]
 exact .refl _
def idM(n:Int):Mat:=tm n.toNat n.toNat idF
theorem isMat_id{p:Int}{n:Int}(hp:isF p=true)(hn:n≤8):isMat p (idM n)=true:=by
 have:=isF_pos hp
 refine isMat_tab hp (by omega) (by omega) fun i hi j hj=>?_
 unfold idF
 split<;>omega
theorem mul_id{p:Int}{x:Mat}(hx:isMat p x=true):mulM p x (idM x.c)=x:=by
 obtain⟨h0,h1,h2,_,_⟩:=isMat_spec hx
 have hp:=isF_pos h0
 have hI:=isMat_id (p:=p) (n:=x.c) h0 h2.2
 obtain⟨a1,a2⟩:=mulM_rc hx hI
 have ec:(idM x.c).c=x.c:=Int.toNat_of_nonneg h2.1
 refine mat_ext (isMat_mul hx hI) hx a1 (by rw[a2,ec]) fun i hi j hj=>?_
 rw[a1] at hi
 rw[a2,ec] at hj
 rw[mul_get hi (by rw[ec];exact hj),sumN_eq (g:=fun k=>(if k=j then 1 else 0)*ent x i k) _ fun k hk=>by
  rw[show ent (idM x.c) k j=idF k j from ent_tm _ hk hj,Int.mul_comm];rfl,sumN_one,if_pos hj]
 have:=ent_bd hx i hi j hj
 exact Int.emod_eq_of_lt this.1 (by omega)
theorem id_mul{p:Int}{x:Mat}(hx:isMat p x=true):mulM p (idM x.r) x=x:=by
 obtain⟨h0,h1,h2,_,_⟩:=isMat_spec hx
 have hp:=isF_pos h0
 have hI:=isMat_id (p:=p) (n:=x.r) h0 h1.2
 obtain⟨a1,a2⟩:=mulM_rc hI hx
 have er:(idM x.r).r=x.r:=Int.toNat_of_nonneg h1.1
 have ec:(idM x.r).c=x.r:=Int.toNat_of_nonneg h1.1
 refine mat_ext (isMat_mul hI hx) hx (by rw[a1,er]) a2 fun i hi j hj=>?_
 rw[a1,er] at hi
 rw[a2] at hj
 rw[mul_get (by rw[er];exact hi) hj,ec,sumN_eq (g:=fun k=>(if k=i then 1 else 0)*ent x k j) _ fun k hk=>by
  rw[show ent (idM x.r) i k=idF i k from ent_tm _ hi hk]
  unfold idF
  by_cases e:i=k
  ·subst e;rfl
  ·rw[if_neg e,if_neg fun h=>e h.symm],sumN_one,if_pos hi]
 have:=ent_bd hx i hi j hj
 exact Int.emod_eq_of_lt this.1 (by omega)
def powM(p:Int)(m:Mat):Nat→Mat
 |0=>idM m.r
 |k+1=>mulM p (powM p m k) m
theorem pow_ok{p:Int}{m:Mat}(h:isMat p m=true)(hs:m.r=m.c):∀k,isMat p (powM p m k)=true∧(powM p m k).r=m.r∧(powM p m k).c=m.r
 |0=>by
  obtain⟨h0,h1,h2,_,_⟩:=isMat_spec h
  exact⟨isMat_id h0 h1.2,Int.toNat_of_nonneg h1.1,Int.toNat_of_nonneg h1.1⟩
 |k+1=>by
  obtain⟨a,b,c⟩:=pow_ok h hs k
  obtain⟨d,e⟩:=mulM_rc a h
  exact⟨isMat_mul a h,by rw[powM,d,b],by rw[powM,e,hs]⟩
def powL(p:Int)(f:List Mat)(k:Nat):List Mat:=f.map fun m=>powM p m k
theorem powL_len(p:Int)(f:List Mat)(k:Nat):(powL p f k).length=f.length:=by simp[powL]
theorem powL_get{p:Int}{f:List Mat}{k v:Nat}(hv:v<f.length):(powL p f k).getD v default=powM p (f.getD v default) k:=by simp[powL,hv]
theorem sameM_eq{x y:Mat}(h:sameM x y=true):x=y:=by
 cases x;cases y
 simp only[sameM,Bool.and_eq_true,decide_eq_true_eq] at h
 obtain⟨⟨h1,h2⟩,h3⟩:=h
 subst h1 h2 h3;rfl
theorem mor_arr{a b:Rep}{f:List Mat}(h:isMor a b f=true){i:Nat}(hi:i<a.q.fr.length):mulM a.p (b.m.getD i default) (f.getD (a.q.fr.getD i default).toNat default)=mulM a.p (f.getD (a.q.to.getD i default).toNat default) (a.m.getD i default):=by
 simp only[isMor,Bool.and_eq_true,List.all_eq_true] at h
 have:=h.2 i (by simpa using hi)
 exact sameM_eq this
theorem mor_mk{a b:Rep}{f:List Mat}(hf:fitR a b=true)(hl:f.length=a.d.length)(hm:∀v,v<f.length→isMat a.p (f.getD v default)=true∧(f.getD v default).c=a.d.getD v default∧(f.getD v default).r=b.d.getD v default)(h:∀i,i<a.q.fr.length→mulM a.p (b.m.getD i default) (f.getD (a.q.fr.getD i default).toNat default)=mulM a.p (f.getD (a.q.to.getD i default).toNat default) (a.m.getD i default)):isMor a b f=true:=by
 simp only[isMor,areM,Bool.and_eq_true,decide_eq_true_eq,List.all_eq_true]
 refine⟨⟨⟨hf,hl⟩,fun v hv=>?_⟩,fun i hi=>?_⟩
 ·obtain⟨m1,m2,m3⟩:=hm v (by simpa using hv)
  simp only[fitV,Bool.and_eq_true,decide_eq_true_eq]
  exact⟨⟨m1,m2⟩,m3⟩
 ·have:=h i (by simpa using hi)
  unfold arX arY
  rw[this]
  simp[sameM]
theorem mor_pow{r:Rep}{f:List Mat}(h:isMor r r f=true)(k:Nat):isMor r r (powL r.p f k)=true:=by
 obtain⟨m1,m2,m3,m4,m5⟩:=mor_ok h
 obtain⟨a1,a2,a3⟩:=areM_spec (isMor_are h)
 have hsq:∀v,v<f.length→(f.getD v default).r=(f.getD v default).c:=fun v hv=>by
  obtain⟨_,n2,n3⟩:=m5 v hv
  rw[n2,n3]
 refine mor_mk a1 (by rw[powL_len];exact m1) (fun v hv=>?_) fun i hi=>?_
 ·rw[powL_len] at hv
  obtain⟨n1,n2,n3⟩:=m5 v hv
  obtain⟨p1,p2,p3⟩:=pow_ok n1 (hsq v hv) k
  rw[powL_get hv]
  exact⟨p1,by rw[p3,n3],by rw[p2,n3]⟩
 ·have hA:=ArF.of (isMor_are h) hi
  have hm:=mor_arr h hi
  rw[powL_get hA.fr.2,powL_get hA.to.2]
  have s1:=hsq _ hA.fr.2
  have s2:=hsq _ hA.to.2
  have c1:=hA.cx
  have c2:=hA.cy
  have c3:=hA.rr
  have c4:=hA.cc
  have x1:=hA.ff
  have x2:=hA.ft
  have x3:=hA.ma
  generalize r.m.getD i default=M at*
  generalize f.getD (r.q.fr.getD i default).toNat default=F at*
  generalize f.getD (r.q.to.getD i default).toNat default=G1 at*
  induction k with
  |zero=>
   rw[powM,powM]
   have e1:F.r=M.c:=c1.symm
   rw[e1,c3.symm]
   rw[mul_id x3,id_mul x3]
  |succ k ih=>
   obtain⟨p1,p2,p3⟩:=pow_ok x1 s1 k
   obtain⟨q1,q2,q3⟩:=pow_ok x2 s2 k
   rw[powM,powM,←mul_assoc x3 p1 x1 (by rw[p2];exact c1) (by rw[p3]),ih,mul_assoc q1 x3 x1 (by rw[q3,c3]) c1,hm,←mul_assoc q1 x2 x3 (by rw[q3]) c2]
theorem dim_zero:∀{s:List Spc},(dimS s).sum=0↔∀x∈s,x.b=[]
 |[]=>by simp[dimS]
 |x::s=>by
  have ih:=dim_zero (s:=s)
  have h0:∀l:List Spc,0≤(dimS l).sum:=fun l=>by
   induction l with
   |nil=>simp[dimS]
   |cons y l ih=>simp only[dimS,List.map_cons,List.sum_cons] at ih⊢;omega
  have h1:=h0 s
  have e:(dimS (x::s)).sum=(x.b.length:Int)+(dimS s).sum:=by simp[dimS]
  rw[e]
  constructor
  ·intro h y hy
   rcases List.mem_cons.1 hy with rfl|hy
   ·exact List.eq_nil_of_length_eq_zero (by omega)
   ·exact ih.1 (by omega) y hy
  ·intro h
   have:=h x (by simp)
   have h2:=ih.2 fun y hy=>h y (by simp[hy])
   rw[this,h2];rfl
theorem same_zero{r:Rep}{s:List Spc}(hl:s.length=r.d.length)(hn:∀v,v<s.length→(s.getD v default).n=r.d.getD v default):sameSL s (radK r 0)=decide ((dimS s).sum=0):=by
 have hrl:(radK r 0).length=r.d.length:=radK_len r 0
 have hg:∀v,v<r.d.length→(radK r 0).getD v default=⟨r.d.getD v default,[]⟩:=fun v hv=>by simp[radK,hv]
 rw[Bool.eq_iff_iff,decide_eq_true_eq,dim_zero]
 simp only[sameSL,Bool.and_eq_true,decide_eq_true_eq,List.all_eq_true,sameS]
 constructor
 ·intro⟨_,h⟩ x hx
  obtain⟨v,hv,rfl⟩:=List.getElem_of_mem hx
  have:=(h v (by simpa using hv)).2
  rw[hg v (by omega)] at this
  have e:s.getD v default=s[v]:=by simp[hv]
  rw[e] at this
  exact this
 ·intro h
  refine⟨by omega,fun v hv=>?_⟩
  have hv:v<s.length:=by simpa using hv
  rw[hg v (by omega)]
  exact⟨hn v hv,h _ (gm hv)⟩
def spP(r:Rep)(f:List Mat):List Spc×List Spc×Bool:=if isMor r r f=true∧(dimS (kerLs r.p (powL r.p f 8))).sum≠0∧(dimS (imgLs r.p (powL r.p f 8))).sum≠0 then(kerLs r.p (powL r.p f 8),imgLs r.p (powL r.p f 8),true) else([],[],false)
end Go.Proofs.YtjmjamhhppoimaaGreat.V
