/- Texts that the proof needs: A117, A118, A119, A125, A126. -/
import Derived.Test.YtjmjamhhppoimaaGreatQspA113
import Derived.Test.YtjmjamhhppoimaaGreatQspA114
namespace Go.Proofs.YtjmjamhhppoimaaGreat.V
open Go.RowKit G D
set_option linter.unusedVariables false
set_option linter.unusedSimpArgs false
set_option maxHeartbeats 1000000
set_option maxRecDepth 4000
abbrev Pts:=List Rep×List (List Mat)×Bool
def joinP(r:Rep)(s:List Spc)(x:Pts)(t:List Spc)(y:Pts):Pts:=
 (x.1++y.1,x.2.1.map (fun g=>compL r.p g (incL s))++y.2.1.map (fun g=>compL r.p g (incL t)),true)
def ptN:Nat→Rep→Pts
 |0,_=>([],[],false)
 |n+1,r=>if(fsP r).2.2=true then(if(ptN n (subR r (fsP r).1)).2.2=true then(if(ptN n (subR r (fsP r).2.1)).2.2=true then joinP r (fsP r).1 (ptN n (subR r (fsP r).1)) (fsP r).2.1 (ptN n (subR r (fsP r).2.1)) else([],[],false)) else([],[],false))
  else([r],[idL r.d],decide (cntH r.p (hkL r r).length≤3000))
theorem ptN_leaf{n:Nat}{r:Rep}(h:(fsP r).2.2=false):ptN (n+1) r=([r],[idL r.d],decide (cntH r.p (hkL r r).length≤3000)):=by
 show(if _ then _ else _)=_
 rw[if_neg (by rw[h];simp)]
theorem ptN_no1{n:Nat}{r:Rep}(h:(fsP r).2.2=true)(h1:(ptN n (subR r (fsP r).1)).2.2=false):ptN (n+1) r=([],[],false):=by
 show(if _ then _ else _)=_
 rw[if_pos h,if_neg (by rw[h1];simp)]
theorem ptN_no2{n:Nat}{r:Rep}(h:(fsP r).2.2=true)(h2:(ptN n (subR r (fsP r).2.1)).2.2=false):ptN (n+1) r=([],[],false):=by
 show(if _ then _ else _)=_
 rw[if_pos h]
 by_cases h1:(ptN n (subR r (fsP r).1)).2.2=true
 ·rw[if_pos h1,if_neg (by rw[h2];simp)]
 ·rw[if_neg h1]
theorem ptN_join{n:Nat}{r:Rep}(h:(fsP r).2.2=true)(h1:(ptN n (subR r (fsP r).1)).2.2=true)(h2:(ptN n (subR r (fsP r).2.1)).2.2=true):ptN (n+1) r=joinP r (fsP r).1 (ptN n (subR r (fsP r).1)) (fsP r).2.1 (ptN n (subR r (fsP r).2.1)):=by
 show(if _ then _ else _)=_
 rw[if_pos h,if_pos h1,if_pos h2]
structure PtOk (r:Rep) (x:Pts):Prop where
 len:x.2.1.length=x.1.length
 le:(x.1.length:Int)≤r.d.sum
 pos:x.2.2=true→1≤x.1.length
 mor:∀i,i<x.1.length→isMor (x.1.getD i default) r (x.2.1.getD i default)=true
theorem PtOk.no{r:Rep}(h:0≤r.d.sum):PtOk r ([],[],false):=⟨rfl,h,fun x=>(by cases x),fun i hi=>absurd hi (Nat.not_lt_zero _)⟩
theorem dims_sum{r:Rep}(s:List Spc):(subR r s).d.sum=(dimS s).sum:=rfl
theorem PtOk.lift{r:Rep}{s:List Spc}{x:Pts}(hs:isSub r s=true)(h:PtOk (subR r s) x):∀i,i<x.1.length→isMor (x.1.getD i default) r ((x.2.1.map fun g=>compL r.p g (incL s)).getD i default)=true:=by
 intro i hi
 have h1:=h.mor i hi
 have h2:=comp_mor h1 (inc_mor hs)
 have e:(x.2.1.map fun g=>compL r.p g (incL s)).getD i default=compL r.p (x.2.1.getD i default) (incL s):=by
  have:=h.len
  simp[show i<x.2.1.length by omega]
 rw[e]
 have hp:(x.1.getD i default).p=r.p:=(mor_ok h1).2.2.1
 rw[hp] at h2
 exact h2
theorem PtOk.join{r:Rep}{s t:List Spc}{x y:Pts}(hs:isSub r s=true)(ht:isSub r t=true)(hd:(dimS s).sum+(dimS t).sum≤r.d.sum)(hx:PtOk (subR r s) x)(hy:PtOk (subR r t) y)(hk:x.2.2=true):PtOk r (joinP r s x t y):=by
 have x1:=hx.le
 have y1:=hy.le
 have x2:=hx.len
 have y2:=hy.len
 rw[dims_sum] at x1 y1
 refine⟨?_,?_,fun _=>?_,fun i hi=>?_⟩
 ·show(x.2.1.map (fun g=>compL r.p g (incL s))++y.2.1.map (fun g=>compL r.p g (incL t))).length=(x.1++y.1).length
  rw[List.length_append,List.length_append,List.length_map,List.length_map,x2,y2]
 ·show(((x.1++y.1).length:Nat):Int)≤_
  rw[List.length_append]
  omega
 ·show 1≤(x.1++y.1).length
  rw[List.length_append]
  have:=hx.pos hk
  omega
 ·show isMor ((x.1++y.1).getD i default) r ((x.2.1.map (fun g=>compL r.p g (incL s))++y.2.1.map (fun g=>compL r.p g (incL t))).getD i default)=true
  have hi:i<(x.1++y.1).length:=hi
  rw[List.length_append] at hi
  rw[app_getD,app_getD,List.length_map,x2]
  by_cases h:i<x.1.length
  ·rw[if_pos h,if_pos h]
   exact hx.lift hs i h
  ·rw[if_neg h,if_neg h]
   exact hy.lift ht (i-x.1.length) (by omega)
theorem pt_ok:∀(n:Nat) (r:Rep),isRep r=true→0<r.d.sum→PtOk r (ptN n r)
 |0,r,_,h=>.no (by omega)
 |n+1,r,hr,h=>by
  cases hf:(fsP r).2.2 with
  |false=>
   rw[ptN_leaf hf]
   refine⟨rfl,?_,fun _=>Nat.le_refl 1,fun i hi=>?_⟩
   ·show((1:Nat):Int)≤_
    omega
   ·have hi:i<1:=hi
    obtain rfl:i=0:=by omega
    exact id_mor hr
  |true=>
   obtain⟨f1,f2,f3,f4,f5⟩:=fs_facts hr hf
   have p1:=pt_ok n _ (subR_ok f1) f3
   have p2:=pt_ok n _ (subR_ok f2) f4
   cases h1:(ptN n (subR r (fsP r).1)).2.2 with
   |false=>rw[ptN_no1 hf h1];exact .no (by omega)
   |true=>
    cases h2:(ptN n (subR r (fsP r).2.1)).2.2 with
    |false=>rw[ptN_no2 hf h2];exact .no (by omega)
    |true=>
     rw[ptN_join hf h1 h2]
     exact PtOk.join f1 f2 f5 p1 p2 h1
def ptP(r:Rep):Pts:=ptN r.d.sum.toNat r
def besC(L:List Mat):Nat→Nat
 |0=>0
 |k+1=>besC L k+(L.getD k default).c.toNat
def besG(L:List Mat):Nat→Nat→Nat→Int
 |0=>fun _ _=>0
 |k+1=>besF (besC L k) (besG L k) (ent (L.getD k default))
def besM(d:Nat)(L:List Mat)(k:Nat):Mat:=tm d (besC L k) (besG L k)
theorem besC_le{L:List Mat}{b:Nat}(h:∀i,i<L.length→(L.getD i default).c.toNat≤b):∀k,k≤L.length→besC L k≤k*b
 |0,_=>by simp[besC]
 |k+1,hk=>by
  have h1:=besC_le h k (by omega)
  have h2:=h k (by omega)
  rw[Nat.succ_mul]
  show besC L k+_≤_
  omega
def wholeL(r:Rep)(g:List (List Mat)):List Mat:=(List.range r.d.length).map fun v=>besM (r.d.getD v default).toNat (g.map fun f=>f.getD v default) g.length
theorem wholeL_len(r:Rep)(g:List (List Mat)):(wholeL r g).length=r.d.length:=by simp[wholeL]
def psP(r:Rep):List Rep×List Mat×Bool:=if isRep r=true∧r.d.sum≠0∧(ptP r).2.2=true then((ptP r).1,wholeL r (ptP r).2.1,true) else([],[],false)
end Go.Proofs.YtjmjamhhppoimaaGreat.V
namespace Go.Proofs.YtjmjamhhppoimaaGreat.V
open V.Enc (enc)
open Go.RowKit G D
set_option linter.unusedVariables false
set_option linter.unusedSimpArgs false
set_option maxHeartbeats 4000000
set_option maxRecDepth 4000
attribute [local irreducible] AW ARg ARA ARet MRet ASil AC AM ARI
def hS(r:Rep)(k:Nat):List Spc:=if k=0 then(fsP r).1 else(fsP r).2.1
def hX(n:Nat)(r:Rep)(k:Nat):Pts:=ptN n (subR r (hS r k))
def hP(n:Nat)(r:Rep)(k:Nat):List Rep:=((List.range k).map fun j=>(hX n r j).1).flatten
def hM(n:Nat)(r:Rep)(j:Nat):List (List Mat):=(hX n r j).2.1.map fun g=>compL r.p g (incL (hS r j))
def hI(n:Nat)(r:Rep)(k:Nat):List (List Mat):=((List.range k).map (hM n r)).flatten
theorem hP_succ(n:Nat)(r:Rep)(k:Nat):hP n r (k+1)=hP n r k++(hX n r k).1:=by
 unfold hP
 rw[List.range_succ,List.map_append,List.flatten_append]
 simp
theorem hI_succ(n:Nat)(r:Rep)(k:Nat):hI n r (k+1)=hI n r k++hM n r k:=by
 unfold hI
 rw[List.range_succ,List.map_append,List.flatten_append]
 simp
theorem pt_no{n:Nat}{r:Rep}(h:(fsP r).2.2=true){k:Nat}(hk:k<2)(h1:(hX n r k).2.2=false):ptN (n+1) r=([],[],false):=by
 have:k=0∨k=1:=by omega
 rcases this with e|e<;>subst e
 ·exact ptN_no1 h h1
 ·exact ptN_no2 h h1
theorem pt_yes{n:Nat}{r:Rep}(h:(fsP r).2.2=true)(h1:∀k,k<2→(hX n r k).2.2=true):ptN (n+1) r=(hP n r 2,hI n r 2,true):=by
 rw[ptN_join h (h1 0 (by omega)) (h1 1 (by omega))]
 rw[show(2:Nat)=1+1 from rfl,hP_succ,hI_succ,show(1:Nat)=0+1 from rfl,hP_succ,hI_succ]
 rfl
structure Half (n:Nat) (r:Rep) (k:Nat):Prop where
 sub:isSub r (hS r k)=true
 pos:0<(dimS (hS r k)).sum
 ok:PtOk (subR r (hS r k)) (hX n r k)
 le:(hX n r k).1.length≤20
theorem half{n:Nat}{r:Rep}(hr:isRep r=true)(h:(fsP r).2.2=true){k:Nat}(hk:k<2):Half n r k:=by
 obtain⟨f1,f2,f3,f4,f5⟩:=fs_facts hr h
 have hsm:=rep_sum hr
 have:k=0∨k=1:=by omega
 rcases this with e|e<;>subst e
 ·have h1:=pt_ok n _ (subR_ok f1) f3
  have h2:=h1.le
  rw[dims_sum] at h2
  exact⟨f1,f3,h1,by show(ptN n (subR r (fsP r).1)).1.length≤20;omega⟩
 ·have h1:=pt_ok n _ (subR_ok f2) f4
  have h2:=h1.le
  rw[dims_sum] at h2
  exact⟨f2,f4,h1,by show(ptN n (subR r (fsP r).2.1)).1.length≤20;omega⟩
theorem hP_le{n:Nat}{r:Rep}(h:∀k,k<2→(hX n r k).1.length≤20):∀k,k≤2→(hP n r k).length≤20*k
 |0,_=>by simp[hP]
 |k+1,hk=>by
  have h1:=hP_le h k (by omega)
  have h2:=h k (by omega)
  rw[hP_succ,List.length_append]
  omega
theorem hM_len(n:Nat)(r:Rep)(j:Nat):(hM n r j).length=(hX n r j).2.1.length:=by simp[hM]
theorem hI_le{n:Nat}{r:Rep}(h:∀k,k<2→(hX n r k).2.1.length≤20):∀k,k≤2→(hI n r k).length≤20*k
 |0,_=>by simp[hI]
 |k+1,hk=>by
  have h1:=hI_le h k (by omega)
  have h2:=h k (by omega)
  rw[hI_succ,List.length_append,hM_len]
  omega
theorem hM_take(n:Nat)(r:Rep)(k i:Nat)(hi:i<(hX n r k).2.1.length):(hM n r k).take (i+1)=(hM n r k).take i++[compL r.p ((hX n r k).2.1.getD i default) (incL (hS r k))]:=by
 have h1:i<(hM n r k).length:=by rw[hM_len];exact hi
 rw[List.take_succ_eq_append_getElem h1]
 simp[hM,hi]
theorem half_comp{n:Nat}{r:Rep}{k:Nat}(h:Half n r k){i:Nat}(hi:i<(hX n r k).1.length):isMor ((hX n r k).1.getD i default) (subR r (hS r k)) ((hX n r k).2.1.getD i default)=true∧isMor (subR r (hS r k)) r (incL (hS r k))=true∧((hX n r k).1.getD i default).p=r.p:=by
 have h1:=h.ok.mor i hi
 exact⟨h1,inc_mor h.sub,(mor_ok h1).2.2.1⟩
def clmL(g:List (List Mat))(v:Nat):List Mat:=g.map fun f=>f.getD v default
theorem clmL_get{g:List (List Mat)}{v i:Nat}(hi:i<g.length):(clmL g v).getD i default=(g.getD i default).getD v default:=by
 simp[clmL,hi]
theorem clmL_len(g:List (List Mat))(v:Nat):(clmL g v).length=g.length:=by simp[clmL]
structure ColF (r:Rep) (g:List (List Mat)) (v i:Nat):Prop where
 len:v<(g.getD i default).length
 eq:tm (r.d.getD v default).toNat ((g.getD i default).getD v default).c.toNat (ent ((g.getD i default).getD v default))=(g.getD i default).getD v default
 le:besC (clmL g v) i+((g.getD i default).getD v default).c.toNat≤1000
 nx:besM (r.d.getD v default).toNat (clmL g v) (i+1)=tm (r.d.getD v default).toNat (besC (clmL g v) i+((g.getD i default).getD v default).c.toNat) (besF (besC (clmL g v) i) (besG (clmL g v) i) (ent ((g.getD i default).getD v default)))
theorem colF{r:Rep}{x:Pts}(hr:isRep r=true)(h:PtOk r x){v:Nat}(hv:v<r.d.length){i:Nat}(hi:i<x.2.1.length):ColF r x.2.1 v i:=by
 have hl:=h.len
 have hle:=h.le
 have hsm:=rep_sum hr
 have hmat:∀j,j<x.2.1.length→v<(x.2.1.getD j default).length∧isMat (x.1.getD j default).p ((x.2.1.getD j default).getD v default)=true∧((x.2.1.getD j default).getD v default).r=r.d.getD v default:=fun j hj=>by
  obtain⟨a1,a2,a3,a4,a5⟩:=mor_ok (h.mor j (by omega))
  obtain⟨b1,b2,b3⟩:=a5 v (by omega)
  exact⟨by omega,b1,b3⟩
 obtain⟨g1,g2,g3⟩:=hmat i hi
 have hb:=besC_le (L:=clmL x.2.1 v) (b:=8) (fun j hj=>by
  rw[clmL_len] at hj
  rw[clmL_get hj]
  have:=(isMat_spec (hmat j hj).2.1).2.2.1
  omega) i (by rw[clmL_len];omega)
 have hc:=(isMat_spec g2).2.2.1
 refine⟨g1,?_,by omega,?_⟩
 ·rw[←g3];exact isMat_tm g2
 ·show tm _ (besC (clmL x.2.1 v) i+((clmL x.2.1 v).getD i default).c.toNat) (besF _ _ (ent ((clmL x.2.1 v).getD i default)))=_
  rw[clmL_get hi]
theorem whole_take{r:Rep}{g:List (List Mat)}{v:Nat}(hv:v<r.d.length):(wholeL r g).take (v+1)=(wholeL r g).take v++[besM (r.d.getD v default).toNat (clmL g v) g.length]:=by
 rw[List.take_succ_eq_append_getElem (by rw[wholeL_len];exact hv)]
 simp[wholeL,clmL]
theorem psP_no1{r:Rep}(h:¬(isRep r=true∧r.d.sum≠0)):psP r=([],[],false):=by
 unfold psP
 rw[if_neg fun x=>h ⟨x.1,x.2.1⟩]
theorem psP_no2{r:Rep}(h:(ptP r).2.2=false):psP r=([],[],false):=by
 unfold psP
 rw[if_neg fun x=>by rw[h] at x;exact absurd x.2.2 (by simp)]
theorem psP_yes{r:Rep}(h1:isRep r=true)(h2:r.d.sum≠0)(h:(ptP r).2.2=true):psP r=((ptP r).1,wholeL r (ptP r).2.1,true):=by
 unfold psP
 rw[if_pos ⟨h1,h2,h⟩]
theorem tab_bel(c1 c r:Nat)(f g:Nat→Nat→Int):tab c1 r f++tab c r g=tab (c1+c) r (belF c1 f g):=by
 induction c with
 |zero=>
  rw[Nat.add_zero,show tab 0 r g=[] by simp[tab],List.append_nil]
  exact tab_ext fun i hi j hj=>by unfold belF;rw[if_pos hi]
 |succ k ih=>
  rw[tab_succ,←List.append_assoc,ih,←Nat.add_assoc,tab_succ]
  congr 2
  funext j
  unfold belF
  rw[if_neg (by omega),Nat.add_sub_cancel_left]
theorem l16Beside_a(r c1 c2:Nat)(f g:Nat→Nat→Int)(hr:r≤1000)(hc:c1+c2≤1000):AC Tryz.prog 351 [.agg (enc false (tm r c1 f)),.agg (enc false (tm r c2 g))] [.agg (enc true (tm r (c1+c2) (besF c1 f g)))]:=by
 refine AC.go Tryz.func351 Tryz.ntmps351 rfl rfl fun w0 hw=>?_;simp[WfL,WfA,E_length,Enc.enc,In64] at hw
 have hA:=l3Transpose_a r c1 f (by omega) (by omega)
 have hB:=l3Transpose_a r c2 g (by omega) (by omega)
 have hC:=l3Transpose_a (c1+c2) r (belF c1 (fun i j=>f j i) (fun i j=>g j i)) (by omega) (by omega)
 rw[show(fun i j=>belF c1 (fun i j=>f j i) (fun i j=>g j i) j i)=besF c1 f g from rfl] at hC
 have l1:=tab_len c1 r (fun i j=>f j i)
 have l2:=tab_len c2 r (fun i j=>g j i)
 have m1:c1*r≤1000*1000:=Nat.mul_le_mul (by omega) hr
 have m2:c2*r≤1000*1000:=Nat.mul_le_mul (by omega) hr
 have hC':AC Tryz.prog 217 [.agg [.i ((c1:Int)+c2),.i (r:Int),.dt false 1 (E false (tab c1 r (fun i j=>f j i)++tab c2 r (fun i j=>g j i)))]] [.agg (enc true (tm r (c1+c2) (besF c1 f g)))]:=by
  rw[tab_bel]
  exact hC
 clear hC
 rw[show tm c1 r (fun i j=>f j i)=⟨(c1:Int),(r:Int),tab c1 r (fun i j=>f j i)⟩ from rfl] at hA
 rw[show tm c2 r (fun i j=>g j i)=⟨(c2:Int),(r:Int),tab c2 r (fun i j=>g j i)⟩ from rfl] at hB
 generalize tab c1 r (fun i j=>f j i)=X at hA hC' l1
 generalize tab c2 r (fun i j=>g j i)=Y at hB hC' l2
 generalize tm r (c1+c2) (besF c1 f g)=Z at hC'⊢
 generalize hM1:tm r c1 f=M1 at hA hw⊢
 generalize hM2:tm r c2 g=M2 at hB hw⊢
 have e1:M1.c=c1:=by rw[←hM1]
 have e2:M1.r=r:=by rw[←hM1]
 have e3:M2.c=c2:=by rw[←hM2]
 rw[←e1,←e2,←e3] at hC'
 repeat' first|refine s1 ?_|fail
 refine AW.freezeP (α:=Mat) (oo:=false) M1 2 rfl rfl ?_
 refine AW.freezeP (α:=Mat) (oo:=false) M2 3 rfl rfl ?_
 refine AW.drawI G.mixed (by kernel_rfl) (by rfl) ?_
 intro T w1 MP1 I0
 refine Pz (.p 0<|.l 1<|.p 2<|.l 3<|.p 4<|.p 5<|.l 6<|.l 8<|.l 12<|.a [(7,false,.o 9 false<|.p 10<|.o 11 false<|.o 13 false<|.p 14<|.o 15 false<|.p 16<|.o 17 false<|.o 18 false<|.n),(9,false,.p 10<|.o 7 false<|.o 11 false<|.o 13 false<|.p 14<|.o 15 false<|.p 16<|.o 17 false<|.o 18 false<|.n)]) ?_
 repeat' first|(refine yU (i:=9) ?_;first|refine s1 ?_|refine F.c (hA) ?_)|(refine yU (i:=13) ?_;first|refine s1 ?_|refine F.c (hB) ?_)|refine xP (i:=10) ?_ (hs:=by exact(A.fldG ⟨Tryz.underlying112⟩ rfl (inferInstance:One Tryz.prog 24) rfl rfl))|refine xP (i:=14) ?_ (hs:=by exact(A.fldG ⟨Tryz.underlying112⟩ rfl (inferInstance:One Tryz.prog 24) rfl rfl))|(refine yU (i:=11) ?_;first|refine s1 ?_|refine F.aLN Int (oo:=true) ?_ (hsrc:=.own rfl rfl (E_length _ _)))|(refine yU (i:=15) ?_;first|refine s1 ?_|refine F.aL Int (oo:=true) ?_ (hsrc:=.own rfl rfl (E_length _ _)))|(refine yU (i:=17) ?_;first|refine s1 ?_|refine F.c (hC') ?_)|refine xS ?_|refine s1 ?_|refine xC ?_ ?_|exact trivial|fail
 any_goals refine lf ?_
 all_goals
  repeat' first|refine s1 ?_|fail
  (refine kZ ?_;exact F.ret rfl)
theorem l16Parts_leaf(n:Nat)(r:Rep)(hr:isRep r=true)(h0:0<r.d.sum)(hfs:(fsP r).2.2=false):AM Tryz.prog 350 [.agg (enc false r)] [] [.dt true 6 (E false (ptN (n+1) r).1),.dt true 1 (E true (ptN (n+1) r).2.1),.b (ptN (n+1) r).2.2] []:=by
 refine AM.go Tryz.func350 Tryz.ntmps350 rfl rfl fun w0 mp hw=>?_;simp[WfL,WfA,E_length,Enc.enc,In64] at hw
 have hT:=totalOf_a r hr
 have hF:=l16Find_a r hr
 have hId:=identityMor_a r hr
 have hCl:=l8Copy_a r hr
 rw[ptN_leaf hfs]
 unfold allS at hF
 rw[hfs,Bool.false_or] at hF
 generalize fsP r=R at hF
 obtain⟨R1,R2,R3⟩:=R
 dsimp only at hF
 generalize decide (cntH r.p (hkL r r).length≤3000)=X at hF⊢
 generalize idL r.d=IL at hId⊢
 have hne:r.d.sum≠0:=by omega
 repeat' first|refine AW.putC (o:=8) (k:=0) (j:=2) (o2:=4) rfl rfl rfl rfl (E_length _ _) (E_pure _ _) rfl ?_|refine AW.putC (o:=8) (k:=0) (j:=3) (o2:=5) rfl rfl rfl rfl (E_length _ _) (E_pure _ _) rfl ?_|refine AW.putC (o:=8) (k:=0) (j:=4) (o2:=6) rfl rfl rfl rfl (E_length _ _) (E_pure _ _) rfl ?_|refine AW.putC (o:=8) (k:=0) (j:=5) (o2:=7) rfl rfl rfl rfl (E_length _ _) (E_pure _ _) rfl ?_|refine AW.putC (o:=9) (k:=0) (j:=0) (o2:=3) rfl rfl rfl rfl (E_length _ _) (E_pure _ _) rfl ?_|refine AW.share (α:=Rep) (ls:=[r]) 8 rfl ?_|refine s1 ?_|(refine kR ?_;first|refine F.c (hT) ?_|refine F.c (hF) ?_|refine F.c (hId) ?_|refine F.c (hCl) ?_)|fail
 refine kM ?_
 exact F.retM rfl trivial
theorem l16Parts_step(n:Nat)(r:Rep)(hr:isRep r=true)(h0:0<r.d.sum)(hfs:(fsP r).2.2=true)(hS':∀k,k<2→AM Tryz.prog 350 [.agg (enc false (subR r (hS r k)))] [] [.dt true 6 (E false (hX n r k).1),.dt true 1 (E true (hX n r k).2.1),.b (hX n r k).2.2] []):AM Tryz.prog 350 [.agg (enc false r)] [] [.dt true 6 (E false (ptN (n+1) r).1),.dt true 1 (E true (ptN (n+1) r).2.1),.b (ptN (n+1) r).2.2] []:=by
 refine AM.go Tryz.func350 Tryz.ntmps350 rfl rfl fun w0 mp hw=>?_;simp[WfL,WfA,E_length,Enc.enc,In64] at hw
 have hT:=totalOf_a r hr
 have hF:=l16Find_a r hr
 have hH:=fun k (hk:k<2)=>half (n:=n) hr hfs hk
 have hno:=fun k (hk:k<2) (h1:(hX n r k).2.2=false)=>pt_no hfs hk h1
 have hyes:=fun h1=>pt_yes (n:=n) hfs h1
 have hg0:hS r 0=(fsP r).1:=rfl
 have hg1:hS r 1=(fsP r).2.1:=rfl
 have hPs:=hP_succ n r
 have hIs:=hI_succ n r
 have hPl:=hP_le (n:=n) fun k hk=>(hH k hk).le
 have hIl:=hI_le (n:=n) (r:=r) fun k hk=>by have:=(hH k hk).le;have:=(hH k hk).ok.len;omega
 have hP0:hP n r 0=[]:=rfl
 have hI0:hI n r 0=[]:=rfl
 rw[hfs] at hF
 generalize allS r=AS at hF
 generalize fsP r=R at hF hg0 hg1
 obtain⟨R1,R2,R3⟩:=R
 dsimp only at hF hg0 hg1
 have hne:r.d.sum≠0:=by omega
 rw[←hg0,←hg1] at hF
 repeat' first|refine AW.freezeA (α:=Spc) 5 rfl rfl rfl ?_|refine AW.freezeA (α:=Spc) 6 rfl rfl rfl ?_|refine s1 ?_|(refine kR ?_;first|refine F.c (hT) ?_|refine F.c (hF) ?_)|fail
 refine AW.freezeP (α:=Rep) (oo:=false) r 1 rfl rfl ?_
 refine AW.open 11 6 (.inr rfl) ?_
 refine AW.open 12 1 (.inr rfl) ?_
 refine F.loop (σ:=Nat) [2,3,4,11,12,13,14,15,16,17,18,19,20,21,22,23,51,52,53,54,55,56,57,58,59,60,61,62,63,64,65,66,67,68,69,70,71,72,73,74,75,76,77,78,79,80,81,82,83,84,85,86,87,88,89,90,91,92,93,94,95,96,97,98,99,100,101,102,103,104,105,106,107] (fun k=>[(11,.sl 3 (hP n r k).length 0 (hP n r k).length),(12,.sl 4 (hI n r k).length 0 (hI n r k).length),(13,.i k)]) (fun k=>[(3,.live false 6 (E false (hP n r k))),(4,.live false 1 (E true (hI n r k)))]) (fun k=>k≤2∧∀j,j<k→(hX n r j).2.2=true) (fun k=>2-k) 0 ⟨rfl,rfl,rfl,trivial⟩ ⟨rfl,rfl,trivial⟩ ⟨Nat.zero_le _,fun j hj=>absurd hj (Nat.not_lt_zero _)⟩ ?_
 rintro k ⟨k1,k2⟩
 by_cases hk:k<2
 ·have hHk:=hH k hk
  have hU:=specSubRep_a r (hS r k)
  rw[show subP r (hS r k)=(subR r (hS r k),incL (hS r k),true) by unfold subP;rw[if_pos hHk.sub]] at hU
  dsimp only at hU
  have hRk:=hS' k hk
  have hnk:=hno k hk
  have hPk:=hPl k k1
  have hIk:=hIl k k1
  have hPsk:=hPs k
  have hIsk:=hIs k
  have hxl:=hHk.ok.len
  have hxn:=hHk.le
  have hml:=hM_len n r k
  have hcp:∀i,i<(hX n r k).1.length→AC Tryz.prog 277 [.agg (enc false ((hX n r k).1.getD i default)),.agg (enc false (subR r (hS r k))),.agg (enc false r),ar false ((hX n r k).2.1.getD i default),ar false (incL (hS r k))] [.dt true 3 (E true (compL r.p ((hX n r k).2.1.getD i default) (incL (hS r k)))),.b true]:=fun i hi=>by
   obtain⟨a1,a2,a3⟩:=half_comp hHk hi
   have:=specComposeMorphisms_a ((hX n r k).1.getD i default) (subR r (hS r k)) r ((hX n r k).2.1.getD i default) (incL (hS r k))
   unfold compM at this
   rw[if_pos ⟨a1,a2⟩,a3] at this
   exact this
  have htk:=hM_take n r k
  have hcase:(k=0∧((k:Int)=1)=False)∨(k=1∧((k:Int)=1)=True):=by
   have:k=0∨k=1:=by omega
   rcases this with e|e
   ·exact .inl ⟨e,by rw[e];simp⟩
   ·exact .inr ⟨e,by rw[e];simp⟩
  refine(fun{G:Prop} (h:∀A' IL,subR r (hS r k)=A'→incL (hS r k)=IL→G)=>h _ _ rfl rfl) fun A' IL hA' hIL=>?_
  cases hok:(hX n r k).2.2 with
  |false=>
   rw[hok] at hRk
   rw[hnk hok]
   generalize hX n r k=X at hRk
   obtain⟨X1,X2,X3⟩:=X
   dsimp only at hRk
   rw[hA'] at hU hRk
   rw[hIL] at hU
   rcases hcase with⟨e,_⟩|⟨e,_⟩<;>subst e<;>
   ·repeat' first|refine AW.putV (o2:=5) 15 2 rfl rfl rfl rfl (E_length _ _) (E_pure _ _) rfl ?_|refine AW.putV (o2:=6) 15 3 rfl rfl rfl rfl (E_length _ _) (E_pure _ _) rfl ?_|refine AW.putV (o2:=7) 15 4 rfl rfl rfl rfl (E_length _ _) (E_pure _ _) rfl ?_|refine AW.putV (o2:=8) 15 5 rfl rfl rfl rfl (E_length _ _) (E_pure _ _) rfl ?_|refine AW.freezeP (α:=Rep) (oo:=true) A' 15 rfl rfl ?_|refine s1 ?_|(refine kR ?_;first|refine F.c (hU) ?_|(refine jCf 350 ?_;refine F.w (hRk) ?_))|fail
    refine kM ?_
    exact F.retM rfl trivial
  |true=>
   rw[hok] at hRk
   generalize hP n r k=PK at hPk hPsk⊢
   generalize hI n r k=IK at hIk hIsk⊢
   generalize hM n r k=MK at hIsk hml htk
   generalize hXe:hX n r k=X at hRk hxl hxn hPsk hml htk hcp
   obtain⟨X1,X2,X3⟩:=X
   dsimp only at hRk hxl hxn hPsk hml htk hcp
   rw[hA'] at hU hRk hcp
   rw[hIL] at hU htk hcp
   rcases hcase with⟨e,_⟩|⟨e,_⟩<;>subst e<;>
   ·repeat' first|refine AW.putV (o2:=5) 15 2 rfl rfl rfl rfl (E_length _ _) (E_pure _ _) rfl ?_|refine AW.putV (o2:=6) 15 3 rfl rfl rfl rfl (E_length _ _) (E_pure _ _) rfl ?_|refine AW.putV (o2:=7) 15 4 rfl rfl rfl rfl (E_length _ _) (E_pure _ _) rfl ?_|refine AW.putV (o2:=8) 15 5 rfl rfl rfl rfl (E_length _ _) (E_pure _ _) rfl ?_|refine AW.freezeP (α:=Rep) (oo:=true) A' 15 rfl rfl ?_|refine s1 ?_|(refine kR ?_;first|refine F.c (hU) ?_|(refine jCf 350 ?_;refine F.w (hRk) ?_))|fail
    refine AW.freezeA (α:=Mat) 16 rfl rfl rfl ?_
    refine AW.freezeA (α:=Rep) 18 rfl rfl rfl ?_
    refine AW.freezeA (α:=List Mat) 19 rfl rfl rfl ?_
    refine F.loop (σ:=Nat) [11,12,21,22,23,76,77,78,79,80,81,82,83,84,85,86,87,88,89,90,91,92,93,94,95,96,97,98,99,100,101,102,103,104,105,106,107] (fun i=>[(11,.sl 3 (PK++X1.take i).length 0 (PK++X1.take i).length),(12,.sl 4 (IK++MK.take i).length 0 (IK++MK.take i).length),(21,.i i)]) (fun i=>[(3,.live false 6 (E false (PK++X1.take i))),(4,.live false 1 (E true (IK++MK.take i)))]) (fun i=>i≤X1.length) (fun i=>X1.length-i) 0 ⟨slE (by simp),slE (by simp),rfl,trivial⟩ ⟨obE (by simp),obE (by simp),trivial⟩ (Nat.zero_le _) ?_
    rintro i i1
    have htl:(MK.take i).length=i:=by rw[List.length_take];omega
    have hxt:(X1.take i).length=i:=by rw[List.length_take];omega
    have hcl:(IK++MK.take i).length≤1000:=by rw[List.length_append];omega
    have hcl2:(PK++X1.take i).length≤1000:=by rw[List.length_append];omega
    by_cases hi:i<X1.length
    ·have hc':=hcp i hi
     have ht:=htk i (by omega)
     have ht2:=take_at (l:=X1) hi
     have ht':IK++MK.take (i+1)=(IK++MK.take i)++[compL r.p (X2.getD i default) IL]:=by rw[ht,List.append_assoc]
     have ht3:PK++X1.take (i+1)=(PK++X1.take i)++[X1.getD i default]:=by rw[ht2,List.append_assoc]
     generalize IK++MK.take i=L at hcl ht'⊢
     generalize PK++X1.take i=L2 at hcl2 ht3⊢
     generalize compL r.p (X2.getD i default) IL=Y at hc' ht'⊢
     repeat' first|refine s1 ?_|fail
     refine AW.draw 17 G.mixed (by kernel_rfl) ?_
     refine Pz (.p 0<|.p 1<|.p 2<|.l 3<|.l 4<|.l 5<|.p 6<|.p 7<|.p 8<|.l 9<|.p 10<|.o 11 true<|.p 12<|.p 13<|.p 14<|.p 15<|.p 16<|.n) ?_
     repeat' first|refine yS ?_|refine s1 ?_|(refine kR ?_;first|refine F.c (hc') ?_)|fail
     any_goals refine lf ?_
     all_goals
      repeat' first|refine s1 ?_|(refine kR ?_;first|refine F.a1 Rep (oo:=false) (a:=X1.getD i default) ?_|refine F.a1 (List Mat) (a:=Y) ?_)|fail
      exact⟨i+1,F.fit ⟨slE (by rw[ht3];simp),slE (by rw[ht'];simp),rfl,trivial⟩ ⟨obE (by rw[ht3]),obE (by rw[ht']),trivial⟩,by omega,by omega⟩
    ·obtain rfl:i=X1.length:=by omega
     have e:MK.take X1.length=MK:=List.take_of_length_le (by omega)
     rw[e,List.take_length,←hIsk,←hPsk]
     repeat' first|refine s1 ?_|fail
     exact⟨_,F.fit ⟨rfl,rfl,rfl,trivial⟩ ⟨rfl,rfl,trivial⟩,⟨by omega,fun j hj=>by rcases Nat.lt_succ_iff_lt_or_eq.1 hj with h|h;exact k2 j h;rw[h];exact hok⟩,by omega⟩
 ·obtain rfl:k=2:=by omega
  rw[hyes k2]
  repeat' first|refine s1 ?_|fail
  refine kM ?_
  exact F.retM rfl trivial
end Go.Proofs.YtjmjamhhppoimaaGreat.V
