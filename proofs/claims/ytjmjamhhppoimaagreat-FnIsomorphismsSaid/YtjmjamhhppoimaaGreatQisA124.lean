/- Texts that the proof needs: A117, A118, A123, A124. -/
import Derived.Test.YtjmjamhhppoimaaGreatQisA113
namespace Go.Proofs.YtjmjamhhppoimaaGreat.V
open Go.RowKit G D
set_option linter.unusedVariables false
set_option linter.unusedSimpArgs false
set_option maxHeartbeats 1000000
set_option maxRecDepth 4000
abbrev Pts:=List Rep×List (List Mat)×Bool
def joinP(r:Rep)(s:List Spc)(x:Pts)(t:List Spc)(y:Pts):Pts:=
 (x.1++y.1,x.2.1.map (fun g=>compL r.p g (incL s))++y.2.1.map (fun g=>compL r.p g (incL t)),true)
def ptN:Nat→Rep→Pts
 |0,_=>([],[],false)
 |n+1,r=>if(fsP r).2.2=true then(if(ptN n (subR r (fsP r).1)).2.2=true then(if(ptN n (subR r (fsP r).2.1)).2.2=true then joinP r (fsP r).1 (ptN n (subR r (fsP r).1)) (fsP r).2.1 (ptN n (subR r (fsP r).2.1)) else([],[],false)) else([],[],false))
  else([r],[idL r.d],decide (cntH r.p (hkL r r).length≤3000))
theorem ptN_leaf{n:Nat}{r:Rep}(h:(fsP r).2.2=false):ptN (n+1) r=([r],[idL r.d],decide (cntH r.p (hkL r r).length≤3000)):=by
 show(if _ then _ else _)=_
 rw[if_neg (by rw[h];simp)]
theorem ptN_no1{n:Nat}{r:Rep}(h:(fsP r).2.2=true)(h1:(ptN n (subR r (fsP r).1)).2.2=false):ptN (n+1) r=([],[],false):=by
 show(if _ then _ else _)=_
 rw[if_pos h,if_neg (by rw[h1];simp)]
theorem ptN_no2{n:Nat}{r:Rep}(h:(fsP r).2.2=true)(h2:(ptN n (subR r (fsP r).2.1)).2.2=false):ptN (n+1) r=([],[],false):=by
 show(if _ then _ else _)=_
 rw[if_pos h]
 by_cases h1:(ptN n (subR r (fsP r).1)).2.2=true
 ·rw[if_pos h1,if_neg (by rw[h2];simp)]
 ·rw[if_neg h1]
theorem ptN_join{n:Nat}{r:Rep}(h:(fsP r).2.2=true)(h1:(ptN n (subR r (fsP r).1)).2.2=true)(h2:(ptN n (subR r (fsP r).2.1)).2.2=true):ptN (n+1) r=joinP r (fsP r).1 (ptN n (subR r (fsP r).1)) (fsP r).2.1 (ptN n (subR r (fsP r).2.1)):=by
 show(if _ then _ else _)=_
 rw[if_pos h,if_pos h1,if_pos h2]
structure PtOk (r:Rep) (x:Pts):Prop where
 len:x.2.1.length=x.1.length
 le:(x.1.length:Int)≤r.d.sum
 pos:x.2.2=true→1≤x.1.length
 mor:∀i,i<x.1.length→isMor (x.1.getD i default) r (x.2.1.getD i default)=true
theorem PtOk.no{r:Rep}(h:0≤r.d.sum):PtOk r ([],[],false):=⟨rfl,h,fun x=>(by cases x),fun i hi=>absurd hi (Nat.not_lt_zero _)⟩
theorem dims_sum{r:Rep}(s:List Spc):(subR r s).d.sum=(dimS s).sum:=rfl
theorem PtOk.lift{r:Rep}{s:List Spc}{x:Pts}(hs:isSub r s=true)(h:PtOk (subR r s) x):∀i,i<x.1.length→isMor (x.1.getD i default) r ((x.2.1.map fun g=>compL r.p g (incL s)).getD i default)=true:=by
 intro i hi
 have h1:=h.mor i hi
 have h2:=comp_mor h1 (inc_mor hs)
 have e:(x.2.1.map fun g=>compL r.p g (incL s)).getD i default=compL r.p (x.2.1.getD i default) (incL s):=by
  have:=h.len
  simp[show i<x.2.1.length by omega]
 rw[e]
 have hp:(x.1.getD i default).p=r.p:=(mor_ok h1).2.2.1
 rw[hp] at h2
 exact h2
theorem PtOk.join{r:Rep}{s t:List Spc}{x y:Pts}(hs:isSub r s=true)(ht:isSub r t=true)(hd:(dimS s).sum+(dimS t).sum≤r.d.sum)(hx:PtOk (subR r s) x)(hy:PtOk (subR r t) y)(hk:x.2.2=true):PtOk r (joinP r s x t y):=by
 have x1:=hx.le
 have y1:=hy.le
 have x2:=hx.len
 have y2:=hy.len
 rw[dims_sum] at x1 y1
 refine⟨?_,?_,fun _=>?_,fun i hi=>?_⟩
 ·show(x.2.1.map (fun g=>compL r.p g (incL s))++y.2.1.map (fun g=>compL r.p g (incL t))).length=(x.1++y.1).length
  rw[List.length_append,List.length_append,List.length_map,List.length_map,x2,y2]
 ·show(((x.1++y.1).length:Nat):Int)≤_
  rw[List.length_append]
  omega
 ·show 1≤(x.1++y.1).length
  rw[List.length_append]
  have:=hx.pos hk
  omega
 ·show isMor ((x.1++y.1).getD i default) r ((x.2.1.map (fun g=>compL r.p g (incL s))++y.2.1.map (fun g=>compL r.p g (incL t))).getD i default)=true
  have hi:i<(x.1++y.1).length:=hi
  rw[List.length_append] at hi
  rw[app_getD,app_getD,List.length_map,x2]
  by_cases h:i<x.1.length
  ·rw[if_pos h,if_pos h]
   exact hx.lift hs i h
  ·rw[if_neg h,if_neg h]
   exact hy.lift ht (i-x.1.length) (by omega)
theorem pt_ok:∀(n:Nat) (r:Rep),isRep r=true→0<r.d.sum→PtOk r (ptN n r)
 |0,r,_,h=>.no (by omega)
 |n+1,r,hr,h=>by
  cases hf:(fsP r).2.2 with
  |false=>
   rw[ptN_leaf hf]
   refine⟨rfl,?_,fun _=>Nat.le_refl 1,fun i hi=>?_⟩
   ·show((1:Nat):Int)≤_
    omega
   ·have hi:i<1:=hi
    obtain rfl:i=0:=by omega
    exact id_mor hr
  |true=>
   obtain⟨f1,f2,f3,f4,f5⟩:=fs_facts hr hf
   have p1:=pt_ok n _ (subR_ok f1) f3
   have p2:=pt_ok n _ (subR_ok f2) f4
   cases h1:(ptN n (subR r (fsP r).1)).2.2 with
   |false=>rw[ptN_no1 hf h1];exact .no (by omega)
   |true=>
    cases h2:(ptN n (subR r (fsP r).2.1)).2.2 with
    |false=>rw[ptN_no2 hf h2];exact .no (by omega)
    |true=>
     rw[ptN_join hf h1 h2]
     exact PtOk.join f1 f2 f5 p1 p2 h1
def ptP(r:Rep):Pts:=ptN r.d.sum.toNat r
def besC(L:List Mat):Nat→Nat
 |0=>0
 |k+1=>besC L k+(L.getD k default).c.toNat
def besG(L:List Mat):Nat→Nat→Nat→Int
 |0=>fun _ _=>0
 |k+1=>besF (besC L k) (besG L k) (ent (L.getD k default))
def besM(d:Nat)(L:List Mat)(k:Nat):Mat:=tm d (besC L k) (besG L k)
theorem besC_le{L:List Mat}{b:Nat}(h:∀i,i<L.length→(L.getD i default).c.toNat≤b):∀k,k≤L.length→besC L k≤k*b
 |0,_=>by simp[besC]
 |k+1,hk=>by
  have h1:=besC_le h k (by omega)
  have h2:=h k (by omega)
  rw[Nat.succ_mul]
  show besC L k+_≤_
  omega
def wholeL(r:Rep)(g:List (List Mat)):List Mat:=(List.range r.d.length).map fun v=>besM (r.d.getD v default).toNat (g.map fun f=>f.getD v default) g.length
theorem wholeL_len(r:Rep)(g:List (List Mat)):(wholeL r g).length=r.d.length:=by simp[wholeL]
def psP(r:Rep):List Rep×List Mat×Bool:=if isRep r=true∧r.d.sum≠0∧(ptP r).2.2=true then((ptP r).1,wholeL r (ptP r).2.1,true) else([],[],false)
end Go.Proofs.YtjmjamhhppoimaaGreat.V
namespace Go.Proofs.YtjmjamhhppoimaaGreat.V
open V.Enc (enc)
open Go.RowKit G D
set_option linter.unusedVariables false
set_option linter.unusedSimpArgs false
set_option maxHeartbeats 4000000
set_option maxRecDepth 4000
attribute [local irreducible] AW ARg ARA ARet MRet ASil AC AM ARI
def hS(r:Rep)(k:Nat):List Spc:=if k=0 then(fsP r).1 else(fsP r).2.1
def hX(n:Nat)(r:Rep)(k:Nat):Pts:=ptN n (subR r (hS r k))
def hP(n:Nat)(r:Rep)(k:Nat):List Rep:=((List.range k).map fun j=>(hX n r j).1).flatten
def hM(n:Nat)(r:Rep)(j:Nat):List (List Mat):=(hX n r j).2.1.map fun g=>compL r.p g (incL (hS r j))
def hI(n:Nat)(r:Rep)(k:Nat):List (List Mat):=((List.range k).map (hM n r)).flatten
theorem hP_succ(n:Nat)(r:Rep)(k:Nat):hP n r (k+1)=hP n r k++(hX n r k).1:=by
 unfold hP
 rw[List.range_succ,List.map_append,List.flatten_append]
 simp
theorem hI_succ(n:Nat)(r:Rep)(k:Nat):hI n r (k+1)=hI n r k++hM n r k:=by
 unfold hI
 rw[List.range_succ,List.map_append,List.flatten_append]
 simp
theorem hS_get(r:Rep){k:Nat}(h:k<2):[(fsP r).1,(fsP r).2.1].getD (0+k) default=hS r k:=by
 have:k=0∨k=1:=by omega
 rcases this with e|e<;>subst e<;>rfl
theorem pt_no{n:Nat}{r:Rep}(h:(fsP r).2.2=true){k:Nat}(hk:k<2)(h1:(hX n r k).2.2=false):ptN (n+1) r=([],[],false):=by
 have:k=0∨k=1:=by omega
 rcases this with e|e<;>subst e
 ·exact ptN_no1 h h1
 ·exact ptN_no2 h h1
theorem pt_yes{n:Nat}{r:Rep}(h:(fsP r).2.2=true)(h1:∀k,k<2→(hX n r k).2.2=true):ptN (n+1) r=(hP n r 2,hI n r 2,true):=by
 rw[ptN_join h (h1 0 (by omega)) (h1 1 (by omega))]
 rw[show(2:Nat)=1+1 from rfl,hP_succ,hI_succ,show(1:Nat)=0+1 from rfl,hP_succ,hI_succ]
 rfl
structure Half (n:Nat) (r:Rep) (k:Nat):Prop where
 sub:isSub r (hS r k)=true
 pos:0<(dimS (hS r k)).sum
 ok:PtOk (subR r (hS r k)) (hX n r k)
 le:(hX n r k).1.length≤20
theorem half{n:Nat}{r:Rep}(hr:isRep r=true)(h:(fsP r).2.2=true){k:Nat}(hk:k<2):Half n r k:=by
 obtain⟨f1,f2,f3,f4,f5⟩:=fs_facts hr h
 have hsm:=rep_sum hr
 have:k=0∨k=1:=by omega
 rcases this with e|e<;>subst e
 ·have h1:=pt_ok n _ (subR_ok f1) f3
  have h2:=h1.le
  rw[dims_sum] at h2
  exact⟨f1,f3,h1,by show(ptN n (subR r (fsP r).1)).1.length≤20;omega⟩
 ·have h1:=pt_ok n _ (subR_ok f2) f4
  have h2:=h1.le
  rw[dims_sum] at h2
  exact⟨f2,f4,h1,by show(ptN n (subR r (fsP r).2.1)).1.length≤20;omega⟩
theorem hP_le{n:Nat}{r:Rep}(h:∀k,k<2→(hX n r k).1.length≤20):∀k,k≤2→(hP n r k).length≤20*k
 |0,_=>by simp[hP]
 |k+1,hk=>by
  have h1:=hP_le h k (by omega)
  have h2:=h k (by omega)
  rw[hP_succ,List.length_append]
  omega
theorem hM_len(n:Nat)(r:Rep)(j:Nat):(hM n r j).length=(hX n r j).2.1.length:=by simp[hM]
theorem hI_le{n:Nat}{r:Rep}(h:∀k,k<2→(hX n r k).2.1.length≤20):∀k,k≤2→(hI n r k).length≤20*k
 |0,_=>by simp[hI]
 |k+1,hk=>by
  have h1:=hI_le h k (by omega)
  have h2:=h k (by omega)
  rw[hI_succ,List.length_append,hM_len]
  omega
theorem hM_take(n:Nat)(r:Rep)(k i:Nat)(hi:i<(hX n r k).2.1.length):(hM n r k).take (i+1)=(hM n r k).take i++[compL r.p ((hX n r k).2.1.getD i default) (incL (hS r k))]:=by
 have h1:i<(hM n r k).length:=by rw[hM_len];exact hi
 rw[List.take_succ_eq_append_getElem h1]
 simp[hM,hi]
theorem half_comp{n:Nat}{r:Rep}{k:Nat}(h:Half n r k){i:Nat}(hi:i<(hX n r k).1.length):isMor ((hX n r k).1.getD i default) (subR r (hS r k)) ((hX n r k).2.1.getD i default)=true∧isMor (subR r (hS r k)) r (incL (hS r k))=true∧((hX n r k).1.getD i default).p=r.p:=by
 have h1:=h.ok.mor i hi
 exact⟨h1,inc_mor h.sub,(mor_ok h1).2.2.1⟩
theorem comp_facts{a b c:Rep}{f g:List Mat}(h1:isMor a b f=true)(h2:isMor b c g=true):f.length≤g.length∧f.length≤1048576∧∀v,v<f.length→isMat a.p (f.getD v default)=true∧isMat a.p (g.getD v default)=true∧(g.getD v default).c=(f.getD v default).r:=by
 obtain⟨a1,a2,a3,a4,a5⟩:=mor_ok h1
 obtain⟨b1,b2,b3,b4,b5⟩:=mor_ok h2
 refine⟨by omega,by omega,fun v hv=>?_⟩
 obtain⟨c1,c2,c3⟩:=a5 v hv
 obtain⟨d1,d2,d3⟩:=b5 v (by omega)
 rw[←a3] at d1
 exact⟨c1,d1,by rw[d2,c3]⟩
theorem partsOf_leaf(n:Nat)(r:Rep)(hr:isRep r=true)(hfs:(fsP r).2.2=false):AC Tryz.prog 352 [.agg (enc false r)] [.dt true 6 (E true (ptN (n+1) r).1),.dt true 1 (E true (ptN (n+1) r).2.1),.b (ptN (n+1) r).2.2]:=by
 refine AC.go Tryz.func352 Tryz.ntmps352 rfl rfl fun w0 hw=>?_;simp[WfL,WfA,E_length,Enc.enc,In64] at hw
 have hf:=fitR_refl hr
 have h:=Fits.of hf
 have hp:=isF_pos h.f
 have hle:=rkE_le r r hf
 have hlen:=hkL_len r r hf
 have hll:=homL_len r r
 have hB:=homBasis_a r r hf
 have hFS:=findSplit_a r hr
 have hC:=countHoms_a r.p (hkL r r).length hp (by omega)
 obtain⟨r1,r2,r3,r4⟩:=isRep_spec hr
 obtain⟨c1,c2,c3,c4⟩:=areDims_spec r2
 have h5:=okQ_spec c1
 have hCl:=repClone_a r hr
 have hId:=identities_a r.d (by omega) (fun v hv=>allIn_spec c3 hv)
 rw[ptN_leaf hfs]
 rw[hfs] at hFS
 rw[←hll] at hC⊢
 generalize fsP r=R at hFS
 obtain⟨R1,R2,R3⟩:=R
 dsimp only at hFS
 generalize homL r r=HL at*
 generalize cntH r.p HL.length=X at*
 generalize idL r.d=IL at hId⊢
 repeat' first|refine s1 ?_|(refine kR ?_;first|refine F.c (hB) ?_|refine F.c (hFS) ?_)|fail
 refine AW.draw 16 G.mixed (by kernel_rfl) ?_
 refine Pz (.l 0<|.p 3<|.l 4<|.p 7<|.l 8<|.p 9<|.p 10<|.o 1 true<|.a [(2,true,.o 5 true<|.a [(6,true,.o 11 true<|.p 12<|.p 13<|.p 14<|.p 15<|.n),(11,true,.p 12<|.p 13<|.o 6 true<|.p 14<|.p 15<|.n)]),(5,true,.a [(2,true,.a [(6,true,.o 11 true<|.p 12<|.p 13<|.p 14<|.p 15<|.n),(11,true,.p 12<|.p 13<|.o 6 true<|.p 14<|.p 15<|.n)]),(6,true,.a [(2,true,.o 11 true<|.p 12<|.p 13<|.p 14<|.p 15<|.n),(11,true,.p 12<|.o 2 true<|.p 13<|.p 14<|.p 15<|.n)]),(11,true,.p 12<|.a [(2,true,.p 13<|.o 6 true<|.p 14<|.p 15<|.n),(6,true,.o 2 true<|.p 13<|.p 14<|.p 15<|.n)])])]) ?_
 repeat' first|refine yS ?_|refine s1 ?_|refine yC ?_ ?_|exact trivial|(refine kR ?_;first|refine F.c (hCl) ?_|refine F.c (hId) ?_|refine F.c (hC) ?_)|fail
 any_goals refine lf ?_
 all_goals
  first
   |(refine AW.putC (o:=8) (k:=0) (j:=2) (o2:=4) rfl rfl rfl rfl (E_length _ _) (E_pure _ _) rfl ?_;refine AW.putC (o:=8) (k:=0) (j:=3) (o2:=5) rfl rfl rfl rfl (E_length _ _) (E_pure _ _) rfl ?_;refine AW.putC (o:=8) (k:=0) (j:=4) (o2:=6) rfl rfl rfl rfl (E_length _ _) (E_pure _ _) rfl ?_;refine AW.putC (o:=8) (k:=0) (j:=5) (o2:=7) rfl rfl rfl rfl (E_length _ _) (E_pure _ _) rfl ?_;refine AW.putC (o:=10) (k:=0) (j:=0) (o2:=9) rfl rfl rfl rfl (E_length _ _) (E_pure _ _) rfl ?_)
   |(refine AW.putC (o:=9) (k:=0) (j:=2) (o2:=4) rfl rfl rfl rfl (E_length _ _) (E_pure _ _) rfl ?_;refine AW.putC (o:=9) (k:=0) (j:=3) (o2:=5) rfl rfl rfl rfl (E_length _ _) (E_pure _ _) rfl ?_;refine AW.putC (o:=9) (k:=0) (j:=4) (o2:=6) rfl rfl rfl rfl (E_length _ _) (E_pure _ _) rfl ?_;refine AW.putC (o:=9) (k:=0) (j:=5) (o2:=7) rfl rfl rfl rfl (E_length _ _) (E_pure _ _) rfl ?_;refine AW.putC (o:=10) (k:=0) (j:=0) (o2:=8) rfl rfl rfl rfl (E_length _ _) (E_pure _ _) rfl ?_)
   |(refine AW.putC (o:=10) (k:=0) (j:=2) (o2:=4) rfl rfl rfl rfl (E_length _ _) (E_pure _ _) rfl ?_;refine AW.putC (o:=10) (k:=0) (j:=3) (o2:=5) rfl rfl rfl rfl (E_length _ _) (E_pure _ _) rfl ?_;refine AW.putC (o:=10) (k:=0) (j:=4) (o2:=6) rfl rfl rfl rfl (E_length _ _) (E_pure _ _) rfl ?_;refine AW.putC (o:=10) (k:=0) (j:=5) (o2:=7) rfl rfl rfl rfl (E_length _ _) (E_pure _ _) rfl ?_;refine AW.putC (o:=9) (k:=0) (j:=0) (o2:=8) rfl rfl rfl rfl (E_length _ _) (E_pure _ _) rfl ?_)
  repeat' first|refine s1 ?_|fail
  (refine kZ ?_;exact F.ret rfl)
theorem partsOf_step(n:Nat)(r:Rep)(hr:isRep r=true)(hfs:(fsP r).2.2=true)(hS':∀k,k<2→AC Tryz.prog 352 [.agg (enc false (subR r (hS r k)))] [.dt true 6 (E true (hX n r k).1),.dt true 1 (E true (hX n r k).2.1),.b (hX n r k).2.2]):AC Tryz.prog 352 [.agg (enc false r)] [.dt true 6 (E true (ptN (n+1) r).1),.dt true 1 (E true (ptN (n+1) r).2.1),.b (ptN (n+1) r).2.2]:=by
 refine AC.go Tryz.func352 Tryz.ntmps352 rfl rfl fun w0 hw=>?_;simp[WfL,WfA,E_length,Enc.enc,In64] at hw
 have hf:=fitR_refl hr
 have hB:=homBasis_a r r hf
 have hFS:=findSplit_a r hr
 have hH:=fun k (hk:k<2)=>half (n:=n) hr hfs hk
 have hno:=fun k (hk:k<2) (h1:(hX n r k).2.2=false)=>pt_no hfs hk h1
 have hyes:=fun h1=>pt_yes (n:=n) hfs h1
 have hg:=fun k (hk:k<2)=>hS_get r hk
 have hPs:=hP_succ n r
 have hIs:=hI_succ n r
 have hPl:=hP_le (n:=n) fun k hk=>(hH k hk).le
 have hIl:=hI_le (n:=n) (r:=r) fun k hk=>by have:=(hH k hk).le;have:=(hH k hk).ok.len;omega
 have hP0:hP n r 0=[]:=rfl
 have hI0:hI n r 0=[]:=rfl
 rw[hfs] at hFS
 generalize fsP r=R at hFS hg
 obtain⟨R1,R2,R3⟩:=R
 dsimp only at hFS hg
 generalize homL r r=HL at hB hFS
 repeat' first|refine AW.freezeA (α:=Spc) 6 rfl rfl rfl ?_|refine AW.freezeA (α:=Spc) 7 rfl rfl rfl ?_|refine s1 ?_|(refine kR ?_;first|refine F.c (hB) ?_|refine F.c (hFS) ?_)|fail
 refine AW.freezeP (α:=Rep) (oo:=false) r 1 rfl rfl ?_
 refine AW.open 9 6 (.inl rfl) ?_
 refine AW.open 10 1 (.inl rfl) ?_
 refine F.loop (σ:=Nat) [2,3,4,9,10,12,13,14,15,16,17,19,49,50,51,52,53,54,55,56,57,58,59,60,61,62,63,64,65,66,67,68,69,70,71,72,73,74,75,76,77,78,79,80,81,82,83,84,85] (fun k=>[(9,.sl 5 (hP n r k).length 0 (hP n r k).length),(10,.sl 6 (hI n r k).length 0 (hI n r k).length),(49,.i k)]) (fun k=>[(4,.live false 1 (E false [R1,R2])),(5,.live false 6 (E true (hP n r k))),(6,.live false 1 (E true (hI n r k)))]) (fun k=>k≤2∧∀j,j<k→(hX n r j).2.2=true) (fun k=>2-k) 0 ⟨rfl,rfl,rfl,trivial⟩ ⟨rfl,rfl,rfl,trivial⟩ ⟨Nat.zero_le _,fun j hj=>absurd hj (Nat.not_lt_zero _)⟩ ?_
 rintro k ⟨k1,k2⟩
 by_cases hk:k<2
 ·have hHk:=hH k hk
  have hU:=subRep_a r (hS r k) hHk.sub
  have hRk:=hS' k hk
  have hnk:=hno k hk
  have hgk:=hg k hk
  have hPk:=hPl k k1
  have hIk:=hIl k k1
  have hPsk:=hPs k
  have hIsk:=hIs k
  have hxl:=hHk.ok.len
  have hxn:=hHk.le
  have hml:=hM_len n r k
  have hcp:∀i,i<(hX n r k).1.length→AC Tryz.prog 269 [.i r.p,ar false ((hX n r k).2.1.getD i default),ar false (incL (hS r k))] [.dt true 3 (E true (compL r.p ((hX n r k).2.1.getD i default) (incL (hS r k))))]:=fun i hi=>by
   obtain⟨a1,a2,a3⟩:=half_comp hHk hi
   obtain⟨b1,b2,b3⟩:=comp_facts a1 a2
   rw[a3] at b3
   exact composed_a r.p _ _ b1 b2 b3
  have htk:=hM_take n r k
  cases hok:(hX n r k).2.2 with
  |false=>
   rw[hok] at hRk
   rw[hnk hok]
   generalize hX n r k=X at hRk
   obtain⟨X1,X2,X3⟩:=X
   dsimp only at hRk
   generalize subR r (hS r k)=A' at hU hRk
   generalize incL (hS r k)=IL at hU
   rw[←hgk] at hU
   repeat' first|refine s1 ?_|(refine kR ?_;first|refine F.c (hU) ?_|refine F.c (hRk) ?_)|fail
   (refine kZ ?_;exact F.ret rfl)
  |true=>
   rw[hok] at hRk
   generalize hP n r k=PK at hPk hPsk⊢
   generalize hI n r k=IK at hIk hIsk⊢
   generalize hM n r k=MK at hIsk hml htk
   generalize hXe:hX n r k=X at hRk hxl hxn hPsk hml htk hcp
   obtain⟨X1,X2,X3⟩:=X
   dsimp only at hRk hxl hxn hPsk hml htk hcp
   generalize subR r (hS r k)=A' at hU hRk
   generalize incL (hS r k)=IL at hU htk hcp
   rw[←hgk] at hU
   repeat' first|refine s1 ?_|(refine kR ?_;first|refine F.c (hU) ?_|refine F.c (hRk) ?_|refine F.aL Rep (oo:=true) ?_ (hsrc:=.own rfl rfl (E_length _ _)))|fail
   refine AW.freezeA (α:=List Mat) 70 rfl rfl rfl ?_
   refine F.loop (σ:=Nat) [10,19,72,73,74,75,76,77,78,79,80,81,82,83,84] (fun i=>[(10,.sl 6 (IK++MK.take i).length 0 (IK++MK.take i).length),(72,.i i)]) (fun i=>[(6,.live false 1 (E true (IK++MK.take i)))]) (fun i=>i≤X2.length) (fun i=>X2.length-i) 0 ⟨slE (by simp),rfl,trivial⟩ ⟨obE (by simp),trivial⟩ (Nat.zero_le _) ?_
   rintro i i1
   have htl:(MK.take i).length=i:=by rw[List.length_take];omega
   have hcl:(IK++MK.take i).length≤1000:=by rw[List.length_append];omega
   by_cases hi:i<X2.length
   ·have hc':=hcp i (by omega)
    have ht:=htk i hi
    have ht':IK++MK.take (i+1)=(IK++MK.take i)++[compL r.p (X2.getD i default) IL]:=by rw[ht,List.append_assoc]
    generalize IK++MK.take i=L at hcl ht'⊢
    generalize compL r.p (X2.getD i default) IL=Y at hc' ht'⊢
    repeat' first|refine s1 ?_|(refine kR ?_;first|refine F.c (hc') ?_|refine F.a1 (List Mat) (a:=Y) ?_)|fail
    exact⟨i+1,F.fit ⟨slE (by rw[ht'];simp),rfl,trivial⟩ ⟨obE (by rw[ht']),trivial⟩,by omega,by omega⟩
   ·obtain rfl:i=X2.length:=by omega
    have e:MK.take X2.length=MK:=List.take_of_length_le (by omega)
    rw[e,←hIsk]
    repeat' first|refine s1 ?_|fail
    exact⟨k+1,F.fit ⟨slE (by rw[hPsk];simp),rfl,rfl,trivial⟩ ⟨rfl,obE (by rw[hPsk]),rfl,trivial⟩,⟨by omega,fun j hj=>by rcases Nat.lt_succ_iff_lt_or_eq.1 hj with h|h;exact k2 j h;rw[h];exact hok⟩,by omega⟩
 ·obtain rfl:k=2:=by omega
  rw[hyes k2]
  repeat' first|refine s1 ?_|fail
  (refine kZ ?_;exact F.ret rfl)
end Go.Proofs.YtjmjamhhppoimaaGreat.V
