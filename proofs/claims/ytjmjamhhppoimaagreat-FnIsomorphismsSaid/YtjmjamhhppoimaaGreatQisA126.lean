/- Texts that the proof needs: A119, A125, A126. -/
import Derived.Test.YtjmjamhhppoimaaGreatQisA124
namespace Go.Proofs.YtjmjamhhppoimaaGreat.V
open V.Enc (enc)
open Go.RowKit G D
set_option linter.unusedVariables false
set_option linter.unusedSimpArgs false
set_option maxHeartbeats 4000000
set_option maxRecDepth 4000
attribute [local irreducible] AW ARg ARA ARet MRet ASil AC AM ARI
theorem partsOf_a:∀(n:Nat) (r:Rep),isRep r=true→0<r.d.sum→r.d.sum≤n→AC Tryz.prog 352 [.agg (enc false r)] [.dt true 6 (E true (ptN n r).1),.dt true 1 (E true (ptN n r).2.1),.b (ptN n r).2.2]
 |0,r,_,h1,h2=>by omega
 |n+1,r,hr,h1,h2=>by
  cases hfs:(fsP r).2.2 with
  |false=>exact partsOf_leaf n r hr hfs
  |true=>
   refine partsOf_step n r hr hfs fun k hk=>?_
   have hh:=half (n:=n) hr hfs hk
   refine partsOf_a n _ (subR_ok hh.sub) hh.pos ?_
   obtain⟨f1,f2,f3,f4,f5⟩:=fs_facts hr hfs
   rw[dims_sum]
   have:k=0∨k=1:=by omega
   rcases this with e|e<;>subst e
   ·show(dimS (fsP r).1).sum≤_;omega
   ·show(dimS (fsP r).2.1).sum≤_;omega
def clmL(g:List (List Mat))(v:Nat):List Mat:=g.map fun f=>f.getD v default
theorem clmL_get{g:List (List Mat)}{v i:Nat}(hi:i<g.length):(clmL g v).getD i default=(g.getD i default).getD v default:=by
 simp[clmL,hi]
theorem clmL_len(g:List (List Mat))(v:Nat):(clmL g v).length=g.length:=by simp[clmL]
structure ColF (r:Rep) (g:List (List Mat)) (v i:Nat):Prop where
 len:v<(g.getD i default).length
 eq:tm (r.d.getD v default).toNat ((g.getD i default).getD v default).c.toNat (ent ((g.getD i default).getD v default))=(g.getD i default).getD v default
 le:besC (clmL g v) i+((g.getD i default).getD v default).c.toNat≤1000
 nx:besM (r.d.getD v default).toNat (clmL g v) (i+1)=tm (r.d.getD v default).toNat (besC (clmL g v) i+((g.getD i default).getD v default).c.toNat) (besF (besC (clmL g v) i) (besG (clmL g v) i) (ent ((g.getD i default).getD v default)))
theorem colF{r:Rep}{x:Pts}(hr:isRep r=true)(h:PtOk r x){v:Nat}(hv:v<r.d.length){i:Nat}(hi:i<x.2.1.length):ColF r x.2.1 v i:=by
 have hl:=h.len
 have hle:=h.le
 have hsm:=rep_sum hr
 have hmat:∀j,j<x.2.1.length→v<(x.2.1.getD j default).length∧isMat (x.1.getD j default).p ((x.2.1.getD j default).getD v default)=true∧((x.2.1.getD j default).getD v default).r=r.d.getD v default:=fun j hj=>by
  obtain⟨a1,a2,a3,a4,a5⟩:=mor_ok (h.mor j (by omega))
  obtain⟨b1,b2,b3⟩:=a5 v (by omega)
  exact⟨by omega,b1,b3⟩
 obtain⟨g1,g2,g3⟩:=hmat i hi
 have hb:=besC_le (L:=clmL x.2.1 v) (b:=8) (fun j hj=>by
  rw[clmL_len] at hj
  rw[clmL_get hj]
  have:=(isMat_spec (hmat j hj).2.1).2.2.1
  omega) i (by rw[clmL_len];omega)
 have hc:=(isMat_spec g2).2.2.1
 refine⟨g1,?_,by omega,?_⟩
 ·rw[←g3];exact isMat_tm g2
 ·show tm _ (besC (clmL x.2.1 v) i+((clmL x.2.1 v).getD i default).c.toNat) (besF _ _ (ent ((clmL x.2.1 v).getD i default)))=_
  rw[clmL_get hi]
theorem whole_take{r:Rep}{g:List (List Mat)}{v:Nat}(hv:v<r.d.length):(wholeL r g).take (v+1)=(wholeL r g).take v++[besM (r.d.getD v default).toNat (clmL g v) g.length]:=by
 rw[List.take_succ_eq_append_getElem (by rw[wholeL_len];exact hv)]
 simp[wholeL,clmL]
theorem psP_no1{r:Rep}(h:¬(isRep r=true∧r.d.sum≠0)):psP r=([],[],false):=by
 unfold psP
 rw[if_neg fun x=>h ⟨x.1,x.2.1⟩]
theorem psP_no2{r:Rep}(h:(ptP r).2.2=false):psP r=([],[],false):=by
 unfold psP
 rw[if_neg fun x=>by rw[h] at x;exact absurd x.2.2 (by simp)]
theorem psP_yes{r:Rep}(h1:isRep r=true)(h2:r.d.sum≠0)(h:(ptP r).2.2=true):psP r=((ptP r).1,wholeL r (ptP r).2.1,true):=by
 unfold psP
 rw[if_pos ⟨h1,h2,h⟩]
theorem implPartsOf_a(r:Rep):AC Tryz.prog 260 [.agg (enc false r)] [.dt true 6 (E true (psP r).1),.dt true 3 (E true (psP r).2.1),.b (psP r).2.2]:=by
 refine AC.go Tryz.func260 Tryz.ntmps260 rfl rfl fun w0 hw=>?_;simp[WfL,WfA,E_length,Enc.enc,In64] at hw
 have hR:=implIsRep_a r
 cases hr:isRep r with
 |false=>
  rw[hr] at hR
  rw[psP_no1 (by rw[hr];simp)]
  repeat' first|refine s1 ?_|(refine kR ?_;first|refine F.c (hR) ?_)|fail
  (refine kZ ?_;exact F.ret rfl)
 |true=>
  rw[hr] at hR
  obtain⟨r1,r2,r3,r4⟩:=isRep_spec hr
  obtain⟨c1,c2,c3,c4⟩:=areDims_spec r2
  have h5:=okQ_spec c1
  have hsm:=rep_sum hr
  have hT:=sumOf_a r.d (by omega) (fun j hj=>by have:0≤r.d.getD j default∧r.d.getD j default≤4:=allIn_spec c3 hj;omega)
  by_cases h0:r.d.sum=0
  ·rw[h0] at hT
   rw[psP_no1 (fun x=>x.2 h0)]
   repeat' first|refine s1 ?_|(refine kR ?_;first|refine F.c (hR) ?_|refine F.c (hT) ?_)|fail
   (refine kZ ?_;exact F.ret rfl)
  ·have hQ:=partsOf_a r.d.sum.toNat r hr (by omega) (by omega)
   have hok:=pt_ok r.d.sum.toNat r hr (by omega)
   rw[show ptN r.d.sum.toNat r=ptP r from rfl] at hQ hok
   cases hk:(ptP r).2.2 with
   |false=>
    rw[hk] at hQ
    rw[psP_no2 hk]
    generalize ptP r=X at hQ
    obtain⟨X1,X2,X3⟩:=X
    dsimp only at hQ
    repeat' first|refine s1 ?_|(refine kR ?_;first|refine F.c (hR) ?_|refine F.c (hT) ?_|refine F.c (hQ) ?_)|fail
    (refine kZ ?_;exact F.ret rfl)
   |true=>
    rw[hk] at hQ
    rw[psP_yes hr h0 hk]
    have hcf:=fun v (hv:v<r.d.length) i (hi:i<(ptP r).2.1.length)=>colF hr hok (v:=v) hv hi
    have hl:=hok.len
    have hle:=hok.le
    have hwl:=wholeL_len r (ptP r).2.1
    have hwt:=fun v (hv:v<r.d.length)=>whole_take (g:=(ptP r).2.1) hv
    generalize ptP r=X at hQ hcf hl hle hwl hwt⊢
    obtain⟨X1,X2,X3⟩:=X
    dsimp only at hQ hcf hl hle hwl hwt⊢
    generalize wholeL r X2=WL at hwl hwt⊢
    repeat' first|refine s1 ?_|(refine kR ?_;first|refine F.c (hR) ?_|refine F.c (hT) ?_|refine F.c (hQ) ?_)|fail
    refine AW.freezeP (α:=Rep) (oo:=false) r 1 rfl rfl ?_
    refine AW.freezeA (α:=List Mat) 6 rfl rfl rfl ?_
    refine AW.open 8 3 (.inl rfl) ?_
    refine F.loop (σ:=Nat) [8,9,10,12,33,34,35,36,37,38,39,40,41,42,43,44,45,46,47,48,49,50,51,52,53,54,55,56,57,58,59] (fun k=>[(8,.sl 3 k 0 k),(33,.i k)]) (fun k=>[(3,.live false 3 (E true (WL.take k)))]) (fun k=>k≤r.d.length) (fun k=>r.d.length-k) 0 ⟨rfl,rfl,trivial⟩ ⟨rfl,trivial⟩ (Nat.zero_le _) ?_
    rintro v v1
    have hp2:(WL.take v).length=v:=by rw[List.length_take];omega
    by_cases hv:v<r.d.length
    ·have hd:0≤r.d.getD v default∧r.d.getD v default≤4:=allIn_spec c3 hv
     have hcv:=hcf v hv
     have hwv:=hwt v hv
     have hZ:AC Tryz.prog 264 [.i (r.d.getD v default),.i 0] [.agg (enc true (besM (r.d.getD v default).toNat (clmL X2 v) 0))]:=by
      have:=zeroT_a (r.d.getD v default).toNat 0 (by omega) (by omega)
      rw[Int.toNat_of_nonneg hd.1] at this
      exact this
     have hBk:∀i,i<X2.length→v<(X2.getD i default).length∧AC Tryz.prog 353 [.agg (enc false (besM (r.d.getD v default).toNat (clmL X2 v) i)),.agg (enc false ((X2.getD i default).getD v default))] [.agg (enc true (besM (r.d.getD v default).toNat (clmL X2 v) (i+1)))]:=fun i hi=>by
      obtain⟨q1,q2,q3,q4⟩:=hcv i hi
      have:=beside_a (r.d.getD v default).toNat (besC (clmL X2 v) i) ((X2.getD i default).getD v default).c.toNat (besG (clmL X2 v) i) (ent ((X2.getD i default).getD v default)) (by omega) (by omega)
      rw[q2,←q4] at this
      exact⟨q1,this⟩
     generalize besM (r.d.getD v default).toNat (clmL X2 v)=BM at hZ hBk hwv
     repeat' first|refine s1 ?_|(refine kR ?_;first|refine F.c (hZ) ?_)|fail
     refine AW.putV 10 2 rfl rfl rfl rfl (E_length _ _) (E_pure _ _) rfl ?_
     refine F.loop (σ:=Nat) [12,44,45,46,47,48,49,50,51,52,53,54] (fun i=>[(44,.i i)]) (fun i=>[(5,.live false 3 (E true [BM i]))]) (fun i=>i≤X2.length) (fun i=>X2.length-i) 0 ⟨rfl,trivial⟩ ⟨rfl,trivial⟩ (Nat.zero_le _) ?_
     rintro i i1
     by_cases hi:i<X2.length
     ·obtain⟨hlen,hB'⟩:=hBk i hi
      generalize hY:BM (i+1)=Y at hB'
      refine AW.takeE (α:=Mat) (o:=5) (k:=0) (j:=2) (ls:=[BM i]) rfl (by simp) rfl (E_length _ _) ?_
      repeat' first|refine s1 ?_|fail
      refine AW.draw 6 G.mixed (by kernel_rfl) ?_
      refine Pz (.l 0<|.p 1<|.p 2<|.p 3<|.l 4<|.o 5 true<|.o 6 false<|.n) ?_
      repeat' first|refine yS ?_|refine s1 ?_|(refine kR ?_;first|refine F.c (hB') ?_)|fail
      any_goals refine lf ?_
      all_goals
       repeat' first|refine AW.putV (o2:=7) 10 2 rfl rfl rfl rfl (E_length _ _) (E_pure _ _) rfl ?_|refine s1 ?_|fail
       exact⟨i+1,F.fit ⟨rfl,trivial⟩ ⟨obE (by rw[hY];rfl),trivial⟩,by omega,by omega⟩
     ·obtain rfl:i=X2.length:=by omega
      refine AW.takeE (α:=Mat) (o:=5) (k:=0) (j:=2) (ls:=[BM X2.length]) rfl (by simp) rfl (E_length _ _) ?_
      generalize BM X2.length=Y at hwv⊢
      repeat' first|refine s1 ?_|(refine kR ?_;first|refine F.a1 Mat (a:=Y) ?_)|fail
      exact⟨v+1,F.fit ⟨rfl,rfl,trivial⟩ ⟨obE (by rw[hwv]),trivial⟩,by omega,by omega⟩
    ·obtain rfl:v=r.d.length:=by omega
     have e:WL.take r.d.length=WL:=List.take_of_length_le (by omega)
     rw[e]
     repeat' first|refine s1 ?_|fail
     (refine kZ ?_;exact F.ret rfl)
theorem tab_bel(c1 c r:Nat)(f g:Nat→Nat→Int):tab c1 r f++tab c r g=tab (c1+c) r (belF c1 f g):=by
 induction c with
 |zero=>
  rw[Nat.add_zero,show tab 0 r g=[] by simp[tab],List.append_nil]
  exact tab_ext fun i hi j hj=>by unfold belF;rw[if_pos hi]
 |succ k ih=>
  rw[tab_succ,←List.append_assoc,ih,←Nat.add_assoc,tab_succ]
  congr 2
  funext j
  unfold belF
  rw[if_neg (by omega),Nat.add_sub_cancel_left]
theorem l16Beside_a(r c1 c2:Nat)(f g:Nat→Nat→Int)(hr:r≤1000)(hc:c1+c2≤1000):AC Tryz.prog 351 [.agg (enc false (tm r c1 f)),.agg (enc false (tm r c2 g))] [.agg (enc true (tm r (c1+c2) (besF c1 f g)))]:=by
 refine AC.go Tryz.func351 Tryz.ntmps351 rfl rfl fun w0 hw=>?_;simp[WfL,WfA,E_length,Enc.enc,In64] at hw
 have hA:=l3Transpose_a r c1 f (by omega) (by omega)
 have hB:=l3Transpose_a r c2 g (by omega) (by omega)
 have hC:=l3Transpose_a (c1+c2) r (belF c1 (fun i j=>f j i) (fun i j=>g j i)) (by omega) (by omega)
 rw[show(fun i j=>belF c1 (fun i j=>f j i) (fun i j=>g j i) j i)=besF c1 f g from rfl] at hC
 have l1:=tab_len c1 r (fun i j=>f j i)
 have l2:=tab_len c2 r (fun i j=>g j i)
 have m1:c1*r≤1000*1000:=Nat.mul_le_mul (by omega) hr
 have m2:c2*r≤1000*1000:=Nat.mul_le_mul (by omega) hr
 have hC':AC Tryz.prog 217 [.agg [.i ((c1:Int)+c2),.i (r:Int),.dt false 1 (E false (tab c1 r (fun i j=>f j i)++tab c2 r (fun i j=>g j i)))]] [.agg (enc true (tm r (c1+c2) (besF c1 f g)))]:=by
  rw[tab_bel]
  exact hC
 clear hC
 rw[show tm c1 r (fun i j=>f j i)=⟨(c1:Int),(r:Int),tab c1 r (fun i j=>f j i)⟩ from rfl] at hA
 rw[show tm c2 r (fun i j=>g j i)=⟨(c2:Int),(r:Int),tab c2 r (fun i j=>g j i)⟩ from rfl] at hB
 generalize tab c1 r (fun i j=>f j i)=X at hA hC' l1
 generalize tab c2 r (fun i j=>g j i)=Y at hB hC' l2
 generalize tm r (c1+c2) (besF c1 f g)=Z at hC'⊢
 generalize hM1:tm r c1 f=M1 at hA hw⊢
 generalize hM2:tm r c2 g=M2 at hB hw⊢
 have e1:M1.c=c1:=by rw[←hM1]
 have e2:M1.r=r:=by rw[←hM1]
 have e3:M2.c=c2:=by rw[←hM2]
 rw[←e1,←e2,←e3] at hC'
 repeat' first|refine s1 ?_|fail
 refine AW.freezeP (α:=Mat) (oo:=false) M1 2 rfl rfl ?_
 refine AW.freezeP (α:=Mat) (oo:=false) M2 3 rfl rfl ?_
 refine AW.drawI G.mixed (by kernel_rfl) (by rfl) ?_
 intro T w1 MP1 I0
 refine Pz (.p 0<|.l 1<|.p 2<|.l 3<|.p 4<|.p 5<|.l 6<|.l 8<|.l 12<|.a [(7,false,.o 9 false<|.p 10<|.o 11 false<|.o 13 false<|.p 14<|.o 15 false<|.p 16<|.o 17 false<|.o 18 false<|.n),(9,false,.p 10<|.o 7 false<|.o 11 false<|.o 13 false<|.p 14<|.o 15 false<|.p 16<|.o 17 false<|.o 18 false<|.n)]) ?_
 repeat' first|(refine yU (i:=9) ?_;first|refine s1 ?_|refine F.c (hA) ?_)|(refine yU (i:=13) ?_;first|refine s1 ?_|refine F.c (hB) ?_)|refine xP (i:=10) ?_ (hs:=by exact(A.fldG ⟨Tryz.underlying112⟩ rfl (inferInstance:One Tryz.prog 24) rfl rfl))|refine xP (i:=14) ?_ (hs:=by exact(A.fldG ⟨Tryz.underlying112⟩ rfl (inferInstance:One Tryz.prog 24) rfl rfl))|(refine yU (i:=11) ?_;first|refine s1 ?_|refine F.aLN Int (oo:=true) ?_ (hsrc:=.own rfl rfl (E_length _ _)))|(refine yU (i:=15) ?_;first|refine s1 ?_|refine F.aL Int (oo:=true) ?_ (hsrc:=.own rfl rfl (E_length _ _)))|(refine yU (i:=17) ?_;first|refine s1 ?_|refine F.c (hC') ?_)|refine xS ?_|refine s1 ?_|refine xC ?_ ?_|exact trivial|fail
 any_goals refine lf ?_
 all_goals
  repeat' first|refine s1 ?_|fail
  (refine kZ ?_;exact F.ret rfl)
theorem l16Parts_leaf(n:Nat)(r:Rep)(hr:isRep r=true)(h0:0<r.d.sum)(hfs:(fsP r).2.2=false):AM Tryz.prog 350 [.agg (enc false r)] [] [.dt true 6 (E false (ptN (n+1) r).1),.dt true 1 (E true (ptN (n+1) r).2.1),.b (ptN (n+1) r).2.2] []:=by
 refine AM.go Tryz.func350 Tryz.ntmps350 rfl rfl fun w0 mp hw=>?_;simp[WfL,WfA,E_length,Enc.enc,In64] at hw
 have hT:=totalOf_a r hr
 have hF:=l16Find_a r hr
 have hId:=identityMor_a r hr
 have hCl:=l8Copy_a r hr
 rw[ptN_leaf hfs]
 unfold allS at hF
 rw[hfs,Bool.false_or] at hF
 generalize fsP r=R at hF
 obtain⟨R1,R2,R3⟩:=R
 dsimp only at hF
 generalize decide (cntH r.p (hkL r r).length≤3000)=X at hF⊢
 generalize idL r.d=IL at hId⊢
 have hne:r.d.sum≠0:=by omega
 repeat' first|refine AW.putC (o:=8) (k:=0) (j:=2) (o2:=4) rfl rfl rfl rfl (E_length _ _) (E_pure _ _) rfl ?_|refine AW.putC (o:=8) (k:=0) (j:=3) (o2:=5) rfl rfl rfl rfl (E_length _ _) (E_pure _ _) rfl ?_|refine AW.putC (o:=8) (k:=0) (j:=4) (o2:=6) rfl rfl rfl rfl (E_length _ _) (E_pure _ _) rfl ?_|refine AW.putC (o:=8) (k:=0) (j:=5) (o2:=7) rfl rfl rfl rfl (E_length _ _) (E_pure _ _) rfl ?_|refine AW.putC (o:=9) (k:=0) (j:=0) (o2:=3) rfl rfl rfl rfl (E_length _ _) (E_pure _ _) rfl ?_|refine AW.share (α:=Rep) (ls:=[r]) 8 rfl ?_|refine s1 ?_|(refine kR ?_;first|refine F.c (hT) ?_|refine F.c (hF) ?_|refine F.c (hId) ?_|refine F.c (hCl) ?_)|fail
 refine kM ?_
 exact F.retM rfl trivial
theorem l16Parts_step(n:Nat)(r:Rep)(hr:isRep r=true)(h0:0<r.d.sum)(hfs:(fsP r).2.2=true)(hS':∀k,k<2→AM Tryz.prog 350 [.agg (enc false (subR r (hS r k)))] [] [.dt true 6 (E false (hX n r k).1),.dt true 1 (E true (hX n r k).2.1),.b (hX n r k).2.2] []):AM Tryz.prog 350 [.agg (enc false r)] [] [.dt true 6 (E false (ptN (n+1) r).1),.dt true 1 (E true (ptN (n+1) r).2.1),.b (ptN (n+1) r).2.2] []:=by
 refine AM.go Tryz.func350 Tryz.ntmps350 rfl rfl fun w0 mp hw=>?_;simp[WfL,WfA,E_length,Enc.enc,In64] at hw
 have hT:=totalOf_a r hr
 have hF:=l16Find_a r hr
 have hH:=fun k (hk:k<2)=>half (n:=n) hr hfs hk
 have hno:=fun k (hk:k<2) (h1:(hX n r k).2.2=false)=>pt_no hfs hk h1
 have hyes:=fun h1=>pt_yes (n:=n) hfs h1
 have hg0:hS r 0=(fsP r).1:=rfl
 have hg1:hS r 1=(fsP r).2.1:=rfl
 have hPs:=hP_succ n r
 have hIs:=hI_succ n r
 have hPl:=hP_le (n:=n) fun k hk=>(hH k hk).le
 have hIl:=hI_le (n:=n) (r:=r) fun k hk=>by have:=(hH k hk).le;have:=(hH k hk).ok.len;omega
 have hP0:hP n r 0=[]:=rfl
 have hI0:hI n r 0=[]:=rfl
 rw[hfs] at hF
 generalize allS r=AS at hF
 generalize fsP r=R at hF hg0 hg1
 obtain⟨R1,R2,R3⟩:=R
 dsimp only at hF hg0 hg1
 have hne:r.d.sum≠0:=by omega
 rw[←hg0,←hg1] at hF
 repeat' first|refine AW.freezeA (α:=Spc) 5 rfl rfl rfl ?_|refine AW.freezeA (α:=Spc) 6 rfl rfl rfl ?_|refine s1 ?_|(refine kR ?_;first|refine F.c (hT) ?_|refine F.c (hF) ?_)|fail
 refine AW.freezeP (α:=Rep) (oo:=false) r 1 rfl rfl ?_
 refine AW.open 11 6 (.inr rfl) ?_
 refine AW.open 12 1 (.inr rfl) ?_
 refine F.loop (σ:=Nat) [2,3,4,11,12,13,14,15,16,17,18,19,20,21,22,23,51,52,53,54,55,56,57,58,59,60,61,62,63,64,65,66,67,68,69,70,71,72,73,74,75,76,77,78,79,80,81,82,83,84,85,86,87,88,89,90,91,92,93,94,95,96,97,98,99,100,101,102,103,104,105,106,107] (fun k=>[(11,.sl 3 (hP n r k).length 0 (hP n r k).length),(12,.sl 4 (hI n r k).length 0 (hI n r k).length),(13,.i k)]) (fun k=>[(3,.live false 6 (E false (hP n r k))),(4,.live false 1 (E true (hI n r k)))]) (fun k=>k≤2∧∀j,j<k→(hX n r j).2.2=true) (fun k=>2-k) 0 ⟨rfl,rfl,rfl,trivial⟩ ⟨rfl,rfl,trivial⟩ ⟨Nat.zero_le _,fun j hj=>absurd hj (Nat.not_lt_zero _)⟩ ?_
 rintro k ⟨k1,k2⟩
 by_cases hk:k<2
 ·have hHk:=hH k hk
  have hU:=specSubRep_a r (hS r k)
  rw[show subP r (hS r k)=(subR r (hS r k),incL (hS r k),true) by unfold subP;rw[if_pos hHk.sub]] at hU
  dsimp only at hU
  have hRk:=hS' k hk
  have hnk:=hno k hk
  have hPk:=hPl k k1
  have hIk:=hIl k k1
  have hPsk:=hPs k
  have hIsk:=hIs k
  have hxl:=hHk.ok.len
  have hxn:=hHk.le
  have hml:=hM_len n r k
  have hcp:∀i,i<(hX n r k).1.length→AC Tryz.prog 277 [.agg (enc false ((hX n r k).1.getD i default)),.agg (enc false (subR r (hS r k))),.agg (enc false r),ar false ((hX n r k).2.1.getD i default),ar false (incL (hS r k))] [.dt true 3 (E true (compL r.p ((hX n r k).2.1.getD i default) (incL (hS r k)))),.b true]:=fun i hi=>by
   obtain⟨a1,a2,a3⟩:=half_comp hHk hi
   have:=specComposeMorphisms_a ((hX n r k).1.getD i default) (subR r (hS r k)) r ((hX n r k).2.1.getD i default) (incL (hS r k))
   unfold compM at this
   rw[if_pos ⟨a1,a2⟩,a3] at this
   exact this
  have htk:=hM_take n r k
  have hcase:(k=0∧((k:Int)=1)=False)∨(k=1∧((k:Int)=1)=True):=by
   have:k=0∨k=1:=by omega
   rcases this with e|e
   ·exact .inl ⟨e,by rw[e];simp⟩
   ·exact .inr ⟨e,by rw[e];simp⟩
  refine(fun{G:Prop} (h:∀A' IL,subR r (hS r k)=A'→incL (hS r k)=IL→G)=>h _ _ rfl rfl) fun A' IL hA' hIL=>?_
  cases hok:(hX n r k).2.2 with
  |false=>
   rw[hok] at hRk
   rw[hnk hok]
   generalize hX n r k=X at hRk
   obtain⟨X1,X2,X3⟩:=X
   dsimp only at hRk
   rw[hA'] at hU hRk
   rw[hIL] at hU
   rcases hcase with⟨e,_⟩|⟨e,_⟩<;>subst e<;>
   ·repeat' first|refine AW.putV (o2:=5) 15 2 rfl rfl rfl rfl (E_length _ _) (E_pure _ _) rfl ?_|refine AW.putV (o2:=6) 15 3 rfl rfl rfl rfl (E_length _ _) (E_pure _ _) rfl ?_|refine AW.putV (o2:=7) 15 4 rfl rfl rfl rfl (E_length _ _) (E_pure _ _) rfl ?_|refine AW.putV (o2:=8) 15 5 rfl rfl rfl rfl (E_length _ _) (E_pure _ _) rfl ?_|refine AW.freezeP (α:=Rep) (oo:=true) A' 15 rfl rfl ?_|refine s1 ?_|(refine kR ?_;first|refine F.c (hU) ?_|(refine jCf 350 ?_;refine F.w (hRk) ?_))|fail
    refine kM ?_
    exact F.retM rfl trivial
  |true=>
   rw[hok] at hRk
   generalize hP n r k=PK at hPk hPsk⊢
   generalize hI n r k=IK at hIk hIsk⊢
   generalize hM n r k=MK at hIsk hml htk
   generalize hXe:hX n r k=X at hRk hxl hxn hPsk hml htk hcp
   obtain⟨X1,X2,X3⟩:=X
   dsimp only at hRk hxl hxn hPsk hml htk hcp
   rw[hA'] at hU hRk hcp
   rw[hIL] at hU htk hcp
   rcases hcase with⟨e,_⟩|⟨e,_⟩<;>subst e<;>
   ·repeat' first|refine AW.putV (o2:=5) 15 2 rfl rfl rfl rfl (E_length _ _) (E_pure _ _) rfl ?_|refine AW.putV (o2:=6) 15 3 rfl rfl rfl rfl (E_length _ _) (E_pure _ _) rfl ?_|refine AW.putV (o2:=7) 15 4 rfl rfl rfl rfl (E_length _ _) (E_pure _ _) rfl ?_|refine AW.putV (o2:=8) 15 5 rfl rfl rfl rfl (E_length _ _) (E_pure _ _) rfl ?_|refine AW.freezeP (α:=Rep) (oo:=true) A' 15 rfl rfl ?_|refine s1 ?_|(refine kR ?_;first|refine F.c (hU) ?_|(refine jCf 350 ?_;refine F.w (hRk) ?_))|fail
    refine AW.freezeA (α:=Mat) 16 rfl rfl rfl ?_
    refine AW.freezeA (α:=Rep) 18 rfl rfl rfl ?_
    refine AW.freezeA (α:=List Mat) 19 rfl rfl rfl ?_
    refine F.loop (σ:=Nat) [11,12,21,22,23,76,77,78,79,80,81,82,83,84,85,86,87,88,89,90,91,92,93,94,95,96,97,98,99,100,101,102,103,104,105,106,107] (fun i=>[(11,.sl 3 (PK++X1.take i).length 0 (PK++X1.take i).length),(12,.sl 4 (IK++MK.take i).length 0 (IK++MK.take i).length),(21,.i i)]) (fun i=>[(3,.live false 6 (E false (PK++X1.take i))),(4,.live false 1 (E true (IK++MK.take i)))]) (fun i=>i≤X1.length) (fun i=>X1.length-i) 0 ⟨slE (by simp),slE (by simp),rfl,trivial⟩ ⟨obE (by simp),obE (by simp),trivial⟩ (Nat.zero_le _) ?_
    rintro i i1
    have htl:(MK.take i).length=i:=by rw[List.length_take];omega
    have hxt:(X1.take i).length=i:=by rw[List.length_take];omega
    have hcl:(IK++MK.take i).length≤1000:=by rw[List.length_append];omega
    have hcl2:(PK++X1.take i).length≤1000:=by rw[List.length_append];omega
    by_cases hi:i<X1.length
    ·have hc':=hcp i hi
     have ht:=htk i (by omega)
     have ht2:=take_at (l:=X1) hi
     have ht':IK++MK.take (i+1)=(IK++MK.take i)++[compL r.p (X2.getD i default) IL]:=by rw[ht,List.append_assoc]
     have ht3:PK++X1.take (i+1)=(PK++X1.take i)++[X1.getD i default]:=by rw[ht2,List.append_assoc]
     generalize IK++MK.take i=L at hcl ht'⊢
     generalize PK++X1.take i=L2 at hcl2 ht3⊢
     generalize compL r.p (X2.getD i default) IL=Y at hc' ht'⊢
     repeat' first|refine s1 ?_|fail
     refine AW.draw 17 G.mixed (by kernel_rfl) ?_
     refine Pz (.p 0<|.p 1<|.p 2<|.l 3<|.l 4<|.l 5<|.p 6<|.p 7<|.p 8<|.l 9<|.p 10<|.o 11 true<|.p 12<|.p 13<|.p 14<|.p 15<|.p 16<|.n) ?_
     repeat' first|refine yS ?_|refine s1 ?_|(refine kR ?_;first|refine F.c (hc') ?_)|fail
     any_goals refine lf ?_
     all_goals
      repeat' first|refine s1 ?_|(refine kR ?_;first|refine F.a1 Rep (oo:=false) (a:=X1.getD i default) ?_|refine F.a1 (List Mat) (a:=Y) ?_)|fail
      exact⟨i+1,F.fit ⟨slE (by rw[ht3];simp),slE (by rw[ht'];simp),rfl,trivial⟩ ⟨obE (by rw[ht3]),obE (by rw[ht']),trivial⟩,by omega,by omega⟩
    ·obtain rfl:i=X1.length:=by omega
     have e:MK.take X1.length=MK:=List.take_of_length_le (by omega)
     rw[e,List.take_length,←hIsk,←hPsk]
     repeat' first|refine s1 ?_|fail
     exact⟨_,F.fit ⟨rfl,rfl,rfl,trivial⟩ ⟨rfl,rfl,trivial⟩,⟨by omega,fun j hj=>by rcases Nat.lt_succ_iff_lt_or_eq.1 hj with h|h;exact k2 j h;rw[h];exact hok⟩,by omega⟩
 ·obtain rfl:k=2:=by omega
  rw[hyes k2]
  repeat' first|refine s1 ?_|fail
  refine kM ?_
  exact F.retM rfl trivial
end Go.Proofs.YtjmjamhhppoimaaGreat.V
