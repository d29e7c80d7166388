/- Texts that the proof needs: A198, A201, A207, A208, A209, A82, Down. -/
import Derived.Test.YtjmjamhhppoimaaGreatQraA204
import Derived.JoinedOf
namespace Go.Proofs.YtjmjamhhppoimaaGreat.V
open V.Enc (enc)
open Go.RowKit G D
set_option linter.unusedVariables false
set_option linter.unusedSimpArgs false
set_option maxHeartbeats 4000000
set_option maxRecDepth 4000
attribute [local irreducible] AW ARg ARA ARet MRet ASil AC AM AMx ACx AD ARI
theorem implTotalOf_a(r:Rep):AC Tryz.prog 40 [.agg (enc false r)] [.i (if isRep r=true then r.d.sum else-1)]:=by
 refine AC.go Tryz.func40 Tryz.ntmps40 rfl rfl fun w0 hw=>?_;simp[WfL,WfA,E_length,Enc.enc,In64] at hw
 have hR:=implIsRep_a r
 cases hr:isRep r with
 |false=>
  rw[hr] at hR
  rw[if_neg (by simp)]
  repeat' first|refine s1 ?_|(refine kR ?_;first|refine F.c (hR) ?_)|fail
  (refine kZ ?_;exact F.ret rfl)
 |true=>
  rw[hr] at hR
  rw[if_pos rfl]
  obtain⟨r1,r2,r3,r4⟩:=isRep_spec hr
  obtain⟨c1,c2,c3,c4⟩:=areDims_spec r2
  have h5:=okQ_spec c1
  have hS:=sumOf_a r.d (by omega) (fun j hj=>by have:0≤r.d.getD j default∧r.d.getD j default≤4:=allIn_spec c3 hj;omega)
  generalize r.d.sum=z at hS⊢
  repeat' first|refine s1 ?_|(refine kR ?_;first|refine F.c (hR) ?_|refine F.c (hS) ?_)|fail
  (refine kZ ?_;exact F.ret rfl)
theorem sameSL_refl(s:List Spc):sameSL s s=true:=by simp[sameSL,sameS]
def genOk(r:Rep)(v:Int)(x:List Int):Prop:=isRep r=true∧(0≤v∧v.toNat<r.d.length)∧isVec r.p x=true∧(x.length:Int)=r.d.getD v.toNat default
theorem genOk.w{r:Rep}{v:Int}{x:List Int}(h:genOk r v x):x.length=(r.d.getD v.toNat default).toNat∧∀j,j<(r.d.getD v.toNat default).toNat→0≤x.getD j default∧x.getD j default≤r.p-1:=by
 obtain⟨h1,h2,h3,h4⟩:=h
 have hl:x.length=(r.d.getD v.toNat default).toNat:=by omega
 refine⟨hl,fun j hj=>?_⟩
 simp only[isVec,Bool.and_eq_true] at h3
 exact allIn_spec h3.2 (by omega)
theorem nil_small:smallS []:=fun v hv=>absurd hv (Nat.not_lt_zero v)
def okT(l:List Int):Prop:=l.length≤1000∧∀j,j<l.length→-1000≤l.getD j default∧l.getD j default≤1000
theorem topD_okT{x:Rep}(hx:isRep x=true):okT (topD x):=by
 obtain⟨c1,c2,c3,c4⟩:=areDims_spec (isRep_spec hx).2.1
 have h5:=okQ_spec c1
 obtain⟨h1,h2⟩:=topD_bd hx
 exact⟨by omega,fun j hj=>by have:=h2 j hj;omega⟩
theorem lay_okT:∀(f:Nat) (x:Rep) (out:List (List Int)),isRep x=true→(∀k,k<out.length→okT (out.getD k default))→(layR f x out).1.length≤out.length+f∧∀k,k<(layR f x out).1.length→okT ((layR f x out).1.getD k default)
 |0,x,out,_,_=>by
  rw[layR]
  exact⟨Nat.zero_le _,fun k hk=>absurd hk (Nat.not_lt_zero k)⟩
 |f+1,x,out,hx,h=>by
  rw[layR]
  by_cases e:x.d.sum=0
  ·rw[if_pos e]
   exact⟨by dsimp only;omega,h⟩
  ·rw[if_neg e]
   have:=lay_okT f (radR x) (out++[topD x]) (radR_ok hx) fun k hk=>by
    by_cases hk2:k<out.length
    ·have:=h k hk2
     simpa[List.getD_eq_getElem?_getD,List.getElem?_append_left hk2] using this
    ·obtain rfl:k=out.length:=by simp at hk;omega
     simpa using topD_okT hx
   rw[List.length_append] at this
   exact⟨by have:=this.1;simp at this;omega,this.2⟩
theorem layP_okT(r:Rep):(layP r).1.length≤9∧∀k,k<(layP r).1.length→okT ((layP r).1.getD k default):=by
 unfold layP
 by_cases hr:isRep r=true
 ·rw[if_pos hr]
  have:=lay_okT 9 r [] hr fun k hk=>absurd hk (Nat.not_lt_zero k)
  simpa using this
 ·rw[if_neg hr]
  exact⟨Nat.zero_le _,fun k hk=>absurd hk (Nat.not_lt_zero k)⟩
theorem okT.sum{l:List Int}(h:okT l):-1000000≤l.sum∧l.sum≤1000000:=by
 have:∀k,k≤l.length→-(1000*(k:Int))≤(l.take k).sum∧(l.take k).sum≤1000*(k:Int):=fun k=>by
  induction k with
  |zero=>intro _;simp
  |succ k ih=>
   intro hk
   have h1:=ih (by omega)
   have h2:=h.2 k (by omega)
   rw[List.take_add_one,List.sum_append]
   rw[show l[k]?.toList=[l.getD k default] by simp[List.getElem?_eq_getElem (show k<l.length by omega)]]
   simp only[List.sum_cons,List.sum_nil]
   omega
 have h1:=this l.length (Nat.le_refl _)
 rw[List.take_length] at h1
 have:=h.1
 omega
def totK(m:List (List Int))(k:Nat):Int:=((m.take k).map List.sum).sum
theorem totK_next{m:List (List Int)}{k:Nat}(hk:k<m.length):totK m (k+1)=totK m k+(m.getD k default).sum:=by
 unfold totK
 rw[List.take_add_one,List.map_append,List.sum_append]
 rw[show m[k]?.toList=[m.getD k default] by simp[List.getElem?_eq_getElem hk]]
 simp
theorem totK_full(m:List (List Int)):totK m m.length=(m.map List.sum).sum:=by unfold totK;rw[List.take_length]
theorem totK_bd{m:List (List Int)}(h9:m.length≤9)(h:∀k,k<m.length→okT (m.getD k default)):∀k,k≤m.length→-(1000000*(k:Int))≤totK m k∧totK m k≤1000000*(k:Int)
 |0,_=>by simp[totK]
 |k+1,hk=>by
  have h1:=totK_bd h9 h k (by omega)
  have h2:=(h k (by omega)).sum
  rw[totK_next (by omega)]
  omega
theorem radP_facts(r:Rep):(radP r).2=isRep r∧(socP r).2=isRep r∧smallS (radP r).1∧smallS (socP r).1∧(isRep r=true→isSub r (radP r).1=true∧isSub r (socP r).1=true):=by
 unfold radP socP
 by_cases hr:isRep r=true
 ·rw[if_pos hr,if_pos hr]
  exact⟨hr.symm,hr.symm,sub_small (rad_sub hr),sub_small (soc_sub hr),fun _=>⟨rad_sub hr,soc_sub hr⟩⟩
 ·rw[if_neg hr,if_neg hr]
  exact⟨by simpa using hr,by simpa using hr,nil_small,nil_small,fun h=>absurd h hr⟩
theorem topD_yes(r:Rep):0<(topD r).length→isRep r=true∧(topD r).length=r.d.length:=fun h=>by
 by_cases hr:isRep r=true
 ·exact⟨hr,(topD_bd hr).1⟩
 ·unfold topD at h
  rw[if_neg hr] at h
  exact absurd h (Nat.not_lt_zero _)
theorem top_hom{r:Rep}{v:Nat}(hv:v<(topD r).length):homD r (simpleR r.p r.q (v:Int)).1=(topD r).getD v default∧homD (simpleR r.p r.q (v:Int)).1 r=(socD r).getD v default:=by
 obtain⟨hr,hl⟩:=topD_yes r (by omega)
 have hS:=(sim_at hr (by omega:v<r.d.length)).2
 exact⟨hom_top hS hr (by omega),hom_soc hS hr (by omega)⟩
theorem socD_topl{r:Rep}(h:0<(topD r).length):(socD r).length=(topD r).length:=by
 obtain⟨hr,hl⟩:=topD_yes r h
 unfold socD
 rw[if_pos hr,dimS_len,socL_len,hl]
theorem lay_facts(r:Rep):((layP r).2=true→isRep r=true∧((layP r).1.map List.sum).sum=r.d.sum)∧(isRep r=true→(orderQ r.q).2=true→(layP r).2=true):=⟨lay_total,lay_acyclic⟩
end Go.Proofs.YtjmjamhhppoimaaGreat.V
namespace Go.Proofs.YtjmjamhhppoimaaGreat.V
open V.Enc (enc)
open Go.RowKit G D
set_option linter.unusedVariables false
set_option linter.unusedSimpArgs false
set_option maxHeartbeats 4000000
set_option maxRecDepth 4000
attribute [local irreducible] AW ARg ARA ARet MRet ASil AC AM ARI
def addT(o:List Int)(m:Int)(d:List Int)(j:Nat):List Int:=rowL o.length fun w=>if w<j then o.getD w default+m*d.getD w default else o.getD w default
theorem addT_len(o:List Int)(m:Int)(d:List Int)(j:Nat):(addT o m d j).length=o.length:=rowL_len ..
theorem addT_zero(o:List Int)(m:Int)(d:List Int):addT o m d 0=o:=by
 unfold addT
 rw[rowL_ext (g:=fun v=>o.getD v default) fun v hv=>by simp]
 exact rowL_of rfl
theorem addT_get{o:List Int}{m:Int}{d:List Int}{j:Nat}(h:j<o.length):(addT o m d j).getD j default=o.getD j default:=by
 unfold addT;rw[rowL_get _ h,if_neg (by omega)]
theorem addT_set{o:List Int}{m:Int}{d:List Int}{j:Nat}(h:j<o.length):(addT o m d j).set j (o.getD j default+m*d.getD j default)=addT o m d (j+1):=by
 apply List.ext_getElem (by simp[addT])
 intro i h1 h2
 rw[List.getElem_set]
 simp only[addT,rowL,List.getElem_map,List.getElem_range]
 by_cases e:j=i
 ·subst e;simp
 ·have:i<j+1↔i<j:=by omega
  simp[e,this]
def covK(q:Quiv)(t:List Int)(n:Nat):Nat→List Int
 |0=>List.replicate n 0
 |v+1=>addT (covK q t n v) (t.getD v default) (projD q (v:Int)) n
theorem covK_len(q:Quiv)(t:List Int)(n:Nat):∀k,(covK q t n k).length=n
 |0=>by simp[covK]
 |k+1=>by rw[covK,addT_len,covK_len q t n k]
theorem projD_ok{q:Quiv}{v:Nat}(ho:(orderQ q).2=true)(hv:v<q.n.toNat):(projD q (v:Int)).length=q.n.toNat∧∀w,w<q.n.toNat→0≤(projD q (v:Int)).getD w default∧(projD q (v:Int)).getD w default≤100000:=by
 have hq:=order_ok ho
 have h5:=okQ_spec hq
 unfold projD dimsF
 rw[if_pos ⟨ho,by omega,by omega⟩]
 refine⟨by simp,fun w hw=>?_⟩
 have e:((List.range q.n.toNat).map fun(w:Nat)=>countP q (v:Int) (w:Int)).getD w default=countP q (v:Int) (w:Int):=by simp[hw]
 rw[e]
 have hb:betwB q (v:Int) (w:Int)=true:=by
  simp only[betwB,Bool.and_eq_true,decide_eq_true_eq]
  exact⟨⟨ho,by omega,by omega⟩,by omega,by omega⟩
 unfold countP
 rw[if_pos hb]
 have:=betw_le hq (v:Int) (w:Int)
 omega
theorem covK_bd{q:Quiv}{t:List Int}(ho:(orderQ q).2=true)(ht:∀j,j<q.n.toNat→0≤t.getD j default∧t.getD j default≤4):∀k,k≤q.n.toNat→∀w,w<q.n.toNat→0≤(covK q t q.n.toNat k).getD w default∧(covK q t q.n.toNat k).getD w default≤400000*k
 |0,_,w,hw=>by
  have:(covK q t q.n.toNat 0).getD w default=0:=by simp[covK,hw]
  rw[this];omega
 |k+1,hk,w,hw=>by
  have ih:=covK_bd ho ht k (by omega) w hw
  have hl:=covK_len q t q.n.toNat k
  have hd:=(projD_ok ho (v:=k) (by omega)).2 w hw
  have htk:=ht k (by omega)
  rw[covK]
  unfold addT
  rw[rowL_get _ (by omega),if_pos hw]
  have h1:t.getD k default*(projD q (k:Int)).getD w default≤4*100000:=Int.mul_le_mul htk.2 hd.2 hd.1 (by omega)
  have h0:=Int.mul_nonneg htk.1 hd.1
  push_cast
  omega
def covD(r:Rep):List Int:=if isRep r=true∧(orderQ r.q).2=true then covK r.q (topD r) r.q.n.toNat r.q.n.toNat else[]
theorem implCoverDims_a(r:Rep):AC Tryz.prog 72 [.agg (enc false r)] [.dt true 1 (E true (covD r))]:=by
 refine AC.go Tryz.func72 Tryz.ntmps72 rfl rfl fun w0 hw=>?_;simp[WfL,WfA,E_length,Enc.enc,In64] at hw
 have hF:=implIsRep_a r
 unfold covD
 cases h:isRep r with
 |false=>
  rw[h] at hF
  rw[if_neg (by simp)]
  repeat' first|refine s1 ?_|(refine kR ?_;first|refine F.c (hF) ?_)|fail
  (refine kZ ?_;exact F.ret rfl)
 |true=>
  rw[h] at hF
  have hA:=implIsAcyclic_a r.q
  cases ho:(orderQ r.q).2 with
  |false=>
   rw[ho] at hA
   rw[if_neg (by simp)]
   repeat' first|refine s1 ?_|(refine kR ?_;first|refine F.c (hF) ?_|refine F.c (hA) ?_)|fail
   (refine kZ ?_;exact F.ret rfl)
  |true=>
   rw[ho] at hA
   rw[if_pos ⟨rfl,rfl⟩]
   obtain⟨r1,r2,r3,r4⟩:=isRep_spec h
   obtain⟨c1,c2,c3,_⟩:=areDims_spec r2
   have h5:=okQ_spec c1
   have hT:=implTopDims_a r
   obtain⟨t1,t2⟩:=topD_bd h
   have hcb:=covK_bd (t:=topD r) ho (fun j hj=>t2 j (by omega))
   have hPd:=fun v (hv:v<r.q.n.toNat)=>projD_ok ho hv
   have hPc:=fun v:Nat=>implProjectiveDims_a r.q (v:Int)
   have hcl:=covK_len r.q (topD r) r.q.n.toNat
   have hst:∀v,covK r.q (topD r) r.q.n.toNat (v+1)=addT (covK r.q (topD r) r.q.n.toNat v) ((topD r).getD v default) (projD r.q (v:Int)) r.q.n.toNat:=fun v=>rfl
   generalize topD r=T at*
   generalize hN:r.q.n.toNat=n at*
   have hdn:r.d.length=n:=by omega
   have hTn:T.length=n:=by omega
   repeat' first|refine s1 ?_|(refine kR ?_;first|refine F.c (hF) ?_|refine F.c (hA) ?_|refine F.mk (m:=n) Int rfl rfl (by omega) (mkB (by omega)) (by omega) rfl rfl ?_|refine F.c (hT) ?_)|fail
   rw[show List.replicate n (0:Int)=covK r.q T n 0 from rfl]
   refine F.loop (σ:=Nat) [4,5,6,7,24,25,26,27,28,29,30,31,32,33,34,35,36,37,38,39,40,41,42,43,44,45,46,47,48,49] (fun k=>[(24,.i k)]) (fun k=>[(1,.live false 1 (E true (covK r.q T n k)))]) (fun k=>k≤n) (fun k=>n-k) 0 ⟨rfl,trivial⟩ ⟨rfl,trivial⟩ (Nat.zero_le _) ?_
   rintro k k1
   have hlk:=hcl k
   by_cases hk:k<n
   ·obtain⟨p1,p2⟩:=hPd k hk
    have hcbk:=hcb k (by omega)
    have hP:=hPc k
    have hsk:=hst k
    have htk:=t2 k (by omega)
    generalize projD r.q (k:Int)=PD at p1 p2 hP hsk
    generalize covK r.q T n k=X at hlk hcbk hsk⊢
    rw[←Nat.zero_add k] at htk
    repeat' first|refine s1 ?_|(refine kR ?_;first|refine F.c (hP) ?_)|fail
    refine F.loop (σ:=Nat) [6,7,34,35,36,37,38,39,40,41,42,43,44,45,46,47,48] (fun j=>[(34,.i j)]) (fun j=>[(1,.live false 1 (E true (addT X (T.getD (0+k) default) PD j)))]) (fun j=>j≤n) (fun j=>n-j) 0 ⟨rfl,trivial⟩ ⟨obE (by rw[addT_zero]),trivial⟩ (Nat.zero_le _) ?_
    rintro j j1
    have hjl:=addT_len X (T.getD (0+k) default) PD j
    by_cases hj:j<n
    ·have e1:=addT_get (o:=X) (m:=T.getD (0+k) default) (d:=PD) (j:=j) (by omega)
     have e2:=addT_set (o:=X) (m:=T.getD (0+k) default) (d:=PD) (j:=j) (by omega)
     have b1:=hcbk j hj
     have b2:=p2 j hj
     have m1:T.getD (0+k) default*PD.getD j default≤4*100000:=Int.mul_le_mul htk.2 b2.2 b2.1 (by omega)
     have m0:=Int.mul_nonneg htk.1 b2.1
     generalize addT X (T.getD (0+k) default) PD j=Y at hjl e1 e2⊢
     rw[←e1] at e2 b1
     have i1:In64 (T.getD (0+k) default*PD.getD (0+j) default):=by rw[Nat.zero_add j];unfold In64;omega
     have i2:In64 (Y.getD (0+j) default+T.getD (0+k) default*PD.getD (0+j) default):=by rw[Nat.zero_add j];unfold In64;omega
     repeat' first|refine s1 ?_|fail
     exact⟨j+1,F.fit ⟨rfl,trivial⟩ ⟨obE (by rw[Nat.zero_add j,e2]),trivial⟩,by omega,by omega⟩
    ·obtain rfl:j=n:=by omega
     repeat' first|refine s1 ?_|fail
     exact⟨k+1,F.fit ⟨rfl,trivial⟩ ⟨obE (by rw[hsk,Nat.zero_add k]),trivial⟩,by omega,by omega⟩
   ·obtain rfl:k=n:=by omega
    generalize covK r.q T k k=X at hlk⊢
    rw[←hlk]
    repeat' first|refine s1 ?_|fail
    (refine kZ ?_;exact F.ret rfl)
theorem specCoverDims_a(r:Rep):AC Tryz.prog 73 [.agg (enc false r)] [.dt true 1 (E true (covD r))]:=by
 refine AC.go Tryz.func73 Tryz.ntmps73 rfl rfl fun w0 hw=>?_;simp[WfL,WfA,E_length,Enc.enc,In64] at hw
 have hT:=specTopDims_a r
 unfold covD
 cases h:isRep r with
 |false=>
  have e:topD r=[]:=by unfold topD;rw[if_neg (by simp[h])]
  rw[e] at hT
  rw[if_neg (by simp)]
  repeat' first|refine s1 ?_|(refine kR ?_;first|refine F.c (hT) ?_)|fail
  (refine kZ ?_;exact F.ret rfl)
 |true=>
  have hA:=specIsAcyclic_a r.q
  obtain⟨r1,r2,r3,r4⟩:=isRep_spec h
  obtain⟨c1,c2,c3,_⟩:=areDims_spec r2
  have h5:=okQ_spec c1
  obtain⟨t1,t2⟩:=topD_bd h
  cases ho:(orderQ r.q).2 with
  |false=>
   rw[ho] at hA
   rw[if_neg (by simp)]
   generalize topD r=T at*
   repeat' first|refine s1 ?_|(refine kR ?_;first|refine F.c (hT) ?_|refine F.c (hA) ?_)|fail
   (refine kZ ?_;exact F.ret rfl)
  |true=>
   rw[ho] at hA
   rw[if_pos ⟨rfl,rfl⟩]
   have hcb:=covK_bd (t:=topD r) ho (fun j hj=>t2 j (by omega))
   have hPd:=fun v (hv:v<r.q.n.toNat)=>projD_ok ho hv
   have hPc:=fun v:Nat=>specProjectiveDims_a r.q (v:Int)
   have hcl:=covK_len r.q (topD r) r.q.n.toNat
   have hst:∀v,covK r.q (topD r) r.q.n.toNat (v+1)=addT (covK r.q (topD r) r.q.n.toNat v) ((topD r).getD v default) (projD r.q (v:Int)) r.q.n.toNat:=fun v=>rfl
   generalize topD r=T at*
   generalize hN:r.q.n.toNat=n at*
   have hdn:r.d.length=n:=by omega
   have hTn:T.length=n:=by omega
   repeat' first|refine s1 ?_|(refine kR ?_;first|refine F.c (hT) ?_|refine F.c (hA) ?_|refine F.mk (m:=n) Int rfl rfl (by omega) (mkB (by omega)) (by omega) rfl rfl ?_)|fail
   rw[show List.replicate n (0:Int)=covK r.q T n 0 from rfl]
   refine F.loop (σ:=Nat) [5,6,7,23,24,25,26,27,28,29,30,31,32,33,34,35,36,37,38,39,40,41,42,43,44,45,46,47,48,49,50,51,52,53,54,55] (fun k=>[(5,.i k)]) (fun k=>[(2,.live false 1 (E true (covK r.q T n k)))]) (fun k=>k≤n) (fun k=>n-k) 0 ⟨rfl,trivial⟩ ⟨rfl,trivial⟩ (Nat.zero_le _) ?_
   rintro k k1
   have hlk:=hcl k
   by_cases hk:k<n
   ·obtain⟨p1,p2⟩:=hPd k hk
    have hcbk:=hcb k (by omega)
    have hP:=hPc k
    have hsk:=hst k
    have htk:=t2 k (by omega)
    generalize projD r.q (k:Int)=PD at p1 p2 hP hsk
    generalize covK r.q T n k=X at hlk hcbk hsk⊢
    rw[←Nat.zero_add k] at htk
    repeat' first|refine s1 ?_|(refine kR ?_;first|refine F.c (hP) ?_)|fail
    refine F.loop (σ:=Nat) [7,33,34,35,36,37,38,39,40,41,42,43,44,45,46,47,48,49,50,51,52,53,54,55] (fun j=>[(7,.i j)]) (fun j=>[(2,.live false 1 (E true (addT X (T.getD (0+k) default) PD j)))]) (fun j=>j≤n) (fun j=>n-j) 0 ⟨rfl,trivial⟩ ⟨obE (by rw[addT_zero]),trivial⟩ (Nat.zero_le _) ?_
    rintro j j1
    have hjl:=addT_len X (T.getD (0+k) default) PD j
    by_cases hj:j<n
    ·have e1:=addT_get (o:=X) (m:=T.getD (0+k) default) (d:=PD) (j:=j) (by omega)
     have e2:=addT_set (o:=X) (m:=T.getD (0+k) default) (d:=PD) (j:=j) (by omega)
     have b1:=hcbk j hj
     have b2:=p2 j hj
     have m1:T.getD (0+k) default*PD.getD j default≤4*100000:=Int.mul_le_mul htk.2 b2.2 b2.1 (by omega)
     have m0:=Int.mul_nonneg htk.1 b2.1
     generalize addT X (T.getD (0+k) default) PD j=Y at hjl e1 e2⊢
     rw[←e1] at e2 b1
     have i1:In64 (T.getD (0+k) default*PD.getD (0+j) default):=by rw[Nat.zero_add j];unfold In64;omega
     have i2:In64 (Y.getD (0+j) default+T.getD (0+k) default*PD.getD (0+j) default):=by rw[Nat.zero_add j];unfold In64;omega
     repeat' first|refine s1 ?_|fail
     refine AW.draw 17 G.mixed (by kernel_rfl) ?_
     refine Pz (.p 0<|.p 1<|.p 2<|.p 3<|.p 4<|.l 5<|.p 6<|.p 7<|.p 8<|.l 9<|.p 10<|.p 11<|.p 12<|.l 13<|.p 14<|.p 15<|.p 16<|.o 17 false<|.n) ?_
     repeat' first|refine yS ?_|refine s1 ?_|fail
     any_goals refine lf ?_
     all_goals
      repeat' first|refine s1 ?_|fail
      exact⟨j+1,F.fit ⟨rfl,trivial⟩ ⟨obE (by rw[Nat.zero_add j,e2]),trivial⟩,by omega,by omega⟩
    ·obtain rfl:j=n:=by omega
     repeat' first|refine s1 ?_|fail
     exact⟨k+1,F.fit ⟨rfl,trivial⟩ ⟨obE (by rw[hsk,Nat.zero_add k]),trivial⟩,by omega,by omega⟩
   ·obtain rfl:k=n:=by omega
    generalize covK r.q T k k=X at hlk⊢
    rw[←hlk]
    repeat' first|refine s1 ?_|fail
    (refine kZ ?_;exact F.ret rfl)
end Go.Proofs.YtjmjamhhppoimaaGreat.V
namespace Go.Proofs.YtjmjamhhppoimaaGreat.V
open Go
set_option linter.unusedVariables false
def leads(P:Program)(g:FuncId):List FuncId:=(P.funcs[g]?).elim [] P.leadsTo
def Closed(P:Program)(T:List FuncId):Prop:=∀g∈T,∀h∈leads P g,h∈T
theorem recurses_at{P:Program}{f:FuncId}(g h:FuncId)(hg:(P.closure f).contains g=true)(hh:(leads P g).contains h=true)(hc:(P.closure h).contains g=true):P.recurses f=true:=by
 unfold Program.recurses
 rw[Bool.or_eq_true]
 refine .inr (List.any_eq_true.2 ⟨g,List.contains_iff_mem.1 hg,List.any_eq_true.2 ⟨h,?_,hc⟩⟩)
 exact List.contains_iff_mem.1 hh
end Go.Proofs.YtjmjamhhppoimaaGreat.V
