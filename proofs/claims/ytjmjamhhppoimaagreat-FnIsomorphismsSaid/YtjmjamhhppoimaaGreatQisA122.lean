/- Texts that the proof needs: A120, A122. -/
import Derived.Test.YtjmjamhhppoimaaGreatQisA126
namespace Go.Proofs.YtjmjamhhppoimaaGreat.V
open V.Enc (enc)
open Go.RowKit G D
set_option linter.unusedVariables false
set_option linter.unusedSimpArgs false
set_option maxHeartbeats 4000000
set_option maxRecDepth 4000
attribute [local irreducible] AW ARg ARA ARet MRet ASil AC AM ARI
theorem l16Parts_m:∀(n:Nat) (r:Rep),isRep r=true→0<r.d.sum→r.d.sum≤n→AM Tryz.prog 350 [.agg (enc false r)] [] [.dt true 6 (E false (ptN n r).1),.dt true 1 (E true (ptN n r).2.1),.b (ptN n r).2.2] []
 |0,r,_,h1,h2=>by omega
 |n+1,r,hr,h1,h2=>by
  cases hfs:(fsP r).2.2 with
  |false=>exact l16Parts_leaf n r hr h1 hfs
  |true=>
   refine l16Parts_step n r hr h1 hfs fun k hk=>?_
   have hh:=half (n:=n) hr hfs hk
   refine l16Parts_m n _ (subR_ok hh.sub) hh.pos ?_
   obtain⟨f1,f2,f3,f4,f5⟩:=fs_facts hr hfs
   rw[dims_sum]
   have:k=0∨k=1:=by omega
   rcases this with e|e<;>subst e
   ·show(dimS (fsP r).1).sum≤_;omega
   ·show(dimS (fsP r).2.1).sum≤_;omega
theorem specPartsOf_m(r:Rep):AM Tryz.prog 259 [.agg (enc false r)] [] [.dt true 6 (E false (psP r).1),.dt true 3 (E true (psP r).2.1),.b (psP r).2.2] []:=by
 refine AM.go Tryz.func259 Tryz.ntmps259 rfl rfl fun w0 mp hw=>?_;simp[WfL,WfA,E_length,Enc.enc,In64] at hw
 have hR:=specIsRep_a r
 cases hr:isRep r with
 |false=>
  rw[hr] at hR
  rw[psP_no1 (by rw[hr];simp)]
  repeat' first|refine s1 ?_|(refine kR ?_;first|refine F.c (hR) ?_)|fail
  refine kM ?_
  exact F.retM rfl trivial
 |true=>
  rw[hr] at hR
  obtain⟨r1,r2,r3,r4⟩:=isRep_spec hr
  obtain⟨c1,c2,c3,c4⟩:=areDims_spec r2
  have h5:=okQ_spec c1
  have hsm:=rep_sum hr
  have hT:=totalOf_a r hr
  by_cases h0:r.d.sum=0
  ·rw[h0] at hT
   rw[psP_no1 (fun x=>x.2 h0)]
   repeat' first|refine s1 ?_|(refine kR ?_;first|refine F.c (hR) ?_|refine F.c (hT) ?_)|fail
   refine kM ?_
   exact F.retM rfl trivial
  ·have hQ:=l16Parts_m r.d.sum.toNat r hr (by omega) (by omega)
   have hok:=pt_ok r.d.sum.toNat r hr (by omega)
   rw[show ptN r.d.sum.toNat r=ptP r from rfl] at hQ hok
   cases hk:(ptP r).2.2 with
   |false=>
    rw[hk] at hQ
    rw[psP_no2 hk]
    generalize ptP r=X at hQ
    obtain⟨X1,X2,X3⟩:=X
    dsimp only at hQ
    generalize r.d.sum=S at hT h0
    repeat' first|refine AW.freezeP (α:=Rep) (oo:=false) r 1 rfl rfl ?_|refine s1 ?_|(refine kR ?_;first|refine F.c (hR) ?_|refine F.c (hT) ?_|(refine jCf 350 ?_;refine F.w (hQ) ?_))|fail
    refine kM ?_
    exact F.retM rfl trivial
   |true=>
    rw[hk] at hQ
    rw[psP_yes hr h0 hk]
    have hcf:=fun v (hv:v<r.d.length) i (hi:i<(ptP r).2.1.length)=>colF hr hok (v:=v) hv hi
    have hl:=hok.len
    have hle:=hok.le
    have hwl:=wholeL_len r (ptP r).2.1
    have hwt:=fun v (hv:v<r.d.length)=>whole_take (g:=(ptP r).2.1) hv
    generalize ptP r=X at hQ hcf hl hle hwl hwt⊢
    obtain⟨X1,X2,X3⟩:=X
    dsimp only at hQ hcf hl hle hwl hwt⊢
    generalize wholeL r X2=WL at hwl hwt⊢
    generalize r.d.sum=S at hT h0 hle hsm
    repeat' first|refine AW.freezeP (α:=Rep) (oo:=false) r 1 rfl rfl ?_|refine s1 ?_|(refine kR ?_;first|refine F.c (hR) ?_|refine F.c (hT) ?_|(refine jCf 350 ?_;refine F.w (hQ) ?_))|fail
    refine AW.freezeA (α:=List Mat) 6 rfl rfl rfl ?_
    refine AW.open 8 3 (.inr rfl) ?_
    refine F.loop (σ:=Nat) [8,9,10,11,33,34,35,36,37,38,39,40,41,42,43,44,45,46,47,48,49,50,51,52,53,54,55,56,57,58,59,60,61,62,63,64] (fun k=>[(8,.sl 3 k 0 k),(9,.i k)]) (fun k=>[(3,.live false 3 (E true (WL.take k)))]) (fun k=>k≤r.d.length) (fun k=>r.d.length-k) 0 ⟨rfl,rfl,trivial⟩ ⟨rfl,trivial⟩ (Nat.zero_le _) ?_
    rintro v v1
    have hp2:(WL.take v).length=v:=by rw[List.length_take];omega
    by_cases hv:v<r.d.length
    ·have hd:0≤r.d.getD v default∧r.d.getD v default≤4:=allIn_spec c3 hv
     have hcv:=hcf v hv
     have hwv:=hwt v hv
     have hZ:AC Tryz.prog 136 [.i (r.d.getD v default),.i 0] [.agg (enc true (besM (r.d.getD v default).toNat (clmL X2 v) 0))]:=by
      have:=l3ZeroT_a (r.d.getD v default).toNat 0 (by omega) (by omega)
      rw[Int.toNat_of_nonneg hd.1] at this
      exact this
     have hBk:∀i,i<X2.length→v<(X2.getD i default).length∧AC Tryz.prog 351 [.agg (enc false (besM (r.d.getD v default).toNat (clmL X2 v) i)),.agg (enc false ((X2.getD i default).getD v default))] [.agg (enc true (besM (r.d.getD v default).toNat (clmL X2 v) (i+1)))]:=fun i hi=>by
      obtain⟨q1,q2,q3,q4⟩:=hcv i hi
      have:=l16Beside_a (r.d.getD v default).toNat (besC (clmL X2 v) i) ((X2.getD i default).getD v default).c.toNat (besG (clmL X2 v) i) (ent ((X2.getD i default).getD v default)) (by omega) (by omega)
      rw[q2,←q4] at this
      exact⟨q1,this⟩
     generalize besM (r.d.getD v default).toNat (clmL X2 v)=BM at hZ hBk hwv
     repeat' first|refine s1 ?_|(refine kR ?_;first|refine F.c (hZ) ?_)|fail
     refine AW.putV 10 2 rfl rfl rfl rfl (E_length _ _) (E_pure _ _) rfl ?_
     refine F.loop (σ:=Nat) [11,46,47,48,49,50,51,52,53,54,55,56,57,58,59,60] (fun i=>[(11,.i i)]) (fun i=>[(5,.live false 3 (E true [BM i]))]) (fun i=>i≤X2.length) (fun i=>X2.length-i) 0 ⟨rfl,trivial⟩ ⟨rfl,trivial⟩ (Nat.zero_le _) ?_
     rintro i i1
     by_cases hi:i<X2.length
     ·obtain⟨hlen,hB'⟩:=hBk i hi
      generalize hY:BM (i+1)=Y at hB'
      refine AW.takeE (α:=Mat) (o:=5) (k:=0) (j:=2) (ls:=[BM i]) rfl (by simp) rfl (E_length _ _) ?_
      repeat' first|refine s1 ?_|fail
      refine AW.draw 9 G.mixed (by kernel_rfl) ?_
      refine Pz (.l 0<|.p 1<|.p 2<|.p 3<|.l 4<|.p 5<|.p 6<|.l 7<|.o 8 true<|.o 9 false<|.n) ?_
      repeat' first|refine yS ?_|refine s1 ?_|(refine kR ?_;first|refine F.c (hB') ?_)|fail
      any_goals refine lf ?_
      all_goals
       repeat' first|refine AW.putV (o2:=7) 10 2 rfl rfl rfl rfl (E_length _ _) (E_pure _ _) rfl ?_|refine s1 ?_|fail
       exact⟨i+1,F.fit ⟨rfl,trivial⟩ ⟨obE (by rw[hY];rfl),trivial⟩,by omega,by omega⟩
     ·obtain rfl:i=X2.length:=by omega
      refine AW.takeE (α:=Mat) (o:=5) (k:=0) (j:=2) (ls:=[BM X2.length]) rfl (by simp) rfl (E_length _ _) ?_
      generalize BM X2.length=Y at hwv⊢
      repeat' first|refine s1 ?_|(refine kR ?_;first|refine F.a1 Mat (a:=Y) ?_)|fail
      exact⟨v+1,F.fit ⟨rfl,rfl,trivial⟩ ⟨obE (by rw[hwv]),trivial⟩,by omega,by omega⟩
    ·obtain rfl:v=r.d.length:=by omega
     have e:WL.take r.d.length=WL:=List.take_of_length_le (by omega)
     rw[e]
     repeat' first|refine s1 ?_|fail
     refine kM ?_
     exact F.retM rfl trivial
def fstA(a:Rep):List Rep→Int
 |[]=>0
 |x::l=>if arI a x≠0 then arI a x else fstA a l
theorem fstA_drop{a:Rep}{l:List Rep}{k:Nat}(h:k<l.length):fstA a (l.drop k)=if arI a (l.getD k default)≠0 then arI a (l.getD k default) else fstA a (l.drop (k+1)):=by
 have e:l.drop k=l.getD k default::l.drop (k+1):=by
  rw[List.drop_eq_getElem_cons h]
  simp[h]
 rw[e]
 rfl
def smdI(a b:Rep):Int:=if fitR a b=true∧indI a=1 then(if b.d.sum=0 then 0 else if(psP b).2.2=true then fstA a (psP b).1 else-1) else-1
theorem smdI_no{a b:Rep}(h:¬(fitR a b=true∧indI a=1)):smdI a b=-1:=by unfold smdI;rw[if_neg h]
theorem smdI_z{a b:Rep}(h:fitR a b=true∧indI a=1)(h0:b.d.sum=0):smdI a b=0:=by unfold smdI;rw[if_pos h,if_pos h0]
theorem smdI_u{a b:Rep}(h:fitR a b=true∧indI a=1)(h0:b.d.sum≠0)(h1:(psP b).2.2=false):smdI a b=-1:=by unfold smdI;rw[if_pos h,if_neg h0,if_neg (by rw[h1];simp)]
theorem smdI_y{a b:Rep}(h:fitR a b=true∧indI a=1)(h0:b.d.sum≠0)(h1:(psP b).2.2=true):smdI a b=fstA a (psP b).1:=by unfold smdI;rw[if_pos h,if_neg h0,if_pos h1]
theorem psP_len(r:Rep):(psP r).1.length≤8:=by
 by_cases h:isRep r=true∧r.d.sum≠0
 ·obtain⟨hr,h0⟩:=h
  cases hk:(ptP r).2.2 with
  |false=>rw[psP_no2 hk];simp
  |true=>
   rw[psP_yes hr h0 hk]
   have hsm:=rep_sum hr
   have hle:=(pt_ok r.d.sum.toNat r hr (by omega)).le
   rw[show ptN r.d.sum.toNat r=ptP r from rfl] at hle
   show(ptP r).1.length≤8
   omega
 ·rw[psP_no1 h];simp
theorem implIsSummand_a(a b:Rep):AC Tryz.prog 103 [.agg (enc false a),.agg (enc false b)] [.i (smdI a b)]:=by
 refine AC.go Tryz.func103 Tryz.ntmps103 rfl rfl fun w0 hw=>?_;simp[WfL,WfA,E_length,Enc.enc,In64] at hw
 have hF:=fit_a a b
 have hI:=implIsIndecomposable_a a
 by_cases h:fitR a b=true∧indI a=1
 ·obtain⟨h1,h2⟩:=h
  have hb:=(fitR_reps h1).2
  obtain⟨r1,r2,r3,r4⟩:=isRep_spec hb
  obtain⟨c1,c2,c3,c4⟩:=areDims_spec r2
  have h5:=okQ_spec c1
  have hT:=sumOf_a b.d (by omega) (fun j hj=>by have:0≤b.d.getD j default∧b.d.getD j default≤4:=allIn_spec c3 hj;omega)
  rw[h1] at hF
  rw[h2] at hI
  by_cases h0:b.d.sum=0
  ·rw[h0] at hT
   rw[smdI_z ⟨h1,h2⟩ h0]
   repeat' first|refine s1 ?_|(refine kR ?_;first|refine F.c (hF) ?_|refine F.c (hI) ?_|refine F.c (hT) ?_)|fail
   (refine kZ ?_;exact F.ret rfl)
  ·have hP:=implPartsOf_a b
   cases hk:(psP b).2.2 with
   |false=>
    rw[hk] at hP
    rw[smdI_u ⟨h1,h2⟩ h0 hk]
    generalize psP b=X at hP
    obtain⟨X1,X2,X3⟩:=X
    dsimp only at hP
    generalize b.d.sum=S at hT h0
    repeat' first|refine s1 ?_|(refine kR ?_;first|refine F.c (hF) ?_|refine F.c (hI) ?_|refine F.c (hT) ?_|refine F.c (hP) ?_)|fail
    (refine kZ ?_;exact F.ret rfl)
   |true=>
    rw[hk] at hP
    rw[smdI_y ⟨h1,h2⟩ h0 hk]
    have hlen:=psP_len b
    generalize psP b=X at hP hlen⊢
    obtain⟨X1,X2,X3⟩:=X
    dsimp only at hP hlen⊢
    generalize b.d.sum=S at hT h0
    have hA:=fun k=>implAreIsomorphic_a a (X1.getD k default)
    have hd:=fun k (hk:k<X1.length)=>fstA_drop (a:=a) hk
    have hd0:fstA a (X1.drop X1.length)=0:=by rw[List.drop_length];rfl
    repeat' first|refine s1 ?_|(refine kR ?_;first|refine F.c (hF) ?_|refine F.c (hI) ?_|refine F.c (hT) ?_|refine F.c (hP) ?_)|fail
    refine AW.freezeA (α:=Rep) 32 rfl rfl rfl ?_
    refine F.loop (σ:=Nat) [4,9,10,34,35,36,37,38,39,40,41,42,43,44] (fun k=>[(34,.i k)]) (fun _=>[]) (fun k=>k≤X1.length∧fstA a X1=fstA a (X1.drop k)) (fun k=>X1.length-k) 0 ⟨rfl,trivial⟩ trivial ⟨Nat.zero_le _,rfl⟩ ?_
    rintro k ⟨k1,k2⟩
    by_cases hk':k<X1.length
    ·have hAk:=hA k
     rw[hd k hk'] at k2
     generalize hz:arI a (X1.getD k default)=z at hAk k2
     by_cases hz0:z=0
     ·subst hz0
      rw[if_neg (by simp)] at k2
      repeat' first|refine s1 ?_|(refine kR ?_;first|refine F.c (hAk) ?_)|fail
      exact⟨k+1,F.fit ⟨rfl,trivial⟩ trivial,⟨by omega,k2⟩,by omega⟩
     ·rw[if_pos hz0] at k2
      rw[k2]
      repeat' first|refine s1 ?_|(refine kR ?_;first|refine F.c (hAk) ?_)|fail
      (refine kZ ?_;exact F.ret rfl)
    ·obtain rfl:k=X1.length:=by omega
     rw[k2,hd0]
     repeat' first|refine s1 ?_|fail
     (refine kZ ?_;exact F.ret rfl)
 ·rw[smdI_no h]
  cases h1:fitR a b with
  |false=>
   rw[h1] at hF
   repeat' first|refine s1 ?_|(refine kR ?_;first|refine F.c (hF) ?_)|fail
   (refine kZ ?_;exact F.ret rfl)
  |true=>
   have h2:indI a≠1:=fun e=>h ⟨h1,e⟩
   rw[h1] at hF
   generalize indI a=z at hI h2
   repeat' first|refine s1 ?_|(refine kR ?_;first|refine F.c (hF) ?_|refine F.c (hI) ?_)|fail
   (refine kZ ?_;exact F.ret rfl)
theorem specIsSummand_a(a b:Rep):AC Tryz.prog 104 [.agg (enc false a),.agg (enc false b)] [.i (smdI a b)]:=by
 refine AC.go Tryz.func104 Tryz.ntmps104 rfl rfl fun w0 hw=>?_;simp[WfL,WfA,E_length,Enc.enc,In64] at hw
 have hF:=l9Fit_a a b
 have hI:=specIsIndecomposable_a a
 by_cases h:fitR a b=true∧indI a=1
 ·obtain⟨h1,h2⟩:=h
  have hb:=(fitR_reps h1).2
  have hT:=totalOf_a b hb
  have hP:=specPartsOf_m b
  rw[h1] at hF
  rw[h2] at hI
  by_cases h0:b.d.sum=0
  ·rw[h0] at hT
   rw[smdI_z ⟨h1,h2⟩ h0]
   generalize psP b=X at hP
   obtain⟨X1,X2,X3⟩:=X
   dsimp only at hP
   repeat' first|refine AW.freezeP (α:=Rep) (oo:=false) b 3 rfl rfl ?_|refine s1 ?_|(refine kR ?_;first|refine F.c (hF) ?_|refine F.c (hI) ?_|refine F.c (hT) ?_|(refine jCf 259 ?_;refine F.w (hP) ?_))|fail
   (refine kZ ?_;exact F.ret rfl)
  ·cases hk:(psP b).2.2 with
   |false=>
    rw[hk] at hP
    rw[smdI_u ⟨h1,h2⟩ h0 hk]
    generalize psP b=X at hP
    obtain⟨X1,X2,X3⟩:=X
    dsimp only at hP
    generalize b.d.sum=S at hT h0
    repeat' first|refine AW.freezeP (α:=Rep) (oo:=false) b 3 rfl rfl ?_|refine s1 ?_|(refine kR ?_;first|refine F.c (hF) ?_|refine F.c (hI) ?_|refine F.c (hT) ?_|(refine jCf 259 ?_;refine F.w (hP) ?_))|fail
    (refine kZ ?_;exact F.ret rfl)
   |true=>
    rw[hk] at hP
    rw[smdI_y ⟨h1,h2⟩ h0 hk]
    have hlen:=psP_len b
    generalize psP b=X at hP hlen⊢
    obtain⟨X1,X2,X3⟩:=X
    dsimp only at hP hlen⊢
    generalize b.d.sum=S at hT h0
    have hA:=fun k=>specAreIsomorphic_a a (X1.getD k default)
    have hd:=fun k (hk:k<X1.length)=>fstA_drop (a:=a) hk
    have hd0:fstA a (X1.drop X1.length)=0:=by rw[List.drop_length];rfl
    repeat' first|refine AW.freezeP (α:=Rep) (oo:=false) b 3 rfl rfl ?_|refine s1 ?_|(refine kR ?_;first|refine F.c (hF) ?_|refine F.c (hI) ?_|refine F.c (hT) ?_|(refine jCf 259 ?_;refine F.w (hP) ?_))|fail
    refine AW.freezeP (α:=Rep) (oo:=false) a 2 rfl rfl ?_
    refine AW.freezeA (α:=Rep) 5 rfl rfl rfl ?_
    refine F.loop (σ:=Nat) [4,8,9,30,31,32,33,34,35,36,37,38,39,40,41,42,43,44] (fun k=>[(8,.i k)]) (fun _=>[]) (fun k=>k≤X1.length∧fstA a X1=fstA a (X1.drop k)) (fun k=>X1.length-k) 0 ⟨rfl,trivial⟩ trivial ⟨Nat.zero_le _,rfl⟩ ?_
    rintro k ⟨k1,k2⟩
    by_cases hk':k<X1.length
    ·have hAk:=hA k
     rw[hd k hk'] at k2
     generalize hz:arI a (X1.getD k default)=z at hAk k2
     by_cases hz0:z=0
     ·subst hz0
      rw[if_neg (by simp)] at k2
      repeat' first|refine s1 ?_|fail
      refine AW.draw 7 G.mixed (by kernel_rfl) ?_
      refine Pz (.l 0<|.p 1<|.p 2<|.p 3<|.l 4<|.o 5 true<|.p 6<|.n) ?_
      repeat' first|refine yS ?_|refine s1 ?_|(refine kR ?_;first|refine F.c (hAk) ?_)|fail
      any_goals refine lf ?_
      all_goals
       repeat' first|refine s1 ?_|fail
       exact⟨k+1,F.fit ⟨rfl,trivial⟩ trivial,⟨by omega,k2⟩,by omega⟩
     ·rw[if_pos hz0] at k2
      rw[k2]
      repeat' first|refine s1 ?_|fail
      refine AW.draw 7 G.mixed (by kernel_rfl) ?_
      refine Pz (.l 0<|.p 1<|.p 2<|.p 3<|.l 4<|.o 5 true<|.p 6<|.n) ?_
      repeat' first|refine yS ?_|refine s1 ?_|(refine kR ?_;first|refine F.c (hAk) ?_)|fail
      any_goals refine lf ?_
      all_goals
       repeat' first|refine s1 ?_|fail
       (refine kZ ?_;exact F.ret rfl)
    ·obtain rfl:k=X1.length:=by omega
     rw[k2,hd0]
     repeat' first|refine s1 ?_|fail
     (refine kZ ?_;exact F.ret rfl)
 ·rw[smdI_no h]
  cases h1:fitR a b with
  |false=>
   rw[h1] at hF
   repeat' first|refine s1 ?_|(refine kR ?_;first|refine F.c (hF) ?_)|fail
   (refine kZ ?_;exact F.ret rfl)
  |true=>
   have h2:indI a≠1:=fun e=>h ⟨h1,e⟩
   rw[h1] at hF
   generalize indI a=z at hI h2
   repeat' first|refine s1 ?_|(refine kR ?_;first|refine F.c (hF) ?_|refine F.c (hI) ?_)|fail
   (refine kZ ?_;exact F.ret rfl)
end Go.Proofs.YtjmjamhhppoimaaGreat.V
