/- Texts that the proof needs: A12, A15, A17. -/
import Derived.Test.YtjmjamhhppoimaaGreatQstA8
namespace Go.Proofs.YtjmjamhhppoimaaGreat.V
open V.Enc (enc)
open Go.RowKit G D
set_option linter.unusedVariables false
set_option linter.unusedSimpArgs false
set_option maxHeartbeats 400000
set_option maxRecDepth 4000
attribute [local irreducible] AW ARg ARA ARet MRet ASil AC AM
def fitM(r:Rep)(i:Nat):Bool:=isMat r.p (r.m.getD i default)&&decide ((r.m.getD i default).c=r.d.getD (r.q.fr.getD i default).toNat default)&&decide ((r.m.getD i default).r=r.d.getD (r.q.to.getD i default).toNat default)
def isRep(r:Rep):Bool:=isF r.p&&areDims r.q r.d&&decide (r.m.length=r.q.fr.length)&&(List.range r.m.length).all (fitM r)
theorem areDims_spec{q:Quiv}{d:List Int}(h:areDims q d=true):okQ q=true∧(d.length:Int)=q.n∧allIn 0 4 d=true∧d.sum≤8:=by
 simp only[areDims,Bool.and_eq_true,decide_eq_true_eq] at h
 exact⟨h.1.1.1,h.1.1.2,h.1.2,h.2⟩
theorem isRep_spec{r:Rep}(h:isRep r=true):isF r.p=true∧areDims r.q r.d=true∧r.m.length=r.q.fr.length∧∀j,j<r.m.length→fitM r j=true:=by
 simp only[isRep,Bool.and_eq_true,decide_eq_true_eq,List.all_eq_true] at h
 exact⟨h.1.1.1,h.1.1.2,h.1.2,fun j hj=>h.2 j (by simpa using hj)⟩
theorem implIsRep_a(r:Rep):AC Tryz.prog 127 [.agg (enc false r)] [.b (isRep r)]:=by
 refine AC.go Tryz.func127 Tryz.ntmps127 rfl rfl fun w0 hw=>?_;simp[WfL,WfA,E_length,Enc.enc,In64] at hw
 have hF:=implIsField_a r.p
 have hD:=implAreDims_a r.q r.d
 cases hf:isF r.p with
 |false=>
  rw[hf] at hF
  repeat' first|refine s1 ?_|(refine kR ?_;first|refine F.c (hF) ?_)|fail
  refine F.ret ?_
  rw[isRep,hf];rfl
 |true=>
  rw[hf] at hF
  cases hd:areDims r.q r.d with
  |false=>
   rw[hd] at hD
   repeat' first|refine s1 ?_|(refine kR ?_;first|refine F.c (hF) ?_|refine F.c (hD) ?_)|fail
   refine F.ret ?_
   rw[isRep,hf,hd];rfl
  |true=>
   rw[hd] at hD
   obtain⟨hq,hdl,hda,_⟩:=areDims_spec hd
   have h5:=okQ_spec hq
   by_cases hl:r.m.length=r.q.fr.length
   ·repeat' first|refine s1 ?_|(refine kR ?_;first|refine F.c (hF) ?_|refine F.c (hD) ?_)|fail
    refine F.loop (σ:=Nat) [2,3,4,30,31,32,33,34,35,36,37,38,39,40,41,42,43,44,45,46,47,48,49,50,51,52,53,54,55,56,57,58,59,60,61,62,63,64,65,66,67,68,69,70] (fun k=>[(30,.i k)]) (fun _=>[]) (fun k=>k≤r.m.length∧∀j,j<k→fitM r j=true) (fun k=>r.m.length-k) 0 ⟨rfl,trivial⟩ trivial ⟨Nat.zero_le _,fun j hj=>by omega⟩ ?_
    rintro k ⟨h1,h2⟩
    by_cases hlt:k<r.m.length
    ·have f:=okQ_fr hq (k:=k) (by omega)
     have t:=okQ_to hq (k:=k) (by omega)
     have f':0≤r.q.fr.getD k default∧r.q.fr.getD k default<r.q.n:=f
     have t':0≤r.q.to.getD k default∧r.q.to.getD k default<r.q.n:=t
     have hM:=implIsMatrix_a r.p (r.m.getD k default)
     have hfm:fitM r k=(isMat r.p (r.m.getD k default)&&decide ((r.m.getD k default).c=r.d.getD (r.q.fr.getD k default).toNat default)&&decide ((r.m.getD k default).r=r.d.getD (r.q.to.getD k default).toNat default)):=rfl
     cases hm:isMat r.p (r.m.getD k default) with
     |false=>
      rw[hm] at hM
      rw[hm] at hfm
      repeat' first|refine s1 ?_|fail
      refine AW.draw 35 G.mixed (by kernel_rfl) ?_
      refine Pz (.p 0<|.l 1<|.l 2<|.o 3 true<|.p 4<|.p 5<|.g 40<|.k 6<|.j 7<|.k 8<|.j 9<|.k 10<|.k 11<|.j 12<|.k 13<|.k 14<|.j 15<|.k 16<|.j 17<|.k 18<|.p 19<|.p 20<|.g 55<|.k 21<|.j 22<|.k 23<|.j 24<|.k 25<|.k 26<|.j 27<|.k 28<|.k 29<|.j 30<|.k 31<|.j 32<|.k 33<|.p 34<|.n) ?_
      repeat' first|refine yS ?_|refine s1 ?_|(refine yD ?_ ?_<;>intro hc<;>(try simp only[decide_eq_true_eq,decide_eq_false_iff_not,Bool.not_eq_true',Bool.not_eq_false'] at hc))|refine yG ?_|(refine kR ?_;first|refine F.c (hM) ?_)|fail
      any_goals refine lf ?_
      repeat' first|refine s1 ?_|fail
      refine F.ret ?_
      rw[isRep,all_no hlt hfm,Bool.and_false]
     |true=>
      rw[hm] at hM
      rw[hm] at hfm
      by_cases hc':(r.m.getD k default).c=r.d.getD (r.q.fr.getD k default).toNat default
      ·by_cases hr':(r.m.getD k default).r=r.d.getD (r.q.to.getD k default).toNat default
       ·repeat' first|refine s1 ?_|fail
        refine AW.draw 35 G.mixed (by kernel_rfl) ?_
        refine Pz (.p 0<|.l 1<|.l 2<|.o 3 true<|.p 4<|.p 5<|.g 40<|.k 6<|.j 7<|.k 8<|.j 9<|.k 10<|.k 11<|.j 12<|.k 13<|.k 14<|.j 15<|.k 16<|.j 17<|.k 18<|.p 19<|.p 20<|.g 55<|.k 21<|.j 22<|.k 23<|.j 24<|.k 25<|.k 26<|.j 27<|.k 28<|.k 29<|.j 30<|.k 31<|.j 32<|.k 33<|.p 34<|.n) ?_
        repeat' first|refine yS ?_|refine s1 ?_|(refine yD ?_ ?_<;>intro hc<;>(try simp only[decide_eq_true_eq,decide_eq_false_iff_not,Bool.not_eq_true',Bool.not_eq_false'] at hc))|refine yG ?_|(refine kR ?_;first|refine F.c (hM) ?_)|fail
        any_goals refine lf ?_
        repeat' first|refine s1 ?_|fail
        exact⟨k+1,F.fit ⟨rfl,trivial⟩ trivial,⟨by omega,snocP h2 (by rw[hfm,decide_eq_true hc',decide_eq_true hr'];rfl)⟩,by omega⟩
       ·repeat' first|refine s1 ?_|fail
        refine AW.draw 35 G.mixed (by kernel_rfl) ?_
        refine Pz (.p 0<|.l 1<|.l 2<|.o 3 true<|.p 4<|.p 5<|.g 40<|.k 6<|.j 7<|.k 8<|.j 9<|.k 10<|.k 11<|.j 12<|.k 13<|.k 14<|.j 15<|.k 16<|.j 17<|.k 18<|.p 19<|.p 20<|.g 55<|.k 21<|.j 22<|.k 23<|.j 24<|.k 25<|.k 26<|.j 27<|.k 28<|.k 29<|.j 30<|.k 31<|.j 32<|.k 33<|.p 34<|.n) ?_
        repeat' first|refine yS ?_|refine s1 ?_|(refine yD ?_ ?_<;>intro hc<;>(try simp only[decide_eq_true_eq,decide_eq_false_iff_not,Bool.not_eq_true',Bool.not_eq_false'] at hc))|refine yG ?_|(refine kR ?_;first|refine F.c (hM) ?_)|fail
        any_goals refine lf ?_
        repeat' first|refine s1 ?_|fail
        refine F.ret ?_
        rw[isRep,all_no hlt (by rw[hfm,decide_eq_false hr',Bool.and_false]),Bool.and_false]
      ·repeat' first|refine s1 ?_|fail
       refine AW.draw 35 G.mixed (by kernel_rfl) ?_
       refine Pz (.p 0<|.l 1<|.l 2<|.o 3 true<|.p 4<|.p 5<|.g 40<|.k 6<|.j 7<|.k 8<|.j 9<|.k 10<|.k 11<|.j 12<|.k 13<|.k 14<|.j 15<|.k 16<|.j 17<|.k 18<|.p 19<|.p 20<|.g 55<|.k 21<|.j 22<|.k 23<|.j 24<|.k 25<|.k 26<|.j 27<|.k 28<|.k 29<|.j 30<|.k 31<|.j 32<|.k 33<|.p 34<|.n) ?_
       repeat' first|refine yS ?_|refine s1 ?_|(refine yD ?_ ?_<;>intro hc<;>(try simp only[decide_eq_true_eq,decide_eq_false_iff_not,Bool.not_eq_true',Bool.not_eq_false'] at hc))|refine yG ?_|(refine kR ?_;first|refine F.c (hM) ?_)|fail
       any_goals refine lf ?_
       repeat' first|refine s1 ?_|fail
       refine F.ret ?_
       rw[isRep,all_no hlt (by rw[hfm,decide_eq_false hc',Bool.and_false,Bool.false_and]),Bool.and_false]
    ·obtain rfl:k=r.m.length:=by omega
     repeat' first|refine s1 ?_|fail
     refine F.ret ?_
     rw[isRep,hf,hd,decide_eq_true hl,all_yes h2];rfl
   ·repeat' first|refine s1 ?_|(refine kR ?_;first|refine F.c (hF) ?_|refine F.c (hD) ?_)|fail
    refine F.ret ?_
    rw[isRep,decide_eq_false hl];simp
theorem specIsRep_a(r:Rep):AC Tryz.prog 82 [.agg (enc false r)] [.b (isRep r)]:=by
 refine AC.go Tryz.func82 Tryz.ntmps82 rfl rfl fun w0 hw=>?_;simp[WfL,WfA,E_length,Enc.enc,In64] at hw
 have hF:=specIsField_a r.p
 have hD:=specAreDims_a r.q r.d
 cases hf:isF r.p with
 |false=>
  rw[hf] at hF
  repeat' first|refine s1 ?_|(refine kR ?_;first|refine F.c (hF) ?_)|fail
  refine F.ret ?_
  rw[isRep,hf];rfl
 |true=>
  rw[hf] at hF
  cases hd:areDims r.q r.d with
  |false=>
   rw[hd] at hD
   repeat' first|refine s1 ?_|(refine kR ?_;first|refine F.c (hF) ?_|refine F.c (hD) ?_)|fail
   refine F.ret ?_
   rw[isRep,hf,hd];rfl
  |true=>
   rw[hd] at hD
   obtain⟨hq,hdl,hda,_⟩:=areDims_spec hd
   have h5:=okQ_spec hq
   by_cases hl:r.m.length=r.q.fr.length
   ·repeat' first|refine s1 ?_|(refine kR ?_;first|refine F.c (hF) ?_|refine F.c (hD) ?_)|fail
    refine F.loop (σ:=Nat) [2,3,26,27,28,29,30,31,32,33,34,35,36,37,38,39,40,41,42,43,44,45,46,47,48,49,50,51,52,53,54,55,56,57,58,59,60,61,62,63,64,65,66,67,68,69,70,71,72,73,74,75,76,77,78,79] (fun k=>[(3,.i k)]) (fun _=>[]) (fun k=>k≤r.m.length∧∀j,j<k→fitM r j=true) (fun k=>r.m.length-k) 0 ⟨rfl,trivial⟩ trivial ⟨Nat.zero_le _,fun j hj=>by omega⟩ ?_
    rintro k ⟨h1,h2⟩
    by_cases hlt:k<r.m.length
    ·have f:=okQ_fr hq (k:=k) (by omega)
     have t:=okQ_to hq (k:=k) (by omega)
     have f':0≤r.q.fr.getD k default∧r.q.fr.getD k default<r.q.n:=f
     have t':0≤r.q.to.getD k default∧r.q.to.getD k default<r.q.n:=t
     have hM:=specIsMatrix_a r.p (r.m.getD k default)
     have hfm:fitM r k=(isMat r.p (r.m.getD k default)&&decide ((r.m.getD k default).c=r.d.getD (r.q.fr.getD k default).toNat default)&&decide ((r.m.getD k default).r=r.d.getD (r.q.to.getD k default).toNat default)):=rfl
     cases hm:isMat r.p (r.m.getD k default) with
     |false=>
      rw[hm] at hM
      rw[hm] at hfm
      repeat' first|refine s1 ?_|fail
      refine AW.draw 47 G.mixed (by kernel_rfl) ?_
      refine Pz (.p 0<|.l 1<|.p 2<|.l 3<|.p 4<|.p 5<|.l 6<|.o 7 true<|.p 8<|.p 9<|.g 42<|.k 10<|.j 11<|.k 12<|.k 13<|.k 14<|.j 15<|.k 16<|.j 17<|.k 18<|.k 19<|.j 20<|.k 21<|.k 22<|.j 23<|.k 24<|.j 25<|.k 26<|.p 27<|.p 28<|.g 61<|.k 29<|.j 30<|.k 31<|.k 32<|.k 33<|.j 34<|.k 35<|.j 36<|.k 37<|.k 38<|.j 39<|.k 40<|.k 41<|.j 42<|.k 43<|.j 44<|.k 45<|.p 46<|.n) ?_
      repeat' first|refine yS ?_|refine s1 ?_|(refine yD ?_ ?_<;>intro hc<;>(try simp only[decide_eq_true_eq,decide_eq_false_iff_not,Bool.not_eq_true',Bool.not_eq_false'] at hc))|refine yG ?_|(refine kR ?_;first|refine F.c (hM) ?_)|fail
      any_goals refine lf ?_
      repeat' first|refine s1 ?_|fail
      refine F.ret ?_
      rw[isRep,all_no hlt hfm,Bool.and_false]
     |true=>
      rw[hm] at hM
      rw[hm] at hfm
      by_cases hc':(r.m.getD k default).c=r.d.getD (r.q.fr.getD k default).toNat default
      ·by_cases hr':(r.m.getD k default).r=r.d.getD (r.q.to.getD k default).toNat default
       ·repeat' first|refine s1 ?_|fail
        refine AW.draw 47 G.mixed (by kernel_rfl) ?_
        refine Pz (.p 0<|.l 1<|.p 2<|.l 3<|.p 4<|.p 5<|.l 6<|.o 7 true<|.p 8<|.p 9<|.g 42<|.k 10<|.j 11<|.k 12<|.k 13<|.k 14<|.j 15<|.k 16<|.j 17<|.k 18<|.k 19<|.j 20<|.k 21<|.k 22<|.j 23<|.k 24<|.j 25<|.k 26<|.p 27<|.p 28<|.g 61<|.k 29<|.j 30<|.k 31<|.k 32<|.k 33<|.j 34<|.k 35<|.j 36<|.k 37<|.k 38<|.j 39<|.k 40<|.k 41<|.j 42<|.k 43<|.j 44<|.k 45<|.p 46<|.n) ?_
        repeat' first|refine yS ?_|refine s1 ?_|(refine yD ?_ ?_<;>intro hc<;>(try simp only[decide_eq_true_eq,decide_eq_false_iff_not,Bool.not_eq_true',Bool.not_eq_false'] at hc))|refine yG ?_|(refine kR ?_;first|refine F.c (hM) ?_)|fail
        any_goals refine lf ?_
        repeat' first|refine s1 ?_|fail
        exact⟨k+1,F.fit ⟨rfl,trivial⟩ trivial,⟨by omega,snocP h2 (by rw[hfm,decide_eq_true hc',decide_eq_true hr'];rfl)⟩,by omega⟩
       ·repeat' first|refine s1 ?_|fail
        refine AW.draw 47 G.mixed (by kernel_rfl) ?_
        refine Pz (.p 0<|.l 1<|.p 2<|.l 3<|.p 4<|.p 5<|.l 6<|.o 7 true<|.p 8<|.p 9<|.g 42<|.k 10<|.j 11<|.k 12<|.k 13<|.k 14<|.j 15<|.k 16<|.j 17<|.k 18<|.k 19<|.j 20<|.k 21<|.k 22<|.j 23<|.k 24<|.j 25<|.k 26<|.p 27<|.p 28<|.g 61<|.k 29<|.j 30<|.k 31<|.k 32<|.k 33<|.j 34<|.k 35<|.j 36<|.k 37<|.k 38<|.j 39<|.k 40<|.k 41<|.j 42<|.k 43<|.j 44<|.k 45<|.p 46<|.n) ?_
        repeat' first|refine yS ?_|refine s1 ?_|(refine yD ?_ ?_<;>intro hc<;>(try simp only[decide_eq_true_eq,decide_eq_false_iff_not,Bool.not_eq_true',Bool.not_eq_false'] at hc))|refine yG ?_|(refine kR ?_;first|refine F.c (hM) ?_)|fail
        any_goals refine lf ?_
        repeat' first|refine s1 ?_|fail
        refine F.ret ?_
        rw[isRep,all_no hlt (by rw[hfm,decide_eq_false hr',Bool.and_false]),Bool.and_false]
      ·repeat' first|refine s1 ?_|fail
       refine AW.draw 47 G.mixed (by kernel_rfl) ?_
       refine Pz (.p 0<|.l 1<|.p 2<|.l 3<|.p 4<|.p 5<|.l 6<|.o 7 true<|.p 8<|.p 9<|.g 42<|.k 10<|.j 11<|.k 12<|.k 13<|.k 14<|.j 15<|.k 16<|.j 17<|.k 18<|.k 19<|.j 20<|.k 21<|.k 22<|.j 23<|.k 24<|.j 25<|.k 26<|.p 27<|.p 28<|.g 61<|.k 29<|.j 30<|.k 31<|.k 32<|.k 33<|.j 34<|.k 35<|.j 36<|.k 37<|.k 38<|.j 39<|.k 40<|.k 41<|.j 42<|.k 43<|.j 44<|.k 45<|.p 46<|.n) ?_
       repeat' first|refine yS ?_|refine s1 ?_|(refine yD ?_ ?_<;>intro hc<;>(try simp only[decide_eq_true_eq,decide_eq_false_iff_not,Bool.not_eq_true',Bool.not_eq_false'] at hc))|refine yG ?_|(refine kR ?_;first|refine F.c (hM) ?_)|fail
       any_goals refine lf ?_
       repeat' first|refine s1 ?_|fail
       refine F.ret ?_
       rw[isRep,all_no hlt (by rw[hfm,decide_eq_false hc',Bool.and_false,Bool.false_and]),Bool.and_false]
    ·obtain rfl:k=r.m.length:=by omega
     repeat' first|refine s1 ?_|fail
     refine F.ret ?_
     rw[isRep,hf,hd,decide_eq_true hl,all_yes h2];rfl
   ·repeat' first|refine s1 ?_|(refine kR ?_;first|refine F.c (hF) ?_|refine F.c (hD) ?_)|fail
    refine F.ret ?_
    rw[isRep,decide_eq_false hl];simp
def fitR(a b:Rep):Bool:=isRep a&&isRep b&&decide (a.p=b.p)&&sameQ a.q b.q
theorem fitR_spec{a b:Rep}(h:fitR a b=true):isRep a=true∧isRep b=true∧a.p=b.p∧a.q=b.q:=by
 simp only[fitR,sameQ,Bool.and_eq_true,decide_eq_true_eq] at h
 refine⟨h.1.1.1,h.1.1.2,h.1.2,?_⟩
 obtain⟨⟨h1,h2⟩,h3⟩:=h.2
 cases ha:a.q;cases hb:b.q;simp_all
theorem fit_a(a b:Rep):AC Tryz.prog 154 [.agg (enc false a),.agg (enc false b)] [.b (fitR a b)]:=by
 refine AC.go Tryz.func154 Tryz.ntmps154 rfl rfl fun w0 hw=>?_;simp[WfL,WfA,E_length,Enc.enc,In64] at hw
 have hA:=implIsRep_a a
 have hB:=implIsRep_a b
 have hE:=implEqualQuivers_a a.q b.q
 have hf:fitR a b=(isRep a&&isRep b&&decide (a.p=b.p)&&sameQ a.q b.q):=rfl
 generalize fitR a b=X at hf⊢
 cases ha:isRep a with
 |false=>
  rw[ha] at hA hf
  repeat' first|refine s1 ?_|(refine kR ?_;first|refine F.c (hA) ?_)|fail
  subst hf
  (refine kZ ?_;exact F.ret rfl)
 |true=>
  rw[ha] at hA hf
  cases hb:isRep b with
  |false=>
   rw[hb] at hB hf
   repeat' first|refine s1 ?_|(refine kR ?_;first|refine F.c (hA) ?_|refine F.c (hB) ?_)|fail
   subst hf
   (refine kZ ?_;exact F.ret rfl)
  |true=>
   rw[hb] at hB hf
   generalize sameQ a.q b.q=Y at hE hf
   by_cases hp:a.p=b.p
   ·rw[decide_eq_true hp] at hf
    subst hf
    repeat' first|refine s1 ?_|(refine kR ?_;first|refine F.c (hA) ?_|refine F.c (hB) ?_|refine F.c (hE) ?_)|fail
    (refine kZ ?_;exact F.ret rfl)
   ·rw[decide_eq_false hp] at hf
    subst hf
    repeat' first|refine s1 ?_|(refine kR ?_;first|refine F.c (hA) ?_|refine F.c (hB) ?_)|fail
    refine F.ret ?_
    simp[hp]
theorem l9Fit_a(a b:Rep):AC Tryz.prog 247 [.agg (enc false a),.agg (enc false b)] [.b (fitR a b)]:=by
 refine AC.go Tryz.func247 Tryz.ntmps247 rfl rfl fun w0 hw=>?_;simp[WfL,WfA,E_length,Enc.enc,In64] at hw
 have hA:=specIsRep_a a
 have hB:=specIsRep_a b
 have hE:=specEqualQuivers_a a.q b.q
 have hf:fitR a b=(isRep a&&isRep b&&decide (a.p=b.p)&&sameQ a.q b.q):=rfl
 generalize fitR a b=X at hf⊢
 cases ha:isRep a with
 |false=>
  rw[ha] at hA hf
  repeat' first|refine s1 ?_|(refine kR ?_;first|refine F.c (hA) ?_)|fail
  subst hf
  (refine kZ ?_;exact F.ret rfl)
 |true=>
  rw[ha] at hA hf
  cases hb:isRep b with
  |false=>
   rw[hb] at hB hf
   repeat' first|refine s1 ?_|(refine kR ?_;first|refine F.c (hA) ?_|refine F.c (hB) ?_)|fail
   subst hf
   (refine kZ ?_;exact F.ret rfl)
  |true=>
   rw[hb] at hB hf
   generalize sameQ a.q b.q=Y at hE hf
   by_cases hp:a.p=b.p
   ·rw[decide_eq_true hp] at hf
    subst hf
    repeat' first|refine s1 ?_|(refine kR ?_;first|refine F.c (hA) ?_|refine F.c (hB) ?_|refine F.c (hE) ?_)|fail
    (refine kZ ?_;exact F.ret rfl)
   ·rw[decide_eq_false hp] at hf
    subst hf
    repeat' first|refine s1 ?_|(refine kR ?_;first|refine F.c (hA) ?_|refine F.c (hB) ?_)|fail
    refine F.ret ?_
    simp[hp]
end Go.Proofs.YtjmjamhhppoimaaGreat.V
namespace Go.Proofs.YtjmjamhhppoimaaGreat.V
open V.Enc (enc)
open Go.RowKit G D
set_option linter.unusedVariables false
set_option linter.unusedSimpArgs false
set_option maxHeartbeats 4000000
set_option maxRecDepth 4000
attribute [local irreducible] AW ARg ARA ARet MRet ASil AC AM
def ints(l:List Nat):List Int:=l.map fun(n:Nat)=>(n:Int)
theorem ints_len(l:List Nat):(ints l).length=l.length:=by simp[ints]
attribute [simp] ints_len
theorem ints_snoc(l:List Nat)(k:Nat):ints (l++[k])=ints l++[(k:Int)]:=by simp[ints]
theorem ints_get(l:List Nat){i:Nat}(h:i<l.length):(ints l).getD i default=((l.getD i default:Nat):Int):=by simp[ints,h]
theorem tab_le{r c:Nat}(hr:r≤1024)(hc:c≤1024):r*c≤1048576:=Nat.mul_le_mul hr hc
theorem in64_4{x y:Int}(hx:0≤x∧x≤4)(hy:0≤y∧y≤4):0≤x*y∧x*y≤16:=
 ⟨Int.mul_nonneg hx.1 hy.1,Int.le_trans (Int.mul_le_mul hx.2 hy.2 hy.1 (by omega)) (by omega)⟩
theorem isMat_spec{p:Int}{m:Mat}(h:isMat p m=true):isF p=true∧(0≤m.r∧m.r≤8)∧(0≤m.c∧m.c≤8)∧(m.m.length:Int)=m.r*m.c∧∀j,j<m.m.length→0≤m.m.getD j default∧m.m.getD j default≤p-1:=by
 simp only[isMat,isVec,Bool.and_eq_true,decide_eq_true_eq] at h
 exact⟨h.2.1.1,h.1.1.1,h.1.1.2,h.1.2,fun j hj=>allIn_spec h.2.2 hj⟩
theorem ent_bd{p:Int}{m:Mat}(h:isMat p m=true):BdF p m.r.toNat m.c.toNat (ent m):=fun i hi j hj=>by
 obtain⟨_,h1,h2,h3,h4⟩:=isMat_spec h
 have e1:((m.r.toNat:Nat):Int)=m.r:=Int.toNat_of_nonneg h1.1
 have e2:((m.c.toNat:Nat):Int)=m.c:=Int.toNat_of_nonneg h2.1
 have e3:m.m.length=m.r.toNat*m.c.toNat:=by
  have:(m.m.length:Int)=((m.r.toNat*m.c.toNat:Nat):Int):=by push_cast;rw[e1,e2];exact h3
  exact_mod_cast this
 exact h4 _ (by rw[e3];exact tab_lt hi hj)
theorem isMat_tm{p:Int}{m:Mat}(h:isMat p m=true):tm m.r.toNat m.c.toNat (ent m)=m:=by
 obtain⟨_,h1,h2,h3,h4⟩:=isMat_spec h
 exact tm_of h1.1 h2.1 h3
def isZ(m:Mat):Bool:=m.m.all fun x=>decide (x=0)
theorem isZero1_a(x:Int):AC Tryz.prog 297 [.i x] [.b (decide (x≠0))]:=by
 refine AC.go Tryz.func297 Tryz.ntmps297 rfl rfl fun w0 hw=>?_;simp[WfL,WfA,E_length,Enc.enc,In64] at hw
 repeat' first|refine s1 ?_|fail
 (refine kZ ?_;exact F.ret rfl)
theorem isZero_a(m:Mat):AC Tryz.prog 153 [.agg (enc false m)] [.b (isZ m)]:=by
 refine AC.go Tryz.func153 Tryz.ntmps153 rfl rfl fun w0 hw=>?_;simp[WfL,WfA,E_length,Enc.enc,In64] at hw
 repeat' first|refine s1 ?_|(refine kR ?_;first|refine F.c (ContainsFunc1_a m.m 297 [] (fun x=>decide (x≠0)) (fun _=>.nil) (fun x _=>isZero1_a x)) ?_)|fail
 refine F.ret ?_
 rw[isZ,List.not_any_eq_all_not];simp
end Go.Proofs.YtjmjamhhppoimaaGreat.V
