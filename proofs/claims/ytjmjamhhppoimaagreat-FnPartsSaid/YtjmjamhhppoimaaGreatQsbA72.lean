/- Texts that the proof needs: A75, A72. -/
import Derived.Test.YtjmjamhhppoimaaGreatQsbA73
import Derived.Test.YtjmjamhhppoimaaGreatQsbA71
namespace Go.Proofs.YtjmjamhhppoimaaGreat.V
open V.Enc (enc)
open Go.RowKit G D
set_option linter.unusedVariables false
set_option linter.unusedSimpArgs false
set_option maxHeartbeats 4000000
set_option maxRecDepth 4000
attribute [local irreducible] AW ARg ARA ARet MRet ASil AC AM
def exactB(a b c:Rep)(f g:List Mat):Bool:=isMor a b f&&isMor b c g&&sameSL (imgLs a.p f) (kerLs b.p g)
theorem implIsExactAt_a(a b c:Rep)(f g:List Mat):AC Tryz.prog 190 [.agg (enc false a),.agg (enc false b),.agg (enc false c),ar false f,ar false g] [.b (exactB a b c f g)]:=by
 refine AC.go Tryz.func190 Tryz.ntmps190 rfl rfl fun w0 hw=>?_;simp[WfL,WfA,E_length,Enc.enc,In64] at hw
 have hF:=implIsMorphism_a a b f
 have hG:=implIsMorphism_a b c g
 unfold exactB
 cases hf:isMor a b f with
 |false=>
  rw[hf] at hF
  repeat' first|refine s1 ?_|fail
  refine AW.draw 22 G.mixed (by kernel_rfl) ?_
  refine Pz (.l 0<|.l 1<|.p 2<|.o 3 true<|.p 4<|.g 15<|.j 5<|.j 6<|.k 7<|.o 8 true<|.p 9<|.p 10<|.g 21<|.k 11<|.j 12<|.k 13<|.k 15<|.j 16<|.k 17<|.o 14 true<|.o 18 true<|.o 19 true<|.p 20<|.p 21<|.n) ?_
  repeat' first|refine yS ?_|refine s1 ?_|(refine yD ?_ ?_<;>intro hc<;>(try simp only[decide_eq_true_eq,decide_eq_false_iff_not,Bool.not_eq_true',Bool.not_eq_false'] at hc))|refine yG ?_|(refine kR ?_;first|refine F.c (hF) ?_)|fail
  any_goals refine lf ?_
  repeat' first|refine s1 ?_|fail
  refine F.ret ?_
  rfl
 |true=>
  rw[hf] at hF
  cases hg:isMor b c g with
  |false=>
   rw[hg] at hG
   repeat' first|refine s1 ?_|fail
   refine AW.draw 22 G.mixed (by kernel_rfl) ?_
   refine Pz (.l 0<|.l 1<|.p 2<|.o 3 true<|.p 4<|.g 15<|.j 5<|.j 6<|.k 7<|.o 8 true<|.p 9<|.p 10<|.g 21<|.k 11<|.j 12<|.k 13<|.k 15<|.j 16<|.k 17<|.o 14 true<|.o 18 true<|.o 19 true<|.p 20<|.p 21<|.n) ?_
   repeat' first|(refine yU (i:=3) ?_;first|refine s1 ?_|refine F.c (hF) ?_)|(refine yU (i:=8) ?_;first|refine s1 ?_|refine F.c (hG) ?_)|refine yS ?_|refine s1 ?_|(refine yD ?_ ?_<;>intro hc<;>(try simp only[decide_eq_true_eq,decide_eq_false_iff_not,Bool.not_eq_true',Bool.not_eq_false'] at hc))|refine yG ?_|fail
   any_goals refine lf ?_
   repeat' first|refine s1 ?_|fail
   refine F.ret ?_
   rfl
  |true=>
   rw[hg] at hG
   obtain⟨m1,m2,m3,m4,m5⟩:=mor_ok hf
   obtain⟨n1,n2,n3,n4,n5⟩:=mor_ok hg
   rw[←m3]
   have hI:=imageSub_a a.p f (fun v hv=>(m5 v hv).1) (by omega)
   have hK:=kernelSub_a a.p g (fun v hv=>by rw[m3];exact(n5 v hv).1) (by omega)
   have hE:=implEqualSubs_a (imgLs a.p f) (kerLs a.p g)
   generalize sameSL (imgLs a.p f) (kerLs a.p g)=Y at hE⊢
   generalize imgLs a.p f=L1 at hI hE
   generalize kerLs a.p g=L2 at hK hE
   repeat' first|refine s1 ?_|fail
   refine AW.draw 22 G.mixed (by kernel_rfl) ?_
   refine Pz (.l 0<|.l 1<|.p 2<|.o 3 true<|.p 4<|.g 15<|.j 5<|.j 6<|.k 7<|.o 8 true<|.p 9<|.p 10<|.g 21<|.k 11<|.j 12<|.k 13<|.k 15<|.j 16<|.k 17<|.o 14 true<|.o 18 true<|.o 19 true<|.p 20<|.p 21<|.n) ?_
   repeat' first|(refine yU (i:=3) ?_;first|refine s1 ?_|refine F.c (hF) ?_)|(refine yU (i:=8) ?_;first|refine s1 ?_|refine F.c (hG) ?_)|(refine yU (i:=14) ?_;first|refine s1 ?_|refine F.c (hI) ?_)|(refine yU (i:=18) ?_;first|refine s1 ?_|refine F.c (hK) ?_)|(refine yU (i:=19) ?_;first|refine s1 ?_|refine F.c (hE) ?_)|refine yS ?_|refine s1 ?_|(refine yD ?_ ?_<;>intro hc<;>(try simp only[decide_eq_true_eq,decide_eq_false_iff_not,Bool.not_eq_true',Bool.not_eq_false'] at hc))|refine yG ?_|fail
   any_goals refine lf ?_
   repeat' first|refine s1 ?_|fail
   refine F.ret ?_
   simp
def rkL(p:Int)(f:List Mat):List Int:=f.map (rankM p)
theorem rankM_eq{p:Int}{m:Mat}(h:isMat p m=true):rankM p m=((redK p m.r.toNat (ent m) m.c.toNat).2.length:Nat):=by rw[rankM,if_pos h];rfl
theorem matRank_a{p:Int}{m:Mat}(h:isMat p m=true):AC Tryz.prog 300 [.i p,.agg (enc false m)] [.i (rankM p m)]:=by
 obtain⟨h0,h1,h2,h3,h4⟩:=isMat_spec h
 have:=rank_a p m.r.toNat m.c.toNat (ent m) h0 (by omega) (by omega) (ent_bd h)
 rw[isMat_tm h,←rankM_eq h] at this
 exact this
theorem ranks_a(p:Int)(f:List Mat)(hf:∀v,v<f.length→isMat p (f.getD v default)=true)(hl:f.length≤1000):AC Tryz.prog 315 [.i p,ar false f] [.dt true 1 (E true (rkL p f))]:=by
 refine AC.go Tryz.func315 Tryz.ntmps315 rfl rfl fun w0 hw=>?_;simp[WfL,WfA,E_length,Enc.enc,In64] at hw
 have hll:(rkL p f).length=f.length:=by simp[rkL]
 repeat' first|refine s1 ?_|fail
 refine AW.open 5 1 (.inl rfl) ?_
 refine F.loop (σ:=Nat) [5,7,10,11,12,13,14,15,16,17,18,19,20] (fun k=>[(5,.sl 0 k 0 k),(10,.i k)]) (fun k=>[(0,.live false 1 (E true ((rkL p f).take k)))]) (fun k=>k≤f.length) (fun k=>f.length-k) 0 ⟨rfl,rfl,trivial⟩ ⟨rfl,trivial⟩ (Nat.zero_le _) ?_
 rintro k k1
 have hp:((rkL p f).take k).length=k:=by rw[List.length_take];omega
 by_cases hk:k<f.length
 ·have hR:=matRank_a (hf k hk)
  have hts:(rkL p f).take (k+1)=(rkL p f).take k++[rankM p (f.getD k default)]:=map_take _ hk
  generalize rankM p (f.getD k default)=y at hR hts
  repeat' first|refine s1 ?_|(refine kR ?_;first|refine F.c (hR) ?_|refine F.a1 Int ?_)|fail
  exact⟨k+1,F.fit ⟨rfl,rfl,trivial⟩ ⟨obE (by rw[hts]),trivial⟩,by omega,by omega⟩
 ·obtain rfl:k=f.length:=by omega
  have e:(rkL p f).take f.length=rkL p f:=List.take_of_length_le (by omega)
  rw[e]
  clear hp e
  generalize rkL p f=L at hll⊢
  rw[←hll]
  repeat' first|refine s1 ?_|fail
  (refine kZ ?_;exact F.ret rfl)
def injB(a b:Rep)(f:List Mat):Bool:=isMor a b f&&decide (rkL a.p f=a.d)
def surB(a b:Rep)(f:List Mat):Bool:=isMor a b f&&decide (rkL a.p f=b.d)
theorem implIsInjective_a(a b:Rep)(f:List Mat):AC Tryz.prog 191 [.agg (enc false a),.agg (enc false b),ar false f] [.b (injB a b f)]:=by
 refine AC.go Tryz.func191 Tryz.ntmps191 rfl rfl fun w0 hw=>?_;simp[WfL,WfA,E_length,Enc.enc,In64] at hw
 have hF:=implIsMorphism_a a b f
 unfold injB
 cases hf:isMor a b f with
 |false=>
  rw[hf] at hF
  repeat' first|refine s1 ?_|fail
  refine AW.draw 14 G.mixed (by kernel_rfl) ?_
  refine Pz (.l 0<|.l 1<|.p 2<|.o 3 true<|.p 4<|.g 11<|.k 5<|.j 6<|.k 7<|.k 9<|.j 10<|.o 8 true<|.o 11 true<|.p 12<|.p 13<|.n) ?_
  repeat' first|refine yS ?_|refine s1 ?_|(refine yD ?_ ?_<;>intro hc<;>(try simp only[decide_eq_true_eq,decide_eq_false_iff_not,Bool.not_eq_true',Bool.not_eq_false'] at hc))|refine yG ?_|(refine kR ?_;first|refine F.c (hF) ?_)|fail
  any_goals refine lf ?_
  repeat' first|refine s1 ?_|fail
  refine F.ret ?_
  rfl
 |true=>
  rw[hf] at hF
  obtain⟨m1,m2,m3,m4,m5⟩:=mor_ok hf
  have hR:=ranks_a a.p f (fun v hv=>(m5 v hv).1) (by omega)
  have hE:=equal_a (rkL a.p f) a.d
  generalize rkL a.p f=L at hR hE⊢
  generalize decide (L=a.d)=Y at hE⊢
  repeat' first|refine s1 ?_|fail
  refine AW.draw 14 G.mixed (by kernel_rfl) ?_
  refine Pz (.l 0<|.l 1<|.p 2<|.o 3 true<|.p 4<|.g 11<|.k 5<|.j 6<|.k 7<|.k 9<|.j 10<|.o 8 true<|.o 11 true<|.p 12<|.p 13<|.n) ?_
  repeat' first|refine yS ?_|refine s1 ?_|(refine yD ?_ ?_<;>intro hc<;>(try simp only[decide_eq_true_eq,decide_eq_false_iff_not,Bool.not_eq_true',Bool.not_eq_false'] at hc))|refine yG ?_|(refine kR ?_;first|refine F.c (hF) ?_|refine F.c (hR) ?_|refine F.c (hE) ?_)|fail
  any_goals refine lf ?_
  repeat' first|refine s1 ?_|fail
  refine F.ret ?_
  simp
theorem implIsSurjective_a(a b:Rep)(f:List Mat):AC Tryz.prog 192 [.agg (enc false a),.agg (enc false b),ar false f] [.b (surB a b f)]:=by
 refine AC.go Tryz.func192 Tryz.ntmps192 rfl rfl fun w0 hw=>?_;simp[WfL,WfA,E_length,Enc.enc,In64] at hw
 have hF:=implIsMorphism_a a b f
 unfold surB
 cases hf:isMor a b f with
 |false=>
  rw[hf] at hF
  repeat' first|refine s1 ?_|fail
  refine AW.draw 14 G.mixed (by kernel_rfl) ?_
  refine Pz (.l 0<|.l 1<|.p 2<|.o 3 true<|.p 4<|.g 11<|.k 5<|.j 6<|.k 7<|.k 9<|.j 10<|.o 8 true<|.o 11 true<|.p 12<|.p 13<|.n) ?_
  repeat' first|refine yS ?_|refine s1 ?_|(refine yD ?_ ?_<;>intro hc<;>(try simp only[decide_eq_true_eq,decide_eq_false_iff_not,Bool.not_eq_true',Bool.not_eq_false'] at hc))|refine yG ?_|(refine kR ?_;first|refine F.c (hF) ?_)|fail
  any_goals refine lf ?_
  repeat' first|refine s1 ?_|fail
  refine F.ret ?_
  rfl
 |true=>
  rw[hf] at hF
  obtain⟨m1,m2,m3,m4,m5⟩:=mor_ok hf
  have hR:=ranks_a a.p f (fun v hv=>(m5 v hv).1) (by omega)
  have hE:=equal_a (rkL a.p f) b.d
  generalize rkL a.p f=L at hR hE⊢
  generalize decide (L=b.d)=Y at hE⊢
  repeat' first|refine s1 ?_|fail
  refine AW.draw 14 G.mixed (by kernel_rfl) ?_
  refine Pz (.l 0<|.l 1<|.p 2<|.o 3 true<|.p 4<|.g 11<|.k 5<|.j 6<|.k 7<|.k 9<|.j 10<|.o 8 true<|.o 11 true<|.p 12<|.p 13<|.n) ?_
  repeat' first|refine yS ?_|refine s1 ?_|(refine yD ?_ ?_<;>intro hc<;>(try simp only[decide_eq_true_eq,decide_eq_false_iff_not,Bool.not_eq_true',Bool.not_eq_false'] at hc))|refine yG ?_|(refine kR ?_;first|refine F.c (hF) ?_|refine F.c (hR) ?_|refine F.c (hE) ?_)|fail
  any_goals refine lf ?_
  repeat' first|refine s1 ?_|fail
  refine F.ret ?_
  simp
def shortB(a b c:Rep)(f g:List Mat):Bool:=exactB a b c f g&&injB a b f&&surB b c g
theorem implIsShortExact_a(a b c:Rep)(f g:List Mat):AC Tryz.prog 39 [.agg (enc false a),.agg (enc false b),.agg (enc false c),ar false f,ar false g] [.b (shortB a b c f g)]:=by
 refine AC.go Tryz.func39 Tryz.ntmps39 rfl rfl fun w0 hw=>?_;simp[WfL,WfA,E_length,Enc.enc,In64] at hw
 have hE:=implIsExactAt_a a b c f g
 have hI:=implIsInjective_a a b f
 have hS:=implIsSurjective_a b c g
 unfold shortB
 generalize exactB a b c f g=x at hE⊢
 generalize injB a b f=y at hI⊢
 generalize surB b c g=z at hS⊢
 cases x<;>cases y<;>
 ·repeat' first|refine s1 ?_|(refine kR ?_;first|refine F.c (hE) ?_|refine F.c (hI) ?_|refine F.c (hS) ?_)|fail
  refine F.ret ?_
  simp
end Go.Proofs.YtjmjamhhppoimaaGreat.V
namespace Go.Proofs.YtjmjamhhppoimaaGreat.V
open V.Enc (enc)
open Go.RowKit G D
set_option linter.unusedVariables false
set_option linter.unusedSimpArgs false
set_option maxHeartbeats 4000000
set_option maxRecDepth 4000
attribute [local irreducible] AW ARg ARA ARet MRet ASil AC AM ARI
theorem isVec_of{p:Int}{v:List Int}(hF:isF p=true)(hl:v.length≤64)(hb:∀j,j<v.length→0≤v.getD j default∧v.getD j default≤p-1):isVec p v=true:=by
 simp only[isVec,Bool.and_eq_true,decide_eq_true_eq]
 exact⟨⟨hF,hl⟩,allIn_all hb⟩
theorem specApply_a{p:Int}{m:Mat}{v:List Int}(hm:isMat p m=true)(hn:v.length=m.c.toNat)(hb:∀j,j<m.c.toNat→0≤v.getD j default∧v.getD j default≤p-1):AC Tryz.prog 138 [.i p,.agg (enc false m),ar false v] [.dt true 1 (E true (appV p m v)),.b true]:=by
 refine AC.go Tryz.func138 Tryz.ntmps138 rfl rfl fun w0 hw=>?_;simp[WfL,WfA,E_length,Enc.enc,In64] at hw
 obtain⟨h0,h1,h2,h3,h4⟩:=isMat_spec hm
 have hM:=specIsMatrix_a p m
 rw[hm] at hM
 have hV:=specIsVector_a p v
 rw[isVec_of h0 (by omega) (fun j hj=>hb j (by omega))] at hV
 have hT:=l3Multiply_a p m.r.toNat m.c.toNat 1 (ent m) (fcF [v]) h0 (by omega) (by omega) (by omega) (ent_bd hm) (fun i hi j hj=>by
  obtain rfl:j=0:=by omega
  exact hb i hi)
 rw[isMat_tm hm] at hT
 have e:tm m.r.toNat 1 (mulF p (ent m) (fcF [v]) m.c.toNat)=⟨(m.r.toNat:Int),1,appV p m v⟩:=by
  unfold tm appV
  rw[ent_fc];rfl
 have e0:tm m.c.toNat 1 (fcF [v])=⟨(v.length:Int),1,v⟩:=by
  unfold tm
  rw[tab_one,hn]
  congr 1
  exact rowL_of hn
 rw[e,e0] at hT
 have hcn:(v.length:Int)=m.c:=by omega
 generalize appV p m v=X at hT⊢
 repeat' first|refine s1 ?_|refine q1 ?_|(refine kR ?_;first|refine F.c (hM) ?_|refine F.c (hV) ?_)|fail
 refine AW.draw 12 G.mixed (by kernel_rfl) ?_
 refine Pz (.p 0<|.l 1<|.p 2<|.p 3<|.p 5<|.o 4 true<|.o 6 true<|.p 7<|.o 8 true<|.p 9<|.p 10<|.p 11<|.n) ?_
 repeat' first|refine yP (i:=9) ?_ (hs:=by exact(A.fldG ⟨Tryz.underlying112⟩ rfl (inferInstance:One Tryz.prog 24) rfl rfl))|(refine yU (i:=6) ?_;first|refine s1 ?_|refine F.aLN Int (oo:=true) ?_)|refine ySQ ?_|refine s1 ?_|refine q1 ?_|(refine kR ?_;first|refine F.c (hT) ?_)|fail
 any_goals refine lf ?_
 all_goals
  repeat' first|refine s1 ?_|refine q1 ?_|fail
  (refine kZ ?_;exact F.ret rfl)
theorem specImageOf_a{p:Int}{m:Mat}{s:Spc}(hm:isMat p m=true)(hs:isSpc p s=true)(hn:s.n=m.c):AC Tryz.prog 188 [.i p,.agg (enc false m),.agg (enc false s)] [.agg (enc true (imgSp p m s)),.b true]:=by
 refine AC.go Tryz.func188 Tryz.ntmps188 rfl rfl fun w0 hw=>?_;simp[WfL,WfA,E_length,Enc.enc,In64] at hw
 have hM:=specIsMatrix_a p m
 rw[hm] at hM
 have hSp:=specIsSpace_a p s
 rw[hs] at hSp
 obtain⟨h0,h1,h2,h3,h4⟩:=isMat_spec hm
 obtain⟨_,_,g3,g4⟩:=isSpc_spec hs
 have hp:=isF_pos h0
 have hll:=imgL_len p m s
 have hS:=l5Span_a p m.r.toNat (imgL p m s) h0 (by omega) (by omega) (imgL_vec (by omega) m s)
 rw[Int.toNat_of_nonneg h1.1,show(⟨m.r,spanL p m.r.toNat (imgL p m s)⟩:Spc)=imgSp p m s from rfl] at hS
 have hAp:=fun k (hk:k<s.b.length)=>specApply_a hm (v:=s.b.getD k default) (by rw[(g4 _ (gm hk)).1,hn]) (fun j hj=>(g4 _ (gm hk)).2 j (by rw[hn];exact hj))
 have hIt:=fun k (hk:k<s.b.length)=>imgL_take p m s hk
 generalize imgSp p m s=IM at hS⊢
 generalize imgL p m s=L at hll hS hIt
 repeat' first|refine s1 ?_|refine q1 ?_|(refine kR ?_;first|refine F.c (hM) ?_|refine F.c (hSp) ?_)|fail
 refine AW.open 8 1 (.inr rfl) ?_
 refine F.loop (σ:=Nat) [8,9,10,11,31,32,33,34,35,36,37,38,39,40,41,42,43,44,45,46,47,48,49,50,51,52] (fun k=>[(8,.sl 3 k 0 k),(9,.i k)]) (fun k=>[(3,.live false 1 (E true (L.take k)))]) (fun k=>k≤s.b.length) (fun k=>s.b.length-k) 0 ⟨rfl,rfl,trivial⟩ ⟨rfl,trivial⟩ (Nat.zero_le _) ?_
 rintro k k1
 have hp2:(L.take k).length=k:=by rw[List.length_take];omega
 by_cases hk:k<s.b.length
 ·have hA:=hAp k hk
  have hts:=hIt k hk
  generalize appV p m (s.b.getD k default)=X at hA hts
  repeat' first|refine s1 ?_|refine q1 ?_|fail
  refine AW.draw 13 G.mixed (by kernel_rfl) ?_
  refine Pz (.p 0<|.l 1<|.p 2<|.l 3<|.p 4<|.p 5<|.l 6<|.o 7 true<|.p 8<|.p 9<|.p 10<|.p 11<|.p 12<|.n) ?_
  repeat' first|refine ySQ ?_|refine s1 ?_|refine q1 ?_|(refine kR ?_;first|refine F.c (hA) ?_)|fail
  any_goals refine lf ?_
  all_goals
   repeat' first|refine s1 ?_|refine q1 ?_|(refine kR ?_;first|refine F.a1 (List Int) (a:=X) ?_)|fail
   exact⟨k+1,F.fit ⟨rfl,rfl,trivial⟩ ⟨obE (by rw[hts]),trivial⟩,by omega,by omega⟩
 ·obtain rfl:k=s.b.length:=by omega
  have e:L.take s.b.length=L:=List.take_of_length_le (by omega)
  rw[e]
  rw[←hll]
  clear hp2 e
  repeat' first|refine s1 ?_|refine q1 ?_|(refine kR ?_;first|refine F.c (hS) ?_)|fail
  (refine kZ ?_;exact F.ret rfl)
theorem specIsWithin_a(p:Int)(a b:Spc)(ha:isSpc p a=true)(hb:isSpc p b=true)(hn:b.n=a.n):AC Tryz.prog 189 [.i p,.agg (enc false a),.agg (enc false b)] [.b (inS p a b)]:=by
 refine AC.go Tryz.func189 Tryz.ntmps189 rfl rfl fun w0 hw=>?_;simp[WfL,WfA,E_length,Enc.enc,In64] at hw
 have hA:=addSpaces_a p a b ha hb hn
 have he:=within_eq ha hb hn
 generalize inS p a b=Y at he⊢
 generalize addS p a b=X at hA he
 have he2:decide ((X.b.length:Int)=(b.b.length:Int))=Y:=by
  rw[←he]
  exact decide_eq_decide.2 (by omega)
 repeat' first|refine s1 ?_|refine q1 ?_|(refine kR ?_;first|refine F.c (hA) ?_)|fail
 refine F.ret ?_
 rw[←he2]
theorem specIsSub_a(r:Rep)(s:List Spc):AC Tryz.prog 38 [.agg (enc false r),ar false s] [.b (isSub r s)]:=by
 refine AC.go Tryz.func38 Tryz.ntmps38 rfl rfl fun w0 hw=>?_;simp[WfL,WfA,E_length,Enc.enc,In64] at hw
 have hR:=specIsRep_a r
 unfold isSub
 cases hr:isRep r with
 |false=>
  rw[hr] at hR
  repeat' first|refine s1 ?_|refine q1 ?_|(refine kR ?_;first|refine F.c (hR) ?_)|fail
  refine F.ret ?_
  rfl
 |true=>
  rw[hr] at hR
  rw[Bool.true_and]
  obtain⟨r1,r2,r3,r4⟩:=isRep_spec hr
  obtain⟨c1,c2,c3,_⟩:=areDims_spec r2
  have h5:=okQ_spec c1
  by_cases hl:s.length=r.d.length
  ·rw[decide_eq_true hl,Bool.true_and]
   repeat' first|refine s1 ?_|refine q1 ?_|(refine kR ?_;first|refine F.c (hR) ?_)|fail
   refine F.loop (σ:=Nat) [4,5,20,21,22,23,24,25,26,27,28,29,30,31,32,33,34,35,36,37,38,39,40,41,42,43,44,45,46] (fun k=>[(5,.i k)]) (fun _=>[]) (fun k=>k≤s.length∧∀j,j<k→spcAt r s j=true) (fun k=>s.length-k) 0 ⟨rfl,trivial⟩ trivial ⟨Nat.zero_le _,fun j hj=>by omega⟩ ?_
   rintro k ⟨k1,k2⟩
   by_cases hk:k<s.length
   ·have hS:=specIsSpace_a r.p (s.getD k default)
    have hsp:spcAt r s k=(isSpc r.p (s.getD k default)&&decide ((s.getD k default).n=r.d.getD k default)):=rfl
    have hkd:k<r.d.length:=by omega
    cases hx:isSpc r.p (s.getD k default) with
    |false=>
     rw[hx] at hS hsp
     repeat' first|refine s1 ?_|refine q1 ?_|fail
     refine AW.draw 21 G.mixed (by kernel_rfl) ?_
     refine Pz (.p 0<|.l 1<|.p 2<|.p 3<|.p 4<|.l 5<|.o 6 true<|.p 7<|.p 8<|.g 34<|.k 9<|.k 10<|.k 11<|.k 12<|.j 13<|.k 14<|.j 15<|.k 16<|.k 17<|.j 18<|.k 19<|.p 20<|.n) ?_
     repeat' first|refine ySQ ?_|refine s1 ?_|refine q1 ?_|(refine yD ?_ ?_<;>intro hc<;>(try simp only[decide_eq_true_eq,decide_eq_false_iff_not,Bool.not_eq_true',Bool.not_eq_false'] at hc))|refine yG ?_|(refine kR ?_;first|refine F.c (hS) ?_)|fail
     any_goals refine lf ?_
     all_goals
      repeat' first|refine s1 ?_|refine q1 ?_|fail
      refine F.ret ?_
      rw[all_no hk hsp];rfl
    |true=>
     rw[hx] at hS hsp
     by_cases hd:(s.getD k default).n=r.d.getD k default
     ·repeat' first|refine s1 ?_|refine q1 ?_|fail
      refine AW.draw 21 G.mixed (by kernel_rfl) ?_
      refine Pz (.p 0<|.l 1<|.p 2<|.p 3<|.p 4<|.l 5<|.o 6 true<|.p 7<|.p 8<|.g 34<|.k 9<|.k 10<|.k 11<|.k 12<|.j 13<|.k 14<|.j 15<|.k 16<|.k 17<|.j 18<|.k 19<|.p 20<|.n) ?_
      repeat' first|refine ySQ ?_|refine s1 ?_|refine q1 ?_|(refine yD ?_ ?_<;>intro hc<;>(try simp only[decide_eq_true_eq,decide_eq_false_iff_not,Bool.not_eq_true',Bool.not_eq_false'] at hc))|refine yG ?_|(refine kR ?_;first|refine F.c (hS) ?_)|fail
      any_goals refine lf ?_
      all_goals
       repeat' first|refine s1 ?_|refine q1 ?_|fail
       exact⟨k+1,F.fit ⟨rfl,trivial⟩ trivial,⟨by omega,snocP k2 (by rw[hsp,decide_eq_true hd];rfl)⟩,by omega⟩
     ·repeat' first|refine s1 ?_|refine q1 ?_|fail
      refine AW.draw 21 G.mixed (by kernel_rfl) ?_
      refine Pz (.p 0<|.l 1<|.p 2<|.p 3<|.p 4<|.l 5<|.o 6 true<|.p 7<|.p 8<|.g 34<|.k 9<|.k 10<|.k 11<|.k 12<|.j 13<|.k 14<|.j 15<|.k 16<|.k 17<|.j 18<|.k 19<|.p 20<|.n) ?_
      repeat' first|refine ySQ ?_|refine s1 ?_|refine q1 ?_|(refine yD ?_ ?_<;>intro hc<;>(try simp only[decide_eq_true_eq,decide_eq_false_iff_not,Bool.not_eq_true',Bool.not_eq_false'] at hc))|refine yG ?_|(refine kR ?_;first|refine F.c (hS) ?_)|fail
      any_goals refine lf ?_
      all_goals
       repeat' first|refine s1 ?_|refine q1 ?_|fail
       refine F.ret ?_
       rw[all_no hk (by rw[hsp,decide_eq_false hd];rfl)];rfl
   ·obtain rfl:k=s.length:=by omega
    rw[all_yes k2,Bool.true_and]
    repeat' first|refine s1 ?_|refine q1 ?_|fail
    refine F.loop (σ:=Nat) [4,6,7,8,47,48,49,50,51,52,53,54,55,56,57,58,59,60,61,62,63,64,65,66,67,68,69,70,71,72,73,74,75,76,77,78,79,80,81,82,83,84,85,86,87] (fun k=>[(6,.i k)]) (fun _=>[]) (fun k=>k≤r.m.length∧∀j,j<k→subAt r s j=true) (fun k=>r.m.length-k) 0 ⟨rfl,trivial⟩ trivial ⟨Nat.zero_le _,fun j hj=>by omega⟩ ?_
    rintro k ⟨i1,i2⟩
    by_cases hk:k<r.m.length
    ·obtain⟨m1,m2,m3,m4,m5⟩:=arrow_ok hr hk
     have hF1:(r.q.fr.getD k default).toNat<s.length:=by omega
     have hT1:(r.q.to.getD k default).toNat<s.length:=by omega
     have hkf:k<r.q.fr.length:=by omega
     have hkt:k<r.q.to.length:=by omega
     have f1:=k2 _ hF1
     have t1:=k2 _ hT1
     simp only[spcAt,Bool.and_eq_true,decide_eq_true_eq] at f1 t1
     have hI:=specImageOf_a m1 f1.1 (by rw[f1.2,m4])
     have hW:=specIsWithin_a r.p (imgSp r.p (r.m.getD k default) (s.getD (r.q.fr.getD k default).toNat default)) (s.getD (r.q.to.getD k default).toNat default) (imgSp_ok m1 _) t1.1 (by rw[t1.2];exact m5.symm)
     have hsb:subAt r s k=inS r.p (imgSp r.p (r.m.getD k default) (s.getD (r.q.fr.getD k default).toNat default)) (s.getD (r.q.to.getD k default).toNat default):=rfl
     generalize imgSp r.p (r.m.getD k default) (s.getD (r.q.fr.getD k default).toNat default)=IM at hI hW hsb
     cases hx:inS r.p IM (s.getD (r.q.to.getD k default).toNat default) with
     |false=>
      rw[hx] at hW hsb
      repeat' first|refine s1 ?_|refine q1 ?_|fail
      refine AW.draw 21 G.mixed (by kernel_rfl) ?_
      refine Pz (.p 0<|.l 1<|.p 2<|.l 3<|.p 4<|.p 5<|.l 6<|.p 7<|.p 8<|.p 9<|.l 10<|.p 11<|.p 12<|.l 13<|.p 14<|.l 15<|.a [(16,true,.p 17<|.p 18<|.p 19<|.o 20 true<|.o 21 false<|.p 22<|.n),(20,true,.o 16 true<|.p 17<|.p 18<|.p 19<|.o 21 false<|.p 22<|.n)]) ?_
      repeat' first|refine ySQ ?_|refine s1 ?_|refine q1 ?_|refine yC ?_ ?_|exact trivial|(refine kR ?_;first|refine F.c (hI) ?_)|fail
      any_goals refine lf ?_
      all_goals
       repeat' first|refine s1 ?_|refine q1 ?_|fail
       refine AW.draw 14 G.mixed (by kernel_rfl) ?_
       refine Pz (.p 0<|.l 1<|.l 2<|.p 3<|.p 4<|.p 5<|.l 6<|.p 7<|.p 8<|.l 9<|.p 10<|.l 11<|.o 12 true<|.p 13<|.n) ?_
       repeat' first|refine ySQ ?_|refine s1 ?_|refine q1 ?_|(refine kR ?_;first|refine F.c (hW) ?_)|fail
       any_goals refine lf ?_
       all_goals
        repeat' first|refine s1 ?_|refine q1 ?_|fail
        refine F.ret ?_
        rw[all_no hk hsb]
     |true=>
      rw[hx] at hW hsb
      repeat' first|refine s1 ?_|refine q1 ?_|fail
      refine AW.draw 21 G.mixed (by kernel_rfl) ?_
      refine Pz (.p 0<|.l 1<|.p 2<|.l 3<|.p 4<|.p 5<|.l 6<|.p 7<|.p 8<|.p 9<|.l 10<|.p 11<|.p 12<|.l 13<|.p 14<|.l 15<|.a [(16,true,.p 17<|.p 18<|.p 19<|.o 20 true<|.o 21 false<|.p 22<|.n),(20,true,.o 16 true<|.p 17<|.p 18<|.p 19<|.o 21 false<|.p 22<|.n)]) ?_
      repeat' first|refine ySQ ?_|refine s1 ?_|refine q1 ?_|refine yC ?_ ?_|exact trivial|(refine kR ?_;first|refine F.c (hI) ?_)|fail
      any_goals refine lf ?_
      all_goals
       repeat' first|refine s1 ?_|refine q1 ?_|fail
       refine AW.draw 14 G.mixed (by kernel_rfl) ?_
       refine Pz (.p 0<|.l 1<|.l 2<|.p 3<|.p 4<|.p 5<|.l 6<|.p 7<|.p 8<|.l 9<|.p 10<|.l 11<|.o 12 true<|.p 13<|.n) ?_
       repeat' first|refine ySQ ?_|refine s1 ?_|refine q1 ?_|(refine kR ?_;first|refine F.c (hW) ?_)|fail
       any_goals refine lf ?_
       all_goals
        repeat' first|refine s1 ?_|refine q1 ?_|fail
        exact⟨k+1,F.fit ⟨rfl,trivial⟩ trivial,⟨by omega,snocP i2 hsb⟩,by omega⟩
    ·obtain rfl:k=r.m.length:=by omega
     repeat' first|refine s1 ?_|refine q1 ?_|fail
     refine F.ret ?_
     rw[all_yes i2]
  ·rw[decide_eq_false hl,Bool.false_and]
   repeat' first|refine s1 ?_|refine q1 ?_|(refine kR ?_;first|refine F.c (hR) ?_)|fail
   (refine kZ ?_;exact F.ret rfl)
end Go.Proofs.YtjmjamhhppoimaaGreat.V
