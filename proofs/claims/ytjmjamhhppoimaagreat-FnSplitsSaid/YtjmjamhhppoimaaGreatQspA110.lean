/- Texts that the proof needs: A75, A100, A86, A110. -/
import Derived.Test.YtjmjamhhppoimaaGreatQspA99
namespace Go.Proofs.YtjmjamhhppoimaaGreat.V
open V.Enc (enc)
open Go.RowKit G D
set_option linter.unusedVariables false
set_option linter.unusedSimpArgs false
set_option maxHeartbeats 4000000
set_option maxRecDepth 4000
attribute [local irreducible] AW ARg ARA ARet MRet ASil AC AM
def rkL(p:Int)(f:List Mat):List Int:=f.map (rankM p)
theorem rankM_eq{p:Int}{m:Mat}(h:isMat p m=true):rankM p m=((redK p m.r.toNat (ent m) m.c.toNat).2.length:Nat):=by rw[rankM,if_pos h];rfl
theorem matRank_a{p:Int}{m:Mat}(h:isMat p m=true):AC Tryz.prog 300 [.i p,.agg (enc false m)] [.i (rankM p m)]:=by
 obtain⟨h0,h1,h2,h3,h4⟩:=isMat_spec h
 have:=rank_a p m.r.toNat m.c.toNat (ent m) h0 (by omega) (by omega) (ent_bd h)
 rw[isMat_tm h,←rankM_eq h] at this
 exact this
theorem ranks_a(p:Int)(f:List Mat)(hf:∀v,v<f.length→isMat p (f.getD v default)=true)(hl:f.length≤1000):AC Tryz.prog 315 [.i p,ar false f] [.dt true 1 (E true (rkL p f))]:=by
 refine AC.go Tryz.func315 Tryz.ntmps315 rfl rfl fun w0 hw=>?_;simp[WfL,WfA,E_length,Enc.enc,In64] at hw
 have hll:(rkL p f).length=f.length:=by simp[rkL]
 repeat' first|refine s1 ?_|fail
 refine AW.open 5 1 (.inl rfl) ?_
 refine F.loop (σ:=Nat) [5,7,10,11,12,13,14,15,16,17,18,19,20] (fun k=>[(5,.sl 0 k 0 k),(10,.i k)]) (fun k=>[(0,.live false 1 (E true ((rkL p f).take k)))]) (fun k=>k≤f.length) (fun k=>f.length-k) 0 ⟨rfl,rfl,trivial⟩ ⟨rfl,trivial⟩ (Nat.zero_le _) ?_
 rintro k k1
 have hp:((rkL p f).take k).length=k:=by rw[List.length_take];omega
 by_cases hk:k<f.length
 ·have hR:=matRank_a (hf k hk)
  have hts:(rkL p f).take (k+1)=(rkL p f).take k++[rankM p (f.getD k default)]:=map_take _ hk
  generalize rankM p (f.getD k default)=y at hR hts
  repeat' first|refine s1 ?_|(refine kR ?_;first|refine F.c (hR) ?_|refine F.a1 Int ?_)|fail
  exact⟨k+1,F.fit ⟨rfl,rfl,trivial⟩ ⟨obE (by rw[hts]),trivial⟩,by omega,by omega⟩
 ·obtain rfl:k=f.length:=by omega
  have e:(rkL p f).take f.length=rkL p f:=List.take_of_length_le (by omega)
  rw[e]
  clear hp e
  generalize rkL p f=L at hll⊢
  rw[←hll]
  repeat' first|refine s1 ?_|fail
  (refine kZ ?_;exact F.ret rfl)
theorem rankVector_a(a b:Rep)(f:List Mat)(h:isMor a b f=true):AC Tryz.prog 386 [.agg (enc false a),.agg (enc false b),ar false f] [.dt true 1 (E true (rkL a.p f))]:=by
 refine AC.go Tryz.func386 Tryz.ntmps386 rfl rfl fun w0 hw=>?_;simp[WfL,WfA,E_length,Enc.enc,In64] at hw
 have hF:=specIsMorphism_a a b f
 rw[h] at hF
 obtain⟨m1,m2,m3,m4,m5⟩:=mor_ok h
 have hll:(rkL a.p f).length=f.length:=by simp[rkL]
 repeat' first|refine s1 ?_|fail
 refine AW.open 7 1 (.inr rfl) ?_
 refine F.loop (σ:=Nat) [7,8,10,11,12,13,14,15,16,17,18,19,20,21,22,23,24,25,26,27,28,29,30,31] (fun k=>[(7,.sl 2 k 0 k),(8,.i k)]) (fun k=>[(2,.live false 1 (E true ((rkL a.p f).take k)))]) (fun k=>k≤f.length) (fun k=>f.length-k) 0 ⟨rfl,rfl,trivial⟩ ⟨rfl,trivial⟩ (Nat.zero_le _) ?_
 rintro k k1
 have hp:((rkL a.p f).take k).length=k:=by rw[List.length_take];omega
 by_cases hk:k<f.length
 ·have hR:=specRankOf_a a.p (f.getD k default)
  have hts:(rkL a.p f).take (k+1)=(rkL a.p f).take k++[rankM a.p (f.getD k default)]:=map_take _ hk
  generalize rankM a.p (f.getD k default)=y at hR hts
  repeat' first|refine s1 ?_|(refine kR ?_;first|refine F.c (hF) ?_)|fail
  refine AW.draw 9 G.mixed (by kernel_rfl) ?_
  refine Pz (.p 0<|.p 1<|.l 2<|.p 3<|.p 4<|.p 5<|.l 6<|.o 7 true<|.o 8 true<|.o 9 false<|.p 10<|.n) ?_
  repeat' first|refine yS ?_|refine s1 ?_|(refine kR ?_;first|refine F.c (hR) ?_|refine F.a1 Int ?_)|fail
  any_goals refine lf ?_
  repeat' first|refine s1 ?_|fail
  exact⟨k+1,F.fit ⟨rfl,rfl,trivial⟩ ⟨obE (by rw[hts]),trivial⟩,by omega,by omega⟩
 ·obtain rfl:k=f.length:=by omega
  have e:(rkL a.p f).take f.length=rkL a.p f:=List.take_of_length_le (by omega)
  rw[e]
  clear hp e
  generalize rkL a.p f=L at hll⊢
  rw[←hll]
  repeat' first|refine s1 ?_|(refine kR ?_;first|refine F.c (hF) ?_)|fail
  (refine kZ ?_;exact F.ret rfl)
def injB(a b:Rep)(f:List Mat):Bool:=isMor a b f&&decide (rkL a.p f=a.d)
def surB(a b:Rep)(f:List Mat):Bool:=isMor a b f&&decide (rkL a.p f=b.d)
theorem implIsInjective_a(a b:Rep)(f:List Mat):AC Tryz.prog 191 [.agg (enc false a),.agg (enc false b),ar false f] [.b (injB a b f)]:=by
 refine AC.go Tryz.func191 Tryz.ntmps191 rfl rfl fun w0 hw=>?_;simp[WfL,WfA,E_length,Enc.enc,In64] at hw
 have hF:=implIsMorphism_a a b f
 unfold injB
 cases hf:isMor a b f with
 |false=>
  rw[hf] at hF
  repeat' first|refine s1 ?_|fail
  refine AW.draw 14 G.mixed (by kernel_rfl) ?_
  refine Pz (.l 0<|.l 1<|.p 2<|.o 3 true<|.p 4<|.g 11<|.k 5<|.j 6<|.k 7<|.k 9<|.j 10<|.o 8 true<|.o 11 true<|.p 12<|.p 13<|.n) ?_
  repeat' first|refine yS ?_|refine s1 ?_|(refine yD ?_ ?_<;>intro hc<;>(try simp only[decide_eq_true_eq,decide_eq_false_iff_not,Bool.not_eq_true',Bool.not_eq_false'] at hc))|refine yG ?_|(refine kR ?_;first|refine F.c (hF) ?_)|fail
  any_goals refine lf ?_
  repeat' first|refine s1 ?_|fail
  refine F.ret ?_
  rfl
 |true=>
  rw[hf] at hF
  obtain⟨m1,m2,m3,m4,m5⟩:=mor_ok hf
  have hR:=ranks_a a.p f (fun v hv=>(m5 v hv).1) (by omega)
  have hE:=equal_a (rkL a.p f) a.d
  generalize rkL a.p f=L at hR hE⊢
  generalize decide (L=a.d)=Y at hE⊢
  repeat' first|refine s1 ?_|fail
  refine AW.draw 14 G.mixed (by kernel_rfl) ?_
  refine Pz (.l 0<|.l 1<|.p 2<|.o 3 true<|.p 4<|.g 11<|.k 5<|.j 6<|.k 7<|.k 9<|.j 10<|.o 8 true<|.o 11 true<|.p 12<|.p 13<|.n) ?_
  repeat' first|refine yS ?_|refine s1 ?_|(refine yD ?_ ?_<;>intro hc<;>(try simp only[decide_eq_true_eq,decide_eq_false_iff_not,Bool.not_eq_true',Bool.not_eq_false'] at hc))|refine yG ?_|(refine kR ?_;first|refine F.c (hF) ?_|refine F.c (hR) ?_|refine F.c (hE) ?_)|fail
  any_goals refine lf ?_
  repeat' first|refine s1 ?_|fail
  refine F.ret ?_
  simp
theorem implIsSurjective_a(a b:Rep)(f:List Mat):AC Tryz.prog 192 [.agg (enc false a),.agg (enc false b),ar false f] [.b (surB a b f)]:=by
 refine AC.go Tryz.func192 Tryz.ntmps192 rfl rfl fun w0 hw=>?_;simp[WfL,WfA,E_length,Enc.enc,In64] at hw
 have hF:=implIsMorphism_a a b f
 unfold surB
 cases hf:isMor a b f with
 |false=>
  rw[hf] at hF
  repeat' first|refine s1 ?_|fail
  refine AW.draw 14 G.mixed (by kernel_rfl) ?_
  refine Pz (.l 0<|.l 1<|.p 2<|.o 3 true<|.p 4<|.g 11<|.k 5<|.j 6<|.k 7<|.k 9<|.j 10<|.o 8 true<|.o 11 true<|.p 12<|.p 13<|.n) ?_
  repeat' first|refine yS ?_|refine s1 ?_|(refine yD ?_ ?_<;>intro hc<;>(try simp only[decide_eq_true_eq,decide_eq_false_iff_not,Bool.not_eq_true',Bool.not_eq_false'] at hc))|refine yG ?_|(refine kR ?_;first|refine F.c (hF) ?_)|fail
  any_goals refine lf ?_
  repeat' first|refine s1 ?_|fail
  refine F.ret ?_
  rfl
 |true=>
  rw[hf] at hF
  obtain⟨m1,m2,m3,m4,m5⟩:=mor_ok hf
  have hR:=ranks_a a.p f (fun v hv=>(m5 v hv).1) (by omega)
  have hE:=equal_a (rkL a.p f) b.d
  generalize rkL a.p f=L at hR hE⊢
  generalize decide (L=b.d)=Y at hE⊢
  repeat' first|refine s1 ?_|fail
  refine AW.draw 14 G.mixed (by kernel_rfl) ?_
  refine Pz (.l 0<|.l 1<|.p 2<|.o 3 true<|.p 4<|.g 11<|.k 5<|.j 6<|.k 7<|.k 9<|.j 10<|.o 8 true<|.o 11 true<|.p 12<|.p 13<|.n) ?_
  repeat' first|refine yS ?_|refine s1 ?_|(refine yD ?_ ?_<;>intro hc<;>(try simp only[decide_eq_true_eq,decide_eq_false_iff_not,Bool.not_eq_true',Bool.not_eq_false'] at hc))|refine yG ?_|(refine kR ?_;first|refine F.c (hF) ?_|refine F.c (hR) ?_|refine F.c (hE) ?_)|fail
  any_goals refine lf ?_
  repeat' first|refine s1 ?_|fail
  refine F.ret ?_
  simp
theorem specIsInjective_a(a b:Rep)(f:List Mat):AC Tryz.prog 345 [.agg (enc false a),.agg (enc false b),ar false f] [.b (injB a b f)]:=by
 refine AC.go Tryz.func345 Tryz.ntmps345 rfl rfl fun w0 hw=>?_;simp[WfL,WfA,E_length,Enc.enc,In64] at hw
 have hF:=specIsMorphism_a a b f
 unfold injB
 cases hf:isMor a b f with
 |false=>
  rw[hf] at hF
  repeat' first|refine s1 ?_|fail
  refine AW.draw 14 G.mixed (by kernel_rfl) ?_
  refine Pz (.l 0<|.l 1<|.p 2<|.o 3 true<|.p 4<|.g 11<|.j 5<|.j 6<|.k 7<|.k 9<|.j 10<|.o 8 true<|.o 11 true<|.p 12<|.p 13<|.n) ?_
  repeat' first|refine yS ?_|refine s1 ?_|(refine yD ?_ ?_<;>intro hc<;>(try simp only[decide_eq_true_eq,decide_eq_false_iff_not,Bool.not_eq_true',Bool.not_eq_false'] at hc))|refine yG ?_|(refine kR ?_;first|refine F.c (hF) ?_)|fail
  any_goals refine lf ?_
  repeat' first|refine s1 ?_|fail
  refine F.ret ?_
  rfl
 |true=>
  rw[hf] at hF
  have hR:=rankVector_a a b f hf
  have hE:=l6Same_a (rkL a.p f) a.d
  generalize rkL a.p f=L at hR hE⊢
  generalize decide (L=a.d)=Y at hE⊢
  repeat' first|refine s1 ?_|fail
  refine AW.draw 14 G.mixed (by kernel_rfl) ?_
  refine Pz (.l 0<|.l 1<|.p 2<|.o 3 true<|.p 4<|.g 11<|.j 5<|.j 6<|.k 7<|.k 9<|.j 10<|.o 8 true<|.o 11 true<|.p 12<|.p 13<|.n) ?_
  repeat' first|refine yS ?_|refine s1 ?_|(refine yD ?_ ?_<;>intro hc<;>(try simp only[decide_eq_true_eq,decide_eq_false_iff_not,Bool.not_eq_true',Bool.not_eq_false'] at hc))|refine yG ?_|(refine kR ?_;first|refine F.c (hF) ?_|refine F.c (hR) ?_|refine F.c (hE) ?_)|fail
  any_goals refine lf ?_
  repeat' first|refine s1 ?_|fail
  refine F.ret ?_
  simp
theorem specIsSurjective_a(a b:Rep)(f:List Mat):AC Tryz.prog 346 [.agg (enc false a),.agg (enc false b),ar false f] [.b (surB a b f)]:=by
 refine AC.go Tryz.func346 Tryz.ntmps346 rfl rfl fun w0 hw=>?_;simp[WfL,WfA,E_length,Enc.enc,In64] at hw
 have hF:=specIsMorphism_a a b f
 unfold surB
 cases hf:isMor a b f with
 |false=>
  rw[hf] at hF
  repeat' first|refine s1 ?_|fail
  refine AW.draw 14 G.mixed (by kernel_rfl) ?_
  refine Pz (.l 0<|.l 1<|.p 2<|.o 3 true<|.p 4<|.g 11<|.j 5<|.j 6<|.k 7<|.k 9<|.j 10<|.o 8 true<|.o 11 true<|.p 12<|.p 13<|.n) ?_
  repeat' first|refine yS ?_|refine s1 ?_|(refine yD ?_ ?_<;>intro hc<;>(try simp only[decide_eq_true_eq,decide_eq_false_iff_not,Bool.not_eq_true',Bool.not_eq_false'] at hc))|refine yG ?_|(refine kR ?_;first|refine F.c (hF) ?_)|fail
  any_goals refine lf ?_
  repeat' first|refine s1 ?_|fail
  refine F.ret ?_
  rfl
 |true=>
  rw[hf] at hF
  have hR:=rankVector_a a b f hf
  have hE:=l6Same_a (rkL a.p f) b.d
  generalize rkL a.p f=L at hR hE⊢
  generalize decide (L=b.d)=Y at hE⊢
  repeat' first|refine s1 ?_|fail
  refine AW.draw 14 G.mixed (by kernel_rfl) ?_
  refine Pz (.l 0<|.l 1<|.p 2<|.o 3 true<|.p 4<|.g 11<|.j 5<|.j 6<|.k 7<|.k 9<|.j 10<|.o 8 true<|.o 11 true<|.p 12<|.p 13<|.n) ?_
  repeat' first|refine yS ?_|refine s1 ?_|(refine yD ?_ ?_<;>intro hc<;>(try simp only[decide_eq_true_eq,decide_eq_false_iff_not,Bool.not_eq_true',Bool.not_eq_false'] at hc))|refine yG ?_|(refine kR ?_;first|refine F.c (hF) ?_|refine F.c (hR) ?_|refine F.c (hE) ?_)|fail
  any_goals refine lf ?_
  repeat' first|refine s1 ?_|fail
  refine F.ret ?_
  simp
end Go.Proofs.YtjmjamhhppoimaaGreat.V
namespace Go.Proofs.YtjmjamhhppoimaaGreat.V
open V.Enc (enc)
open Go.RowKit G D
set_option linter.unusedVariables false
set_option linter.unusedSimpArgs false
set_option maxHeartbeats 4000000
set_option maxRecDepth 4000
attribute [local irreducible] AW ARg ARA ARet MRet ASil AC AM ARI
theorem vectorOf_a(p c:Int)(n:Nat)(hp:2≤p∧p≤5)(h0:0≤c∧c≤1000000)(hn:n≤1000):AC Tryz.prog 178 [.i p,.i (n:Int),.i c] [.dt true 1 (E true (digV p c n))]:=by
 refine AC.go Tryz.func178 Tryz.ntmps178 rfl rfl fun w0 hw=>?_;simp[WfL,WfA,E_length,Enc.enc,In64] at hw
 repeat' first|refine s1 ?_|(refine kR ?_;first|refine F.mk (m:=n) Int rfl rfl rfl (mkB (by omega)) (by omega) rfl rfl ?_)|fail
 rw[←digK_all p c n]
 refine F.loop (σ:=Nat) [2,8,13,14,15,16,17,18,19,20,21,22,23,24,25] (fun m=>[(2,.i (quoN p c (n-m))),(8,.i ((m:Int)-1))]) (fun m=>[(0,.live false 1 (E true (digK p c n m)))]) (fun m=>m≤n) (fun m=>m) n ⟨iE (by rw[Nat.sub_self];rfl),rfl,trivial⟩ ⟨rfl,trivial⟩ (Nat.le_refl _) ?_
 rintro m m1
 have hlen:=digK_len p c n m
 by_cases hm:0<m
 ·obtain⟨i,rfl⟩:∃i,m=i+1:=⟨m-1,by omega⟩
  have hs:=digK_set p c (n:=n) (m:=i) (by omega)
  have hq:=quoN_bd (p:=p) (c:=c) (by omega) h0.1 (n-(i+1))
  have hqs:quoN p c (n-i)=quoN p c (n-(i+1))/p:=by rw[show n-i=(n-(i+1))+1 by omega];rfl
  rw[show n-1-i=n-(i+1) by omega] at hs
  generalize quoN p c (n-(i+1))=Q at hs hq hqs⊢
  generalize digK p c n (i+1)=X at hs hlen⊢
  rw[show(((i+1:Nat)):Int)-1=(i:Int) by omega]
  repeat' first|refine s1 ?_|fail
  exact⟨i,F.fit ⟨iE hqs.symm,rfl,trivial⟩ ⟨obE (by rw[Nat.zero_add,hs]),trivial⟩,by omega,by omega⟩
 ·obtain rfl:m=0:=by omega
  rw[digK_zero] at hlen⊢
  generalize digV p c n=X at hlen⊢
  repeat' first|refine s1 ?_|fail
  (refine kZ ?_;exact F.ret rfl)
theorem countHoms_a(p:Int)(n:Nat)(hp:2≤p∧p≤5)(hn:n≤1000):AC Tryz.prog 246 [.i p,.i (n:Int)] [.i (cntH p n)]:=by
 refine AC.go Tryz.func246 Tryz.ntmps246 rfl rfl fun w0 hw=>?_;simp[WfL,WfA,E_length,Enc.enc,In64] at hw
 repeat' first|refine s1 ?_|fail
 refine F.loop (σ:=Nat) [5,6,7,8,9,10,11,12,13,14,15,16,17,18] (fun k=>[(5,.i (cntH p k)),(6,.i k)]) (fun _=>[]) (fun k=>k≤n) (fun k=>n-k) 0 ⟨rfl,rfl,trivial⟩ trivial (Nat.zero_le _) ?_
 rintro k k1
 have hb:=cntH_bd hp k
 by_cases hk:k<n
 ·by_cases hq:cntH p k≤100000
  ·have hst:=cntH_step hq
   generalize cntH p k=X at hb hq hst⊢
   have m1:0≤X*p:=Int.mul_nonneg (by omega) (by omega)
   have m2:X*p≤100000*5:=Int.mul_le_mul hq hp.2 (by omega) (by omega)
   have hi:In64 (X*p):=by unfold In64;omega
   repeat' first|refine s1 ?_|fail
   exact⟨k+1,F.fit ⟨iE hst.symm,rfl,trivial⟩ trivial,by omega,by omega⟩
  ·have hst:=cntH_stay (p:=p) (n:=k) (by omega) (n-k)
   rw[show k+(n-k)=n by omega] at hst
   rw[hst]
   generalize cntH p k=X at hb hq⊢
   repeat' first|refine s1 ?_|fail
   (refine kZ ?_;exact F.ret rfl)
 ·obtain rfl:k=n:=by omega
  generalize cntH p k=X at hb⊢
  repeat' first|refine s1 ?_|fail
  (refine kZ ?_;exact F.ret rfl)
theorem homBasis_a(a b:Rep)(hf:fitR a b=true):AC Tryz.prog 244 [.agg (enc false a),.agg (enc false b)] [.dt true 1 (E true (homL a b))]:=by
 refine AC.go Tryz.func244 Tryz.ntmps244 rfl rfl fun w0 hw=>?_;simp[WfL,WfA,E_length,Enc.enc,In64] at hw
 have h:=Fits.of hf
 have h5:=okQ_spec h.ok
 have hda:=h.da
 have hp:=isF_pos h.f
 have hn:=szT_le h a.d.length (Nat.le_refl _)
 have hN:=szA_le h a.q.fr.length (Nat.le_refl _)
 have hB:=boundaries_a a b hf
 have hK:=kernel_a a.p (szA a b a.q.fr.length) (szT a b a.d.length) (ent (eqM a b)) h.f (by omega) (by omega) (eqM_bd (by omega))
 rw[eqM_tm (by omega),show kerL a.p (szA a b a.q.fr.length) (szT a b a.d.length) (ent (eqM a b))=hkL a b from rfl] at hK
 have hZ:=zeros_a a b h
 have hzl:=zerL_len a b
 have hzc:=zerL_cat h a.d.length (Nat.le_refl _)
 rw[←hzl,List.take_length,hzl] at hzc
 have hle:=rkE_le a b hf
 have hlen:=hkL_len a b hf
 have hll:=homL_len a b
 have hsh:=fun k (hk:k<(hkL a b).length)=>shaped_a (zerL a b) ((hkL a b).getD k default) (by omega) (by rw[hkL_get a b hk];omega) (by rw[hkL_get a b hk];omega)
 simp only[zerL_shp h] at hsh
 have hts:=fun k (hk:k<(hkL a b).length)=>homL_take a b hk
 generalize homL a b=HL at hll hts⊢
 generalize hkL a b=KL at hK hlen hll hsh hts⊢
 generalize eqM a b=EM at hB hK
 generalize zerL a b=ZL at hZ hsh
 repeat' first|refine s1 ?_|fail
 refine AW.draw 8 G.mixed (by kernel_rfl) ?_
 refine Pz (.p 0<|.l 1<|.l 2<|.l 3<|.p 7<|.o 4 true<|.o 5 true<|.p 6<|.n) ?_
 repeat' first|refine yS ?_|refine s1 ?_|(refine kR ?_;first|refine F.c (hB) ?_|refine F.c (hK) ?_)|fail
 any_goals refine lf ?_
 all_goals
  repeat' first|refine s1 ?_|fail
  refine AW.freezeA (α:=List Int) 13 rfl rfl rfl ?_
  refine AW.open 5 1 (.inl rfl) ?_
  refine F.loop (σ:=Nat) [5,7,15,16,17,18,19,20,21,22,23,24,25,26,27] (fun k=>[(5,.sl 4 k 0 k),(15,.i k)]) (fun k=>[(4,.live false 1 (E true (HL.take k)))]) (fun k=>k≤KL.length) (fun k=>KL.length-k) 0 ⟨rfl,rfl,trivial⟩ ⟨rfl,trivial⟩ (Nat.zero_le _) ?_
  rintro k k1
  by_cases hk:k<KL.length
  ·have hCk:=hsh k hk
   have ht:=hts k hk
   have hp2:(HL.take k).length=k:=by rw[List.length_take];omega
   generalize cutV a b (KL.getD k default)=V' at hCk ht
   repeat' first|refine s1 ?_|(refine kR ?_;first|refine F.c (hZ) ?_|refine F.c (hCk) ?_|refine F.a1 (List Mat) (a:=V') ?_)|fail
   exact⟨k+1,F.fit ⟨rfl,rfl,trivial⟩ ⟨obE (by rw[ht]),trivial⟩,by omega,by omega⟩
  ·obtain rfl:k=KL.length:=by omega
   rw[←hll,List.take_length]
   repeat' first|refine s1 ?_|fail
   (refine kZ ?_;exact F.ret rfl)
theorem take_sum{d:List Int}{k:Nat}(h:k<d.length):(d.take (k+1)).sum=(d.take k).sum+d.getD k default:=by
 have e:d.getD k default=d[k]:=by simp[h]
 rw[List.take_succ_eq_append_getElem h,List.sum_append,e]
 simp
theorem take_sum_bd{d:List Int}(h:∀j,j<d.length→0≤d.getD j default∧d.getD j default≤4):∀k,k≤d.length→0≤(d.take k).sum∧(d.take k).sum≤4*k
 |0,_=>by simp
 |k+1,hk=>by
  have h1:=take_sum_bd h k (by omega)
  have h2:=h k (by omega)
  rw[take_sum (by omega)]
  push_cast
  omega
theorem totalOf_a(r:Rep)(h:isRep r=true):AC Tryz.prog 230 [.agg (enc false r)] [.i r.d.sum]:=by
 refine AC.go Tryz.func230 Tryz.ntmps230 rfl rfl fun w0 hw=>?_;simp[WfL,WfA,E_length,Enc.enc,In64] at hw
 have hF:=specIsRep_a r
 rw[h] at hF
 obtain⟨r1,r2,r3,r4⟩:=isRep_spec h
 obtain⟨c1,c2,c3,c4⟩:=areDims_spec r2
 have h5:=okQ_spec c1
 have hd:∀j,j<r.d.length→0≤r.d.getD j default∧r.d.getD j default≤4:=fun j hj=>allIn_spec c3 hj
 have hb:=take_sum_bd hd
 repeat' first|refine s1 ?_|(refine kR ?_;first|refine F.c (hF) ?_)|fail
 refine F.loop (σ:=Nat) [3,4,8,9,10,11,12,13,14,15,16,17,18,19,20,21] (fun k=>[(3,.i (r.d.take k).sum),(4,.i k)]) (fun _=>[]) (fun k=>k≤r.d.length) (fun k=>r.d.length-k) 0 ⟨rfl,rfl,trivial⟩ trivial (Nat.zero_le _) ?_
 rintro k k1
 have hbk:=hb k k1
 by_cases hk:k<r.d.length
 ·have hs:=take_sum hk
  have hdk:=hd k hk
  have hi:In64 ((r.d.take k).sum+r.d.getD k default):=by unfold In64;omega
  repeat' first|refine s1 ?_|fail
  exact⟨k+1,F.fit ⟨iE (by rw[hs]),rfl,trivial⟩ trivial,by omega,by omega⟩
 ·obtain rfl:k=r.d.length:=by omega
  rw[List.take_length]
  repeat' first|refine s1 ?_|fail
  (refine kZ ?_;exact F.ret rfl)
theorem l12Close_w(r:Rep)(s:List Spc)(hr:isRep r=true)(hs:SpOk r s):AM Tryz.prog 211 [.agg (enc false r),ar false s] [] [.dt true 2 (E false (genA r s))] []:=by
 refine AM.go Tryz.func211 Tryz.ntmps211 rfl rfl fun w0 mp hw=>?_;simp[WfL,WfA,E_length,Enc.enc,In64] at hw
 obtain⟨r1,r2,r3,r4⟩:=isRep_spec hr
 obtain⟨c1,c2,c3,c4⟩:=areDims_spec r2
 have h5:=okQ_spec c1
 have hN:=genN_ok hr hs
 have hsl:=hs.1
 have hg0:genN r s 0=s:=rfl
 have hgs:∀k,genN r s (k+1)=genK r (genN r s k) r.q.fr.length:=fun _=>rfl
 unfold genA
 generalize genN r s=GN at*
 repeat' first|refine s1 ?_|(refine kR ?_;first|refine F.aLN Spc (oo:=false) ?_)|fail
 refine F.loop (σ:=Nat) [6,7,8,9,10,14,15,16,17,18,19,20,21,22,23,24,25,26,27,28,29,30,31,32,33,34,35,36,37,38,39,40,41,42,43,44,45,46,47,48,49,50,51,52,53,54,55,56,57,58,59,60,61,62,63,64] (fun k=>[(6,.i k)]) (fun k=>[(1,.live false 2 (E false (GN k)))]) (fun k=>k≤9) (fun k=>9-k) 0 ⟨rfl,trivial⟩ ⟨obE (by rw[hg0]),trivial⟩ (by omega) ?_
 rintro k k1
 have hNk:=hN k
 have hgk:=hgs k
 have hl1:=hNk.1
 by_cases hk:k<9
 ·have hKo:=fun i hi=>genK_ok hr hNk i hi
  generalize hYe:GN (k+1)=Y at*
  generalize hXe:GN k=X at*
  repeat' first|refine s1 ?_|fail
  refine F.loop (σ:=Nat) [7,8,9,10,18,19,20,21,22,23,24,25,26,27,28,29,30,31,32,33,34,35,36,37,38,39,40,41,42,43,44,45,46,47,48,49,50,51,52,53,54,55,56,57,58,59,60,61,62,63,64] (fun i=>[(7,.i i)]) (fun i=>[(1,.live false 2 (E false (genK r X i)))]) (fun i=>i≤r.q.fr.length) (fun i=>r.q.fr.length-i) 0 ⟨rfl,trivial⟩ ⟨rfl,trivial⟩ (Nat.zero_le _) ?_
  rintro i i1
  by_cases hi:i<r.q.fr.length
  ·have hKi:=hKo i (by omega)
   obtain⟨a1,a2,a3,a4,a5,a6,a7,a8⟩:=gen_arr hr hKi hi
   have hIm:=specImageOf_a a3 a5 a8
   have hAd:=addSpaces_a r.p _ _ a4 a6 a7
   have hgi:genK r X (i+1)=(genK r X i).set (r.q.to.getD i default).toNat (addS r.p ((genK r X i).getD (r.q.to.getD i default).toNat default) (imgSp r.p (r.m.getD i default) ((genK r X i).getD (r.q.fr.getD i default).toNat default))):=rfl
   have f:0≤r.q.fr.getD i default∧r.q.fr.getD i default<r.q.n:=okQ_fr c1 hi
   have g:0≤r.q.to.getD i default∧r.q.to.getD i default<r.q.n:=okQ_to c1 hi
   have hli:=hKi.1
   clear hKi a3 a4 a5 a6 a7 a8
   generalize genK r X i=L at hIm hAd hgi hli⊢
   generalize imgSp r.p (r.m.getD i default) (L.getD (r.q.fr.getD i default).toNat default)=IM at hIm hAd hgi
   generalize addS r.p (L.getD (r.q.to.getD i default).toNat default) IM=AS at hAd hgi
   rw[←Nat.zero_add (r.q.fr.getD i default).toNat] at hIm
   rw[←Nat.zero_add (r.q.to.getD i default).toNat] at hAd
   repeat' first|refine s1 ?_|fail
   refine AW.draw 21 G.mixed (by kernel_rfl) ?_
   refine Pz (.p 0<|.l 1<|.p 2<|.l 3<|.p 4<|.p 5<|.l 6<|.p 7<|.p 8<|.p 9<|.l 10<|.p 11<|.p 12<|.l 13<|.p 14<|.l 15<|.a [(16,true,.p 17<|.p 18<|.p 19<|.o 20 true<|.o 21 false<|.p 22<|.n),(20,true,.o 16 true<|.p 17<|.p 18<|.p 19<|.o 21 false<|.p 22<|.n)]) ?_
   repeat' first|(refine yU (i:=16) ?_;first|refine s1 ?_|refine F.c (hIm) ?_)|refine yS ?_|refine s1 ?_|refine yC ?_ ?_|exact trivial|fail
   any_goals refine lf ?_
   all_goals
    repeat' first|refine s1 ?_|fail
    refine AW.draw 14 G.mixed (by kernel_rfl) ?_
    refine Pz (.p 0<|.p 1<|.p 2<|.l 3<|.p 4<|.p 5<|.p 6<|.l 7<|.l 8<|.o 9 true<|.p 10<|.p 11<|.h 11<|.p 12<|.p 13<|.o 14 false<|.n) ?_
    repeat' first|(refine yU (i:=9) ?_;first|refine s1 ?_|refine F.c (hAd) ?_)|(refine yH (i:=11) ?_ (fun h=>(dzG (α:=List Int) (ls:=AS.b) 62 1 rfl rfl rfl rfl h)))|(refine yU (i:=14) ?_;first|refine s1 ?_|(refine F.stGE (α:=Spc) (oo:=false) (v:=AS) rfl rfl rfl rfl rfl (by omega) (by omega) (.at1 rfl (.at1 rfl .nil)) rfl rfl rfl rfl rfl ?_))|refine yS ?_|refine s1 ?_|fail
    any_goals refine lf ?_
    all_goals
     rw[Nat.zero_add (r.q.to.getD i default).toNat]
     repeat' first|refine s1 ?_|fail
     exact⟨i+1,F.fit ⟨rfl,trivial⟩ ⟨obE (by rw[hgi]),trivial⟩,by omega,by omega⟩
  ·obtain rfl:i=r.q.fr.length:=by omega
   rw[←hgk]
   repeat' first|refine s1 ?_|fail
   exact⟨k+1,F.fit ⟨rfl,trivial⟩ ⟨obE (by rw[hYe]),trivial⟩,by omega,by omega⟩
 ·obtain rfl:k=9:=by omega
  generalize GN 9=X at*
  repeat' first|refine s1 ?_|fail
  refine kM ?_
  exact F.retM rfl trivial
end Go.Proofs.YtjmjamhhppoimaaGreat.V
