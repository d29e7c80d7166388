/- Texts that the proof needs: A105. -/
import Derived.Test.YtjmjamhhppoimaaGreatQisA101
namespace Go.Proofs.YtjmjamhhppoimaaGreat.V
open V.Enc (enc)
open Go.RowKit G D
set_option linter.unusedVariables false
set_option linter.unusedSimpArgs false
set_option maxHeartbeats 4000000
set_option maxRecDepth 4000
attribute [local irreducible] AW ARg ARA ARet MRet ASil AC AM ARI
def idL(d:List Int):List Mat:=d.map idM
theorem idL_len(d:List Int):(idL d).length=d.length:=by simp[idL]
theorem idL_take{d:List Int}{k:Nat}(h:k<d.length):(idL d).take (k+1)=(idL d).take k++[idM (d.getD k default)]:=map_take idM h
theorem identities_a(d:List Int)(hl:d.length≤1000)(hd:∀v,v<d.length→0≤d.getD v default∧d.getD v default≤4):AC Tryz.prog 388 [ar false d] [.dt true 3 (E true (idL d))]:=by
 refine AC.go Tryz.func388 Tryz.ntmps388 rfl rfl fun w0 hw=>?_;simp[WfL,WfA,E_length,Enc.enc,In64] at hw
 have hll:=idL_len d
 have hts:=fun k hk=>idL_take (d:=d) (k:=k) hk
 have hI:∀v,v<d.length→AC Tryz.prog 289 [.i (d.getD v default)] [.agg (enc true (idM (d.getD v default)))]:=fun v hv=>by
  have h1:=hd v hv
  have:=identity_a (d.getD v default).toNat (by omega)
  rw[Int.toNat_of_nonneg h1.1] at this
  exact this
 generalize idL d=L at hll hts⊢
 repeat' first|refine s1 ?_|fail
 refine AW.open 3 3 (.inl rfl) ?_
 refine F.loop (σ:=Nat) [3,5,8,9,10,11,12,13,14,15,16,17] (fun k=>[(3,.sl 0 k 0 k),(8,.i k)]) (fun k=>[(0,.live false 3 (E true (L.take k)))]) (fun k=>k≤d.length) (fun k=>d.length-k) 0 ⟨rfl,rfl,trivial⟩ ⟨rfl,trivial⟩ (Nat.zero_le _) ?_
 rintro k k1
 have hp2:(L.take k).length=k:=by rw[List.length_take];omega
 by_cases hk:k<d.length
 ·have hIk:=hI k hk
  have ht:=hts k hk
  generalize idM (d.getD k default)=Y at hIk ht
  repeat' first|refine s1 ?_|(refine kR ?_;first|refine F.c (hIk) ?_|refine F.a1 Mat (a:=Y) ?_)|fail
  exact⟨k+1,F.fit ⟨rfl,rfl,trivial⟩ ⟨obE (by rw[ht]),trivial⟩,by omega,by omega⟩
 ·obtain rfl:k=d.length:=by omega
  have e:L.take d.length=L:=List.take_of_length_le (by omega)
  rw[e]
  clear hp2 e
  rw[←hll]
  repeat' first|refine s1 ?_|fail
  (refine kZ ?_;exact F.ret rfl)
theorem identityMor_a(r:Rep)(hr:isRep r=true):AC Tryz.prog 271 [.agg (enc false r)] [.dt true 3 (E true (idL r.d)),.b true]:=by
 refine AC.go Tryz.func271 Tryz.ntmps271 rfl rfl fun w0 hw=>?_;simp[WfL,WfA,E_length,Enc.enc,In64] at hw
 obtain⟨r1,r2,r3,r4⟩:=isRep_spec hr
 obtain⟨c1,c2,c3,c4⟩:=areDims_spec r2
 have h5:=okQ_spec c1
 have hF:=specIsRep_a r
 rw[hr] at hF
 have hll:=idL_len r.d
 have hts:=fun k hk=>idL_take (d:=r.d) (k:=k) hk
 have hI:∀v,v<r.d.length→AC Tryz.prog 215 [.i (r.d.getD v default)] [.agg (enc true (idM (r.d.getD v default)))]:=fun v hv=>by
  have h1:0≤r.d.getD v default∧r.d.getD v default≤4:=allIn_spec c3 hv
  have:=l3Identity_a (r.d.getD v default).toNat (by omega)
  rw[Int.toNat_of_nonneg h1.1] at this
  exact this
 generalize idL r.d=L at hll hts⊢
 repeat' first|refine s1 ?_|fail
 refine AW.open 4 3 (.inr rfl) ?_
 refine F.loop (σ:=Nat) [4,5,7,8,9,10,11,12,13,14,15,16,17,18,19,20,21,22,23,24,25,26] (fun k=>[(4,.sl 1 k 0 k),(5,.i k)]) (fun k=>[(1,.live false 3 (E true (L.take k)))]) (fun k=>k≤r.d.length) (fun k=>r.d.length-k) 0 ⟨rfl,rfl,trivial⟩ ⟨rfl,trivial⟩ (Nat.zero_le _) ?_
 rintro k k1
 have hp2:(L.take k).length=k:=by rw[List.length_take];omega
 by_cases hk:k<r.d.length
 ·have hIk:=hI k hk
  have ht:=hts k hk
  generalize idM (r.d.getD k default)=Y at hIk ht
  repeat' first|refine s1 ?_|(refine kR ?_;first|refine F.c (hF) ?_|refine F.c (hIk) ?_|refine F.a1 Mat (a:=Y) ?_)|fail
  exact⟨k+1,F.fit ⟨rfl,rfl,trivial⟩ ⟨obE (by rw[ht]),trivial⟩,by omega,by omega⟩
 ·obtain rfl:k=r.d.length:=by omega
  have e:L.take r.d.length=L:=List.take_of_length_le (by omega)
  rw[e]
  clear hp2 e
  rw[←hll]
  repeat' first|refine s1 ?_|(refine kR ?_;first|refine F.c (hF) ?_)|fail
  (refine kZ ?_;exact F.ret rfl)
theorem are_vec{a b:Rep}{f:List Mat}(h:areM a b f=true):(catM f).length=szT a b a.d.length∧∀j,j<szT a b a.d.length→0≤(catM f).getD j default∧(catM f).getD j default≤a.p-1:=by
 have hl:=catM_len h f.length (Nat.le_refl _)
 rw[List.take_length,(areM_spec h).2.1] at hl
 refine⟨hl,fun j hj=>?_⟩
 have:=colM_bd h j hj 0 (by omega)
 have e:ent (colM a b f) j 0=(catM f).getD j default:=by
  show(catM f).getD (j*1+0) default=_
  rw[Nat.mul_one];rfl
 rw[e] at this
 exact this
theorem comp_are{a b c:Rep}{f g:List Mat}(h1:isMor a b f=true)(h2:isMor b c g=true):areM a c (compL a.p f g)=true:=by
 obtain⟨f1,f2,f3,f4,f5⟩:=mor_ok h1
 obtain⟨g1,g2,g3,g4,g5⟩:=mor_ok h2
 have hf1:=(areM_spec (isMor_are h1)).1
 have hf2:=(areM_spec (isMor_are h2)).1
 have hac:fitR a c=true:=fitR_mk (fitR_reps hf1).1 (fitR_reps hf2).2 (f3.trans g3) ((Fits.of hf1).q.trans (Fits.of hf2).q)
 simp only[areM,Bool.and_eq_true,decide_eq_true_eq,List.all_eq_true]
 refine⟨⟨hac,by rw[compL_len];exact f1⟩,fun v hv=>?_⟩
 have hv:v<f.length:=by rw[compL_len] at hv;simpa using hv
 obtain⟨a1,a2,a3⟩:=f5 v hv
 obtain⟨b1,b2,b3⟩:=g5 v (by omega)
 rw[←f3] at b1
 have e:(compL a.p f g).getD v default=mulM a.p (g.getD v default) (f.getD v default):=by simp[compL,hv]
 obtain⟨m1,m2⟩:=mulM_rc b1 a1
 simp only[fitV,e,Bool.and_eq_true,decide_eq_true_eq]
 exact⟨⟨isMat_mul b1 a1,by rw[m2,a2]⟩,by rw[m1,b3]⟩
theorem id_are{a:Rep}(h:isRep a=true):areM a a (idL a.d)=true:=by
 obtain⟨r1,r2,r3,r4⟩:=isRep_spec h
 obtain⟨c1,c2,c3,c4⟩:=areDims_spec r2
 simp only[areM,Bool.and_eq_true,decide_eq_true_eq,List.all_eq_true]
 refine⟨⟨fitR_refl h,idL_len _⟩,fun v hv=>?_⟩
 have hv:v<a.d.length:=by rw[idL_len] at hv;simpa using hv
 have hd:0≤a.d.getD v default∧a.d.getD v default≤4:=allIn_spec c3 hv
 have e:(idL a.d).getD v default=idM (a.d.getD v default):=by simp[idL,hv]
 simp only[fitV,e,Bool.and_eq_true,decide_eq_true_eq]
 exact⟨⟨isMat_id r1 (by omega),Int.toNat_of_nonneg hd.1⟩,Int.toNat_of_nonneg hd.1⟩
end Go.Proofs.YtjmjamhhppoimaaGreat.V
