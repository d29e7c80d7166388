/- Texts that the proof needs: A116, A203, A207, A208, Down. -/
import Derived.Test.YtjmjamhhppoimaaGreatQisA202
import Derived.JoinedOf
namespace Go.Proofs.YtjmjamhhppoimaaGreat.V
open V.Enc (enc)
open Go.RowKit G D
set_option linter.unusedVariables false
set_option linter.unusedSimpArgs false
set_option maxHeartbeats 4000000
set_option maxRecDepth 4000
attribute [local irreducible] AW ARg ARA ARet MRet ASil AC AM ARI
def isoB(a b:Rep)(f:List Mat):Bool:=injB a b f&&surB a b f
theorem implIsIsomorphism_g(a b:Rep)(f:List Mat):AC Tryz.prog 94 [.agg (enc false a),.agg (enc false b),ar false f] [.b (isoB a b f)]:=by
 refine AC.go Tryz.func94 Tryz.ntmps94 rfl rfl fun w0 hw=>?_;simp[WfL,WfA,E_length,Enc.enc,In64] at hw
 have hI:=implIsInjective_a a b f
 have hS:=implIsSurjective_a a b f
 unfold isoB
 generalize injB a b f=x at hI⊢
 generalize surB a b f=y at hS⊢
 cases x<;>
 ·repeat' first|refine s1 ?_|(refine kR ?_;first|refine F.c (hI) ?_|refine F.c (hS) ?_)|fail
  refine F.ret ?_
  simp
theorem fstN_some{P:Nat→Bool}:∀(f i k:Nat),fstN P f i=some k→P k=true∧i≤k∧k<i+f
 |0,i,k,h=>by simp[fstN] at h
 |f+1,i,k,h=>by
  rw[fstN] at h
  by_cases e:P i=true
  ·rw[if_pos e] at h
   cases h
   exact⟨e,Nat.le_refl _,by omega⟩
  ·rw[if_neg e] at h
   obtain⟨a,b,c⟩:=fstN_some f (i+1) k h
   exact⟨a,by omega,by omega⟩
theorem fstN_none{P:Nat→Bool}:∀(f i:Nat),fstN P f i=none→∀k,i≤k→k<i+f→P k=false
 |0,i,_,k,h1,h2=>by omega
 |f+1,i,h,k,h1,h2=>by
  rw[fstN] at h
  by_cases e:P i=true
  ·rw[if_pos e] at h;cases h
  ·rw[if_neg e] at h
   by_cases ek:i=k
   ·subst ek;simpa using e
   ·exact fstN_none f (i+1) h k (by omega) (by omega)
theorem cntH_pow{q:Nat}:∀n,cntH (q:Int) n≤100000→cntH (q:Int) n=((q^n:Nat):Int)
 |0,_=>by simp[cntH]
 |n+1,h=>by
  rw[cntH] at h⊢
  by_cases e:cntH (q:Int) n≤100000
  ·rw[if_pos e,cntH_pow n e,Nat.pow_succ]
   push_cast
   rfl
  ·rw[if_neg e] at h;omega
theorem cnt_nMor{a b:Rep}(hf:fitR a b=true)(h:cntH a.p (hkL a b).length≤100000):cntH a.p (hkL a b).length=(nMor a b:Nat):=by
 obtain⟨q0,q1,q2⟩:=fit_q hf
 have:=cntH_pow (q:=a.p.toNat) (hkL a b).length (by rw[q1];exact h)
 rw[q1] at this
 exact this
theorem homD_fit{a b:Rep}(hf:fitR a b=true):homD a b=((hkL a b).length:Nat):=(homD_len a b hf).1
structure IsoF (a b:Rep):Prop where
 f:∃f,isMor a b f=true∧invB a b f=true
theorem IsoF.symm{a b:Rep}(h:IsoF a b):IsoF b a:=by
 obtain⟨f,h1,h2⟩:=h.f
 exact⟨invL a.p f,(inv_ex h1 h2).1,inv_inv h1 h2⟩
theorem IsoF.fit{a b:Rep}(h:IsoF a b):fitR a b=true:=by
 obtain⟨f,h1,h2⟩:=h.f
 exact(areM_spec (isMor_are h1)).1
theorem IsoF.d{a b:Rep}(h:IsoF a b):a.d=b.d:=by
 obtain⟨f,h1,h2⟩:=h.f
 simp only[invB,Bool.and_eq_true,decide_eq_true_eq] at h2
 exact h2.1
theorem fitR_trans{a b c:Rep}(h1:fitR a b=true)(h2:fitR b c=true):fitR a c=true:=fitR_mk (fitR_reps h1).1 (fitR_reps h2).2 ((Fits.of h1).p.trans (Fits.of h2).p) ((Fits.of h1).q.trans (Fits.of h2).q)
theorem IsoF.le_r{a b r:Rep}(h:IsoF a b)(hr:fitR r a=true):(hkL r a).length≤(hkL r b).length:=by
 obtain⟨f,h1,h2⟩:=h.f
 obtain⟨k1,k2,k3⟩:=inv_ex h1 h2
 exact hom_le_r h1 k1 k2 hr
theorem IsoF.le_l{a b r:Rep}(h:IsoF a b)(hr:fitR a r=true):(hkL a r).length≤(hkL b r).length:=by
 obtain⟨f,h1,h2⟩:=h.f
 obtain⟨k1,k2,k3⟩:=inv_ex h1 h2
 exact hom_le_l h1 k1 k2 hr
theorem IsoF.hom_r{a b:Rep}(h:IsoF a b)(r:Rep):homD r a=homD r b:=by
 by_cases hr:fitR r a=true
 ·have hrb:=fitR_trans hr h.fit
  rw[homD_fit hr,homD_fit hrb]
  have h1:=h.le_r hr
  have h2:=h.symm.le_r hrb
  omega
 ·have hrb:¬fitR r b=true:=fun e=>hr (fitR_trans e h.symm.fit)
  unfold homD
  rw[if_neg hr,if_neg hrb]
theorem IsoF.hom_l{a b:Rep}(h:IsoF a b)(r:Rep):homD a r=homD b r:=by
 by_cases hr:fitR a r=true
 ·have hrb:=fitR_trans h.symm.fit hr
  rw[homD_fit hr,homD_fit hrb]
  have h1:=h.le_l hr
  have h2:=h.symm.le_l hrb
  omega
 ·have hrb:¬fitR b r=true:=fun e=>hr (fitR_trans h.fit e)
  unfold homD
  rw[if_neg hr,if_neg hrb]
theorem IsoF.len{a b:Rep}(h:IsoF a b):(hkL a a).length=(hkL a b).length:=by
 have hr:=fitR_refl (fitR_reps h.fit).1
 have h1:=h.le_r hr
 have h2:=h.symm.le_r h.fit
 omega
theorem IsoF.num{a b:Rep}(h:IsoF a b):isoN a b (nMor a b)=isoN a a (nMor a a):=by
 obtain⟨f,h1,h2⟩:=h.f
 obtain⟨k1,k2,k3⟩:=inv_ex h1 h2
 have ki:=inv_inv h1 h2
 have hfit:=h.fit
 have hr:=fitR_refl (fitR_reps hfit).1
 have ep:=(Fits.of hfit).p
 refine Nat.le_antisymm ?_ ?_
 ·refine count_le (fun c d=>compL a.p (numL a b (c:Int)) (invL a.p f)=numL a a (d:Int)) (fun c hc hP=>?_) fun c c' d hc hc' e1 e2=>num_inj hfit hc hc' ?_
  ·have hm:=comp_mor (num_mor hfit (c:Int)) k1
   obtain⟨d,hd,e⟩:=mor_num hm
   exact⟨d,hd,by rw[e];exact inv_comp (num_mor hfit (c:Int)) k1 hP ki,e.symm⟩
  ·have key:∀x,isMor a b x=true→compL a.p (compL a.p x (invL a.p f)) f=x:=fun x hx=>by
    rw[comp_assoc hx k1 h1,k3]
    exact(comp_id hx).1
   rw[←key _ (num_mor hfit (c:Int)),←key _ (num_mor hfit (c':Int)),e1,e2]
 ·refine count_le (fun c d=>compL a.p (numL a a (c:Int)) f=numL a b (d:Int)) (fun c hc hP=>?_) fun c c' d hc hc' e1 e2=>num_inj hr hc hc' ?_
  ·have hm:=comp_mor (num_mor hr (c:Int)) h1
   obtain⟨d,hd,e⟩:=mor_num hm
   exact⟨d,hd,by rw[e];exact inv_comp (num_mor hr (c:Int)) h1 hP h2,e.symm⟩
  ·have key:∀x,isMor a a x=true→compL a.p (compL a.p x f) (invL a.p f)=x:=fun x hx=>by
    rw[comp_assoc hx h1 k1,k2]
    exact(comp_id hx).1
   rw[←key _ (num_mor hr (c:Int)),←key _ (num_mor hr (c':Int)),e1,e2]
theorem fi_iso{a b:Rep}(hf:fitR a b=true)(h:(fiP a b).2=true):isMor a b (fiP a b).1=true∧invB a b (fiP a b).1=true:=by
 cases ho:fiO a b with
 |none=>rw[fiP_none ho] at h;cases h
 |some k=>
  rw[fiP_some ho]
  exact⟨num_mor hf (k:Int),(fstN_some _ _ _ ho).1⟩
theorem fi_all{a b:Rep}(h:IsoF a b)(hc:cntH a.p (hkL a b).length≤3000):(fiP a b).2=true:=by
 obtain⟨f,h1,h2⟩:=h.f
 cases ho:fiO a b with
 |some k=>rw[fiP_some ho]
 |none=>
  exfalso
  obtain⟨c,hc1,e⟩:=mor_num h1
  have h3:=cnt_nMor h.fit (by omega)
  have hm:=(mstH_eq h.fit).1
  have:=fstN_none _ _ ho c (Nat.zero_le _) (by omega)
  rw[e,h2] at this
  cases this
theorem IsoF.dif{a b:Rep}(h:IsoF a b):difB a b=false:=by
 have e1:homD a b=homD a a:=(h.hom_r a).symm
 have e2:homD b a=homD a a:=(h.hom_l a).symm
 have e3:homD b b=homD a a:=by rw[←h.hom_r b,←h.hom_l a]
 simp[difB,h.d,e1,e2,e3]
theorem ar_one{a b:Rep}(h:arI a b=1):IsoF a b:=by
 unfold arI at h
 by_cases hf:fitR a b=true
 ·rw[if_pos hf] at h
  by_cases hd:difB a b=true
  ·rw[if_pos hd] at h;omega
  ·rw[if_neg hd] at h
   by_cases hi:(fiP a b).2=true
   ·exact⟨_,fi_iso hf hi⟩
   ·rw[if_neg hi] at h
    split at h<;>omega
 ·rw[if_neg hf] at h;omega
theorem ar_iso{a b:Rep}(h:IsoF a b):arI a b≠0:=by
 unfold arI
 rw[if_pos h.fit,if_neg (by rw[h.dif];simp)]
 by_cases hi:(fiP a b).2=true
 ·rw[if_pos hi];omega
 ·rw[if_neg hi]
  by_cases hc:cntH a.p (hkL a b).length≤3000
  ·exact absurd (fi_all h hc) hi
  ·rw[if_neg hc];omega
theorem ar_vals(a b:Rep):arI a b=-1∨arI a b=0∨arI a b=1:=by
 unfold arI
 repeat' split
 all_goals simp
theorem iso_found{a b:Rep}(h:(fisP a b).2=true):arI a b=1∧isoB a b (fisP a b).1=true:=by
 unfold fisP at h⊢
 by_cases hc:fitR a b=true∧a.d=b.d
 ·rw[if_pos hc] at h⊢
  obtain⟨h1,h2⟩:=fi_iso hc.1 h
  have hI:IsoF a b:=⟨_,h1,h2⟩
  refine⟨?_,?_⟩
  ·unfold arI
   rw[if_pos hc.1,if_neg (by rw[hI.dif];simp),if_pos h]
  ·show(injB a b (fiP a b).1&&surB a b (fiP a b).1)=true
   rw[inv_iso h1]
   exact h2
 ·rw[if_neg hc] at h;cases h
theorem iso_count{a b:Rep}(h:arI a b=1)(hc:0≤cisB a b):cisB a b≠0∧cisB a b=cisB a a:=by
 have hI:=ar_one h
 have hf:=hI.fit
 have hr:=fitR_refl (fitR_reps hf).1
 have hl:=hI.len
 obtain⟨f,h1,h2⟩:=hI.f
 have hcm:0≤cntM a b∧cntM a b≤3000:=by
  refine Classical.byContradiction fun hn=>?_
  unfold cisB at hc
  rw[if_neg hn] at hc
  omega
 have hm:cntM a a=cntM a b:=by
  unfold cntM
  rw[if_pos hf,if_pos hr,hl]
 have hcc:cntM a b=cntH a.p (hkL a b).length:=by
  have:=hcm.1
  unfold cntM at this⊢
  rw[if_pos hf] at this⊢
  split at this
  ·rename_i h5;rw[if_pos h5]
  ·omega
 have hn1:(cntM a b).toNat=nMor a b:=by
  have:=cnt_nMor hf (by omega)
  omega
 have hn2:nMor a a=nMor a b:=by unfold nMor;rw[hl]
 have e1:cisB a b=(isoN a b (nMor a b):Nat):=by
  unfold cisB
  rw[if_pos hcm,hn1]
 have e2:cisB a a=(isoN a a (nMor a a):Nat):=by
  unfold cisB
  rw[hm,if_pos hcm,hn1,hn2]
 rw[e1,e2,hI.num]
 refine⟨?_,rfl⟩
 rw[←hI.num]
 obtain⟨c,hc1,e⟩:=mor_num h1
 have:0<isoN a b (nMor a b):=by
  unfold isoN
  rw[List.countP_pos_iff]
  exact⟨c,by simpa using hc1,by rw[e];exact h2⟩
 omega
theorem iso_both(a b:Rep)(h1:0≤arI a b)(h2:0≤arI b a):arI a b=arI b a:=by
 rcases ar_vals a b with e|e|e<;>rcases ar_vals b a with g|g|g<;>try omega
 ·exact absurd e (ar_iso (ar_one g).symm)
 ·exact absurd g (ar_iso (ar_one e).symm)
theorem iso_same{a b:Rep}(h:arI a b=1)(l:List Rep):sameH a b l=true:=by
 have hI:=ar_one h
 unfold sameH
 rw[hI.fit,Bool.true_and,decide_eq_true_eq]
 unfold homRow
 split
 ·exact List.map_congr_left fun r _=>hI.hom_r r
 ·rfl
end Go.Proofs.YtjmjamhhppoimaaGreat.V
namespace Go.Proofs.YtjmjamhhppoimaaGreat.V
open Go.RowKit G D
set_option linter.unusedVariables false
set_option linter.unusedSimpArgs false
set_option maxHeartbeats 4000000
set_option maxRecDepth 4000
attribute [local irreducible] AW ARg ARA ARet MRet ASil AC AM AMx ACx AD ARI
def genOk(r:Rep)(v:Int)(x:List Int):Prop:=isRep r=true∧(0≤v∧v.toNat<r.d.length)∧isVec r.p x=true∧(x.length:Int)=r.d.getD v.toNat default
theorem genOk.w{r:Rep}{v:Int}{x:List Int}(h:genOk r v x):x.length=(r.d.getD v.toNat default).toNat∧∀j,j<(r.d.getD v.toNat default).toNat→0≤x.getD j default∧x.getD j default≤r.p-1:=by
 obtain⟨h1,h2,h3,h4⟩:=h
 have hl:x.length=(r.d.getD v.toNat default).toNat:=by omega
 refine⟨hl,fun j hj=>?_⟩
 simp only[isVec,Bool.and_eq_true] at h3
 exact allIn_spec h3.2 (by omega)
theorem sameL_self(g:List Mat):sameL g g=true:=by simp[sameL,sameM]
end Go.Proofs.YtjmjamhhppoimaaGreat.V
namespace Go.Proofs.YtjmjamhhppoimaaGreat.V
open Go
set_option linter.unusedVariables false
def leads(P:Program)(g:FuncId):List FuncId:=(P.funcs[g]?).elim [] P.leadsTo
def Closed(P:Program)(T:List FuncId):Prop:=∀g∈T,∀h∈leads P g,h∈T
theorem recurses_at{P:Program}{f:FuncId}(g h:FuncId)(hg:(P.closure f).contains g=true)(hh:(leads P g).contains h=true)(hc:(P.closure h).contains g=true):P.recurses f=true:=by
 unfold Program.recurses
 rw[Bool.or_eq_true]
 refine .inr (List.any_eq_true.2 ⟨g,List.contains_iff_mem.1 hg,List.any_eq_true.2 ⟨h,?_,hc⟩⟩)
 exact List.contains_iff_mem.1 hh
end Go.Proofs.YtjmjamhhppoimaaGreat.V
