/- Texts that the proof needs: C1, C2, A79, A80. -/
import Derived.Test.YtjmjamhhppoimaaGreatQisB9
namespace Go.Proofs.YtjmjamhhppoimaaGreat.V
open V.Enc (enc)
open Go.RowKit G D
set_option linter.unusedVariables false
set_option linter.unusedSimpArgs false
set_option maxHeartbeats 4000000
set_option maxRecDepth 4000
attribute [local irreducible] AW ARg ARA ARet MRet ASil AC AM
theorem l12Zero_a(r:Rep)(h:r.d.length≤1000):AC Tryz.prog 209 [.agg (enc false r)] [.dt true 2 (E true (radK r 0))]:=by
 refine AC.go Tryz.func209 Tryz.ntmps209 rfl rfl fun w0 hw=>?_;simp[WfL,WfA,E_length,Enc.enc,In64] at hw
 unfold radK
 repeat' first|refine s1 ?_|fail
 refine AW.open 3 2 (.inr rfl) ?_
 refine F.loop (σ:=Nat) [3,4,6,7,8,9,10,11,12,13,14,15,16,17,18,19,20,21,22] (fun k=>[(3,.sl 1 k 0 k),(4,.i k)]) (fun k=>[(1,.live false 2 (E true ((r.d.take k).map fun d=>(⟨d,[]⟩:Spc))))]) (fun k=>k≤r.d.length) (fun k=>r.d.length-k) 0 ⟨rfl,rfl,trivial⟩ ⟨rfl,trivial⟩ (Nat.zero_le _) ?_
 rintro k k1
 have hp:((r.d.take k).map fun d=>(⟨d,[]⟩:Spc)).length=k:=by simp;omega
 by_cases hk:k<r.d.length
 ·have hts:=zeroS_take hk
  generalize (r.d.take k).map (fun d=>(⟨d,[]⟩:Spc))=X at hts hp⊢
  repeat' first|refine s1 ?_|(refine kR ?_;first|refine F.a1 Spc (a:=⟨r.d.getD k default,[]⟩) ?_ (hmv:=.at1 rfl (.em 1 .nil)))|fail
  exact⟨k+1,F.fit ⟨rfl,rfl,trivial⟩ ⟨obE (by rw[hts]),trivial⟩,by omega,by omega⟩
 ·obtain rfl:k=r.d.length:=by omega
  rw[List.take_length]
  have hml:(r.d.map fun d=>(⟨d,[]⟩:Spc)).length=r.d.length:=by simp
  rw[←hml]
  repeat' first|refine s1 ?_|fail
  (refine kZ ?_;exact F.ret rfl)
theorem matImg_a{p:Int}{m:Mat}(h:isMat p m=true):AC Tryz.prog 228 [.i p,.agg (enc false m)] [.dt true 1 (E true (pivC m.r.toNat (ent m) (redK p m.r.toNat (ent m) m.c.toNat).2))]:=by
 obtain⟨h0,h1,h2,h3,h4⟩:=isMat_spec h
 have:=l4Image_a p m.r.toNat m.c.toNat (ent m) h0 (by omega) (by omega) (ent_bd h)
 rw[isMat_tm h] at this
 exact this
theorem pivC_vec{p:Int}{m:Mat}(h:isMat p m=true):VecB p m.r.toNat (pivC m.r.toNat (ent m) (redK p m.r.toNat (ent m) m.c.toNat).2)∧(pivC m.r.toNat (ent m) (redK p m.r.toNat (ent m) m.c.toNat).2).length≤8:=by
 obtain⟨h0,h1,h2,h3,h4⟩:=isMat_spec h
 have hp:=isF_pos h0
 obtain⟨b1,b2,b3,b4⟩:=redK_bd (show 0<p by omega) (ent_bd h) m.c.toNat
 refine⟨fun x hx=>?_,by rw[pivC_len];omega⟩
 simp only[pivC,List.mem_map] at hx
 obtain⟨k,hk,rfl⟩:=hx
 exact⟨rowL_len ..,fun j hj=>by rw[rowL_get _ hj];exact ent_bd h j hj k (b4 k hk)⟩
theorem imgL5_a{p:Int}{m:Mat}(h:isMat p m=true):AC Tryz.prog 210 [.i p,.i m.r,ar false (pivC m.r.toNat (ent m) (redK p m.r.toNat (ent m) m.c.toNat).2)] [.agg (enc true (imgS p m))]:=by
 obtain⟨h0,h1,h2,h3,h4⟩:=isMat_spec h
 obtain⟨v1,v2⟩:=pivC_vec h
 have:=l5Span_a p m.r.toNat _ h0 (by omega) (by omega) v1
 rw[span_cols h0 (ent_bd h),Int.toNat_of_nonneg h1.1] at this
 exact this
def dimS(l:List Spc):List Int:=l.map fun s=>(s.b.length:Int)
theorem dimS_take{l:List Spc}{k:Nat}(h:k<l.length):dimS (l.take (k+1))=dimS (l.take k)++[((l.getD k default).b.length:Int)]:=by
 have e:l.getD k default=l[k]:=by simp[h]
 rw[dimS,List.take_succ_eq_append_getElem h,List.map_append,e]
 rfl
theorem dimS_len(l:List Spc):(dimS l).length=l.length:=by simp[dimS]
theorem subDims_a(l:List Spc)(hl:l.length≤1000)(hb:∀i,i<l.length→(l.getD i default).b.length≤1000):AC Tryz.prog 176 [ar false l] [.dt true 1 (E true (dimS l))]:=by
 refine AC.go Tryz.func176 Tryz.ntmps176 rfl rfl fun w0 hw=>?_;simp[WfL,WfA,E_length,Enc.enc,In64] at hw
 repeat' first|refine s1 ?_|fail
 refine AW.open 3 1 (.inl rfl) ?_
 refine F.loop (σ:=Nat) [3,5,8,9,10,11,12,13,14,15,16,17,18] (fun k=>[(3,.sl 0 k 0 k),(8,.i k)]) (fun k=>[(0,.live false 1 (E true (dimS (l.take k))))]) (fun k=>k≤l.length) (fun k=>l.length-k) 0 ⟨rfl,rfl,trivial⟩ ⟨rfl,trivial⟩ (Nat.zero_le _) ?_
 rintro k k1
 have hp:(dimS (l.take k)).length=k:=by rw[dimS_len,List.length_take];omega
 by_cases hk:k<l.length
 ·have hts:=dimS_take hk
  have hbk:=hb k hk
  generalize dimS (l.take k)=X at hts hp⊢
  repeat' first|refine s1 ?_|(refine kR ?_;first|refine F.a1 Int ?_)|fail
  exact⟨k+1,F.fit ⟨rfl,rfl,trivial⟩ ⟨obE (by rw[hts]),trivial⟩,by omega,by omega⟩
 ·obtain rfl:k=l.length:=by omega
  rw[List.take_length]
  have hml:=dimS_len l
  rw[←hml]
  repeat' first|refine s1 ?_|fail
  (refine kZ ?_;exact F.ret rfl)
def topK(d:List Int)(l:List Int)(k:Nat):List Int:=rowL l.length fun v=>if v<k then d.getD v default-l.getD v default else l.getD v default
def topD(r:Rep):List Int:=if isRep r=true then topK r.d (dimS (radL r)) r.d.length else[]
theorem l3Identity_a(n:Nat)(hn:n≤1000):AC Tryz.prog 215 [.i (n:Int)] [.agg (enc true (tm n n idF))]:=by
 refine AC.go Tryz.func215 Tryz.ntmps215 rfl rfl fun w0 hw=>?_;simp[WfL,WfA,E_length,Enc.enc,In64] at hw
 have hZ:=l3ZeroT_a n n (by omega) (by omega)
 repeat' first|refine s1 ?_|refine q1 ?_|(refine kR ?_;first|refine F.c (hZ) ?_)|fail
 refine F.loop (σ:=Nat) [4,8,9,10,11,12,13,14,15,16,17,18,19,20] (fun i=>[(4,.i i)]) (fun i=>[(1,.live false 1 (E true (tab n n (idK i))))]) (fun i=>i≤n) (fun i=>n-i) 0 ⟨rfl,trivial⟩ ⟨obE (by rw[idK_zero]),trivial⟩ (Nat.zero_le _) ?_
 rintro i i1
 by_cases hi:i<n
 ·obtain⟨t1,t2⟩:=tab_in (i:=i) (j:=i) (r:=n) (c:=n) hi hi (by omega) (by omega)
  repeat' first|refine s1 ?_|refine q1 ?_|fail
  exact⟨i+1,F.fit ⟨rfl,trivial⟩ ⟨obE (by rw[idK_set]),trivial⟩,by omega,by omega⟩
 ·obtain rfl:i=n:=by omega
  rw[idK_all]
  repeat' first|refine s1 ?_|refine q1 ?_|fail
  (refine kZ ?_;exact F.ret rfl)
end Go.Proofs.YtjmjamhhppoimaaGreat.V
namespace Go.Proofs.YtjmjamhhppoimaaGreat.V
open V.Enc (enc)
open Go.RowKit G D
set_option linter.unusedVariables false
set_option linter.unusedSimpArgs false
set_option maxHeartbeats 4000000
set_option maxRecDepth 4000
attribute [local irreducible] AW ARg ARA ARet MRet ASil AC AM ARI
theorem matL4Ker_a{p:Int}{m:Mat}(h:isMat p m=true):AC Tryz.prog 229 [.i p,.agg (enc false m)] [.dt true 1 (E true (kerL p m.r.toNat m.c.toNat (ent m)))]:=by
 obtain⟨h0,h1,h2,h3,h4⟩:=isMat_spec h
 have:=l4Kernel_a p m.r.toNat m.c.toNat (ent m) h0 (by omega) (by omega) (ent_bd h)
 rw[isMat_tm h] at this
 exact this
theorem kerL5_a{p:Int}{m:Mat}(h:isMat p m=true):AC Tryz.prog 210 [.i p,.i m.c,ar false (kerL p m.r.toNat m.c.toNat (ent m))] [.agg (enc true (kerS p m))]:=by
 obtain⟨h0,h1,h2,h3,h4⟩:=isMat_spec h
 have hp:=isF_pos h0
 have hl:=kerL_le p m.r.toNat m.c.toNat (ent m)
 have:=l5Span_a p m.c.toNat _ h0 (by omega) (by omega) (kerL_vec (r:=m.r.toNat) (c:=m.c.toNat) (f:=ent m) hp.1)
 rw[Int.toNat_of_nonneg h2.1] at this
 exact this
def dotV(f:Nat→Int)(x:List Int)(c:Nat):Int:=sumN (fun j=>f j*x.getD j default) c
theorem dotV_set(f:Nat→Int)(x:List Int)(a:Nat)(y:Int)(ha:a<x.length):∀c,dotV f (x.set a y) c=dotV f x c+if a<c then f a*(y-x.getD a default) else 0
 |0=>by simp[dotV,sumN]
 |c+1=>by
  have ih:=dotV_set f x a y ha c
  simp only[dotV,sumN] at ih⊢
  rw[ih]
  by_cases e:a=c
  ·subst e
   rw[set_get ha,if_neg (by omega),if_pos (by omega),Int.mul_sub];omega
  ·rw[set_ne e _]
   by_cases e2:a<c
   ·rw[if_pos e2,if_pos (by omega)];omega
   ·rw[if_neg e2,if_neg (by omega)];omega
theorem dotV_unit(f:Nat→Int)(n k:Nat)(hk:k<n):dotV f (unitL n k) n=f k:=by
 have h:=sumN_one f k n
 rw[if_pos hk] at h
 rw[←h]
 exact sumN_eq _ fun j hj=>by rw[unitL_get hj,Int.mul_comm]
theorem kerV_free{p:Int}{c:Nat}{g:Nat→Nat→Int}{piv:List Nat}{k j:Nat}(hj:j<c):∀n,(∀i,i<n→piv.getD i 0≠j)→(kerV p c g piv k n).getD j default=if j=k then 1 else 0
 |0,_=>unitL_get hj
 |n+1,h=>by
  rw[kerV,set_ne (h n (by omega)) _]
  exact kerV_free hj n fun i hi=>h i (by omega)
theorem ker_dot {p : Int} {r c : Nat} {g : Nat → Nat → Int} {piv : List Nat} (h : Ech r c g piv) {k : Nat} (hk : k < c) (hkp : k ∉ piv) {i : Nat} (hi : i < piv.length) : ∀ n, n ≤ piv.length → Cg p (dotV (g i) (kerV p c g piv k n) c) (if i < n then 0 else g i k)
  | 0, _ => by rw [kerV, dotV_unit _ _ _ hk, if_neg (by omega)]; exact .refl _
  | n + 1, hn => by
    have ih := ker_dot (p := p) h hk hkp hi n (by omega)
    have hpn := h.lt n (by omega)
    have hne : piv.getD n 0 ≠ k := fun e => hkp (by rw [← e]; have : n < piv.length := by omega
                                                    simp [this])
    have h0 : (kerV p c g piv k n).getD (piv.getD n 0) default = 0 := by
      rw [kerV_free hpn n fun t ht => by have := h.inc t n ht (by omega); omega, if_neg hne]
    rw [kerV, dotV_set _ _ _ _ (by rw [kerV_len]; exact hpn), if_pos hpn, h0, Int.sub_zero, h.one i hi n (by omega)]
    by_cases e : i = n
    · subst e
      rw [if_pos rfl, if_pos (by omega), Int.one_mul]
      rw [if_neg (by omega)] at ih
      have := ih.add (Cg.mod p (-(g i k)))
      rwa [show g i k + -(g i k) = 0 by omega] at this
    · rw [if_neg e, Int.zero_mul, Int.add_zero]
      by_cases e2 : i < n
      · rw [if_pos e2] at ih; rw [if_pos (by omega)]; exact ih
      · rw [if_neg e2] at ih; rw [if_neg (by omega)]; exact ih
theorem dotV_cg{p:Int}{f g:Nat→Int}{x:List Int}{c:Nat}(h:∀j,j<c→Cg p (f j) (g j)):Cg p (dotV f x c) (dotV g x c):=sumN_cg _ fun j hj=>(h j hj).mul (.refl _)
theorem dotV_comb(co:Nat→Int)(f:Nat→Nat→Int)(x:List Int)(c r:Nat):dotV (fun j=>sumN (fun i=>co i*f i j) r) x c=sumN (fun i=>co i*dotV (f i) x c) r:=by
 unfold dotV
 rw[sumN_eq (g:=fun j=>sumN (fun i=>co i*f i j*x.getD j default) r) _ fun j _=>by
  rw[Int.mul_comm,←sumN_mul]
  exact sumN_eq _ fun i _=>Int.mul_comm ..,sumN_swap]
 refine sumN_eq _ fun i _=>?_
 rw[←sumN_mul]
 exact sumN_eq _ fun j _=>Int.mul_assoc ..
theorem kerL_spec{p:Int}{r c:Nat}{f:Nat→Nat→Int}(hF:isF p=true)(hb:BdF p r c f){x:List Int}(hx:x∈kerL p r c f):(∀i,i<r→Cg p (dotV (f i) x c) 0)∧∃j,j<c∧x.getD j default=1:=by
 obtain⟨h1,h2⟩:=redK_ech hF hb c (Nat.le_refl _)
 simp only[kerL,List.mem_map] at hx
 obtain⟨k,hk,rfl⟩:=hx
 obtain⟨k1,k2⟩:=freeL_lt k hk
 constructor
 ·intro i hi
  obtain⟨co,e⟩:=h2.1 i hi
  refine(dotV_cg e).trans ?_
  rw[dotV_comb]
  refine(sumN_cg (g:=fun _=>0) _ fun t ht=>?_).trans (by rw[sumN_zero (h:=fun _=>0) _ fun _ _=>rfl];exact .refl _)
  have hz:Cg p (dotV ((redK p r f c).1 t) (kerV p c (redK p r f c).1 (redK p r f c).2 k (redK p r f c).2.length) c) 0:=by
   by_cases et:t<(redK p r f c).2.length
   ·have:=ker_dot (p:=p) h1 k1 k2 et _ (Nat.le_refl _)
    rwa [if_pos et] at this
   ·refine(dotV_cg (g:=fun _=>0) fun j hj=>by rw[h1.low t (by omega) ht j hj];exact .refl _).trans ?_
    unfold dotV
    rw[sumN_zero _ fun j _=>Int.zero_mul _];exact .refl _
  have:=(Cg.refl (co t)).mul hz
  rwa [Int.mul_zero] at this
 ·refine⟨k,k1,?_⟩
  rw[kerV_free k1 _ fun i hi e=>k2 (by rw[←e];simp[hi]),if_pos rfl]
theorem cmbV_cg{p:Int}{n:Nat}{l:List (List Int)}{k:List Int}{t:Nat}(ht:t<n):∀m,Cg p ((cmbV p n l k m).getD t default) (sumN (fun i=>k.getD i default*vecF l i t) m)
 |0=>by
  have:(cmbV p n l k 0).getD t default=0:=by simp[cmbV,ht]
  rw[this];exact .refl _
 |m+1=>by
  rw[cmbV,addK_get0 _ _ _ _ (by rw[cmbV_len];exact ht) ht,sumN]
  exact(Cg.mod _ _).trans ((cmbV_cg ht m).add (.refl _))
def subF(p:Int)(m:Mat)(a b:Spc):Nat→Nat→Int:=fun i j=>(appV p m (a.b.getD j default)).getD (leadV (b.b.getD i default)).toNat default
def subM(p:Int)(m:Mat)(a b:Spc):Mat:=tm b.b.length a.b.length (subF p m a b)
def subA(r:Rep)(s:List Spc)(i:Nat):Mat:=subM r.p (r.m.getD i default) (s.getD (r.q.fr.getD i default).toNat default) (s.getD (r.q.to.getD i default).toNat default)
def subMs(r:Rep)(s:List Spc):List Mat:=(List.range r.m.length).map (subA r s)
theorem subMs_len(r:Rep)(s:List Spc):(subMs r s).length=r.m.length:=by simp[subMs]
theorem subMs_get(r:Rep)(s:List Spc){i:Nat}(hi:i<r.m.length):(subMs r s).getD i default=subA r s i:=by simp[subMs,hi]
def subR(r:Rep)(s:List Spc):Rep:=⟨r.p,r.q,dimS s,subMs r s⟩
def incM(s:Spc):Mat:=tm s.n.toNat s.b.length (fcF s.b)
def incL(s:List Spc):List Mat:=s.map incM
theorem incL_len(s:List Spc):(incL s).length=s.length:=by simp[incL]
theorem incL_take{s:List Spc}{k:Nat}(h:k<s.length):(incL s).take (k+1)=(incL s).take k++[incM (s.getD k default)]:=by
 have e:s.getD k default=s[k]:=by simp[h]
 rw[incL,List.take_succ_eq_append_getElem (by simpa using h),e]
 simp
theorem dimS_get{s:List Spc}{v:Nat}(h:v<s.length):(dimS s).getD v default=((s.getD v default).b.length:Int):=by simp[dimS,h]
theorem isSpc_le{p:Int}{s:Spc}(h:isSpc p s=true):s.b.length≤s.n.toNat:=by
 obtain⟨h1,h2,h3,h4⟩:=isSpc_spec h
 have hp:=isF_pos h1
 simp only[isSpc,Bool.and_eq_true,decide_eq_true_eq] at h
 have:=(spanB_le (show 0<p by omega) h4.bd).2
 rw[show spanB p s.b.length s.n.toNat (vecF s.b)=s.b from h.2] at this
 exact this
theorem lead_lt{p:Int}{s:Spc}(h:isSpc p s=true){i:Nat}(hi:i<s.b.length):0≤leadV (s.b.getD i default)∧(leadV (s.b.getD i default)).toNat<s.n.toNat:=by
 obtain⟨h1,h2,h3,h4⟩:=isSpc_spec h
 obtain⟨piv,e,l⟩:=isSpc_ech h
 rw[e.lead_at l h4 hi]
 have:=e.lt i (by omega)
 exact⟨by omega,by rw[Int.toNat_natCast];exact this⟩
theorem sum_le:∀{a b:List Int},a.length=b.length→(∀j,j<a.length→a.getD j default≤b.getD j default)→a.sum≤b.sum
 |[],[],_,_=>by simp
 |x::a,y::b,hl,h=>by
  have h1:=h 0 (by simp)
  have h2:=sum_le (a:=a) (b:=b) (by simpa using hl) fun j hj=>by simpa using h (j+1) (by simpa using hj)
  simp only[List.getD_cons_zero] at h1
  simp only[List.sum_cons]
  omega
theorem sub_dims{r:Rep}{s:List Spc}(h:isSub r s=true):(dimS s).length=r.d.length∧(∀v,v<r.d.length→0≤(dimS s).getD v default∧(dimS s).getD v default≤r.d.getD v default)∧(dimS s).sum≤r.d.sum∧∀v,v<r.d.length→(dimS s).getD v default≤4:=by
 obtain⟨h1,h2,h3,h4⟩:=isSub_spec h
 obtain⟨r1,r2,r3,r4⟩:=isRep_spec h1
 obtain⟨c1,c2,c3,_⟩:=areDims_spec r2
 have hl:=dimS_len s
 have key:∀v,v<r.d.length→0≤(dimS s).getD v default∧(dimS s).getD v default≤r.d.getD v default:=fun v hv=>by
  obtain⟨a1,a2⟩:=h3 v (by omega)
  have hd:0≤r.d.getD v default∧r.d.getD v default≤4:=allIn_spec c3 hv
  have:=isSpc_le a1
  rw[dimS_get (by omega)]
  omega
 refine⟨by omega,key,sum_le (by omega) fun j hj=>(key j (by omega)).2,fun v hv=>?_⟩
 have hd:0≤r.d.getD v default∧r.d.getD v default≤4:=allIn_spec c3 hv
 have:=key v hv
 omega
theorem subA_ok{r:Rep}{s:List Spc}(h:isSub r s=true){i:Nat}(hi:i<r.m.length):isMat r.p (subA r s i)=true:=by
 obtain⟨h1,h2,h3,h4⟩:=isSub_spec h
 obtain⟨r1,r2,r3,r4⟩:=isRep_spec h1
 obtain⟨m1,m2,m3,m4,m5⟩:=arrow_ok h1 hi
 have hp:=isF_pos r1
 obtain⟨f1,f2⟩:=h3 _ (show(r.q.fr.getD i default).toNat<s.length by omega)
 obtain⟨t1,t2⟩:=h3 _ (show(r.q.to.getD i default).toNat<s.length by omega)
 have e1:=isSpc_le f1
 have e2:=isSpc_le t1
 have n1:=(isSpc_spec f1).2.1
 have n2:=(isSpc_spec t1).2.1
 refine isMat_tab r1 (by omega) (by omega) fun a ha b hb=>?_
 have:=lead_lt t1 ha
 rw[t2,←m5] at this
 exact appV_bd (by omega) _ _ this.2
theorem subR_ok{r:Rep}{s:List Spc}(h:isSub r s=true):isRep (subR r s)=true:=by
 obtain⟨h1,h2,h3,h4⟩:=isSub_spec h
 obtain⟨r1,r2,r3,r4⟩:=isRep_spec h1
 obtain⟨c1,c2,c3,c4⟩:=areDims_spec r2
 obtain⟨d1,d2,d3,d4⟩:=sub_dims h
 have hA:areDims (subR r s).q (subR r s).d=true:=by
  simp only[areDims,Bool.and_eq_true,decide_eq_true_eq]
  refine⟨⟨⟨c1,?_⟩,allIn_all fun j hj=>?_⟩,?_⟩
  ·show((dimS s).length:Int)=r.q.n
   omega
  ·have hj:j<(dimS s).length:=hj
   exact⟨(d2 j (by omega)).1,d4 j (by omega)⟩
  ·show(dimS s).sum≤8
   omega
 have hml:(subR r s).m.length=r.m.length:=subMs_len r s
 simp only[isRep,Bool.and_eq_true,decide_eq_true_eq,List.all_eq_true]
 refine⟨⟨⟨r1,hA⟩,by show(subR r s).m.length=r.q.fr.length;omega⟩,fun i hi=>?_⟩
 have hi:i<r.m.length:=by rw[List.mem_range] at hi;omega
 obtain⟨m1,m2,m3,m4,m5⟩:=arrow_ok h1 hi
 simp only[fitM,Bool.and_eq_true,decide_eq_true_eq]
 have e:(subR r s).m.getD i default=subA r s i:=subMs_get r s hi
 rw[e]
 refine⟨⟨subA_ok h hi,?_⟩,?_⟩
 ·show((s.getD (r.q.fr.getD i default).toNat default).b.length:Int)=(dimS s).getD (r.q.fr.getD i default).toNat default
  rw[dimS_get (by omega)]
 ·show((s.getD (r.q.to.getD i default).toNat default).b.length:Int)=(dimS s).getD (r.q.to.getD i default).toNat default
  rw[dimS_get (by omega)]
end Go.Proofs.YtjmjamhhppoimaaGreat.V
