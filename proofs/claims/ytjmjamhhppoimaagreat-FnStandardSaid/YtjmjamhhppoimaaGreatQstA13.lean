/- Texts that the proof needs: A182, A13. -/
import Derived.Test.YtjmjamhhppoimaaGreatQstA181
namespace Go.Proofs.YtjmjamhhppoimaaGreat.V
open V.Enc (enc)
open Go.RowKit G D
set_option linter.unusedVariables false
set_option linter.unusedSimpArgs false
set_option maxHeartbeats 4000000
set_option maxRecDepth 4000
section
variable {P : Program} {n : Nat} {w0 : World} {MP : Fr} {Q : Exit → St → Prop} {E : Nat → AV} {hp : Nat → Ob} {nx : Nat} {w : World} {st : St}
theorem Sim.freezeV{E:Env}{t o sz:Nat}{l:Bool}{cs ds:List AV}(ht:st.E t=.pt o 1 0 0)(hh:st.hp o=.live l sz [cs])(hpu:cs.all pureB=true)(he:frzL cs=ds)(hs:Sim w0 MP st E w):Sim w0 MP ⟨updA st.E t (.ip ds),updA st.hp o .dead,st.nx⟩ E w:=by
 subst he
 obtain⟨C,Im,hm⟩:=hs
 obtain⟨cc,hcc,hO⟩:=hm.obj o l sz _ hh
 have hv:=hm.slot t
 rw[ht] at hv
 obtain⟨b,q,e1,h4,h5⟩:=hv
 obtain⟨f1,f2⟩:=(h5 cc hcc).2 (by rw[hO.len];rfl)
 have f2':q=0:=by rw[f2];omega
 subst f2'
 have h1:=(hm.kill o).imAdd (blks cc) (fun k hk=>(hO.wb k hk).lt) hO.ge (fun o' c' hc' k hk hk'=>by
  by_cases e:o'=o
  ·subst e;rw[updA_same] at hc';cases hc'
  ·rw[updA_ne _ _ e] at hc';exact hm.dis o o' cc c' (Ne.symm e) hcc hc' k hk hk')
 have hI2:=(hO.lay.pure (show([cs]:List (List AV)).flatten.all pureB=true by simpa using hpu)).frz (Im':=fun k=>Im k∨k∈blks cc) (fun k hk=>.inl hk) (fun k hk=>.inr (by simp[blks,hk]))
 rw[show([cs]:List (List AV)).flatten=cs by simp] at hI2
 have h2:=h1.upd t (a:=.ip (frzL cs)) (v:=E t) ⟨b,0,cc.us,e1,.inr (by simp[blks,mem_ownL,f1]),fun i u hu=>by rw[Nat.zero_add];exact hO.cell f1 hu,hI2⟩
 rw[G.upd_eq_self rfl] at h2
 exact⟨_,_,h2⟩
theorem AW.freezeV{c:Code}(ds:List AV)(t:Nat){o sz:Nat}{l:Bool}{cs:List AV}(ht:E t=.pt o 1 0 0)(hh:hp o=.live l sz [cs])(hpu:cs.all pureB=true)(he:frzL cs=ds)(h:AW P n w0 MP c Q ⟨updA E t (.ip ds),updA hp o .dead,nx⟩):AW P n w0 MP c Q ⟨E,hp,nx⟩:=
 AW.ghost (fun E' w hs=>Sim.freezeV (st:=⟨E,hp,nx⟩) ht hh hpu he hs) h
theorem AW.takeW{c:Code}(o j:Nat){sz sz2 m:Nat}{cs cs':List AV}{ys:List (List AV)}(ho:hp o=.live false sz [cs])(hj:cs[j]?=some (.dt true sz2 ys))(hm:ys.length=m)(hc:cs.set j (.sl nx m 0 m)=cs')
  (h:AW P n w0 MP c Q ⟨E,updA (updA hp o (.live false sz [cs'])) nx (.live false sz2 ys),nx+1⟩):AW P n w0 MP c Q ⟨E,hp,nx⟩:=by
 subst hm hc
 exact AW.ghost (fun E' w hs=>(Sim.take (st:=⟨E,hp,nx⟩) ho (k:=0) rfl hj hs).1) h
theorem izG{I0:Nat→Prop}{T:Exit→Env→World→Prop}{fuel:Nat}{ops:Array Oper}{listed:Array Bool}{α:Type}[Enc α](t j:Nat){o m sz:Nat}{l oo:Bool}{ls:List α}{cs:List AV}(ht:E t=.agg cs)(hj:cs[j]?=some (.sl o m 0 m))(hh:hp o=.live l sz (V.E oo ls))(hn:ls.length=m)(h:ARI false I0 T P n w0 MP ops fuel listed Q ⟨updA E t (.agg (cs.set j (.dt false sz (V.E false ls)))),updA hp o .dead,nx⟩):ARI false I0 T P n w0 MP ops fuel listed Q ⟨E,hp,nx⟩:=
 ARI.ghost (fun E' w hs=>Sim.freezeG (st:=⟨E,hp,nx⟩) ht hj hh (by rw[E_length,hn]) (E_pure oo ls) (by rw[E_drop,E_take,E_frz,take_all hn]) hs) h
theorem Sim.mvV{E:Env}{t o sz:Nat}{l:Bool}{xs:List (List AV)}(ht:st.E t=.pt o 1 0 0)(hh:st.hp o=.live l sz xs)(hs:Sim w0 MP st E w):Sim w0 MP ⟨updA st.E t (.pt st.nx 1 0 0),updA (updA st.hp o .dead) st.nx (.live l sz xs),st.nx+1⟩ E w:=by
 obtain⟨C,Im,hm⟩:=hs
 obtain⟨cc,hcc,hO⟩:=hm.obj o l sz _ hh
 have hv:=hm.slot t
 rw[ht] at hv
 obtain⟨b,q,e1,h4,h5⟩:=hv
 have hle:CLe st.nx C (updA C o Option.none):=fun o1 ho1 c hc=>by
  by_cases e:o1=o
  ·subst e;rw[updA_same] at hc;cases hc
  ·rw[updA_ne _ _ e] at hc;exact⟨c,hc,.inl ⟨rfl,rfl,rfl⟩⟩
 have hn:=(hm.kill o).new (l:=l) (sz:=sz) (xs:=xs) (cc:=cc) ⟨hO.esz,hO.len,hO.buf,hO.lay.mono (fun _ h=>h) (fun _ _=>rfl) (Nat.le_refl _) hle (fun _ _=>rfl),hO.lens,hO.nd,hO.ge,hO.nim,hO.lent⟩ (fun o' c' hc' k hk hk'=>by
  by_cases e:o'=o
  ·subst e;rw[updA_same] at hc';cases hc'
  ·rw[updA_ne _ _ e] at hc';exact hm.dis o o' cc c' (Ne.symm e) hcc hc' k hk hk')
 have h2:=hn.upd t (a:=.pt st.nx 1 0 0) (v:=E t) ⟨b,q,e1,Nat.lt_succ_self _,fun c' hc'=>by rw[updA_same] at hc';cases hc';exact h5 cc hcc⟩
 rw[G.upd_eq_self rfl] at h2
 exact⟨_,_,h2⟩
theorem AW.mvV{c:Code}(t:Nat){o sz:Nat}{l:Bool}{xs:List (List AV)}(ht:E t=.pt o 1 0 0)(hh:hp o=.live l sz xs)(h:AW P n w0 MP c Q ⟨updA E t (.pt nx 1 0 0),updA (updA hp o .dead) nx (.live l sz xs),nx+1⟩):AW P n w0 MP c Q ⟨E,hp,nx⟩:=
 AW.ghost (fun E' w hs=>Sim.mvV (st:=⟨E,hp,nx⟩) ht hh hs) h
end
abbrev repA(r:Rep):AV:=.agg [.i r.p,.i r.q.n,.dt false 1 (V.E false r.q.fr),.dt false 1 (V.E false r.q.to),.dt true 1 (V.E true r.d),.dt true 3 (V.E true r.m)]
theorem repA_frz(r:Rep):frzL [.i r.p,.i r.q.n,.dt false 1 (V.E false r.q.fr),.dt false 1 (V.E false r.q.to),.dt true 1 (V.E true r.d),.dt true 3 (V.E true r.m)]=enc false r:=by simp[frzL,frz,E_frz,enc,Enc.enc];exact⟨rfl,rfl⟩
theorem repA_pure(r:Rep):([.i r.p,.i r.q.n,.dt false 1 (V.E false r.q.fr),.dt false 1 (V.E false r.q.to),.dt true 1 (V.E true r.d),.dt true 3 (V.E true r.m)]:List AV).all pureB=true:=by simp[pureB,E_pure]
attribute [local irreducible] AW ARg ARA ARet MRet ASil AC AM AMx ACx AD
def smallD(d:List Int):Prop:=d.length≤5∧∀j,j<d.length→0≤d.getD j default∧d.getD j default≤8
theorem smallD.add{d:List Int}{x:Int}(h:smallD d)(hl:d.length<5)(hx:0≤x∧x≤8):smallD (d++[x]):=by
 refine⟨by simp;omega,fun j hj=>?_⟩
 by_cases e:j<d.length
 ·have:=h.2 j e
  simpa[List.getElem?_append_left e,List.getD_eq_getElem?_getD] using this
 ·obtain rfl:j=d.length:=by simp at hj;omega
  simpa using hx
theorem l8Dims_x (b : List UInt8) (hl : b.length ≤ 1048576) (q : Quiv) (most : Int) (hm : 0 ≤ most ∧ most ≤ 8) : AD Tryz.prog 375 [.agg (enc false q), .i most] b (fun d : List Int => smallD d ∧ (0 ≤ q.n → q.n ≤ 5 → (d.length : Int) = q.n) ∧ d.sum ≤ 8 ∧ ∀ j, j < d.length → d.getD j default ≤ most) (fun d => [.dt true 1 (E true d)]) := by
  refine AD.go Tryz.func375 Tryz.ntmps375 rfl rfl fun i h hi w0 mp hw => ?_; simp [WfL, WfA, E_length, Enc.enc, In64] at hw
  have hB := fun n => l1Below_x b hl n
  repeat' first | refine s1 ?_ | fail
  refine AW.freezeP (α := Quiv) (oo := false) q 4 rfl rfl ?_
  refine AW.open 7 1 (.inr rfl) ?_
  refine AW.only [(0, .pt 0 1 0 0), (2, .i most), (4, .ip (enc false q)), (7, .sl 2 0 0 0), (8, .i 8), (9, .i 0)] [(0, .live false 3 (curO b i h)), (2, .live false 1 (E true ([] : List Int)))] 3 ⟨rfl, rfl, rfl, rfl, rfl, rfl, trivial⟩ ⟨rfl, rfl, trivial⟩ rfl ?_
  refine F.loop (σ := Nat × Int × List Int × Int × Int) [7, 8, 9, 10, 12, 13, 14, 15, 16, 17, 18, 19, 20, 21, 22, 23, 24, 25, 26, 27, 28, 29, 30, 31, 32, 33, 34] (fun x => [(7, .sl 2 x.1 0 x.1), (8, .i x.2.1), (9, .i x.1)]) (fun x => [(0, .live false 3 (curO b x.2.2.2.1 x.2.2.2.2)), (2, .live false 1 (E true x.2.2.1))]) (fun x => x.1 ≤ 5 ∧ (x.1 = 0 ∨ (x.1 : Int) ≤ q.n) ∧ 0 ≤ x.2.1 ∧ x.2.1 ≤ 8 ∧ x.2.2.1.length = x.1 ∧ smallD x.2.2.1 ∧ (x.2.2.1.sum = 8 - x.2.1 ∧ ∀ j, j < x.2.2.1.length → x.2.2.1.getD j default ≤ most) ∧ okI b x.2.2.2.1) (fun x => 5 - x.1) (0, 8, [], i, h) ⟨rfl, rfl, rfl, trivial⟩ ⟨rfl, rfl, trivial⟩ ⟨by simp, .inl rfl, by simp, by simp, rfl, ⟨by simp, fun j hj => absurd hj (Nat.not_lt_zero _)⟩, ⟨by simp, fun j hj => absurd hj (Nat.not_lt_zero _)⟩, hi⟩ ?_
  rintro ⟨k, left, d, i2, h2⟩ ⟨k1, k2, k3, k4, k5, k6, k7, hi2⟩
  dsimp only at k1 k2 k3 k4 k5 k6 k7 hi2 ⊢
  by_cases hk : (k : Int) < q.n
  · by_cases hk5 : (k : Int) < 5
    · repeat' first | refine s1 ?_ | (refine kR ?_; first | (refine F.dr 0 ((hB _)) (by assumption) ?_; intro e i6 h6 he hi6; replace he := he.1 (by omega); refine F.xk ?_) | refine F.sil (A.min2 rfl rfl) rfl rfl ?_ | refine F.a1 Int ?_) | fail
      exact ⟨(k + 1, left - min left e, d ++ [min left e], i6, h6), F.fit ⟨rfl, rfl, rfl, trivial⟩ ⟨rfl, obE rfl, trivial⟩, ⟨by show k + 1 ≤ 5; omega, .inr (by show ((k + 1 : Nat) : Int) ≤ q.n; omega), by show 0 ≤ left - min left e; omega, by show left - min left e ≤ 8; omega, by simp; omega, k6.add (by omega) (by omega), ⟨by rw [List.sum_append, k7.1]; simp; omega, fun j hj => by
          by_cases e : j < d.length
          · have := k7.2 j e
            simpa [List.getElem?_append_left e, List.getD_eq_getElem?_getD] using this
          · obtain rfl : j = d.length := by simp at hj; omega
            simp; omega⟩, hi6⟩, by show 5 - (k + 1) < 5 - k; omega⟩
    · repeat' first | refine s1 ?_ | fail
      exact F.rd d ⟨k6, fun h0 h5 => by omega, by rw [k7.1]; omega, k7.2⟩ hi2 (F.retM rfl ⟨rfl, trivial⟩)
  · repeat' first | refine s1 ?_ | fail
    exact F.rd d ⟨k6, fun h0 h5 => by omega, by rw [k7.1]; omega, k7.2⟩ hi2 (F.retM rfl ⟨rfl, trivial⟩)
def mapsB(p:Int)(zs ms:List Mat):Prop:=ms.length=zs.length∧∀j,j<ms.length→(ms.getD j default).r=(zs.getD j default).r∧(ms.getD j default).c=(zs.getD j default).c∧(isF p=true→(zs.getD j default).r≤8→(zs.getD j default).c≤8→isMat p (ms.getD j default)=true)
theorem mapsB.set{p:Int}{zs ms:List Mat}{k:Nat}{M:Mat}(h:mapsB p zs ms)(hk:k<ms.length)(hr:M.r=(ms.getD k default).r)(hc:M.c=(ms.getD k default).c)(hm:isF p=true→(ms.getD k default).r≤8→(ms.getD k default).c≤8→isMat p M=true):mapsB p zs (ms.set k M):=⟨by rw[List.length_set];exact h.1,fun j hj=>by
 rw[List.length_set] at hj
 by_cases e:k=j
 ·subst e
  obtain⟨h1,h2,h3⟩:=h.2 k hj
  have e2:(ms.set k M).getD k default=M:=by simp[hj]
  rw[e2,hr,hc]
  exact⟨h1,h2,fun hF a b=>hm hF (by rw[h1];exact a) (by rw[h2];exact b)⟩
 ·have:=h.2 j hj
  have e2:(ms.set k M).getD j default=ms.getD j default:=by simp[List.getD_eq_getElem?_getD,List.getElem?_set_ne e]
  rw[e2];exact this⟩
theorem zeroMs_at(q:Quiv)(d:List Int){j:Nat}(hj:j<q.fr.length):(zeroMs q d).getD j default=zeroM (gI d (q.to.getD j default)) (gI d (q.fr.getD j default)):=by simp[zeroMs,hj]
theorem gI_bd{d:List Int}(h:smallD d)(v:Int):0≤gI d v∧gI d v≤1024:=by
 unfold gI
 by_cases e:v.toNat<d.length
 ·have:=h.2 _ e;omega
 ·rw[List.getD_eq_getElem?_getD,List.getElem?_eq_none (by omega)];decide
theorem mapsB_zero(p:Int)(q:Quiv)(d:List Int)(h:smallD d):mapsB p (zeroMs q d) (zeroMs q d):=⟨rfl,fun j hj=>⟨rfl,rfl,fun hF h1 h2=>by
 rw[zeroMs_len] at hj
 rw[zeroMs_at q d hj] at h1 h2⊢
 exact(inF.zero p _).mat (gI_bd h _) (gI_bd h _) (by simp) hF h1 h2⟩⟩
theorem mapsB.rep{p:Int}{q:Quiv}{d:List Int}{ms:List Mat}(h:mapsB p (zeroMs q d) ms)(hF:isF p=true)(hq:okQ q=true)(hl:(d.length:Int)=q.n)(hs:smallD d)(hsum:d.sum≤8)(h4:∀j,j<d.length→d.getD j default≤4):isRep ⟨p,q,d,ms⟩=true:=by
 have h0:∀v:Int,gI d v≤8:=fun v=>by
  unfold gI
  by_cases e:v.toNat<d.length
  ·have:=h4 _ e;omega
  ·rw[List.getD_eq_getElem?_getD,List.getElem?_eq_none (by omega)];decide
 simp only[isRep,areDims,Bool.and_eq_true,decide_eq_true_eq,List.all_eq_true]
 refine⟨⟨⟨hF,⟨⟨hq,hl⟩,allIn_all fun j hj=>⟨(hs.2 j hj).1,h4 j hj⟩⟩,hsum⟩,by rw[h.1,zeroMs_len]⟩,fun i hi=>?_⟩
 have hi:i<ms.length:=by simpa using hi
 have hiq:i<q.fr.length:=by rw[h.1,zeroMs_len] at hi;exact hi
 obtain⟨h1,h2,h3⟩:=h.2 i hi
 rw[zeroMs_at q d hiq] at h1 h2 h3
 simp only[fitM,Bool.and_eq_true,decide_eq_true_eq]
 exact⟨⟨h3 hF (h0 _) (h0 _),h2⟩,h1⟩
theorem tailedO{b:List UInt8}{α:Type}{p:α→Prop}{T:α→Int→Int→Prop}{G:Prop}(h:(∀a i h,p a→okI b i→Tl (T a i h))→G)(t:∀a i h,p a→okI b i→T a i h):G:=h fun a i h hp hi=>⟨t a i h hp hi⟩
theorem l8Of_x(b:List UInt8)(hl:b.length≤1048576)(p:Int)(q:Quiv)(most:Int)(hm:0≤most∧most≤8):AD Tryz.prog 322 [.i p,.agg (enc false q),.i most] b (fun r:Rep=>r.p=p∧r.q=q∧smallD r.d∧(isF p=true→okQ q=true→most≤4→isRep r=true)∧(okQ q=true→(r.d.length:Int)=q.n)∧(okQ q=false→r.d=[]∧r.m=[])) (fun r=>[repA r]):=by
 refine AD.go Tryz.func322 Tryz.ntmps322 rfl rfl fun i h hi w0 mp hw=>?_;simp[WfL,WfA,E_length,Enc.enc,In64] at hw
 have hQ:=specIsQuiver_a q
 have hD:=l8Dims_x b hl q most hm
 have hR:=fun r c hr hc=>l3Random_x b hl p r c hr hc
 cases hq:okQ q with
 |false=>
  rw[hq] at hQ
  repeat' first|refine s1 ?_|(refine kR ?_;first|refine F.c (hQ) ?_)|fail
  exact F.rd ⟨p,q,[],[]⟩ ⟨rfl,rfl,⟨by simp,fun j hj=>absurd hj (Nat.not_lt_zero _)⟩,fun _ h=>(by cases h),fun h=>(by cases h),fun _=>⟨rfl,rfl⟩⟩ hi (F.retM rfl ⟨rfl,trivial⟩)
 |true=>
  rw[hq] at hQ
  have h5:=okQ_spec hq
  repeat' first|refine s1 ?_|(refine kR ?_;first|refine F.c (hQ) ?_)|fail
  refine AW.freezeP (α:=Quiv) (oo:=false) q 6 rfl rfl ?_
  have hZ:=fun d hl hd=>l8Zero_a p q d hq hl hd
  apply V.tailedO (b:=b) (p:=fun d:List Int=>smallD d∧(0≤q.n→q.n≤5→(d.length:Int)=q.n)∧d.sum≤8∧∀j,j<d.length→d.getD j default≤most)
  ·intro tail
   refine AW.drawI G.mixed (by kernel_rfl) (by rfl) ?_
   intro T w1 MP1 I0
   refine Pz (.p 0<|.l 1<|.p 2<|.l 3<|.p 4<|.a [(5,false,.a [(6,false,.h 6<|.o 7 false<|.o 8 false<|.n),(7,false,.o 6 false<|.h 6<|.o 8 false<|.n)]),(7,false,.o 5 false<|.o 6 false<|.h 6<|.o 8 false<|.n)]) ?_
   repeat' first|(refine yU (i:=5) ?_;first|refine s1 ?_|(refine F.dr 0 (hD) (by assumption) ?_;intro d i2 h2 hd hi2;refine F.xk ?_))|(refine yU (i:=6) ?_;first|refine s1 ?_|refine F.c ((hZ d (hd.2.1 (by omega) (by omega)) (fun j hj=>by have:=hd.1.2 j hj;omega))) ?_)|(refine yH (i:=6) ?_ (fun h=>(izG (α:=Int) (oo:=true) (ls:=q.fr) 23 2 rfl rfl rfl rfl (izG (α:=Int) (oo:=true) (ls:=q.to) 23 3 rfl rfl rfl rfl h))))|refine xS ?_|refine s1 ?_|refine xC ?_ ?_|exact trivial|fail
   any_goals refine lf ?_
   all_goals
    repeat' first|refine s1 ?_|fail
    refine AW.putV 9 4 rfl rfl rfl rfl (E_length _ _) (E_pure _ _) rfl ?_;refine AW.putV 9 5 rfl rfl rfl rfl (E_length _ _) (E_pure _ _) rfl ?_
    first|(refine AW.takeW 3 4 rfl rfl (E_length _ _) rfl ?_;refine AW.takeW 3 5 rfl rfl (E_length _ _) rfl ?_)|(refine AW.takeW 4 4 rfl rfl (E_length _ _) rfl ?_;refine AW.takeW 4 5 rfl rfl (E_length _ _) rfl ?_)|(refine AW.takeW 8 4 rfl rfl (E_length _ _) rfl ?_;refine AW.takeW 8 5 rfl rfl (E_length _ _) rfl ?_)
    refine AW.mvV 9 rfl rfl ?_
    refine AW.only [(0,.pt 0 1 0 0),(1,.i p),(8,.pt 2 1 0 0),(9,.pt 11 1 0 0),(10,.i 0)] [(0,.live false 3 (curO b i2 h2)),(2,.live false 6 [[.i 0,.i 0,.nl,.nl,.nl,.nl]]),(9,.live false 1 (E true d)),(10,.live false 3 (E true (zeroMs q d))),(11,.live false 6 [[.i p,.i q.n,.dt false 1 (E false q.fr),.dt false 1 (E false q.to),.sl 9 d.length 0 d.length,.sl 10 (zeroMs q d).length 0 (zeroMs q d).length]])] 12 ⟨rfl,rfl,rfl,rfl,rfl,trivial⟩ ⟨rfl,rfl,rfl,rfl,rfl,trivial⟩ rfl ?_
    exact(tail d i2 h2 hd hi2).t
  ·intro d i2 h2 hd hi2
   have hzl:(zeroMs q d).length≤6:=by rw[zeroMs_len];omega
   have hz:mapsB p (zeroMs q d) (zeroMs q d):=mapsB_zero p q d hd.1
   refine F.loop (σ:=Nat×List Mat×Int×Int) [10,24,25,26,27,28,29,30,31,32,33,34,35,36,37,38,39,40,41,42,43,44,45,46,47,48,49] (fun x=>[(10,.i x.1)]) (fun x=>[(0,.live false 3 (curO b x.2.2.1 x.2.2.2)),(10,.live false 3 (E true x.2.1))]) (fun x=>x.1≤(zeroMs q d).length∧x.2.1.length=(zeroMs q d).length∧mapsB p (zeroMs q d) x.2.1∧okI b x.2.2.1) (fun x=>(zeroMs q d).length-x.1) (0,zeroMs q d,i2,h2) ⟨rfl,trivial⟩ ⟨rfl,rfl,trivial⟩ ⟨Nat.zero_le _,rfl,hz,hi2⟩ ?_
   rintro⟨k,ms,i3,h3⟩ ⟨k1,k2,k3,hi3⟩
   dsimp only at k1 k2 k3 hi3⊢
   by_cases hk:k<(zeroMs q d).length
   ·have hkb:0≤(ms.getD (0+k) default).r∧(ms.getD (0+k) default).r≤1024∧0≤(ms.getD (0+k) default).c∧(ms.getD (0+k) default).c≤1024:=by
     rw[Nat.zero_add]
     obtain⟨h1,h2,_⟩:=k3.2 k (by omega)
     rw[h1,h2,zeroMs_at q d (by rw[←zeroMs_len q d];exact hk)]
     have g1:=gI_bd hd.1 (q.to.getD k default)
     have g2:=gI_bd hd.1 (q.fr.getD k default)
     exact⟨g1.1,g1.2,g2.1,g2.2⟩
    repeat' first|refine s1 ?_|fail
    refine AW.draw 1 G.mixed (by kernel_rfl) ?_
    refine Pz (.p 0<|.p 2<|.p 3<|.p 4<|.p 5<|.p 7<|.p 11<|.p 13<|.a [(1,true,.a [(6,true,.p 8<|.p 9<|.a [(10,true,.o 12 true<|.p 14<|.p 15<|.o 16 true<|.o 17 false<|.p 18<|.o 19 false<|.n),(12,true,.p 14<|.p 15<|.a [(10,true,.o 16 true<|.o 17 false<|.p 18<|.o 19 false<|.n),(16,true,.o 10 true<|.o 17 false<|.p 18<|.o 19 false<|.n)])]),(12,true,.p 14<|.p 15<|.a [(6,true,.p 8<|.p 9<|.a [(10,true,.o 16 true<|.o 17 false<|.p 18<|.o 19 false<|.n),(16,true,.o 10 true<|.o 17 false<|.p 18<|.o 19 false<|.n)]),(16,true,.o 6 true<|.p 8<|.p 9<|.o 10 true<|.o 17 false<|.p 18<|.o 19 false<|.n)])]),(6,true,.p 8<|.p 9<|.a [(1,true,.a [(10,true,.o 12 true<|.p 14<|.p 15<|.o 16 true<|.o 17 false<|.p 18<|.o 19 false<|.n),(12,true,.p 14<|.p 15<|.a [(10,true,.o 16 true<|.o 17 false<|.p 18<|.o 19 false<|.n),(16,true,.o 10 true<|.o 17 false<|.p 18<|.o 19 false<|.n)])]),(10,true,.a [(1,true,.o 12 true<|.p 14<|.p 15<|.o 16 true<|.o 17 false<|.p 18<|.o 19 false<|.n),(12,true,.p 14<|.p 15<|.a [(1,true,.o 16 true<|.o 17 false<|.p 18<|.o 19 false<|.n),(16,true,.a [(1,true,.o 17 false<|.p 18<|.o 19 false<|.n),(17,false,.o 1 true<|.p 18<|.o 19 false<|.n)])])]),(12,true,.p 14<|.p 15<|.a [(1,true,.a [(10,true,.o 16 true<|.o 17 false<|.p 18<|.o 19 false<|.n),(16,true,.o 10 true<|.o 17 false<|.p 18<|.o 19 false<|.n)]),(10,true,.a [(1,true,.o 16 true<|.o 17 false<|.p 18<|.o 19 false<|.n),(16,true,.a [(1,true,.o 17 false<|.p 18<|.o 19 false<|.n),(17,false,.o 1 true<|.p 18<|.o 19 false<|.n)])]),(16,true,.a [(1,true,.o 10 true<|.o 17 false<|.p 18<|.o 19 false<|.n),(10,true,.a [(1,true,.o 17 false<|.p 18<|.o 19 false<|.n),(17,false,.o 1 true<|.p 18<|.o 19 false<|.n)])])])]),(12,true,.p 14<|.p 15<|.a [(1,true,.a [(6,true,.p 8<|.p 9<|.a [(10,true,.o 16 true<|.o 17 false<|.p 18<|.o 19 false<|.n),(16,true,.o 10 true<|.o 17 false<|.p 18<|.o 19 false<|.n)]),(16,true,.o 6 true<|.p 8<|.p 9<|.o 10 true<|.o 17 false<|.p 18<|.o 19 false<|.n)]),(6,true,.p 8<|.p 9<|.a [(1,true,.a [(10,true,.o 16 true<|.o 17 false<|.p 18<|.o 19 false<|.n),(16,true,.o 10 true<|.o 17 false<|.p 18<|.o 19 false<|.n)]),(10,true,.a [(1,true,.o 16 true<|.o 17 false<|.p 18<|.o 19 false<|.n),(16,true,.a [(1,true,.o 17 false<|.p 18<|.o 19 false<|.n),(17,false,.o 1 true<|.p 18<|.o 19 false<|.n)])]),(16,true,.a [(1,true,.o 10 true<|.o 17 false<|.p 18<|.o 19 false<|.n),(10,true,.a [(1,true,.o 17 false<|.p 18<|.o 19 false<|.n),(17,false,.o 1 true<|.p 18<|.o 19 false<|.n)])])]),(16,true,.a [(1,true,.o 6 true<|.p 8<|.p 9<|.o 10 true<|.o 17 false<|.p 18<|.o 19 false<|.n),(6,true,.p 8<|.p 9<|.a [(1,true,.o 10 true<|.o 17 false<|.p 18<|.o 19 false<|.n),(10,true,.a [(1,true,.o 17 false<|.p 18<|.o 19 false<|.n),(17,false,.o 1 true<|.p 18<|.o 19 false<|.n)])])])])]) ?_
    repeat' first|(refine yU (i:=17) ?_;first|refine s1 ?_|(refine F.dr 0 ((hR _ _ ⟨hkb.1,hkb.2.1⟩ hkb.2.2)) (by assumption) ?_;intro M i6 h6 hM hi6;refine F.xk ?_))|(refine yU (i:=19) ?_;first|refine s1 ?_|(refine F.stGE (α:=Mat) (oo:=true) (v:=M) rfl rfl rfl rfl rfl (by omega) (by omega) (.at1 rfl (.at1 rfl (.mv rfl (by simp) (E_length _ _) (E_pure _ _) .nil))) rfl rfl rfl rfl rfl ?_))|refine yS ?_|refine s1 ?_|refine yC ?_ ?_|exact trivial|fail
    any_goals refine lf ?_
    all_goals
     rw[Nat.zero_add k] at hM⊢
     repeat' first|refine s1 ?_|fail
     exact⟨(k+1,ms.set k M,i6,h6),F.fit ⟨rfl,trivial⟩ ⟨rfl,obE rfl,trivial⟩,⟨by show k+1≤(zeroMs q d).length;omega,by simp;omega,k3.set (by omega) hM.1 hM.2.1 hM.2.2.2,hi6⟩,by show(zeroMs q d).length-(k+1)<(zeroMs q d).length-k;omega⟩
   ·obtain rfl:k=(zeroMs q d).length:=by omega
    repeat' first|refine s1 ?_|fail
    exact F.rd ⟨p,q,d,ms⟩ ⟨rfl,rfl,hd.1,fun hF _ hm4=>k3.rep hF hq (hd.2.1 (by omega) (by omega)) hd.1 hd.2.2.1 (fun j hj=>by have:=hd.2.2.2 j hj;omega),fun _=>hd.2.1 (by omega) (by omega),fun h=>(by cases h)⟩ hi3 (F.retM rfl ⟨rfl,trivial⟩)
end Go.Proofs.YtjmjamhhppoimaaGreat.V
namespace Go.Proofs.YtjmjamhhppoimaaGreat.V
open V.Enc (enc)
open Go.RowKit G D
set_option linter.unusedVariables false
set_option linter.unusedSimpArgs false
set_option maxHeartbeats 400000
set_option maxRecDepth 4000
attribute [local irreducible] AW ARg ARA ARet MRet ASil AC AM
def fitC(a b:Rep)(c:List Mat)(i:Nat):Bool:=isMat a.p (c.getD i default)&&decide ((c.getD i default).c=a.d.getD (a.q.fr.getD i default).toNat default)&&decide ((c.getD i default).r=b.d.getD (a.q.to.getD i default).toNat default)
def isCoc(a b:Rep)(c:List Mat):Bool:=fitR a b&&decide (c.length=a.m.length)&&(List.range c.length).all (fitC a b c)
def cocZ(a b:Rep):List Mat:=(List.range a.q.fr.length).map fun i=>zeroM (b.d.getD (a.q.to.getD i default).toNat default) (a.d.getD (a.q.fr.getD i default).toNat default)
theorem cocZ_len(a b:Rep):(cocZ a b).length=a.q.fr.length:=by simp[cocZ]
theorem cocZ_get(a b:Rep){i:Nat}(h:i<a.q.fr.length):(cocZ a b).getD i default=zeroM (b.d.getD (a.q.to.getD i default).toNat default) (a.d.getD (a.q.fr.getD i default).toNat default):=by simp[cocZ,h]
theorem cocZ_take{a b:Rep}{k:Nat}(h:k<a.q.fr.length):(cocZ a b).take (k+1)=(cocZ a b).take k++[zeroM (b.d.getD (a.q.to.getD k default).toNat default) (a.d.getD (a.q.fr.getD k default).toNat default)]:=by
 simp only[cocZ,←List.map_take,range_take h,List.map_append,List.map_cons,List.map_nil]
structure Fits (a b:Rep):Prop where
 q:a.q=b.q
 p:a.p=b.p
 f:isF a.p=true
 ok:okQ a.q=true
 da:(a.d.length:Int)=a.q.n
 db:(b.d.length:Int)=a.q.n
 ba:∀j,j<a.d.length→0≤a.d.getD j default∧a.d.getD j default≤4
 bb:∀j,j<b.d.length→0≤b.d.getD j default∧b.d.getD j default≤4
 ma:a.m.length=a.q.fr.length
 mb:b.m.length=a.q.fr.length
theorem Fits.of{a b:Rep}(h:fitR a b=true):Fits a b:=by
 obtain⟨h1,h2,h3,h4⟩:=fitR_spec h
 obtain⟨a1,a2,a3,a4⟩:=isRep_spec h1
 obtain⟨b1,b2,b3,b4⟩:=isRep_spec h2
 obtain⟨c1,c2,c3,c4⟩:=areDims_spec a2
 obtain⟨d1,d2,d3,d4⟩:=areDims_spec b2
 exact⟨h4,h3,a1,c1,c2,by rw[h4];exact d2,fun j hj=>allIn_spec c3 hj,fun j hj=>allIn_spec d3 hj,a3,by rw[h4];exact b3⟩
theorem cocycleZeros_a(a b:Rep)(h:Fits a b):AC Tryz.prog 369 [.agg (enc false a),.agg (enc false b)] [.dt true 3 (E true (cocZ a b))]:=by
 refine AC.go Tryz.func369 Tryz.ntmps369 rfl rfl fun w0 hw=>?_;simp[WfL,WfA,E_length,Enc.enc,In64] at hw
 have h5:=okQ_spec h.ok
 have hda:=h.da
 have hdb:=h.db
 repeat' first|refine s1 ?_|fail
 refine AW.open 5 3 (.inl rfl) ?_
 refine F.loop (σ:=Nat) [5,6,7,12,13,14,15,16,17,18,19,20,21,22,23,24,25,26,27,28,29,30,31,32,33,34,35,36] (fun k=>[(5,.sl 2 k 0 k),(12,.i k)]) (fun k=>[(2,.live false 3 (E true ((cocZ a b).take k)))]) (fun k=>k≤a.q.fr.length) (fun k=>a.q.fr.length-k) 0 ⟨rfl,rfl,trivial⟩ ⟨rfl,trivial⟩ (Nat.zero_le _) ?_
 rintro k h1
 have hzl:=cocZ_len a b
 have hp:((cocZ a b).take k).length=k:=by rw[List.length_take];omega
 by_cases hlt:k<a.q.fr.length
 ·have f:=okQ_fr h.ok hlt
  have t:=okQ_to h.ok hlt
  have f':0≤a.q.fr.getD k default∧a.q.fr.getD k default<a.q.n:=f
  have t':0≤a.q.to.getD k default∧a.q.to.getD k default<a.q.n:=t
  have df:=h.ba (a.q.fr.getD k default).toNat (by omega)
  have dt:=h.bb (a.q.to.getD k default).toNat (by omega)
  have hZ:=zero_a _ _ ⟨dt.1,by omega⟩ ⟨df.1,by omega⟩
  repeat' first|refine s1 ?_|fail
  refine AW.draw 18 G.mixed (by kernel_rfl) ?_
  refine Pz (.p 0<|.p 1<|.l 2<|.p 3<|.p 4<|.l 5<|.p 6<|.p 7<|.l 8<|.p 9<|.l 10<|.p 11<|.l 12<|.p 13<|.p 14<|.l 15<|.o 16 true<|.o 17 true<|.o 18 false<|.p 19<|.n) ?_
  repeat' first|refine yS ?_|refine s1 ?_|(refine kR ?_;first|refine F.c (hZ) ?_|refine F.a1 Mat ?_)|fail
  any_goals refine lf ?_
  repeat' first|refine s1 ?_|fail
  exact⟨k+1,F.fit ⟨rfl,rfl,trivial⟩ ⟨obE (by rw[cocZ_take hlt]),trivial⟩,by omega,by omega⟩
 ·obtain rfl:k=a.q.fr.length:=by omega
  rw[←hzl,List.take_length]
  repeat' first|refine s1 ?_|fail
  (refine kZ ?_;exact F.ret rfl)
end Go.Proofs.YtjmjamhhppoimaaGreat.V
