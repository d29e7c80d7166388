/- Texts that the proof needs: A199, A206, A213, A101, A102, A103. -/
import Derived.Test.YtjmjamhhppoimaaGreatQraA22
import Derived.Test.YtjmjamhhppoimaaGreatQraA110
namespace Go.Proofs.YtjmjamhhppoimaaGreat.V
open V.Enc (enc)
open Go.RowKit G D
set_option linter.unusedVariables false
set_option linter.unusedSimpArgs false
set_option maxHeartbeats 4000000
set_option maxRecDepth 4000
attribute [local irreducible] AW ARg ARA ARet MRet ASil AC AM AMx ACx AD ARI
def inV(p:Int)(l:List Int):Prop:=0<p→∀j,j<l.length→0≤l.getD j default∧l.getD j default≤p-1
theorem inV.add{p x:Int}{l:List Int}(h:inV p l)(hx:0<p→0≤x∧x≤p-1):inV p (l++[x]):=fun hp j hj=>by
 by_cases e:j<l.length
 ·have:=h hp j e
  simpa[List.getElem?_append_left e,List.getD_eq_getElem?_getD] using this
 ·obtain rfl:j=l.length:=by simp at hj;omega
  simpa using hx hp
def repOr(r:Rep):Prop:=isRep r=true∨(r.d=[]∧r.m=[])
theorem repOr.len{r:Rep}(h:repOr r):r.d.length≤5:=by
 rcases h with h|h
 ·obtain⟨c1,c2,c3,c4⟩:=areDims_spec (isRep_spec h).2.1
  have:=okQ_spec c1
  omega
 ·rw[h.1];simp
def smallS(s:List Spc):Prop:=∀v,v<s.length→∀i,i<(s.getD v default).b.length→((s.getD v default).b.getD i default).length≤1000000
theorem spc_small{p:Int}{x:Spc}(h:isSpc p x=true):∀i,i<x.b.length→(x.b.getD i default).length≤1000000:=fun i hi=>by
 obtain⟨_,h2,_,h4⟩:=isSpc_spec h
 have:=(h4 _ (gm (d:=default) hi)).1
 omega
theorem sub_small{r:Rep}{s:List Spc}(h:isSub r s=true):smallS s:=fun v hv=>spc_small ((isSub_spec h).2.2.1 v hv).1
abbrev cellR:List (List AV):=[[.i 0,.i 0,.nl,.nl,.nl,.nl]]
theorem rep_len{r:Rep}(h:isRep r=true):r.d.length≤5∧r.m.length≤6∧(r.d.length:Int)=r.q.n∧okQ r.q=true:=by
 obtain⟨_,r2,r3,_⟩:=isRep_spec h
 obtain⟨c1,c2,c3,c4⟩:=areDims_spec r2
 have:=okQ_spec c1
 exact⟨by omega,by omega,c2,c1⟩
theorem drawTopDims_x(b:List UInt8)(hl:b.length≤1048576):AMx Tryz.prog 67 [ar false b] [] (fun _:Rep=>True) (fun x=>[repA x]) (fun _=>[]):=by
 refine AMx.go Tryz.func67 Tryz.ntmps67 rfl rfl fun w0 mp hw=>?_;simp[WfL,WfA,E_length,Enc.enc,In64] at hw
 have hN:=l1New_p b hl
 have hA:=l8Any_x b hl
 have hi0:okI b 0:=⟨Int.le_refl _,by omega⟩
 repeat' first|refine s1 ?_|(refine kR ?_;first|refine F.p (hN) ?_|(refine F.dr 1 (hA) (by assumption) ?_;intro r i1 k1 hr hi1;refine F.xk ?_))|fail
 exact F.rx r trivial (F.retM rfl trivial)
theorem drawIsSemisimple_x(b:List UInt8)(hl:b.length≤1048576):AMx Tryz.prog 84 [ar false b] [] (fun _:Rep=>True) (fun x=>[.agg (enc false x)]) (fun _=>[]):=by
 refine AMx.go Tryz.func84 Tryz.ntmps84 rfl rfl fun w0 mp hw=>?_;simp[WfL,WfA,E_length,Enc.enc,In64] at hw
 have hN:=l1New_p b hl
 have hA:=l8Any_x b hl
 have hO:=fun n=>l1Once_x b hl n
 have hi0:okI b 0:=⟨Int.le_refl _,by omega⟩
 repeat' first|(refine AW.putV 4 4 rfl rfl rfl rfl (E_length _ _) (E_pure _ _) rfl ?_;refine AW.putV 4 5 rfl rfl rfl rfl (E_length _ _) (E_pure _ _) rfl ?_;refine AW.freezeV (enc false r) 4 rfl rfl (repA_pure r) (repA_frz r) ?_)|refine s1 ?_|(refine kR ?_;first|refine F.p (hN) ?_|(refine F.dr 1 (hA) (by assumption) ?_;intro r i1 k1 hr hi1;refine F.xk ?_))|fail
 have hR:=specIsRep_a r
 cases hc:isRep r with
 |false=>
  rw[hc] at hR
  repeat' first|refine s1 ?_|(refine kR ?_;first|refine F.c (hR) ?_)|fail
  exact F.rx r trivial (F.retM rfl trivial)
 |true=>
  rw[hc] at hR
  obtain⟨d1,d2,d3,d4⟩:=rep_len hc
  have hZ:=l8Zero_a r.p r.q r.d d4 d3 (fun j hj=>by have:0≤r.d.getD j default∧r.d.getD j default≤4:=rep_dim hc hj;omega)
  repeat' first|refine s1 ?_|(refine kR ?_;first|refine F.c (hR) ?_|(refine F.dr 1 ((hO _)) (by assumption) ?_;intro c4 i4 k4 hc4 hi4;refine F.xk ?_))|fail
  cases c4 with
  |true=>
   repeat' first|(refine F.freezeG (α:=Int) (oo:=true) (ls:=(zeroR r.p r.q r.d).q.fr) 21 2 rfl rfl rfl rfl ?_;refine F.freezeG (α:=Int) (oo:=true) (ls:=(zeroR r.p r.q r.d).q.to) 21 3 rfl rfl rfl rfl ?_;refine F.freezeG (α:=Int) (oo:=true) (ls:=(zeroR r.p r.q r.d).d) 21 4 rfl rfl rfl rfl ?_;refine F.freezeG (α:=Mat) (oo:=true) (ls:=(zeroR r.p r.q r.d).m) 21 5 rfl rfl rfl rfl ?_)|refine s1 ?_|(refine kR ?_;first|refine F.c (hZ) ?_)|fail
   exact F.rx (zeroR r.p r.q r.d) trivial (F.retM rfl trivial)
  |false=>
   repeat' first|refine s1 ?_|fail
   exact F.rx r trivial (F.retM rfl trivial)
theorem drawIsSimple_x(b:List UInt8)(hl:b.length≤1048576):AMx Tryz.prog 83 [ar false b] [] (fun _:Rep=>True) (fun x=>[.agg (enc false x)]) (fun _=>[]):=by
 refine AMx.go Tryz.func83 Tryz.ntmps83 rfl rfl fun w0 mp hw=>?_;simp[WfL,WfA,E_length,Enc.enc,In64] at hw
 have hN:=l1New_p b hl
 have hO:=fun n=>l1Once_x b hl n
 have hQ:=l6Any_x b hl
 have hP:=l8Prime_x b hl
 have hB:=fun n=>l1Below_x b hl n
 have hS:=fun p q v=>specSimpleRep_a p q v
 have hi0:okI b 0:=⟨Int.le_refl _,by omega⟩
 repeat' first|refine s1 ?_|(refine kR ?_;first|refine F.p (hN) ?_|(refine F.dr 1 ((hO _)) (by assumption) ?_;intro c i1 k1 hc1 hi1;refine F.xk ?_))|fail
 refine AW.only [(2,.pt 0 1 0 0),(3,.pt 1 1 0 0),(13,.b c)] [(0,.live false 6 cellR),(1,.live false 3 (curO b i1 k1))] 2 ⟨rfl,rfl,rfl,trivial⟩ ⟨rfl,rfl,trivial⟩ rfl ?_
 refine F.cut (σ:=Int×Int) [4,5,6,14,15,16,17,18,19,20,21,22,23,24,25,26] (fun _=>[]) (fun s=>[(1,.live false 3 (curO b s.1 s.2))]) (fun s=>okI b s.1) ?_ (fun s hs=>?_)
 ·cases c with
  |false=>
   repeat' first|refine s1 ?_|fail
   exact⟨(i1,k1),F.fit trivial ⟨rfl,trivial⟩,hi1⟩
  |true=>
   repeat' first|(refine AW.putV 4 1 rfl rfl rfl rfl (E_length _ _) (E_pure _ _) rfl ?_;refine AW.putV 4 2 rfl rfl rfl rfl (E_length _ _) (E_pure _ _) rfl ?_;refine AW.freezeP (α:=Quiv) (oo:=true) q 4 rfl rfl ?_)|refine s1 ?_|(refine kR ?_;first|(refine F.dr 1 (hQ) (by assumption) ?_;intro q i2 k2 hq hi2;refine F.xk ?_))|fail
   refine AW.drawI G.mixed (by kernel_rfl) (by rfl) ?_
   intro T w1 MP1 I0
   refine Pz (.p 0<|.l 2<|.p 3<|.a [(1,false,.a [(4,false,.a [(5,false,.p 6<|.p 7<|.p 8<|.o 9 false<|.o 10 false<|.p 11<|.n),(9,false,.o 5 false<|.p 6<|.p 7<|.p 8<|.o 10 false<|.p 11<|.n)]),(9,false,.o 4 false<|.o 5 false<|.p 6<|.p 7<|.p 8<|.o 10 false<|.p 11<|.n)]),(9,false,.o 1 false<|.o 4 false<|.o 5 false<|.p 6<|.p 7<|.p 8<|.o 10 false<|.p 11<|.n)]) ?_
   repeat' first|(refine yU (i:=1) ?_;first|refine s1 ?_|(refine F.dr 1 (hP) (by assumption) ?_;intro p i3 k3 hp hi3;refine F.xk ?_))|(refine yU (i:=4) ?_;first|refine s1 ?_|(refine F.dr 1 ((hB 3)) (by assumption) ?_;intro v i4 k4 hv hi4;refine F.xk ?_))|(refine yU (i:=5) ?_;first|refine s1 ?_|refine F.c ((hS p q v)) ?_)|refine xS ?_|refine s1 ?_|refine xC ?_ ?_|exact trivial|fail
   any_goals refine lf ?_
   all_goals
    generalize simpleR p q v=SR
    obtain⟨z,c2⟩:=SR
    dsimp only
    (refine AW.putV 5 2 rfl rfl rfl rfl (E_length _ _) (E_pure _ _) rfl ?_;refine AW.putV 5 3 rfl rfl rfl rfl (E_length _ _) (E_pure _ _) rfl ?_;refine AW.putV 5 4 rfl rfl rfl rfl (E_length _ _) (E_pure _ _) rfl ?_;refine AW.putV 5 5 rfl rfl rfl rfl (E_length _ _) (E_pure _ _) rfl ?_;refine AW.freezeP (α:=Rep) (oo:=true) z 5 rfl rfl ?_)
    cases c2 with
    |false=>
     repeat' first|refine s1 ?_|fail
     exact⟨(i4,k4),F.fit trivial ⟨rfl,trivial⟩,hi4⟩
    |true=>
     repeat' first|refine s1 ?_|fail
     exact F.rx z trivial (F.retM rfl trivial)
 ·obtain⟨i7,k7⟩:=s
  dsimp only at hs⊢
  repeat' first|refine s1 ?_|(refine kR ?_;first|(refine F.dr 1 ((hO _)) (by assumption) ?_;intro c3 i8 k8 hc8 hi8;refine F.xk ?_))|fail
  cases c3 with
  |true=>
   have hNm:=specNamedQuiver_n 10 (by omega)
   rw[show nameL.getD 10 default=(⟨#[108,111,111,112]⟩:ByteArray) from rfl,show namQ.getD 10 default=(⟨1,[0],[0]⟩:Quiv) from rfl] at hNm
   have hZ:=l8Zero_a 2 ⟨1,[0],[0]⟩ [2] (by decide) (by decide) (by decide)
   have hR:=l3Random_x b hl 2 2 2 (by omega) (by omega)
   have hzl:(zeroR 2 ⟨1,[0],[0]⟩ [2]).m.length=1:=rfl
   generalize zeroR 2 ⟨1,[0],[0]⟩ [2]=Z at hZ hzl
   repeat' first|(refine AW.putV 7 1 rfl rfl rfl rfl (E_length _ _) (E_pure _ _) rfl ?_;refine AW.putV 7 2 rfl rfl rfl rfl (E_length _ _) (E_pure _ _) rfl ?_;refine AW.freezeP (α:=Quiv) (oo:=true) ⟨1,[0],[0]⟩ 7 rfl rfl ?_)|refine F.litN (xs:=V.E true ([2]:List Int)) rfl rfl rfl rfl rfl rfl rfl rfl ?_|refine s1 ?_|(refine kR ?_;first|(refine F.x [] (hNm) ?_;rintro⟨q,c5⟩ hq;cases hq;refine F.xk ?_)|refine F.c (hZ) ?_)|fail
   refine AW.drawI G.mixed (by kernel_rfl) (by rfl) ?_
   intro T w1 MP1 I0
   refine Pz (.p 0<|.p 2<|.a [(1,false,.o 3 false<|.p 4<|.o 5 false<|.n),(3,false,.o 1 false<|.p 4<|.o 5 false<|.n)]) ?_
   repeat' first|(refine yU (i:=3) ?_;first|refine s1 ?_|(refine F.dr 1 (hR) (by assumption) ?_;intro M i9 k9 hM hi9;refine F.xk ?_))|(refine yU (i:=5) ?_;first|refine s1 ?_|(refine F.stGE (α:=Mat) (oo:=true) (v:=M) rfl rfl rfl rfl rfl (by omega) (by omega) (.at1 rfl (.at1 rfl (.mv rfl (by simp) (E_length _ _) (E_pure _ _) .nil))) rfl rfl rfl rfl rfl ?_))|refine xS ?_|refine s1 ?_|refine xC ?_ ?_|exact trivial|fail
   any_goals refine lf ?_
   all_goals
    refine AW.putV 9 2 rfl rfl rfl rfl (E_length _ _) (E_pure _ _) rfl ?_
    refine AW.putV 9 3 rfl rfl rfl rfl (E_length _ _) (E_pure _ _) rfl ?_
    refine AW.putV 9 4 rfl rfl rfl rfl (E_length _ _) (E_pure _ _) rfl ?_
    refine AW.putV 9 5 rfl rfl rfl rfl ((E_length _ _).trans (List.length_set ..)) (E_pure _ _) rfl ?_
    refine AW.freezeP (α:=Rep) (oo:=true) ⟨Z.p,Z.q,Z.d,Z.m.set (0+0) M⟩ 9 rfl rfl ?_
    repeat' first|refine s1 ?_|fail
    exact F.rx ⟨Z.p,Z.q,Z.d,Z.m.set (0+0) M⟩ trivial (F.retM rfl trivial)
  |false=>
   have hA:=l8Any_x b hl
   repeat' first|(refine F.freezeG (α:=Int) (oo:=true) (ls:=e.d) 43 4 rfl rfl rfl rfl ?_;refine F.freezeG (α:=Mat) (oo:=true) (ls:=e.m) 43 5 rfl rfl rfl rfl ?_)|refine s1 ?_|(refine kR ?_;first|(refine F.dr 1 (hA) (by assumption) ?_;intro e i9 k9 he hi9;refine F.xk ?_))|fail
   exact F.rx e trivial (F.retM rfl trivial)
end Go.Proofs.YtjmjamhhppoimaaGreat.V
namespace Go.Proofs.YtjmjamhhppoimaaGreat.V
open V.Enc (enc)
open Go.RowKit G D
set_option linter.unusedVariables false
set_option linter.unusedSimpArgs false
set_option maxHeartbeats 4000000
set_option maxRecDepth 4000
attribute [local irreducible] AW ARg ARA ARet MRet ASil AC AM ARI
theorem combined_a(a b:Rep)(ks:List Int)(hf:fitR a b=true)(hks:ks.length=(hkL a b).length)(hkb:∀j,j<ks.length→0≤ks.getD j default∧ks.getD j default≤a.p-1):AC Tryz.prog 342 [.agg (enc false a),.agg (enc false b),ar false (homL a b),ar false ks] [.dt true 3 (E true (cutV a b (cmbH a b ks)))]:=by
 refine AC.go Tryz.func342 Tryz.ntmps342 rfl rfl fun w0 hw=>?_;simp[WfL,WfA,E_length,Enc.enc,In64] at hw
 have h:=Fits.of hf
 have h5:=okQ_spec h.ok
 have hda:=h.da
 have hdb:=h.db
 have hp:=isF_pos h.f
 have hn:=szT_le h a.d.length (Nat.le_refl _)
 have hZ:=zeros_a a b h
 rw[cut_zero h] at hZ
 have hle:=rkE_le a b hf
 have hlen:=hkL_len a b hf
 have hll:=homL_len a b
 have hvb:=hkL_vec hf
 have hH:∀k,k<(hkL a b).length→(homL a b).getD k default=cutV a b ((hkL a b).getD k default):=fun k hk=>by simp[homL,hk]
 have hcs:∀k,cmbV a.p (szT a b a.d.length) (hkL a b) ks (k+1)=addK a.p (ks.getD k default) 0 ((hkL a b).getD k default) (cmbV a.p (szT a b a.d.length) (hkL a b) ks k) (szT a b a.d.length):=fun _=>rfl
 have hcb:=fun k j hj=>cmbV_bd (p:=a.p) (n:=szT a b a.d.length) (l:=hkL a b) (k:=ks) hp.1 k j hj
 have hcl:=fun k=>cmbV_len a.p (szT a b a.d.length) (hkL a b) ks k
 unfold cmbH
 rw[show List.replicate (szT a b a.d.length) (0:Int)=cmbV a.p (szT a b a.d.length) (hkL a b) ks 0 from rfl] at hZ
 generalize homL a b=HL at hll hH⊢
 have hca:=fun(x y:List Int) hx hy v hv k=>cut_add (a:=a) (b:=b) (p:=a.p) (k:=k) (x:=x) (y:=y) hx hy (v:=v) hv
 have hAM:=fun(x:List Int) (hx:x.length=szT a b a.d.length) (hxb:∀y∈x,0≤y∧y≤a.p-1)=>areM_cutV hf hx hxb
 have hcg:=fun k (hk:k<(hkL a b).length)=>hvb _ (gm (d:=default) hk)
 have hcv:=cutV_len a b
 generalize hkL a b=KL at*
 generalize szT a b a.d.length=N at*
 generalize cmbV a.p N KL ks=CB at*
 have hvn:=hcv (CB 0)
 repeat' first|refine s1 ?_|(refine kR ?_;first|refine F.c (hZ) ?_)|fail
 refine F.loop (σ:=Nat) [10,11,12,13,19,20,21,22,23,24,25,26,27,28,29,30,31,32,33,34,35,36,37,38,39,40,41,42,43,44,45,46] (fun k=>[(19,.i k)]) (fun k=>[(2,.live false 3 (E true (cutV a b (CB k))))]) (fun k=>k≤KL.length) (fun k=>KL.length-k) 0 ⟨rfl,trivial⟩ ⟨rfl,trivial⟩ (Nat.zero_le _) ?_
 rintro k k1
 by_cases hk:k<KL.length
 ·obtain⟨v1,v2⟩:=hcg k hk
  have hHk:=hH k hk
  have hkk:=hkb k (by omega)
  have hc1:=fun v hv=>hca (CB k) (KL.getD k default) (hcl k) v1 v hv (ks.getD k default)
  simp only[←hcs k] at hc1
  have ha1:=hAM (CB k) (hcl k) (vec_mem (hcl k) fun j hj=>hcb k j hj)
  have ha2:=hAM (KL.getD k default) v1 (vec_mem v1 v2)
  have hf1:=fun v hv=>fitV_spec ha1 (v:=v) hv
  have hf2:=fun v hv=>fitV_spec ha2 (v:=v) hv
  have l1:=hcv (CB k)
  have l2:=hcv (KL.getD k default)
  have l3:=hcv (CB (k+1))
  have hmx:=mixL_len (x:=cutV a b (CB (k+1))) (y:=cutV a b (CB k)) (by omega)
  have hms:=fun v hv=>mixL_set (x:=cutV a b (CB (k+1))) (y:=cutV a b (CB k)) (by omega) (k:=v) hv
  have hmg:=fun v hv=>mixL_get (x:=cutV a b (CB (k+1))) (y:=cutV a b (CB k)) (by omega) (k:=v) hv
  have hm0:=mixL_zero (cutV a b (CB (k+1))) (cutV a b (CB k))
  have hma:=mixL_all (x:=cutV a b (CB (k+1))) (y:=cutV a b (CB k)) (by omega)
  have hrc:∀v,v<a.d.length→(cutV a b (CB k)).getD v default=⟨b.d.getD v default,a.d.getD v default,((cutV a b (CB k)).getD v default).m⟩:=fun v hv=>by simp[cutV,hv]
  generalize hY:cutV a b (CB (k+1))=Y at hc1 l3 hmx hms hmg hm0 hma⊢
  generalize cutV a b (CB k)=X at hc1 hf1 l1 hmx hms hmg hm0 hma hrc⊢
  rw[←hHk] at hc1 hf2 l2
  repeat' first|refine s1 ?_|fail
  generalize HL.getD k default=M at hc1 hf2 l2
  refine F.loop (σ:=Nat) [12,13,26,27,28,29,30,31,32,33,34,35,36,37,38,39,40,41,42,43,44,45] (fun v=>[(26,.i v)]) (fun v=>[(2,.live false 3 (E true (mixL Y X v)))]) (fun v=>v≤a.d.length) (fun v=>a.d.length-v) 0 ⟨rfl,trivial⟩ ⟨obE (by rw[hm0]),trivial⟩ (Nat.zero_le _) ?_
  rintro v v0
  have hlv:=hmx v
  by_cases hv:v<a.d.length
  ·have hg:=hmg v (by omega)
   have hs:=hms v (by omega)
   rw[hc1 v hv] at hs
   obtain⟨a1,a2,a3,a4⟩:=hf1 v (by omega)
   obtain⟨b1,b2,b3,b4⟩:=hf2 v (by omega)
   have m1:=isMat_spec a1
   have m2:=isMat_spec b1
   have hrv:=hrc v hv
   have hll':(M.getD v default).m.length=(X.getD v default).m.length:=by omega
   have hA:=addMul_m a.p (ks.getD k default) (X.getD v default).m (M.getD v default).m 0 (X.getD v default).m.length (by omega) (by omega) (fun t ht=>by have:=m1.2.2.2.2 t ht;omega) (fun t ht=>by have:=m2.2.2.2.2 t ht;omega) (by omega) (by omega)
   rw[←hg] at hA hs hrv hll'
   generalize mixL Y X v=Z at hlv hg hs hA hrv hll'⊢
   have hbX:(E true Z).length=(cutV a b (CB 0)).length:=by rw[E_length,hlv];omega
   refine AW.takeE (α:=Mat) (o:=2) (k:=v) (j:=2) (ls:=Z) rfl (by omega) rfl (E_length _ _) ?_
   repeat' first|refine s1 ?_|fail
   refine AW.draw 13 G.mixed (by kernel_rfl) ?_
   refine Pz (.p 0<|.l 1<|.p 2<|.p 3<|.p 4<|.p 5<|.l 6<|.p 7<|.p 8<|.p 9<|.l 10<|.p 11<|.l 12<|.o 13 false<|.n) ?_
   repeat' first|refine yP (i:=4) ?_ (hs:=by exact(A.idxT (k:=v) rfl rfl rfl hbX rfl (by omega)))|refine yL (i:=6) ?_ (hs:=by exact(A.ldS rfl rfl hbX (Nat.zero_add _) (by omega) rfl rfl))|refine yS ?_|refine s1 ?_|(refine kR ?_;first|refine F.m [3] (hA) ?_)|fail
   any_goals refine lf ?_
   refine s1 ?_
   first|refine AW.put (α:=Mat) (o:=2) (o2:=3) (k:=v) (j:=2) (v:=⟨b.d.getD v default,a.d.getD v default,addK a.p (ks.getD k default) 0 (M.getD v default).m (Z.getD v default).m (M.getD v default).m.length⟩) (x:=Z.getD v default) (m:=(Z.getD v default).m.length) (ls:=Z) (sz2:=1) (ys:=E true (addK a.p (ks.getD k default) 0 (M.getD v default).m (Z.getD v default).m (M.getD v default).m.length)) rfl rfl (by rw[E_length,addK_len]) (E_pure _ _) rfl (by omega) rfl (by rw[hrv];rfl) ?_|(refine s1 ?_;refine AW.put (α:=Mat) (o:=2) (o2:=3) (k:=v) (j:=2) (v:=⟨b.d.getD v default,a.d.getD v default,addK a.p (ks.getD k default) 0 (M.getD v default).m (Z.getD v default).m (M.getD v default).m.length⟩) (x:=Z.getD v default) (m:=(Z.getD v default).m.length) (ls:=Z) (sz2:=1) (ys:=E true (addK a.p (ks.getD k default) 0 (M.getD v default).m (Z.getD v default).m (M.getD v default).m.length)) rfl rfl (by rw[E_length,addK_len]) (E_pure _ _) rfl (by omega) rfl (by rw[hrv];rfl) ?_)|refine F.put (α:=Mat) (o:=2) (o2:=3) (k:=v) (j:=2) (v:=⟨b.d.getD v default,a.d.getD v default,addK a.p (ks.getD k default) 0 (M.getD v default).m (Z.getD v default).m (M.getD v default).m.length⟩) (x:=Z.getD v default) (m:=(Z.getD v default).m.length) (ls:=Z) (sz2:=1) (ys:=E true (addK a.p (ks.getD k default) 0 (M.getD v default).m (Z.getD v default).m (M.getD v default).m.length)) rfl rfl (by rw[E_length,addK_len]) (E_pure _ _) rfl (by omega) rfl (by rw[hrv];rfl) ?_|(refine s1 ?_;refine F.put (α:=Mat) (o:=2) (o2:=3) (k:=v) (j:=2) (v:=⟨b.d.getD v default,a.d.getD v default,addK a.p (ks.getD k default) 0 (M.getD v default).m (Z.getD v default).m (M.getD v default).m.length⟩) (x:=Z.getD v default) (m:=(Z.getD v default).m.length) (ls:=Z) (sz2:=1) (ys:=E true (addK a.p (ks.getD k default) 0 (M.getD v default).m (Z.getD v default).m (M.getD v default).m.length)) rfl rfl (by rw[E_length,addK_len]) (E_pure _ _) rfl (by omega) rfl (by rw[hrv];rfl) ?_)
   rw[hs]
   repeat' first|refine s1 ?_|fail
   exact⟨v+1,F.fit ⟨rfl,trivial⟩ ⟨rfl,trivial⟩,by omega,by omega⟩
  ·obtain rfl:v=a.d.length:=by omega
   have e:mixL Y X a.d.length=Y:=by rw[←l3];exact hma
   rw[e]
   repeat' first|refine s1 ?_|fail
   exact⟨k+1,F.fit ⟨rfl,trivial⟩ ⟨obE (by rw[hY]),trivial⟩,by omega,by omega⟩
 ·obtain rfl:k=KL.length:=by omega
  have e:=hcv (CB KL.length)
  generalize cutV a b (CB KL.length)=Y at e⊢
  repeat' first|refine s1 ?_|fail
  (refine kZ ?_;exact F.ret rfl)
theorem numbered_a(a b:Rep)(c:Int)(hf:fitR a b=true)(h0:0≤c∧c≤1000000):AC Tryz.prog 252 [.agg (enc false a),.agg (enc false b),ar false (homL a b),.i c] [.dt true 3 (E true (numL a b c))]:=by
 refine AC.go Tryz.func252 Tryz.ntmps252 rfl rfl fun w0 hw=>?_;simp[WfL,WfA,E_length,Enc.enc,In64] at hw
 have h:=Fits.of hf
 have hp:=isF_pos h.f
 have hle:=rkE_le a b hf
 have hlen:=hkL_len a b hf
 have hll:=homL_len a b
 have hV:=vectorOf_a a.p c (hkL a b).length hp h0 (by omega)
 have hC:=combined_a a b (digV a.p c (hkL a b).length) hf (digV_len ..) (fun j hj=>by
  rw[digV_len] at hj
  rw[digV_get _ _ hj]
  exact digN_bd (by omega) _ _)
 unfold numL
 rw[←hll] at hV hC⊢
 generalize cutV a b (cmbH a b (digV a.p c (homL a b).length))=R at hC⊢
 generalize digV a.p c (homL a b).length=K at hV hC
 generalize homL a b=HL at hV hC
 repeat' first|refine s1 ?_|fail
 refine AW.draw 11 G.mixed (by kernel_rfl) ?_
 refine Pz (.l 0<|.l 1<|.p 2<|.p 3<|.l 4<|.p 5<|.p 6<|.p 7<|.o 8 true<|.o 9 true<|.p 10<|.n) ?_
 repeat' first|refine yS ?_|refine s1 ?_|(refine kR ?_;first|refine F.c (hV) ?_|refine F.c (hC) ?_)|fail
 any_goals refine lf ?_
 repeat' first|refine s1 ?_|fail
 (refine kZ ?_;exact F.ret rfl)
theorem homD_len(a b:Rep)(hf:fitR a b=true):homD a b=((hkL a b).length:Nat)∧(hkL a b).length≤80:=by
 have hle:=rkE_le a b hf
 have hlen:=hkL_len a b hf
 unfold homD
 rw[if_pos hf]
 omega
def mstH(a b:Rep):Nat:=(min (cntH a.p (hkL a b).length) 3000).toNat
theorem mstH_eq{a b:Rep}(hf:fitR a b=true):min (cntH a.p (hkL a b).length) 3000=(mstH a b:Int)∧1≤mstH a b∧mstH a b≤3000:=by
 have:=cntH_bd (isF_pos (Fits.of hf).f) (hkL a b).length
 unfold mstH
 omega
end Go.Proofs.YtjmjamhhppoimaaGreat.V
