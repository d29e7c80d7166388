/- Texts that the proof needs: A120, A122, A210, A130, A195, A197. -/
import Derived.Test.YtjmjamhhppoimaaGreatQspA126
import Derived.Test.YtjmjamhhppoimaaGreatQspA213
namespace Go.Proofs.YtjmjamhhppoimaaGreat.V
open V.Enc (enc)
open Go.RowKit G D
set_option linter.unusedVariables false
set_option linter.unusedSimpArgs false
set_option maxHeartbeats 4000000
set_option maxRecDepth 4000
attribute [local irreducible] AW ARg ARA ARet MRet ASil AC AM ARI
theorem l16Parts_m:∀(n:Nat) (r:Rep),isRep r=true→0<r.d.sum→r.d.sum≤n→AM Tryz.prog 350 [.agg (enc false r)] [] [.dt true 6 (E false (ptN n r).1),.dt true 1 (E true (ptN n r).2.1),.b (ptN n r).2.2] []
 |0,r,_,h1,h2=>by omega
 |n+1,r,hr,h1,h2=>by
  cases hfs:(fsP r).2.2 with
  |false=>exact l16Parts_leaf n r hr h1 hfs
  |true=>
   refine l16Parts_step n r hr h1 hfs fun k hk=>?_
   have hh:=half (n:=n) hr hfs hk
   refine l16Parts_m n _ (subR_ok hh.sub) hh.pos ?_
   obtain⟨f1,f2,f3,f4,f5⟩:=fs_facts hr hfs
   rw[dims_sum]
   have:k=0∨k=1:=by omega
   rcases this with e|e<;>subst e
   ·show(dimS (fsP r).1).sum≤_;omega
   ·show(dimS (fsP r).2.1).sum≤_;omega
theorem specPartsOf_m(r:Rep):AM Tryz.prog 259 [.agg (enc false r)] [] [.dt true 6 (E false (psP r).1),.dt true 3 (E true (psP r).2.1),.b (psP r).2.2] []:=by
 refine AM.go Tryz.func259 Tryz.ntmps259 rfl rfl fun w0 mp hw=>?_;simp[WfL,WfA,E_length,Enc.enc,In64] at hw
 have hR:=specIsRep_a r
 cases hr:isRep r with
 |false=>
  rw[hr] at hR
  rw[psP_no1 (by rw[hr];simp)]
  repeat' first|refine s1 ?_|(refine kR ?_;first|refine F.c (hR) ?_)|fail
  refine kM ?_
  exact F.retM rfl trivial
 |true=>
  rw[hr] at hR
  obtain⟨r1,r2,r3,r4⟩:=isRep_spec hr
  obtain⟨c1,c2,c3,c4⟩:=areDims_spec r2
  have h5:=okQ_spec c1
  have hsm:=rep_sum hr
  have hT:=totalOf_a r hr
  by_cases h0:r.d.sum=0
  ·rw[h0] at hT
   rw[psP_no1 (fun x=>x.2 h0)]
   repeat' first|refine s1 ?_|(refine kR ?_;first|refine F.c (hR) ?_|refine F.c (hT) ?_)|fail
   refine kM ?_
   exact F.retM rfl trivial
  ·have hQ:=l16Parts_m r.d.sum.toNat r hr (by omega) (by omega)
   have hok:=pt_ok r.d.sum.toNat r hr (by omega)
   rw[show ptN r.d.sum.toNat r=ptP r from rfl] at hQ hok
   cases hk:(ptP r).2.2 with
   |false=>
    rw[hk] at hQ
    rw[psP_no2 hk]
    generalize ptP r=X at hQ
    obtain⟨X1,X2,X3⟩:=X
    dsimp only at hQ
    generalize r.d.sum=S at hT h0
    repeat' first|refine AW.freezeP (α:=Rep) (oo:=false) r 1 rfl rfl ?_|refine s1 ?_|(refine kR ?_;first|refine F.c (hR) ?_|refine F.c (hT) ?_|(refine jCf 350 ?_;refine F.w (hQ) ?_))|fail
    refine kM ?_
    exact F.retM rfl trivial
   |true=>
    rw[hk] at hQ
    rw[psP_yes hr h0 hk]
    have hcf:=fun v (hv:v<r.d.length) i (hi:i<(ptP r).2.1.length)=>colF hr hok (v:=v) hv hi
    have hl:=hok.len
    have hle:=hok.le
    have hwl:=wholeL_len r (ptP r).2.1
    have hwt:=fun v (hv:v<r.d.length)=>whole_take (g:=(ptP r).2.1) hv
    generalize ptP r=X at hQ hcf hl hle hwl hwt⊢
    obtain⟨X1,X2,X3⟩:=X
    dsimp only at hQ hcf hl hle hwl hwt⊢
    generalize wholeL r X2=WL at hwl hwt⊢
    generalize r.d.sum=S at hT h0 hle hsm
    repeat' first|refine AW.freezeP (α:=Rep) (oo:=false) r 1 rfl rfl ?_|refine s1 ?_|(refine kR ?_;first|refine F.c (hR) ?_|refine F.c (hT) ?_|(refine jCf 350 ?_;refine F.w (hQ) ?_))|fail
    refine AW.freezeA (α:=List Mat) 6 rfl rfl rfl ?_
    refine AW.open 8 3 (.inr rfl) ?_
    refine F.loop (σ:=Nat) [8,9,10,11,33,34,35,36,37,38,39,40,41,42,43,44,45,46,47,48,49,50,51,52,53,54,55,56,57,58,59,60,61,62,63,64] (fun k=>[(8,.sl 3 k 0 k),(9,.i k)]) (fun k=>[(3,.live false 3 (E true (WL.take k)))]) (fun k=>k≤r.d.length) (fun k=>r.d.length-k) 0 ⟨rfl,rfl,trivial⟩ ⟨rfl,trivial⟩ (Nat.zero_le _) ?_
    rintro v v1
    have hp2:(WL.take v).length=v:=by rw[List.length_take];omega
    by_cases hv:v<r.d.length
    ·have hd:0≤r.d.getD v default∧r.d.getD v default≤4:=allIn_spec c3 hv
     have hcv:=hcf v hv
     have hwv:=hwt v hv
     have hZ:AC Tryz.prog 136 [.i (r.d.getD v default),.i 0] [.agg (enc true (besM (r.d.getD v default).toNat (clmL X2 v) 0))]:=by
      have:=l3ZeroT_a (r.d.getD v default).toNat 0 (by omega) (by omega)
      rw[Int.toNat_of_nonneg hd.1] at this
      exact this
     have hBk:∀i,i<X2.length→v<(X2.getD i default).length∧AC Tryz.prog 351 [.agg (enc false (besM (r.d.getD v default).toNat (clmL X2 v) i)),.agg (enc false ((X2.getD i default).getD v default))] [.agg (enc true (besM (r.d.getD v default).toNat (clmL X2 v) (i+1)))]:=fun i hi=>by
      obtain⟨q1,q2,q3,q4⟩:=hcv i hi
      have:=l16Beside_a (r.d.getD v default).toNat (besC (clmL X2 v) i) ((X2.getD i default).getD v default).c.toNat (besG (clmL X2 v) i) (ent ((X2.getD i default).getD v default)) (by omega) (by omega)
      rw[q2,←q4] at this
      exact⟨q1,this⟩
     generalize besM (r.d.getD v default).toNat (clmL X2 v)=BM at hZ hBk hwv
     repeat' first|refine s1 ?_|(refine kR ?_;first|refine F.c (hZ) ?_)|fail
     refine AW.putV 10 2 rfl rfl rfl rfl (E_length _ _) (E_pure _ _) rfl ?_
     refine F.loop (σ:=Nat) [11,46,47,48,49,50,51,52,53,54,55,56,57,58,59,60] (fun i=>[(11,.i i)]) (fun i=>[(5,.live false 3 (E true [BM i]))]) (fun i=>i≤X2.length) (fun i=>X2.length-i) 0 ⟨rfl,trivial⟩ ⟨rfl,trivial⟩ (Nat.zero_le _) ?_
     rintro i i1
     by_cases hi:i<X2.length
     ·obtain⟨hlen,hB'⟩:=hBk i hi
      generalize hY:BM (i+1)=Y at hB'
      refine AW.takeE (α:=Mat) (o:=5) (k:=0) (j:=2) (ls:=[BM i]) rfl (by simp) rfl (E_length _ _) ?_
      repeat' first|refine s1 ?_|fail
      refine AW.draw 9 G.mixed (by kernel_rfl) ?_
      refine Pz (.l 0<|.p 1<|.p 2<|.p 3<|.l 4<|.p 5<|.p 6<|.l 7<|.o 8 true<|.o 9 false<|.n) ?_
      repeat' first|refine yS ?_|refine s1 ?_|(refine kR ?_;first|refine F.c (hB') ?_)|fail
      any_goals refine lf ?_
      all_goals
       repeat' first|refine AW.putV (o2:=7) 10 2 rfl rfl rfl rfl (E_length _ _) (E_pure _ _) rfl ?_|refine s1 ?_|fail
       exact⟨i+1,F.fit ⟨rfl,trivial⟩ ⟨obE (by rw[hY];rfl),trivial⟩,by omega,by omega⟩
     ·obtain rfl:i=X2.length:=by omega
      refine AW.takeE (α:=Mat) (o:=5) (k:=0) (j:=2) (ls:=[BM X2.length]) rfl (by simp) rfl (E_length _ _) ?_
      generalize BM X2.length=Y at hwv⊢
      repeat' first|refine s1 ?_|(refine kR ?_;first|refine F.a1 Mat (a:=Y) ?_)|fail
      exact⟨v+1,F.fit ⟨rfl,rfl,trivial⟩ ⟨obE (by rw[hwv]),trivial⟩,by omega,by omega⟩
    ·obtain rfl:v=r.d.length:=by omega
     have e:WL.take r.d.length=WL:=List.take_of_length_le (by omega)
     rw[e]
     repeat' first|refine s1 ?_|fail
     refine kM ?_
     exact F.retM rfl trivial
theorem psP_len(r:Rep):(psP r).1.length≤8:=by
 by_cases h:isRep r=true∧r.d.sum≠0
 ·obtain⟨hr,h0⟩:=h
  cases hk:(ptP r).2.2 with
  |false=>rw[psP_no2 hk];simp
  |true=>
   rw[psP_yes hr h0 hk]
   have hsm:=rep_sum hr
   have hle:=(pt_ok r.d.sum.toNat r hr (by omega)).le
   rw[show ptN r.d.sum.toNat r=ptP r from rfl] at hle
   show(ptP r).1.length≤8
   omega
 ·rw[psP_no1 h];simp
end Go.Proofs.YtjmjamhhppoimaaGreat.V
namespace Go.Proofs.YtjmjamhhppoimaaGreat.V
open V.Enc (enc)
open Go.RowKit G D
set_option linter.unusedVariables false
set_option linter.unusedSimpArgs false
set_option maxHeartbeats 4000000
set_option maxRecDepth 4000
attribute [local irreducible] AW ARg ARA ARet MRet ASil AC AM AMx ACx AD ARI
theorem sumP_rep(x y:Rep):(sumP x y).1.d.length≤1000∧((sumP x y).2=true→isRep (sumP x y).1=true):=by
 unfold sumP
 split
 ·rename_i h
  have:=rep_len h.2
  exact⟨by dsimp only;omega,fun _=>h.2⟩
 ·exact⟨by decide,fun h=>by cases h⟩
theorem l16Rep_x(b:List UInt8)(hl:b.length≤1048576):AD Tryz.prog 258 [] b (fun r:Rep=>isRep r=true) (fun r=>[.agg (enc false r)]):=by
 refine AD.go Tryz.func258 Tryz.ntmps258 rfl rfl fun i h hi w0 mp hw=>?_;simp[WfL,WfA,E_length,Enc.enc,In64] at hw
 have hP:=l8Prime_x b hl
 have hA:=l6Acyclic_ok b hl
 have hO:=fun n=>l1Once_x b hl n
 have h1:=fun p q=>l8Of_x b hl p q 1 (by omega)
 have h2:=fun p q=>l8Of_x b hl p q 2 (by omega)
 have hC:=fun r hr=>l9Changes_x b hl r hr
 have hX:=fun r g=>changeBasis_x r g
 repeat' first|(refine AW.putV 4 1 rfl rfl rfl rfl (E_length _ _) (E_pure _ _) rfl ?_;refine AW.putV 4 2 rfl rfl rfl rfl (E_length _ _) (E_pure _ _) rfl ?_;refine AW.freezeP (α:=Quiv) (oo:=true) q 4 rfl rfl ?_)|(refine AW.putV 5 4 rfl rfl rfl rfl (E_length _ _) (E_pure _ _) rfl ?_;refine AW.putV 5 5 rfl rfl rfl rfl (E_length _ _) (E_pure _ _) rfl ?_;refine AW.freezeV (enc false a) 5 rfl rfl (repA_pure a) (repA_frz a) ?_)|refine s1 ?_|(refine kR ?_;first|(refine F.dr 0 (hP) (by assumption) ?_;intro p i1 k1 hp hi1;refine F.xk ?_)|(refine F.dr 0 (hA) (by assumption) ?_;intro q i2 k2 hq hi2;refine F.xk ?_)|(refine F.dr 0 ((h1 _ _)) (by assumption) ?_;intro a i3 k3 ha hi3;refine F.xk ?_)|(refine F.dr 0 ((hO _)) (by assumption) ?_;intro c i4 k4 hc4 hi4;refine F.xk ?_))|fail
 obtain⟨a1,a2,a3,a4,a5,a6⟩:=ha
 have hF:isF p=true:=isF_spec.2 (by omega)
 have har:=a4 hF hq (by omega)
 refine AW.only [(0,.pt 0 1 0 0),(2,.pt 1 1 0 0),(3,.i p),(4,.ip (enc false q)),(5,.ip (enc false a)),(20,.b c)] [(0,.live false 3 (curO b i4 k4)),(1,.live false 6 cellR)] _ ⟨rfl,rfl,rfl,rfl,rfl,rfl,trivial⟩ ⟨rfl,rfl,trivial⟩ rfl ?_
 refine F.cut (σ:=Int×Int) [6,7,8,9,10,21,22,23,24,25,26,27,28,29,30,31,32,33,34,35,36,37,38,39,40,41,42,43] (fun _=>[]) (fun s=>[(0,.live false 3 (curO b s.1 s.2))]) (fun s=>okI b s.1) ?_ (fun s hs=>?_)
 ·cases c with
  |false=>
   repeat' first|refine s1 ?_|fail
   exact⟨(i4,k4),F.fit trivial ⟨rfl,trivial⟩,hi4⟩
  |true=>
   repeat' first|(refine AW.putV 6 4 rfl rfl rfl rfl (E_length _ _) (E_pure _ _) rfl ?_;refine AW.putV 6 5 rfl rfl rfl rfl (E_length _ _) (E_pure _ _) rfl ?_;refine AW.freezeV (enc false e) 6 rfl rfl (repA_pure e) (repA_frz e) ?_)|refine s1 ?_|(refine kR ?_;first|(refine F.dr 0 ((h1 _ _)) (by assumption) ?_;intro e i5 k5 he hi5;refine F.xk ?_))|fail
   have hS:=specDirectSum_a a e
   have hsf:=sumP_rep a e
   generalize sumP a e=S at hS hsf
   obtain⟨s,c1⟩:=S
   dsimp only at hS hsf
   repeat' first|(refine AW.putV 7 2 rfl rfl rfl rfl (E_length _ _) (E_pure _ _) rfl ?_;refine AW.putV 7 3 rfl rfl rfl rfl (E_length _ _) (E_pure _ _) rfl ?_;refine AW.putV 7 4 rfl rfl rfl rfl (E_length _ _) (E_pure _ _) rfl ?_;refine AW.putV 7 5 rfl rfl rfl rfl (E_length _ _) (E_pure _ _) rfl ?_;refine AW.freezeP (α:=Rep) (oo:=true) s 7 rfl rfl ?_)|refine s1 ?_|(refine kR ?_;first|refine F.c (hS) ?_)|fail
   refine AW.drawI G.mixed (by kernel_rfl) (by rfl) ?_
   intro T w1 MP1 I0
   refine Pz (.l 0<|.p 1<|.l 2<|.a [(3,false,.h 3<|.a [(4,false,.p 5<|.p 6<|.p 7<|.o 8 false<|.o 9 false<|.p 10<|.n),(8,false,.o 4 false<|.p 5<|.p 6<|.p 7<|.o 9 false<|.p 10<|.n)]),(8,false,.o 3 false<|.h 3<|.o 4 false<|.p 5<|.p 6<|.p 7<|.o 9 false<|.p 10<|.n)]) ?_
   repeat' first|(refine yU (i:=3) ?_;first|refine s1 ?_|(refine F.dr 0 ((hC s hsf.1)) (by assumption) ?_;intro g i6 k6 hg hi6;refine F.xk ?_))|(refine yH (i:=3) ?_ (fun h=>(iz (α:=Mat) (oo:=true) (ls:=g) 35 rfl rfl rfl h)))|(refine yU (i:=4) ?_;first|refine s1 ?_|(refine F.x [] ((hX s g)) ?_;rintro⟨x,c2⟩ hx;refine F.xk ?_))|refine xS ?_|refine s1 ?_|refine xC ?_ ?_|exact trivial|fail
   any_goals refine lf ?_
   all_goals
    (refine AW.putV 9 2 rfl rfl rfl rfl (E_length _ _) (E_pure _ _) rfl ?_;refine AW.putV 9 3 rfl rfl rfl rfl (E_length _ _) (E_pure _ _) rfl ?_;refine AW.putV 9 4 rfl rfl rfl rfl (E_length _ _) (E_pure _ _) rfl ?_;refine AW.putV 9 5 rfl rfl rfl rfl (E_length _ _) (E_pure _ _) rfl ?_;refine AW.freezeP (α:=Rep) (oo:=true) x 9 rfl rfl ?_)
    cases c1 with
    |false=>
     repeat' first|refine s1 ?_|fail
     exact⟨(i6,k6),F.fit trivial ⟨rfl,trivial⟩,hi6⟩
    |true=>
     cases c2 with
     |false=>
      repeat' first|refine s1 ?_|fail
      exact⟨(i6,k6),F.fit trivial ⟨rfl,trivial⟩,hi6⟩
     |true=>
      repeat' first|refine s1 ?_|fail
      exact F.rd x (hx rfl) hi6 (F.retM rfl ⟨rfl,trivial⟩)
 ·obtain⟨i7,k7⟩:=s
  dsimp only at hs⊢
  repeat' first|refine s1 ?_|(refine kR ?_;first|(refine F.dr 0 ((hO _)) (by assumption) ?_;intro c3 i8 k8 hc8 hi8;refine F.xk ?_))|fail
  cases c3 with
  |true=>
   repeat' first|(refine F.freezeG (α:=Int) (oo:=true) (ls:=e.d) 49 4 rfl rfl rfl rfl ?_;refine F.freezeG (α:=Mat) (oo:=true) (ls:=e.m) 49 5 rfl rfl rfl rfl ?_)|refine s1 ?_|(refine kR ?_;first|(refine F.dr 0 ((h2 _ _)) (by assumption) ?_;intro e i9 k9 he hi9;refine F.xk ?_))|fail
   exact F.rd e (he.2.2.2.1 hF hq (by omega)) hi9 (F.retM rfl ⟨rfl,trivial⟩)
  |false=>
   repeat' first|refine s1 ?_|fail
   exact F.rd a har hi8 (F.retM rfl ⟨rfl,trivial⟩)
theorem psP_pos{r:Rep}(h:(psP r).2.2=true):0<(psP r).1.length∧(psP r).1.length≤8:=by
 refine⟨?_,psP_len r⟩
 by_cases g:isRep r=true∧r.d.sum≠0
 ·obtain⟨hr,h0⟩:=g
  cases hk:(ptP r).2.2 with
  |false=>rw[psP_no2 hk] at h;cases h
  |true=>
   rw[psP_yes hr h0 hk]
   have hsm:=rep_sum hr
   exact(pt_ok r.d.sum.toNat r hr (by omega)).pos hk
 ·rw[psP_no1 g] at h;cases h
theorem augF_bd2{p:Int}{r c:Nat}{f:Nat→Nat→Int}{v:List Int}(hb:BdF p r c f)(hv:∀i,i<r→0≤v.getD i default∧v.getD i default≤p-1):BdF p r (c+1) (augF c f v):=fun i hi j hj=>by
 unfold augF
 split
 ·exact hb i hi j (by assumption)
 ·exact hv i hi
theorem sumN_last(h:Nat→Int)(n:Nat):sumN h (n+1)=sumN h n+h n:=rfl
theorem solV_gt{c:Nat}{g:Nat→Nat→Int}{piv:List Nat}(hl:∀i,i<piv.length→piv.getD i 0<c)(hi:∀i j,i<j→j<piv.length→piv.getD i 0<piv.getD j 0):∀n,n≤piv.length→∀j,j<c→(solV c g piv n).getD j default=sumN (fun i=>(if piv.getD i 0=j then 1 else 0)*g i c) n
 |0,_,j,hj=>by simp[solV,sumN,hj]
 |n+1,hn,j,hj=>by
  have ih:=solV_gt (g:=g) hl hi n (by omega)
  rw[solV,sumN_last]
  by_cases e:piv.getD n 0=j
  ·rw[if_pos e,Int.one_mul,←e,set_get (by rw[solV_len];exact hl n (by omega))]
   have:sumN (fun i=>(if piv.getD i 0=piv.getD n 0 then 1 else 0)*g i c) n=0:=sumN_zero _ fun i hin=>by
    rw[if_neg (by have:=hi i n hin (by omega);omega),Int.zero_mul]
   rw[this,Int.zero_add]
  ·rw[if_neg e,Int.zero_mul,Int.add_zero,set_ne e]
   exact ih j hj
theorem sol_ok{p:Int}{r c:Nat}{f:Nat→Nat→Int}{v:List Int}(hF:isF p=true)(hb:BdF p r c f)(hv:∀i,i<r→0≤v.getD i default∧v.getD i default≤p-1)(h:(solL p r c f v).2=true):∀i,i<r→Cg p (dotV (f i) (solL p r c f v).1 c) (v.getD i default):=by
 have ha:BdF p r (c+1) (augF c f v):=augF_bd2 hb hv
 obtain⟨h1,h2⟩:=redK_ech hF ha (c+1) (Nat.le_refl _)
 unfold solL at h⊢
 by_cases hc:c∈(redK p r (augF c f v) (c+1)).2
 ·rw[if_pos hc] at h;cases h
 ·rw[if_neg hc]
  generalize hg:(redK p r (augF c f v) (c+1)).1=g at h1 h2
  generalize hpv:(redK p r (augF c f v) (c+1)).2=piv at h1 hc
  have hl:∀i,i<piv.length→piv.getD i 0<c:=fun i hi=>by
   have:=h1.lt i hi
   have hne:piv.getD i 0≠c:=fun e=>hc (by rw[←e];simp[hi])
   omega
  intro i hi
  show Cg p (dotV (f i) (solV c g piv piv.length) c) _
  have hx:=fun j hj=>solV_gt (g:=g) hl h1.inc piv.length (Nat.le_refl _) j hj
  have hrow:∀k,k<r→Cg p (sumN (fun j=>g k j*(solV c g piv piv.length).getD j default) c) (g k c):=fun k hk=>by
   rw[sumN_eq (g:=fun j=>sumN (fun t=>g k j*((if piv.getD t 0=j then 1 else 0)*g t c)) piv.length) _ fun j hj=>by rw[hx j hj,sumN_mul],sumN_swap]
   have e1:∀t,t<piv.length→sumN (fun j=>g k j*((if piv.getD t 0=j then 1 else 0)*g t c)) c=(if t=k then 1 else 0)*g t c:=fun t ht=>by
    rw[sumN_eq (g:=fun j=>(if j=piv.getD t 0 then 1 else 0)*(g k j*g t c)) _ fun j _=>by
     by_cases e:piv.getD t 0=j
     ·rw[if_pos e,if_pos e.symm];rw[Int.one_mul,Int.one_mul]
     ·rw[if_neg e,if_neg (fun x=>e x.symm),Int.zero_mul,Int.zero_mul,Int.mul_zero],sumN_one,if_pos (hl t ht)]
    by_cases hk2:k<piv.length
    ·rw[h1.one k hk2 t ht]
     by_cases e:k=t
     ·rw[if_pos e,if_pos e.symm]
     ·rw[if_neg e,if_neg (fun x=>e x.symm)]
    ·rw[h1.low k (by omega) hk _ (by have:=hl t ht;omega),if_neg (by omega),Int.zero_mul]
   rw[sumN_eq _ e1,sumN_one]
   by_cases hk2:k<piv.length
   ·rw[if_pos hk2];exact .refl _
   ·rw[if_neg hk2,h1.low k (by omega) hk c (Nat.lt_succ_self c)];exact .refl _
  obtain⟨co,e⟩:=h2.1 i hi
  have e1:=e c (Nat.lt_succ_self c)
  have e2:augF c f v i c=v.getD i default:=by unfold augF;rw[if_neg (Nat.lt_irrefl c)]
  rw[e2] at e1
  refine Cg.trans ?_ e1.symm
  have e3:Cg p (dotV (f i) (solV c g piv piv.length) c) (dotV (fun j=>sumN (fun k=>co k*g k j) r) (solV c g piv piv.length) c):=dotV_cg fun j hj=>by
   have:=e j (by omega)
   have e4:augF c f v i j=f i j:=by unfold augF;rw[if_pos hj]
   rwa [e4] at this
  refine e3.trans ?_
  rw[dotV_comb]
  exact sumN_cg _ fun k hk=>(Cg.refl _).mul (hrow k hk)
theorem rank_le{p:Int}{r c:Nat}{f:Nat→Nat→Int}(hF:isF p=true)(hb:BdF p r c f):(redK p c (fun j i=>f i j) r).2.length≤(redK p r f c).2.length:=by
 have hp:=isF_pos hF
 have h1:=span_cols hF hb
 have h2:BdF p (pivC r f (redK p r f c).2).length r (vecF (pivC r f (redK p r f c).2)):=fun i hi j hj=>by
  rw[pivC_len] at hi
  have hlt:=(redK_ech hF hb c (Nat.le_refl _)).1.lt i hi
  unfold vecF
  rw[pivC_get r f hi,rowL_get _ hj]
  exact hb j hj _ hlt
 have h3:=(spanB_le (p:=p) (by omega) h2).1
 have h4:(spanL p r (pivC r f (redK p r f c).2)).length=(spanB p (pivC r f (redK p r f c).2).length r (vecF (pivC r f (redK p r f c).2))).length:=rfl
 rw[←h4,h1,pivC_len] at h3
 have h5:(spanL p r (rowsL c r fun k i=>f i k)).length=(redK p (rowsL c r fun k i=>f i k).length (vecF (rowsL c r fun k i=>f i k)) r).2.length:=spanB_len ..
 rw[h5,rowsL_len] at h3
 have h6:BdF p c r (vecF (rowsL c r fun k i=>f i k)):=fun i hi j hj=>by
  unfold vecF
  rw[rowsL_get _ _ hi,rowL_get _ hj]
  exact hb j hj i hi
 have h7:BdF p c r (fun j i=>f i j):=fun i hi j hj=>hb j hj i hi
 have h8:SS p c c r (vecF (rowsL c r fun k i=>f i k)) (fun j i=>f i j):=by
  have e:∀i,i<c→∀j,j<r→vecF (rowsL c r fun k i=>f i k) i j=f j i:=fun i hi j hj=>by
   unfold vecF
   rw[rowsL_get _ _ hi,rowL_get _ hj]
  refine⟨fun i hi=>(Sp.row (f:=fun j i=>f i j) hi).cg fun j hj=>by rw[e i hi j hj];exact .refl _,fun i hi=>(Sp.row (f:=vecF (rowsL c r fun k i=>f i k)) hi).cg fun j hj=>by rw[e i hi j hj];exact .refl _⟩
 have h9:=(redK_uniq hF h6 h7 h8).1
 rw[h9] at h3
 exact h3
theorem rank_tr{p:Int}{r c:Nat}{f:Nat→Nat→Int}(hF:isF p=true)(hb:BdF p r c f):(redK p c (fun j i=>f i j) r).2.length=(redK p r f c).2.length:=by
 have h1:=rank_le hF hb
 have h2:=rank_le hF (r:=c) (c:=r) (f:=fun j i=>f i j) (fun i hi j hj=>hb j hj i hi)
 exact Nat.le_antisymm h1 h2
theorem sp_idF{p:Int}{n:Nat}(v:Nat→Int):Sp p n n idF v:=⟨v,fun j hj=>by
 rw[sumN_eq (g:=fun k=>(if k=j then 1 else 0)*v k) _ fun k _=>by
  unfold idF
  by_cases e:k=j
  ·rw[if_pos e,Int.mul_comm]
  ·rw[if_neg e,Int.mul_comm],sumN_one,if_pos hj]
 exact .refl _⟩
theorem img_span{p:Int}{m:Mat}{s T:Spc}(hm:isMat p m=true)(hT:isSpc p T=true)(hn:T.n=m.r)(h:inS p (imgSp p m s) T=true){x:List Int}(hx:Sp p s.b.length m.c.toNat (vecF s.b) (fun j=>x.getD j default)):Sp p T.b.length T.n.toNat (vecF T.b) (fun j=>(appV p m x).getD j default):=by
 have h1:=(imgW_iff hm hT hn).1 h
 have h2:=appV_sp hx
 rw[←hn] at h2
 refine h2.sub fun i hi=>?_
 have e:vecF (s.b.map (appV p m)) i=fun j=>(appV p m (s.b.getD i default)).getD j default:=by
  funext j
  unfold vecF
  congr 1
  simp[hi]
 rw[e]
 exact h1 i hi
end Go.Proofs.YtjmjamhhppoimaaGreat.V
namespace Go.Proofs.YtjmjamhhppoimaaGreat.V
open Go.RowKit G D
set_option linter.unusedVariables false
set_option linter.unusedSimpArgs false
set_option maxHeartbeats 2000000
section
variable {P : Program} {w0 : World} {MP : Fr} {d : Option Tmp} {ty : TypeId} {pos : String} {af : Array Edge} {g : Option (Nat × Bool)} {x y : Operand} {t t' : Nat} {a : Bool} {st : St}
theorem A.eqlSame[hu:HasU P t .bool](hx:evA st x=.b a)(hy:evA st y=.b a):ASil true P w0 MP st ⟨d,.binOp .eql t x y t',ty,pos,af,g⟩ (.b true):=by
 have h:=A.eqlBB (P:=P) (t:=t) (w0:=w0) (MP:=MP) (d:=d) (ty:=ty) (pos:=pos) (af:=af) (g:=g) (t':=t') hx hy
 rwa [show(a==a)=true by simp] at h
theorem A.neqSame[hu:HasU P t .bool](hx:evA st x=.b a)(hy:evA st y=.b a):ASil true P w0 MP st ⟨d,.binOp .neq t x y t',ty,pos,af,g⟩ (.b false):=by
 have h:=A.neqBB (P:=P) (t:=t) (w0:=w0) (MP:=MP) (d:=d) (ty:=ty) (pos:=pos) (af:=af) (g:=g) (t':=t') hx hy
 rwa [show(a !=a)=false by simp] at h
end
end Go.Proofs.YtjmjamhhppoimaaGreat.V
