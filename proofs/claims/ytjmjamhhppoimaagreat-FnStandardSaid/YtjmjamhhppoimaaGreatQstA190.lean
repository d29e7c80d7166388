/- Texts that the proof needs: A187, A190. -/
import Derived.Test.YtjmjamhhppoimaaGreatQstA96
namespace Go.Proofs.YtjmjamhhppoimaaGreat.V
open V.Enc (enc)
open Go.RowKit G D
set_option linter.unusedVariables false
set_option linter.unusedSimpArgs false
set_option maxHeartbeats 4000000
set_option maxRecDepth 4000
attribute [local irreducible] AW ARg ARA ARet MRet ASil AC AM AMx ACx AD ARI
theorem l2Vector_x(b:List UInt8)(hl:b.length≤1048576)(p n:Int)(hn:n≤100):AD Tryz.prog 208 [.i p,.i n] b (fun v:List Int=>(v.length:Int)=max 0 n) (fun v=>[.dt true 1 (E true v)]):=by
 refine AD.go Tryz.func208 Tryz.ntmps208 rfl rfl fun i h hi w0 mp hw=>?_;simp[WfL,WfA,E_length,Enc.enc,In64] at hw
 have hB:=fun n=>l1Below_x b hl n
 have hO:=l1Once_x b hl 20
 have hI:=l1PickInt_x b hl [-1,5,9223372036854775807] (by decide) (by decide)
 repeat' first|refine s1 ?_|fail
 refine AW.open 7 1 (.inr rfl) ?_
 refine AW.only [(0,.pt 0 1 0 0),(1,.i p),(2,.i n),(7,.sl 1 0 0 0),(8,.i 0)] [(0,.live false 3 (curO b i h)),(1,.live false 1 (E true ([]:List Int)))] 2 ⟨rfl,rfl,rfl,rfl,rfl,trivial⟩ ⟨rfl,rfl,trivial⟩ rfl ?_
 refine F.loop (σ:=Nat×List Int×Int×Int) [7,8,10,11,12,13,14,15,16,17,18,19,20,21,22] (fun x=>[(7,.sl 1 x.1 0 x.1),(8,.i x.1)]) (fun x=>[(0,.live false 3 (curO b x.2.2.1 x.2.2.2)),(1,.live false 1 (E true x.2.1))]) (fun x=>(x.1:Int)≤max 0 n∧x.2.1.length=x.1∧okI b x.2.2.1) (fun x=>200-x.1) (0,[],i,h) ⟨rfl,rfl,trivial⟩ ⟨rfl,rfl,trivial⟩ ⟨by simp;omega,rfl,hi⟩ ?_
 rintro⟨k,l,i2,h2⟩ ⟨k1,k2,hi2⟩
 dsimp only at k1 k2 hi2⊢
 by_cases hk:(k:Int)<n
 ·repeat' first|refine s1 ?_|(refine kR ?_;first|(refine F.dr 0 ((hB _)) (by assumption) ?_;intro e i6 h6 he hi6;refine F.xk ?_)|refine F.sil (A.min2 rfl rfl) rfl rfl ?_|refine F.sil (A.max2 rfl rfl) rfl rfl ?_|refine F.a1 Int ?_)|fail
  exact⟨(k+1,l++[e],i6,h6),F.fit ⟨rfl,rfl,trivial⟩ ⟨rfl,obE rfl,trivial⟩,⟨by show((k+1:Nat):Int)≤max 0 n;omega,by simp;omega,hi6⟩,by show 200-(k+1)<200-k;omega⟩
 ·by_cases hn0:0<n
  ·repeat' first|refine s1 ?_|(refine kR ?_;first|(refine F.dr 0 (hO) (by assumption) ?_;intro c i3 h3 hc3 hi3;refine F.xk ?_))|fail
   cases c with
   |true=>
    repeat' first|refine s1 ?_|(refine kR ?_;first|refine F.litN (xs:=V.E true ([-1,5,9223372036854775807]:List Int)) rfl rfl rfl rfl rfl rfl rfl rfl ?_)|fail
    refine F.freezeA (α:=Int) (oo:=true) (ls:=[-1,5,9223372036854775807]) 31 rfl rfl rfl ?_
    repeat' first|refine s1 ?_|(refine kR ?_;first|(refine F.dr 0 (hI) (by assumption) ?_;intro v i4 h4 hv hi4;refine F.xk ?_))|fail
    exact F.rd (l.set (0+0) v) (by rw[List.length_set];omega) hi4 (F.retM rfl ⟨rfl,trivial⟩)
   |false=>
    repeat' first|refine s1 ?_|fail
    exact F.rd l (by omega) hi3 (F.retM rfl ⟨rfl,trivial⟩)
  ·repeat' first|refine s1 ?_|fail
   exact F.rd l (by omega) hi2 (F.retM rfl ⟨rfl,trivial⟩)
theorem l8Small_x(b:List UInt8)(hl:b.length≤1048576):AD Tryz.prog 282 [] b (fun r:Rep=>smallD r.d∧(okQ r.q=true→isRep r=true)∧(okQ r.q=false→r.d=[]∧r.m=[])) (fun r=>[repA r]):=by
 refine AD.go Tryz.func282 Tryz.ntmps282 rfl rfl fun i h hi w0 mp hw=>?_;simp[WfL,WfA,E_length,Enc.enc,In64] at hw
 have hP:=l8Prime_x b hl
 have hA:=l6Acyclic_x b hl
 have h2:=fun p q=>l8Of_x b hl p q 2 (by omega)
 repeat' first|(refine AW.putV 4 1 rfl rfl rfl rfl (E_length _ _) (E_pure _ _) rfl ?_;refine AW.putV 4 2 rfl rfl rfl rfl (E_length _ _) (E_pure _ _) rfl ?_;refine AW.freezeP (α:=Quiv) (oo:=true) q 4 rfl rfl ?_)|refine s1 ?_|(refine kR ?_;first|(refine F.dr 0 (hP) (by assumption) ?_;intro p i1 k1 hp hi1;refine F.xk ?_)|(refine F.dr 0 (hA) (by assumption) ?_;intro q i2 k2 hq hi2;refine F.xk ?_)|(refine F.dr 0 ((h2 _ _)) (by assumption) ?_;intro r i3 k3 hr hi3;refine F.xk ?_))|fail
 obtain⟨r1,r2,r3,r4,r5,r6⟩:=hr
 have hF:isF p=true:=isF_spec.2 (by omega)
 exact F.rd r ⟨r3,fun h=>r4 hF (by rw[←r2];exact h) (by omega),fun h=>r6 (by rw[←r2];exact h)⟩ hi3 (F.retM rfl ⟨rfl,trivial⟩)
theorem l14Three_x(b:List UInt8)(hl:b.length≤1048576):AMx Tryz.prog 160 [ar false b] [] (fun _:Int×Quiv×Int=>True) (fun x=>[.i x.1,.agg (enc false x.2.1),.i x.2.2]) (fun _=>[]):=by
 refine AMx.go Tryz.func160 Tryz.ntmps160 rfl rfl fun w0 mp hw=>?_;simp[WfL,WfA,E_length,Enc.enc,In64] at hw
 have hN:=l1New_p b hl
 have hP:=l2Prime_x b hl
 have hA:=l6Any_x b hl
 have hB:=fun n=>l1Below_x b hl n
 have hi0:okI b 0:=⟨Int.le_refl _,by omega⟩
 repeat' first|(refine AW.putV 7 1 rfl rfl rfl rfl (E_length _ _) (E_pure _ _) rfl ?_;refine AW.putV 7 2 rfl rfl rfl rfl (E_length _ _) (E_pure _ _) rfl ?_;refine AW.freezeP (α:=Quiv) (oo:=true) q 7 rfl rfl ?_)|refine s1 ?_|(refine kR ?_;first|refine F.p (hN) ?_|(refine F.dr 1 (hP) (by assumption) ?_;intro p i1 k1 hp hi1;refine F.xk ?_)|(refine F.dr 1 (hA) (by assumption) ?_;intro q i2 k2 hq hi2;refine F.xk ?_))|fail
 refine AW.drawI G.mixed (by kernel_rfl) (by rfl) ?_
 intro T w1 MP1 I0
 refine Pz (.p 0<|.l 1<|.p 2<|.p 4<|.p 6<|.o 3 false<|.o 5 false<|.o 7 false<|.p 8<|.p 9<|.p 10<|.o 11 false<|.p 12<|.n) ?_
 repeat' first|(refine yU (i:=3) ?_;first|refine s1 ?_|(refine F.dr 1 ((hB 5)) (by assumption) ?_;intro x i3 k3 hx hi3;refine F.xk ?_))|(refine yU (i:=5) ?_;first|refine s1 ?_|(refine F.dr 1 ((hB 2)) (by assumption) ?_;intro y i4 k4 hy hi4;refine F.xk ?_))|(refine yU (i:=7) ?_;first|refine s1 ?_|(refine F.dr 1 ((hB 2)) (by assumption) ?_;intro z i5 k5 hz hi5;refine F.xk ?_))|refine xS ?_|refine s1 ?_|fail
 any_goals refine lf ?_
 all_goals
  repeat' first|refine s1 ?_|fail
  exact F.rx (p,q,RowKit.wrap64 (x-RowKit.wrap64 (y*z))) trivial (F.retM rfl trivial)
theorem l14Element_x(b:List UInt8)(hl:b.length≤1048576):AMx Tryz.prog 126 [ar false b] [] (fun _:Rep×Int×List Int=>True) (fun x=>[.agg (enc false x.1),.i x.2.1,.dt true 1 (E true x.2.2)]) (fun _=>[]):=by
 refine AMx.go Tryz.func126 Tryz.ntmps126 rfl rfl fun w0 mp hw=>?_;simp[WfL,WfA,E_length,Enc.enc,In64] at hw
 have hN:=l1New_p b hl
 have hS:=l8Small_x b hl
 have hB:=fun n=>l1Below_x b hl n
 have hV:=fun p n hn=>l2Vector_x b hl p n hn
 have hi0:okI b 0:=⟨Int.le_refl _,by omega⟩
 repeat' first|(refine AW.putV 6 4 rfl rfl rfl rfl (E_length _ _) (E_pure _ _) rfl ?_;refine AW.putV 6 5 rfl rfl rfl rfl (E_length _ _) (E_pure _ _) rfl ?_;refine AW.freezeV (enc false r) 6 rfl rfl (repA_pure r) (repA_frz r) ?_)|refine s1 ?_|(refine kR ?_;first|refine F.p (hN) ?_|(refine F.dr 1 (hS) (by assumption) ?_;intro r i1 k1 hr hi1;refine F.xk ?_)|(refine F.dr 1 ((hB _)) (by assumption) ?_;intro x i2 k2 hx hi2;replace hx:=hx.1 (by omega);refine F.xk ?_))|fail
 obtain⟨⟨hr1,hr2⟩,hr3⟩:=hr
 obtain⟨k,rfl⟩:∃k:Nat,x=k:=⟨x.toNat,by omega⟩
 by_cases hk:k<r.d.length
 ·have hb:=hr2 k hk
  repeat' first|refine s1 ?_|fail
  refine AW.drawI G.mixed (by kernel_rfl) (by rfl) ?_
  intro T w1 MP1 I0
  refine Pz (.l 0<|.p 1<|.p 2<|.p 3<|.l 4<|.p 5<|.l 6<|.p 7<|.p 8<|.l 9<|.o 10 false<|.o 11 false<|.p 12<|.p 13<|.n) ?_
  repeat' first|(refine yU (i:=10) ?_;first|refine s1 ?_|(refine F.dr 1 ((hV r.p (r.d.getD k default) (by omega))) (by assumption) ?_;intro l i3 k3 hx3 hi3;refine F.xk ?_))|refine xS ?_|refine s1 ?_|fail
  any_goals refine lf ?_
  all_goals
   repeat' first|refine s1 ?_|fail
   exact F.rx (r,(k:Int),l) trivial (F.retM rfl trivial)
 ·repeat' first|refine s1 ?_|fail
  exact F.rx (r,(k:Int),[]) trivial (F.retM rfl trivial)
theorem drawMapFromProjective_x(b:List UInt8)(hl:b.length≤1048576):AMx Tryz.prog 9 [ar false b] [] (fun _:Rep×Int×List Int=>True) (fun x=>[.agg (enc false x.1),.i x.2.1,.dt true 1 (E true x.2.2)]) (fun _=>[]):=by
 refine AMx.go Tryz.func9 Tryz.ntmps9 rfl rfl fun w0 mp hw=>?_;simp[WfL,WfA,E_length,Enc.enc,In64] at hw
 have hE:=l14Element_x b hl
 repeat' first|refine s1 ?_|(refine kR ?_;first|(refine F.x [] (hE) ?_;rintro⟨r,v,x⟩ hr;refine F.xk ?_))|fail
 exact F.rx (r,v,x) trivial (F.retM rfl trivial)
theorem drawProjectiveRep_x(b:List UInt8)(hl:b.length≤1048576):AMx Tryz.prog 21 [ar false b] [] (fun _:Int×Quiv×Int=>True) (fun x=>[.i x.1,.agg (enc false x.2.1),.i x.2.2]) (fun _=>[]):=by
 refine AMx.go Tryz.func21 Tryz.ntmps21 rfl rfl fun w0 mp hw=>?_;simp[WfL,WfA,E_length,Enc.enc,In64] at hw
 have hE:=l14Three_x b hl
 repeat' first|refine AW.freezeP (α:=Quiv) (oo:=false) q 6 rfl rfl ?_|refine s1 ?_|(refine kR ?_;first|(refine F.x [] (hE) ?_;rintro⟨p,q,v⟩ hr;refine F.xk ?_))|fail
 refine AW.drawI G.mixed (by kernel_rfl) (by rfl) ?_
 intro T w1 MP1 I0
 refine Pz (.p 0<|.l 1<|.p 2<|.p 3<|.o 4 false<|.p 5<|.n) ?_
 repeat' first|refine xS ?_|refine s1 ?_|fail
 any_goals refine lf ?_
 all_goals
  repeat' first|refine s1 ?_|fail
  exact F.rx (p,q,v) trivial (F.retM rfl trivial)
theorem drawProjectiveDims_x(b:List UInt8)(hl:b.length≤1048576):AMx Tryz.prog 26 [ar false b] [] (fun _:Quiv×Int=>True) (fun x=>[.agg (enc false x.1),.i x.2]) (fun _=>[]):=by
 refine AMx.go Tryz.func26 Tryz.ntmps26 rfl rfl fun w0 mp hw=>?_;simp[WfL,WfA,E_length,Enc.enc,In64] at hw
 have hE:=l14Three_x b hl
 repeat' first|refine s1 ?_|(refine kR ?_;first|(refine F.x [] (hE) ?_;rintro⟨p,q,v⟩ hr;refine F.xk ?_))|fail
 exact F.rx (q,v) trivial (F.retM rfl trivial)
theorem drawElementOfMap_x(b:List UInt8)(hl:b.length≤1048576):AMx Tryz.prog 27 [ar false b] [] (fun _:Rep×Int×List Mat=>True) (fun x=>[.agg (enc false x.1),.i x.2.1,.dt true 3 (E true x.2.2)]) (fun _=>[]):=by
 refine AMx.go Tryz.func27 Tryz.ntmps27 rfl rfl fun w0 mp hw=>?_;simp[WfL,WfA,E_length,Enc.enc,In64] at hw
 have hE:=l14Element_x b hl
 repeat' first|refine s1 ?_|(refine kR ?_;first|(refine F.x [] (hE) ?_;rintro⟨r,v,x⟩ hr;refine F.xk ?_))|fail
 have hM:=specMapFromProjective_a r v x
 generalize mfpP r v x=M at hM
 obtain⟨m,c⟩:=M
 dsimp only at hM
 repeat' first|refine s1 ?_|(refine kR ?_;first|refine F.c (hM) ?_)|fail
 exact F.rx (r,v,m) trivial (F.retM rfl trivial)
theorem equalReps_a(r:Rep):AC Tryz.prog 29 [.agg (enc false r),.agg (enc false r)] [.b true]:=by
 refine AC.go Tryz.func29 Tryz.ntmps29 rfl rfl fun w0 hw=>?_;simp[WfL,WfA,E_length,Enc.enc,In64] at hw
 have hQ:=specEqualQuivers_a r.q r.q
 have hS:=l6Same_a r.d r.d
 have hM:=fun k=>specEqualMatrices_a (r.m.getD k default) (r.m.getD k default)
 rw[show sameQ r.q r.q=true by simp[sameQ]] at hQ
 rw[decide_eq_true rfl] at hS
 repeat' first|refine s1 ?_|(refine kR ?_;first|refine F.c (hQ) ?_|refine F.c (hS) ?_)|fail
 refine AW.freezeP (α:=Rep) (oo:=false) r 2 rfl rfl ?_
 refine AW.freezeP (α:=Rep) (oo:=false) r 3 rfl rfl ?_
 refine F.loop (σ:=Nat) [4,5,36,37,38,39,40,41,42,43,44,45,46,47,48,49,50,51,52,53,54] (fun k=>[(5,.i k)]) (fun _=>[]) (fun k=>k≤r.m.length) (fun k=>r.m.length-k) 0 ⟨rfl,trivial⟩ trivial (Nat.zero_le _) ?_
 rintro k k1
 by_cases hk:k<r.m.length
 ·have hMk:=hM k
  rw[show sameM (r.m.getD k default) (r.m.getD k default)=true by simp[sameM]] at hMk
  repeat' first|refine s1 ?_|fail
  refine AW.draw 12 G.mixed (by kernel_rfl) ?_
  refine Pz (.p 0<|.l 1<|.p 2<|.p 3<|.l 4<|.p 5<|.l 6<|.p 7<|.p 8<|.l 9<|.o 10 true<|.p 11<|.n) ?_
  repeat' first|refine yS ?_|refine s1 ?_|(refine kR ?_;first|refine F.c (hMk) ?_)|fail
  any_goals refine lf ?_
  all_goals
   repeat' first|refine s1 ?_|fail
   exact⟨k+1,F.fit ⟨rfl,trivial⟩ trivial,by omega,by omega⟩
 ·repeat' first|refine s1 ?_|fail
  (refine kZ ?_;exact F.ret rfl)
theorem nodup_at{α:Type}{l:List α}{d:α}(h:l.Nodup){i j:Nat}(hi:i<l.length)(hj:j<l.length)(e:l.getD i d=l.getD j d):i=j:=by
 have h1:l.getD i d=l[i]:=by simp[hi]
 have h2:l.getD j d=l[j]:=by simp[hj]
 rw[h1,h2] at e
 rw[List.Nodup,List.pairwise_iff_getElem] at h
 rcases Nat.lt_trichotomy i j with g|g|g
 ·exact absurd e (h i j hi hj g)
 ·exact g
 ·exact absurd e.symm (h j i hj hi g)
theorem nodup_le{α:Type}:∀{l m:List α},l.Nodup→(∀x∈l,x∈m)→l.length≤m.length
 |[],m,_,_=>Nat.zero_le _
 |a::l,m,h,hs=>by
  obtain⟨s,t,rfl⟩:=List.append_of_mem (hs a (by simp))
  rw[List.nodup_cons] at h
  have ih:=nodup_le (l:=l) (m:=s++t) h.2 fun x hx=>by
   have hx2:=hs x (by simp[hx])
   have hne:x≠a:=fun e=>h.1 (e▸hx)
   simp only[List.mem_append,List.mem_cons] at hx2⊢
   rcases hx2 with g|g|g
   ·exact .inl g
   ·exact absurd g hne
   ·exact .inr g
  simp only[List.length_append,List.length_cons] at ih⊢
  omega
theorem lfQ_nodup(q:Quiv):∀(f:Nat) (v:Int),(lfQ q f v).Nodup
 |0,v=>by simp[lfQ]
 |f+1,v=>by
  rw[lfQ,List.nodup_cons]
  constructor
  ·intro h
   obtain⟨i,_,h⟩:=List.mem_flatMap.1 h
   split at h
   ·obtain⟨z,_,e⟩:=List.mem_map.1 h
    exact absurd (congrArg Pth.a e) (by simp)
   ·cases h
  ·rw[List.Nodup,List.pairwise_flatMap]
   constructor
   ·intro i _
    split
    ·rw[List.pairwise_map]
     refine(lfQ_nodup q f _).imp_of_mem fun{x y} hx hy hne he=>hne ?_
     have hxs:=lfQ_s q f _ x hx
     have hys:=lfQ_s q f _ y hy
     have ha:=congrArg Pth.a he
     cases x;cases y
     simp_all
    ·exact .nil
   ·refine List.Pairwise.imp_of_mem ?_ (List.nodup_range (n:=q.fr.length))
    intro i j _ _ hij x hx y hy
    split at hx
    ·obtain⟨x',_,rfl⟩:=List.mem_map.1 hx
     split at hy
     ·obtain⟨y',_,rfl⟩:=List.mem_map.1 hy
      intro e
      have ha:=congrArg Pth.a e
      simp only[List.cons.injEq] at ha
      exact hij (by exact_mod_cast ha.1)
     ·cases hy
    ·cases hx
theorem betw_nodup(q:Quiv)(v w:Int):(betw q v w).Nodup:=(lfQ_nodup q 5 v).filter _
def plQ(q:Quiv)(v:Int)(l:List Int)(w:Int):Nat:=(idxFrom (fun y=>sameP y ⟨v,l⟩) (betw q v w) 0).toNat
theorem sameP_eq{x y:Pth}(h:sameP x y=true):x=y:=by
 cases x;cases y
 simp only[sameP,Bool.and_eq_true,decide_eq_true_eq] at h
 obtain⟨rfl,rfl⟩:=h
 rfl
theorem plQ_mem{q:Quiv}{v w:Int}{l:List Int}(h:(⟨v,l⟩:Pth)∈betw q v w):plQ q v l w<(betw q v w).length∧(betw q v w).getD (plQ q v l w) default=⟨v,l⟩:=by
 unfold plQ
 rcases idx_spec (fun y=>sameP y ⟨v,l⟩) (betw q v w) 0 with⟨_,h2⟩|⟨t,h1,h2,h3,_⟩
 ·have:=h2 _ h
  rw[sameP_refl] at this
  cases this
 ·rw[h2,Int.toNat_natCast,Nat.zero_add]
  exact⟨h1,sameP_eq h3⟩
theorem pth_eta{x:Pth}{v:Int}(h:x.s=v):x=⟨v,x.a⟩:=by
 cases x;subst h;rfl
theorem plQ_at{q:Quiv}{v w:Int}{k:Nat}(hk:k<(betw q v w).length):plQ q v ((betw q v w).getD k default).a w=k:=by
 have hm:=gm (d:=default) hk
 have hs:=(betw_path hm).1
 have e:(betw q v w).getD k default=⟨v,((betw q v w).getD k default).a⟩:=pth_eta hs
 have hm2:(⟨v,((betw q v w).getD k default).a⟩:Pth)∈betw q v w:=by rw[←e];exact hm
 obtain⟨h1,h2⟩:=plQ_mem hm2
 exact nodup_at (d:=default) (betw_nodup q v w) h1 hk (by rw[h2];exact e.symm)
theorem plcN_eq(q:Quiv)(v:Int)(i k:Nat):plcN q v i k=plQ q v (((betw q v (q.fr.getD i default)).getD k default).a++[(i:Int)]) (q.to.getD i default):=rfl
theorem plcN_ok{q:Quiv}{v:Int}(ho:(orderQ q).2=true){i k:Nat}(hi:i<q.fr.length)(hk:k<(betw q v (q.fr.getD i default)).length):plcN q v i k<(betw q v (q.to.getD i default)).length∧(betw q v (q.to.getD i default)).getD (plcN q v i k) default=⟨v,((betw q v (q.fr.getD i default)).getD k default).a++[(i:Int)]⟩:=by
 rw[plcN_eq]
 exact plQ_mem (betw_snoc ho hi (gm (d:=default) hk))
theorem chain_last{q:Quiv}:∀(l:List Int) (v:Int),chain q v l→l≠[]→∃(l':List Int) (i:Nat),l=l'++[(i:Int)]∧i<q.fr.length∧chain q v l'∧endQ q ⟨v,l'⟩=q.fr.getD i default∧endQ q ⟨v,l⟩=q.to.getD i default
 |[],_,_,h=>absurd rfl h
 |[i],v,⟨h0,h1,h2,_⟩,_=>⟨[],i.toNat,by simp[Int.toNat_of_nonneg h0],by omega,trivial,by simp[endQ];exact h2.symm,by simp[endQ]⟩
 |i::j::l,v,⟨h0,h1,h2,h3⟩,_=>by
  obtain⟨l',k,e1,e2,e3,e4,e5⟩:=chain_last (j::l) _ h3 (by simp)
  refine⟨i::l',k,by rw[e1];rfl,e2,⟨h0,h1,h2,e3⟩,?_,?_⟩
  ·rw[endQ_cons];exact e4
  ·rw[endQ_cons];exact e5
def lastL(q:Quiv)(v w:Int):List Pth:=(if v=w then[⟨v,[]⟩] else[])++(List.range q.fr.length).flatMap fun i=>if q.to.getD i default=w then(betw q v (q.fr.getD i default)).map fun y=>(⟨v,y.a++[(i:Int)]⟩:Pth) else[]
theorem lastL_nodup(q:Quiv)(v w:Int):(lastL q v w).Nodup:=by
 unfold lastL
 rw[List.nodup_append]
 refine⟨by split<;>simp,?_,?_⟩
 ·rw[List.Nodup,List.pairwise_flatMap]
  constructor
  ·intro i _
   split
   ·rw[List.pairwise_map]
    refine(betw_nodup q v _).imp_of_mem fun{x y} hx hy hne he=>hne ?_
    have hxs:=(betw_path hx).1
    have hys:=(betw_path hy).1
    have ha:=congrArg Pth.a he
    cases x;cases y
    simp_all
   ·exact .nil
  ·refine List.Pairwise.imp_of_mem ?_ (List.nodup_range (n:=q.fr.length))
   intro i j _ _ hij x hx y hy
   split at hx
   ·obtain⟨x',_,rfl⟩:=List.mem_map.1 hx
    split at hy
    ·obtain⟨y',_,rfl⟩:=List.mem_map.1 hy
     intro e
     have ha:=congrArg Pth.a e
     have h1:=congrArg List.getLast? ha
     simp only[List.getLast?_concat,Option.some.injEq] at h1
     exact hij (by exact_mod_cast h1)
    ·cases hy
   ·cases hx
 ·intro x hx y hy e
  subst e
  obtain⟨i,_,hy⟩:=List.mem_flatMap.1 hy
  split at hx
  ·simp only[List.mem_singleton] at hx
   subst hx
   split at hy
   ·obtain⟨z,_,e⟩:=List.mem_map.1 hy
    exact absurd (congrArg Pth.a e) (by simp)
   ·cases hy
  ·cases hx
theorem betw_last{q:Quiv}{v w:Int}(ho:(orderQ q).2=true):(betw q v w).length=(lastL q v w).length:=by
 obtain⟨rk,hA⟩:=acy_of ho
 apply Nat.le_antisymm
 ·refine nodup_le (betw_nodup q v w) fun x hx=>?_
  obtain⟨h1,h2,h3,h4⟩:=betw_path hx
  unfold lastL
  by_cases e:x.a=[]
  ·have:v=w:=by rw[←h4];unfold endQ;rw[e];simp[h1]
   rw[if_pos this]
   refine List.mem_append_left _ ?_
   cases x
   simp_all
  ·obtain⟨l',i,e1,e2,e3,e4,e5⟩:=chain_last x.a v h2 e
   have hx2:x=⟨v,x.a⟩:=by cases x;simp_all
   refine List.mem_append_right _ (List.mem_flatMap.2 ⟨i,List.mem_range.2 e2,?_⟩)
   rw[hx2] at h4
   rw[if_pos (by rw[←e5];exact h4)]
   refine List.mem_map.2 ⟨⟨v,l'⟩,?_,by rw[hx2,←e1]⟩
   unfold betw
   exact List.mem_filter.2 ⟨lfQ_all q 5 v l' e3 (Nat.le_trans (chain_len hA _ _ e3) (hA.le v)),decide_eq_true e4⟩
 ·refine nodup_le (lastL_nodup q v w) fun x hx=>?_
  unfold lastL at hx
  rcases List.mem_append.1 hx with hx|hx
  ·split at hx
   ·rename_i e
    simp only[List.mem_singleton] at hx
    subst hx e
    unfold betw
    refine List.mem_filter.2 ⟨lfQ_all q 5 v [] trivial (by simp),by simp[endQ]⟩
   ·cases hx
  ·obtain⟨i,hi,hx⟩:=List.mem_flatMap.1 hx
   split at hx
   ·rename_i e
    obtain⟨y,hy,rfl⟩:=List.mem_map.1 hx
    rw[←e]
    exact betw_snoc ho (List.mem_range.1 hi) hy
   ·cases hx
theorem betw_count{q:Quiv}{v w:Int}(ho:(orderQ q).2=true):((betw q v w).length:Int)=(if v=w then 1 else 0)+sumN (fun i=>if q.to.getD i default=w then((betw q v (q.fr.getD i default)).length:Int) else 0) q.fr.length:=by
 rw[betw_last ho]
 unfold lastL
 rw[List.length_append]
 have key:∀n,((((List.range n).flatMap fun i=>if q.to.getD i default=w then(betw q v (q.fr.getD i default)).map fun y=>(⟨v,y.a++[(i:Int)]⟩:Pth) else[]).length:Nat):Int)=sumN (fun i=>if q.to.getD i default=w then((betw q v (q.fr.getD i default)).length:Int) else 0) n:=fun n=>by
  induction n with
  |zero=>rfl
  |succ n ih=>
   rw[List.range_succ,List.flatMap_append,List.length_append,sumN,←ih]
   simp only[List.flatMap_cons,List.flatMap_nil,List.append_nil]
   split<;>simp
 push_cast
 rw[key]
 split<;>simp
theorem betw_back{q:Quiv}{v:Int}(ho:(orderQ q).2=true):betw q v v=[⟨v,[]⟩]:=by
 obtain⟨rk,hA⟩:=acy_of ho
 have hrk:∀(l:List Int) (u:Int),chain q u l→l≠[]→rk (endQ q ⟨u,l⟩)<rk u:=fun l=>by
  induction l with
  |nil=>intro u _ h;exact absurd rfl h
  |cons i l ih=>
   intro u ⟨h0,h1,h2,h3⟩ _
   have hd:=hA.dec i.toNat (by omega)
   rw[h2] at hd
   rw[endQ_cons]
   by_cases e:l=[]
   ·subst e
    have:endQ q ⟨q.to.getD i.toNat default,[]⟩=q.to.getD i.toNat default:=by simp[endQ]
    rw[this];exact hd
   ·have:=ih _ h3 e
    omega
 have hall:∀x∈betw q v v,x=⟨v,[]⟩:=fun x hx=>by
  obtain⟨h1,h2,h3,h4⟩:=betw_path hx
  have hx2:x=⟨v,x.a⟩:=by cases x;simp_all
  by_cases e:x.a=[]
  ·rw[hx2,e]
  ·have:=hrk x.a v h2 e
   rw[←hx2,h4] at this
   omega
 have hm:(⟨v,[]⟩:Pth)∈betw q v v:=by
  unfold betw
  exact List.mem_filter.2 ⟨lfQ_all q 5 v [] trivial (by simp),by simp[endQ]⟩
 have hl:=nodup_le (l:=betw q v v) (m:=[⟨v,[]⟩]) (betw_nodup q v v) fun x hx=>by rw[hall x hx];simp
 cases h:betw q v v with
 |nil=>rw[h] at hm;cases hm
 |cons a l=>
  rw[h] at hl
  have hl0:l=[]:=List.eq_nil_of_length_eq_zero (by simpa using hl)
  have:=hall a (by rw[h];simp)
  rw[this,hl0]
end Go.Proofs.YtjmjamhhppoimaaGreat.V
