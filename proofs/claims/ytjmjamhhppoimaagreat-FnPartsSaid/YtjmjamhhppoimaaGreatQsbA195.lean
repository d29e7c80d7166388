/- Texts that the proof needs: A88, A195. -/
import Derived.Test.YtjmjamhhppoimaaGreatQsbA130
namespace Go.Proofs.YtjmjamhhppoimaaGreat.V
open V.Enc (enc)
open Go.RowKit G D
set_option linter.unusedVariables false
set_option linter.unusedSimpArgs false
set_option maxHeartbeats 4000000
set_option maxRecDepth 4000
attribute [local irreducible] AW ARg ARA ARet MRet ASil AC AM ARI
theorem rowL_unit(n k:Nat):rowL n (idF k)=unitL n k:=by
 apply List.ext_getElem (by simp[rowL_len,unitL_len])
 intro i h1 h2
 have hi:i<n:=by simpa[rowL_len] using h1
 have e1:(rowL n (idF k)).getD i default=(rowL n (idF k))[i]:=by simp[List.getElem?_eq_getElem h1]
 have e2:(unitL n k).getD i default=(unitL n k)[i]:=by simp[List.getElem?_eq_getElem h2]
 rw[←e1,←e2,rowL_get _ hi,unitL_get hi]
 unfold idF
 by_cases e:k=i
 ·subst e;rfl
 ·rw[if_neg e,if_neg fun h=>e h.symm]
theorem projectionBy_a(p:Int)(s:Spc)(h:isSpc p s=true):AC Tryz.prog 309 [.i p,.agg (enc false s)] [.agg (enc true (prjM p s))]:=by
 refine AC.go Tryz.func309 Tryz.ntmps309 rfl rfl fun w0 hw=>?_;simp[WfL,WfA,E_length,Enc.enc,In64] at hw
 obtain⟨w1,w2,w3,w4⟩:=isSpc_spec h
 have hp:=isF_pos w1
 have hle:=isSpc_le h
 have hLd:=leadings_a s (by omega)
 rw[leadL_ints h] at hLd
 have hFr:=freeColumns_a s.n.toNat (leadN s) (by omega)
 rw[Int.toNat_of_nonneg w2.1] at hFr
 have hId:=identity_a s.n.toNat (by omega)
 rw[Int.toNat_of_nonneg w2.1] at hId
 have hRw:=rows_a s.n.toNat s.n.toNat idF (by omega) (by omega)
 have hfl:=free_len h
 have hfm:=fun a (ha:a<(freeL s.n.toNat (leadN s)).length)=>free_mem ha
 have hfg:=fun a (ha:a<(freeL s.n.toNat (leadN s)).length)=>ints_get (freeL s.n.toNat (leadN s)) ha
 have hil:=ints_len (freeL s.n.toNat (leadN s))
 have hcl:=rowsL_len s.n.toNat (freeL s.n.toNat (leadN s)).length (fun k a=>prjF p s a k)
 have hct:=fun k (hk:k<s.n.toNat)=>rowsL_take (freeL s.n.toNat (leadN s)).length (fun k a=>prjF p s a k) hk
 have hFC:=fromColumns_a (freeL s.n.toNat (leadN s)).length (rowsL s.n.toNat (freeL s.n.toNat (leadN s)).length fun k a=>prjF p s a k) (by omega) (by rw[hcl];omega) (fun k hk=>by rw[hcl] at hk;rw[rowsL_get _ _ hk];exact rowL_len ..)
 rw[show tm (freeL s.n.toNat (leadN s)).length (rowsL s.n.toNat (freeL s.n.toNat (leadN s)).length fun k a=>prjF p s a k).length (fcF (rowsL s.n.toNat (freeL s.n.toNat (leadN s)).length fun k a=>prjF p s a k))=prjM p s from rows_fc _ _ _] at hFC
 have hRs:∀k,k<s.n.toNat→AC Tryz.prog 327 [.agg (enc false s),.i p,ar false ((rowsL s.n.toNat s.n.toNat idF).getD (0+k) default)] [.dt true 1 (E true (rstK p s.b (unitL s.n.toNat k) s.b.length))]:=fun k hk=>by
  rw[Nat.zero_add,rowsL_get _ _ hk,rowL_unit]
  exact rest_a p s _ h (unitL_len _ _) (unit_bd (by omega) _ _)
 have hpf:∀a k,prjF p s a k=(rstK p s.b (unitL s.n.toNat k) s.b.length).getD ((freeL s.n.toNat (leadN s)).getD a default) default:=fun _ _=>rfl
 have hrl:=rowsL_len s.n.toNat s.n.toNat idF
 generalize rowsL s.n.toNat s.n.toNat idF=RL at hRw hRs hrl
 generalize tm s.n.toNat s.n.toNat idF=IM at hId hRw
 generalize prjM p s=PM at hFC⊢
 generalize hCLe:(rowsL s.n.toNat (freeL s.n.toNat (leadN s)).length fun k a=>prjF p s a k)=CL at hcl hct hFC
 generalize freeL s.n.toNat (leadN s)=FR at*
 generalize hFLe:ints FR=FL at hFr hil hfg
 generalize ints (leadN s)=LD at hLd hFr
 repeat' first|refine s1 ?_|refine q1 ?_|fail
 refine AW.draw 6 G.mixed (by kernel_rfl) ?_
 refine Pz (.p 0<|.l 1<|.l 2<|.o 3 true<|.o 4 true<|.p 5<|.n) ?_
 repeat' first|refine ySQ ?_|refine s1 ?_|refine q1 ?_|(refine kR ?_;first|refine F.c (hLd) ?_|refine F.c (hFr) ?_)|fail
 any_goals refine lf ?_
 all_goals
  repeat' first|refine s1 ?_|refine q1 ?_|(refine kR ?_;first|refine F.c (hId) ?_|refine F.c (hRw) ?_)|fail
  refine AW.open 6 1 (.inl rfl) ?_
  refine AW.lend (o:=5) rfl ?_
  refine F.loop (σ:=Nat) [6,8,9,10,12,23,24,25,26,27,28,29,30,31,32,33,34,35,36,37,38,39,40,41,42,43,44,45,46,47,48,49] (fun k=>[(6,.sl 6 k 0 k),(23,.i k)]) (fun k=>[(6,.live false 1 (E true (CL.take k)))]) (fun k=>k≤s.n.toNat) (fun k=>s.n.toNat-k) 0 ⟨rfl,rfl,trivial⟩ ⟨rfl,trivial⟩ (Nat.zero_le _) ?_
  rintro k k1
  have hp2:(CL.take k).length=k:=by rw[List.length_take];omega
  by_cases hk:k<s.n.toNat
  ·have hR:=hRs k hk
   have hts:=hct k hk
   have hpk:=fun a=>hpf a k
   have hXl:=rstK_len p s.b (unitL s.n.toNat k) s.b.length
   rw[unitL_len] at hXl
   generalize rstK p s.b (unitL s.n.toNat k) s.b.length=X at hR hpk hXl
   have hrt:=fun i hi=>rowL_take (r:=FR.length) (k:=i) (fun a=>prjF p s a k) hi
   have hrl2:=rowL_len FR.length (fun a=>prjF p s a k)
   generalize rowL FR.length (fun a=>prjF p s a k)=CO at hts hrt hrl2
   repeat' first|refine s1 ?_|refine q1 ?_|(refine kR ?_;first|refine F.c (hR) ?_)|fail
   refine AW.open 10 1 (.inl rfl) ?_
   refine F.loop (σ:=Nat) [10,12,33,34,35,36,37,38,39,40,41,42,43,44] (fun i=>[(10,.sl 8 i 0 i),(33,.i i)]) (fun i=>[(8,.live false 1 (E true (CO.take i)))]) (fun i=>i≤FR.length) (fun i=>FR.length-i) 0 ⟨rfl,rfl,trivial⟩ ⟨rfl,trivial⟩ (Nat.zero_le _) ?_
   rintro i i1
   have hp3:(CO.take i).length=i:=by rw[List.length_take];omega
   by_cases hi:i<FR.length
   ·have hti:=hrt i hi
    have hfi:=hfg i hi
    obtain⟨m1,_⟩:=hfm i hi
    have hv:prjF p s i k=X.getD (FL.getD i default).toNat default:=by rw[hpk,hfi,Int.toNat_natCast]
    rw[hv] at hti
    have lb0:0≤FL.getD (0+i) default:=by rw[Nat.zero_add,hfi];omega
    have lb1:(FL.getD (0+i) default).toNat<X.length:=by rw[Nat.zero_add,hfi,Int.toNat_natCast];omega
    repeat' first|refine s1 ?_|refine q1 ?_|(refine kR ?_;first|refine F.a1 Int ?_)|fail
    exact⟨i+1,F.fit ⟨rfl,rfl,trivial⟩ ⟨obE (by rw[hti];simp),trivial⟩,by omega,by omega⟩
   ·obtain rfl:i=FR.length:=by omega
    have e:CO.take FR.length=CO:=List.take_of_length_le (by omega)
    rw[e]
    rw[←hrl2]
    clear hp3 e
    repeat' first|refine s1 ?_|refine q1 ?_|(refine kR ?_;first|refine F.a1 (List Int) (a:=CO) ?_)|fail
    exact⟨k+1,F.fit ⟨rfl,rfl,trivial⟩ ⟨obE (by rw[hts]),trivial⟩,by omega,by omega⟩
  ·obtain rfl:k=s.n.toNat:=by omega
   have e:CL.take s.n.toNat=CL:=List.take_of_length_le (by omega)
   rw[e]
   rw[←hcl]
   clear hp2 e
   rw[←hil] at hFC
   repeat' first|refine s1 ?_|refine q1 ?_|(refine kR ?_;first|refine F.c (hFC) ?_)|fail
   (refine kZ ?_;exact F.ret rfl)
theorem l12Project_t(p:Int)(n:Nat)(b:List (List Int))(h:isSpc p ⟨(n:Int),b⟩=true)(hn:n≤1000):AC Tryz.prog 221 [.i p,.agg (enc false (⟨(n:Int),b⟩:Spc))] [.agg (enc true (prjM p ⟨(n:Int),b⟩)),.agg (enc true (bakM ⟨(n:Int),b⟩))]:=by
 refine AC.go Tryz.func221 Tryz.ntmps221 rfl rfl fun w0 hw=>?_;simp[WfL,WfA,E_length,Enc.enc,In64] at hw
 obtain⟨w1,w2,w3,w4⟩:=isSpc_spec h
 have hp:=isF_pos w1
 have hle:b.length≤n:=isSpc_le h
 have hLd:=l12Lead_a p ⟨(n:Int),b⟩ h
 rw[leadL_ints h] at hLd
 have hll:(leadN ⟨(n:Int),b⟩).length=b.length:=leadN_len _
 have hlt:∀i,i<b.length→(leadN ⟨(n:Int),b⟩).getD i default<n:=fun i hi=>(leadN_ech h).1.lt i (by omega)
 have hil:=ints_len (leadN ⟨(n:Int),b⟩)
 have hmem:=fun k=>ints_mem (leadN ⟨(n:Int),b⟩) k
 have hfs:=fun k=>freeL_succ k (leadN ⟨(n:Int),b⟩)
 have hf0:freeL 0 (leadN ⟨(n:Int),b⟩)=[]:=rfl
 have hfn:=fun k=>freeL_le k (leadN ⟨(n:Int),b⟩)
 have hfm:∀a,a<(freeL n (leadN ⟨(n:Int),b⟩)).length→(freeL n (leadN ⟨(n:Int),b⟩)).getD a default<n:=fun a ha=>(free_mem ha).1
 have hbl:∀i,i<b.length→(b.getD i default).length=n:=fun i hi=>(w4 _ (gm hi)).1
 have hbb:∀i,i<b.length→∀t,t<n→0≤(b.getD i default).getD t default∧(b.getD i default).getD t default≤p-1:=fun i hi=>(w4 _ (gm hi)).2
 have hK0:=pbK_zero p ⟨(n:Int),b⟩
 have hKs:∀a,prK p ⟨(n:Int),b⟩ a 0=updF (pbK p ⟨(n:Int),b⟩ a) a ((freeL n (leadN ⟨(n:Int),b⟩)).getD a default) 1:=fun a=>rfl
 have hKt:∀a i,prK p ⟨(n:Int),b⟩ a (i+1)=updF (prK p ⟨(n:Int),b⟩ a i) a ((leadN ⟨(n:Int),b⟩).getD i default) (-((b.getD i default).getD ((freeL n (leadN ⟨(n:Int),b⟩)).getD a default) default)%p):=fun a i=>rfl
 have hKn:∀a,a<(freeL n (leadN ⟨(n:Int),b⟩)).length→tab (freeL n (leadN ⟨(n:Int),b⟩)).length n (prK p ⟨(n:Int),b⟩ a b.length)=tab (freeL n (leadN ⟨(n:Int),b⟩)).length n (pbK p ⟨(n:Int),b⟩ (a+1)):=fun a ha=>prK_next h ha
 have hKa:tab (freeL n (leadN ⟨(n:Int),b⟩)).length n (pbK p ⟨(n:Int),b⟩ (freeL n (leadN ⟨(n:Int),b⟩)).length)=tab (freeL n (leadN ⟨(n:Int),b⟩)).length n (prjF p ⟨(n:Int),b⟩):=pbK_all p ⟨(n:Int),b⟩
 have hBa:=bkK_all (freeL n (leadN ⟨(n:Int),b⟩)) n
 rw[show prjM p ⟨(n:Int),b⟩=tm (freeL n (leadN ⟨(n:Int),b⟩)).length n (prjF p ⟨(n:Int),b⟩) from rfl,show bakM ⟨(n:Int),b⟩=tm n (freeL n (leadN ⟨(n:Int),b⟩)).length (bakF (freeL n (leadN ⟨(n:Int),b⟩))) from rfl]
 generalize prjF p ⟨(n:Int),b⟩=PF at hKa⊢
 generalize prK p ⟨(n:Int),b⟩=PK at hKs hKt hKn
 generalize pbK p ⟨(n:Int),b⟩=PB at hK0 hKs hKn hKa
 generalize leadN ⟨(n:Int),b⟩=LN at*
 repeat' first|refine s1 ?_|refine q1 ?_|(refine kR ?_;first|refine F.c (hLd) ?_)|fail
 refine AW.open 7 1 (.inr rfl) ?_
 refine F.loop (σ:=Nat) [7,8,16,17,18,19,20,21,22,23,24,25,26,27,28,29] (fun k=>[(7,.sl 4 (freeL k LN).length 0 (freeL k LN).length),(8,.i k)]) (fun k=>[(4,.live false 1 (E true (ints (freeL k LN))))]) (fun k=>k≤n) (fun k=>n-k) 0 ⟨rfl,rfl,trivial⟩ ⟨rfl,trivial⟩ (Nat.zero_le _) ?_
 rintro k k1
 have hfk:=hfn k
 have hfl:=ints_len (freeL k LN)
 by_cases hk:k<n
 ·have hH:=l4Has_a (ints LN) (k:Int)
  have hs:=hfs k
  by_cases hm:k∈LN
  ·rw[decide_eq_true ((hmem k).mpr hm)] at hH
   rw[if_pos hm] at hs
   repeat' first|refine s1 ?_|refine q1 ?_|(refine kR ?_;first|refine F.c (hH) ?_)|fail
   exact⟨k+1,F.fit ⟨slE (by rw[hs]),rfl,trivial⟩ ⟨obE (by rw[hs]),trivial⟩,by omega,by omega⟩
  ·rw[decide_eq_false (fun h=>hm ((hmem k).mp h))] at hH
   rw[if_neg hm] at hs
   generalize freeL k LN=FK at hs hfk hfl⊢
   repeat' first|refine s1 ?_|refine q1 ?_|(refine kR ?_;first|refine F.c (hH) ?_|refine F.a1 Int ?_)|fail
   exact⟨k+1,F.fit ⟨slE (by rw[hs];simp),rfl,trivial⟩ ⟨obE (by rw[hs,ints_snoc]),trivial⟩,by omega,by omega⟩
 ·obtain rfl:k=n:=by omega
  generalize freeL k LN=FR at*
  have hZ1:=l3ZeroT_a FR.length k (by omega) (by omega)
  have hZ2:=l3ZeroT_a k FR.length (by omega) (by omega)
  have hl1:=tab_len FR.length k (fun _ _=>0)
  have hl2:=tab_len k FR.length (fun _ _=>0)
  repeat' first|refine s1 ?_|refine q1 ?_|(refine kR ?_;first|refine F.c (hZ1) ?_|refine F.c (hZ2) ?_)|fail
  refine F.loop (σ:=Nat) [11,12,40,41,42,43,44,45,46,47,48,49,50,51,52,53,54,55,56,57,58,59,60,61,62,63,64,65,66,67,68,69,70,71,72,73,74,75,76,77,78,79,80,81,82,83,84,85,86,87,88,89,90,91,92,93,94,95,96,97,98,99,100,101] (fun a=>[(11,.i a)]) (fun a=>[(5,.live false 1 (E true (tab FR.length k (PB a)))),(7,.live false 1 (E true (tab k FR.length (bkK FR a))))]) (fun a=>a≤FR.length) (fun a=>FR.length-a) 0 ⟨rfl,trivial⟩ ⟨obE (by rw[hK0]),obE (by rw[bkK_zero]),trivial⟩ (Nat.zero_le _) ?_
  rintro a a1
  by_cases ha:a<FR.length
  ·have hfa:=hfm a ha
   obtain⟨t1,t2⟩:=tab_in (i:=a) (j:=FR.getD a default) (r:=FR.length) (c:=k) ha hfa (by omega) (by omega)
   obtain⟨t3,t4⟩:=tab_in (i:=FR.getD a default) (j:=a) (r:=k) (c:=FR.length) hfa ha (by omega) (by omega)
   have hKs':=hKs a
   have hKn':=hKn a ha
   have hKt':=hKt a
   repeat' first|refine s1 ?_|refine q1 ?_|fail
   refine AW.draw 12 G.mixed (by kernel_rfl) ?_
   refine Pz (.p 0<|.l 1<|.p 2<|.p 3<|.l 4<|.p 5<|.p 6<|.p 7<|.p 8<|.l 9<|.p 10<|.p 11<|.o 12 false<|.n) ?_
   repeat' first|refine yL (i:=9) ?_ (hs:=by exact(A.ldN rfl rfl hfl ha))|refine ySQ ?_|refine s1 ?_|refine q1 ?_|fail
   any_goals refine lf ?_
   all_goals
    repeat' first|refine s1 ?_|refine q1 ?_|fail
   all_goals
    refine AW.draw 12 G.mixed (by kernel_rfl) ?_
    refine Pz (.p 0<|.l 1<|.p 2<|.p 3<|.p 4<|.l 5<|.p 6<|.p 7<|.p 8<|.p 9<|.p 10<|.p 11<|.o 12 false<|.n) ?_
    repeat' first|refine yL (i:=5) ?_ (hs:=by exact(A.ldN rfl rfl hfl ha))|refine ySQ ?_|refine s1 ?_|refine q1 ?_|fail
    any_goals refine lf ?_
   all_goals
    repeat' first|refine s1 ?_|refine q1 ?_|fail
   all_goals
    refine F.loop (σ:=Nat) [12,70,71,72,73,74,75,76,77,78,79,80,81,82,83,84,85,86,87,88,89,90,91,92,93,94,95,96,97,98,99,100,101] (fun i=>[(12,.i i)]) (fun i=>[(5,.live false 1 (E true (tab FR.length k (PK a i))))]) (fun i=>i≤b.length) (fun i=>b.length-i) 0 ⟨rfl,trivial⟩ ⟨obE (by rw[hKs']),trivial⟩ (Nat.zero_le _) ?_
    rintro i i1
    by_cases hi:i<b.length
    ·have hli:=hlt i hi
     obtain⟨t5,t6⟩:=tab_in (i:=a) (j:=LN.getD i default) (r:=FR.length) (c:=k) ha hli (by omega) (by omega)
     have hx:=hbb i hi _ hfa
     have hxl:=hbl i hi
     have hxl':((⟨(k:Int),b⟩:Spc).b.getD i default).length=k:=hxl
     have hKi:=hKt' i
     have hin:In64 (-((b.getD i default).getD (FR.getD a default) default)):=by unfold In64;omega
     have hMo:=l2Mod_a p (-((b.getD i default).getD (FR.getD a default) default)) (by omega)
     repeat' first|refine s1 ?_|refine q1 ?_|fail
     refine AW.draw 26 G.mixed (by kernel_rfl) ?_
     refine Pz (.p 0<|.l 1<|.p 2<|.p 3<|.l 4<|.p 5<|.p 6<|.p 7<|.p 8<|.l 9<|.p 10<|.p 11<|.p 12<|.l 13<|.p 14<|.p 15<|.l 16<|.p 17<|.p 18<|.p 19<|.l 20<|.p 21<|.l 22<|.p 23<|.o 24 true<|.p 25<|.o 26 false<|.n) ?_
     repeat' first|refine yL (i:=9) ?_ (hs:=by exact(A.ldN rfl rfl (by first|rfl|exact hil) (by omega)))|refine yL (i:=20) ?_ (hs:=by exact(A.ldN rfl rfl hfl ha))|refine ySQ ?_|refine s1 ?_|refine q1 ?_|(refine kR ?_;first|refine F.c (hMo) ?_)|fail
     any_goals refine lf ?_
     all_goals
      repeat' first|refine s1 ?_|refine q1 ?_|fail
      exact⟨i+1,F.fit ⟨rfl,trivial⟩ ⟨obE (by rw[hKi]),trivial⟩,by omega,by omega⟩
    ·obtain rfl:i=b.length:=by omega
     repeat' first|refine s1 ?_|refine q1 ?_|fail
     exact⟨a+1,F.fit ⟨rfl,trivial⟩ ⟨obE (by rw[hKn']),obE (by rw[bkK_set]),trivial⟩,by omega,by omega⟩
  ·obtain rfl:a=FR.length:=by omega
   rw[hKa,hBa]
   repeat' first|refine s1 ?_|refine q1 ?_|fail
   refine AW.draw 0 G.mixed (by kernel_rfl) ?_
   refine Pz (.a [(0,true,.a [(1,true,.o 2 false<|.o 3 false<|.n),(2,false,.o 1 true<|.o 3 false<|.n)]),(1,true,.o 0 true<|.o 2 false<|.o 3 false<|.n)]) ?_
   repeat' first|refine ySQ ?_|refine s1 ?_|refine q1 ?_|refine yC ?_ ?_|exact trivial|fail
   any_goals refine lf ?_
   all_goals
    repeat' first|refine s1 ?_|refine q1 ?_|fail
    (refine kZ ?_;exact F.ret rfl)
theorem l12Project_a(p:Int)(s:Spc)(h:isSpc p s=true):AC Tryz.prog 221 [.i p,.agg (enc false s)] [.agg (enc true (prjM p s)),.agg (enc true (bakM s))]:=by
 obtain⟨sn,sb⟩:=s
 obtain⟨w1,w2,w3,w4⟩:=isSpc_spec h
 obtain⟨n,rfl⟩:∃n:Nat,sn=(n:Int):=⟨sn.toNat,(Int.toNat_of_nonneg w2.1).symm⟩
 exact l12Project_t p n sb h (by have:=w2.2;dsimp only at this;omega)
theorem img_span{p:Int}{m:Mat}{s T:Spc}(hm:isMat p m=true)(hT:isSpc p T=true)(hn:T.n=m.r)(h:inS p (imgSp p m s) T=true){x:List Int}(hx:Sp p s.b.length m.c.toNat (vecF s.b) (fun j=>x.getD j default)):Sp p T.b.length T.n.toNat (vecF T.b) (fun j=>(appV p m x).getD j default):=by
 have h1:=(imgW_iff hm hT hn).1 h
 have h2:=appV_sp hx
 rw[←hn] at h2
 refine h2.sub fun i hi=>?_
 have e:vecF (s.b.map (appV p m)) i=fun j=>(appV p m (s.b.getD i default)).getD j default:=by
  funext j
  unfold vecF
  congr 1
  simp[hi]
 rw[e]
 exact h1 i hi
end Go.Proofs.YtjmjamhhppoimaaGreat.V
