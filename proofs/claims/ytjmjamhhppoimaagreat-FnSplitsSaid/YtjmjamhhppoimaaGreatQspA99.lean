/- Texts that the proof needs: A85, A81, A99. -/
import Derived.Test.YtjmjamhhppoimaaGreatQspA106
namespace Go.Proofs.YtjmjamhhppoimaaGreat.V
open V.Enc (enc)
open Go.RowKit G D
set_option linter.unusedVariables false
set_option linter.unusedSimpArgs false
set_option maxHeartbeats 4000000
set_option maxRecDepth 4000
attribute [local irreducible] AW ARg ARA ARet MRet ASil AC AM ARI
theorem l12Lead_a(p:Int)(s:Spc)(h:isSpc p s=true):AC Tryz.prog 220 [.agg (enc false s)] [.dt true 1 (E true (leadL s))]:=by
 refine AC.go Tryz.func220 Tryz.ntmps220 rfl rfl fun w0 hw=>?_;simp[WfL,WfA,E_length,Enc.enc,In64] at hw
 obtain⟨h1,h2,h3,h4⟩:=isSpc_spec h
 obtain⟨piv,he,hl⟩:=isSpc_ech h
 have hp:=isF_pos h1
 have hll:=leadL_len s
 have hts:=fun k (hk:k<s.b.length)=>map_take leadV (l:=s.b) hk
 rw[show s.b.map leadV=leadL s from rfl] at hts
 generalize leadL s=L at hll hts⊢
 repeat' first|refine s1 ?_|refine q1 ?_|fail
 refine AW.open 3 1 (.inr rfl) ?_
 refine F.loop (σ:=Nat) [3,4,5,7,8,9,10,11,12,13,14,15,16,17,18,19,20,21,22,23,24,25,26,27,28] (fun k=>[(3,.sl 1 k 0 k),(4,.i k)]) (fun k=>[(1,.live false 1 (E true (L.take k)))]) (fun k=>k≤s.b.length) (fun k=>s.b.length-k) 0 ⟨rfl,rfl,trivial⟩ ⟨rfl,trivial⟩ (Nat.zero_le _) ?_
 rintro k k1
 have hp2:(L.take k).length=k:=by rw[List.length_take];omega
 by_cases hk:k<s.b.length
 ·have ht:=hts k hk
  have hla:=he.lead_at hl h4 hk
  rw[hla] at ht
  have hlt:=he.lt k (by omega)
  have hz:∀j,j<piv.getD k 0→(s.b.getD k default).getD j default=0:=fun j hj=>he.lead k (by omega) j hj
  have ho:(s.b.getD k default).getD (piv.getD k 0) default=1:=by
   have:=he.one k (by omega) k (by omega)
   rwa [if_pos rfl] at this
  have hbl:=(h4 _ (gm (d:=default) hk)).1
  generalize piv.getD k 0=pv at ht hlt hz ho
  repeat' first|refine s1 ?_|refine q1 ?_|fail
  refine F.loop (σ:=Nat) [5,14,15,16,17,18,19,20,21,22,23,24] (fun j=>[(5,.i j)]) (fun _=>[]) (fun j=>j≤pv) (fun j=>pv-j) 0 ⟨rfl,trivial⟩ trivial (Nat.zero_le _) ?_
  rintro j j1
  have hjl:j<(s.b.getD k default).length:=by omega
  by_cases hj:j<pv
  ·have hzj:=hz j hj
   repeat' first|refine s1 ?_|refine q1 ?_|fail
   exact⟨j+1,F.fit ⟨rfl,trivial⟩ trivial,by omega,by omega⟩
  ·obtain rfl:j=pv:=by omega
   repeat' first|refine s1 ?_|refine q1 ?_|(refine kR ?_;first|refine F.a1 Int ?_)|fail
   exact⟨k+1,F.fit ⟨rfl,rfl,trivial⟩ ⟨obE (by rw[ht]),trivial⟩,by omega,by omega⟩
 ·obtain rfl:k=s.b.length:=by omega
  have e:L.take s.b.length=L:=List.take_of_length_le (by omega)
  rw[e]
  rw[←hll]
  clear hp2 e
  repeat' first|refine s1 ?_|refine q1 ?_|fail
  (refine kZ ?_;exact F.ret rfl)
theorem leadL_ints{p:Int}{s:Spc}(h:isSpc p s=true):leadL s=ints (leadN s):=by
 have hL:=(leadN_ech h).2
 have hn:=leadN_len s
 apply List.ext_getElem (by rw[leadL_len,ints_len,hn])
 intro i h1 h2
 have hi:i<s.b.length:=by rw[leadL_len] at h1;exact h1
 have e1:(leadL s).getD i default=(leadL s)[i]:=by simp[h1]
 have e2:(ints (leadN s)).getD i default=(ints (leadN s))[i]:=by simp[List.getElem?_eq_getElem h2]
 rw[←e1,←e2,leadL_get s hi,ints_get _ (by omega),hL i hi]
 rfl
section
variable {P : Program} {w0 : World} {MP : Fr} {st : St} {d : Option Tmp} {ty : TypeId} {pos : String} {af : Array Edge} {g : Option (Nat × Bool)} {x y : Operand}
theorem A.ldN{t:TypeId}[h1:One P t]{o n k:Nat}{l oo:Bool}{L:List Nat}(hx:evA st x=.pt o n (0+k) 0)(hh:st.hp o=.live l 1 (V.E oo (ints L)))(hn:(ints L).length=n)(hk:k<L.length):ASil false P w0 MP st ⟨d,.load t x,ty,pos,af,g⟩ (.i ((L.getD k default:Nat):Int)):=
 A.ldE (α:=Int) hx hh hn (by rw[ints_len];omega) (by rw[Nat.zero_add,ints_get L hk];rfl) rfl
end
def parF(f:Nat→Nat→Int)(i k:Nat):Nat→Nat→Int:=fun i' c=>if i'<i∨(i'=i∧c<k) then f i' c else 0
theorem parF_zero(f:Nat→Nat→Int):parF f 0 0=fun _ _=>0:=by
 funext i c
 simp[parF]
theorem parF_set(f:Nat→Nat→Int)(i k:Nat):updF (parF f i k) i k (f i k)=parF f i (k+1):=by
 funext i' c
 simp only[updF,parF]
 by_cases h:i'=i∧c=k
 ·obtain⟨rfl,rfl⟩:=h
  rw[if_pos ⟨rfl,rfl⟩,if_pos (.inr ⟨rfl,by omega⟩)]
 ·rw[if_neg h]
  have:(i'<i∨(i'=i∧c<k))↔(i'<i∨(i'=i∧c<k+1)):=by omega
  simp only[this]
theorem parF_next(f:Nat→Nat→Int)(i r c:Nat):tab r c (parF f i c)=tab r c (parF f (i+1) 0):=tab_ext fun i' hi j hj=>by
 have e:(i'<i∨(i'=i∧j<c))↔(i'<i+1∨(i'=i+1∧j<0)):=by omega
 simp only[parF,e]
theorem parF_all(f:Nat→Nat→Int)(r c:Nat):tab r c (parF f r 0)=tab r c f:=tab_ext fun i hi j hj=>by simp[parF,hi]
theorem mul_inc{p:Int}{m:Mat}{s:Spc}(hs:isSpc p s=true)(hn:s.n=m.c){i j:Nat}(hi:i<m.r.toNat)(hj:j<s.b.length):mulF p (ent m) (ent (incM s)) m.c.toNat i j=(appV p m (s.b.getD j default)).getD i default:=by
 obtain⟨h1,h2,h3,h4⟩:=isSpc_spec hs
 rw[appV_get p m _ hi]
 unfold mulF
 rw[dotK_sum]
 congr 1
 refine sumN_eq _ fun k hk=>?_
 congr 1
 unfold ent incM tm
 dsimp only
 rw[Int.toNat_natCast,tab_get (fcF s.b) (by rw[hn];exact hk) hj]
 rfl
theorem isMat_inc{p:Int}{s:Spc}(hs:isSpc p s=true):isMat p (incM s)=true:=by
 obtain⟨h1,h2,h3,h4⟩:=isSpc_spec hs
 have:=isSpc_le hs
 exact isMat_tab h1 (by omega) (by omega) (fcF_bd h4)
theorem zeroMs_get(q:Quiv)(d:List Int){i:Nat}(hi:i<q.fr.length):(zeroMs q d).getD i default=zeroM (gI d (q.to.getD i default)) (gI d (q.fr.getD i default)):=by simp[zeroMs,hi]
theorem specSubRep_a(r:Rep)(s:List Spc):AC Tryz.prog 63 [.agg (enc false r),ar false s] [.agg (enc true (subP r s).1),.dt true 3 (E true (subP r s).2.1),.b (subP r s).2.2]:=by
 refine AC.go Tryz.func63 Tryz.ntmps63 rfl rfl fun w0 hw=>?_;simp[WfL,WfA,E_length,Enc.enc,In64] at hw
 have hS:=specIsSub_a r s
 unfold subP
 cases h:isSub r s with
 |false=>
  rw[h] at hS
  rw[if_neg (by simp)]
  repeat' first|refine s1 ?_|refine q1 ?_|(refine kR ?_;first|refine F.c (hS) ?_)|fail
  (refine kZ ?_;exact F.ret rfl)
 |true=>
  rw[h] at hS
  rw[if_pos rfl]
  dsimp only
  obtain⟨h1,h2,h3,h4⟩:=isSub_spec h
  obtain⟨r1,r2,r3,r4⟩:=isRep_spec h1
  obtain⟨c1,c2,c3,_⟩:=areDims_spec r2
  have h5:=okQ_spec c1
  have hp0:=isF_pos r1
  obtain⟨d1,d2,d3,d4⟩:=sub_dims h
  have hZ:=l8Zero_a r.p r.q (dimS s) c1 (by omega) (fun j hj=>by have:=(d2 j (by omega)).1;have:=d4 j (by omega);omega)
  have hzl:=zeroMs_len r.q (dimS s)
  have hml:=subMs_len r s
  have hxy:(subMs r s).length=(zeroMs r.q (dimS s)).length:=by omega
  have hmx:=mixL_len hxy
  have hms:=fun k hk=>mixL_set hxy (k:=k) hk
  have hmg:=fun k hk=>mixL_get hxy (k:=k) hk
  have hm0:=mixL_zero (subMs r s) (zeroMs r.q (dimS s))
  have hma:=mixL_all hxy
  have hil:=incL_len s
  have hit:=fun k hk=>incL_take (s:=s) (k:=k) hk
  have hig:∀v,v<s.length→(incL s).getD v default=incM (s.getD v default):=fun v hv=>by simp[incL,hv]
  have hzg:∀i,i<r.m.length→(zeroMs r.q (dimS s)).getD i default=tm (s.getD (r.q.to.getD i default).toNat default).b.length (s.getD (r.q.fr.getD i default).toNat default).b.length (fun _ _=>0):=fun i hi=>by
   obtain⟨m1,m2,m3,m4,m5⟩:=arrow_ok h1 hi
   rw[zeroMs_get _ _ (by omega),←zeroM_tab]
   unfold gI
   rw[dimS_get (by omega),dimS_get (by omega)]
  unfold subR
  have hsg:=fun i (hi:i<r.m.length)=>subMs_get r s hi
  generalize subMs r s=SM at hml hxy hmx hms hm0 hma hsg hmg⊢
  generalize hZM:zeroMs r.q (dimS s)=ZM at hzl hxy hmx hms hm0 hma hmg hzg
  generalize incL s=IL at hil hit hig⊢
  have hdl:=dimS_len s
  have hdt:=fun k hk=>dimS_take (l:=s) (k:=k) hk
  have hdT:∀k,dimS (s.take k)=(dimS s).take k:=fun k=>by simp[dimS]
  simp only[hdT] at hdt
  generalize dimS s=DS at hZ hZM hdl hdt d1 d2⊢
  have hzm:(zeroR r.p r.q DS).m.length=ZM.length:=by rw[←hZM]
  have hzm2:(zeroMs r.q DS).length=ZM.length:=by rw[←hZM]
  repeat' first|refine s1 ?_|refine q1 ?_|(refine kR ?_;first|refine F.c (hS) ?_)|fail
  refine AW.open 7 1 (.inr rfl) ?_
  refine AW.open 8 3 (.inr rfl) ?_
  refine F.loop (σ:=Nat) [7,8,9,24,25,26,27,28,29,30,31,32,33,34,35,36,37,38,39,40,41,42,43,44,45,46,47,48,49,50,51,52,53] (fun v=>[(7,.sl 2 v 0 v),(8,.sl 3 v 0 v),(9,.i v)]) (fun v=>[(2,.live false 1 (E true (DS.take v))),(3,.live false 3 (E true (IL.take v)))]) (fun v=>v≤s.length) (fun v=>s.length-v) 0 ⟨rfl,rfl,rfl,trivial⟩ ⟨rfl,rfl,trivial⟩ (Nat.zero_le _) ?_
  rintro v v1
  have hp2:(DS.take v).length=v:=by rw[List.length_take];omega
  have hp3:(IL.take v).length=v:=by rw[List.length_take];omega
  by_cases hv:v<s.length
  ·obtain⟨a1,a2⟩:=h3 v hv
   obtain⟨w1,w2,w3,w4⟩:=isSpc_spec a1
   have hRw:=l5Rows_a (s.getD v default).n.toNat (s.getD v default).b (by omega) (by omega) w4.len
   rw[Int.toNat_of_nonneg w2.1] at hRw
   have hTr:=l3Transpose_a (s.getD v default).b.length (s.getD v default).n.toNat (vecF (s.getD v default).b) (by omega) (by omega)
   rw[show tm (s.getD v default).n.toNat (s.getD v default).b.length (fun i j=>vecF (s.getD v default).b j i)=incM (s.getD v default) from rfl] at hTr
   have hti:=hit v hv
   have htd:=hdt v hv
   generalize incM (s.getD v default)=IM at hTr hti
   generalize tm (s.getD v default).b.length (s.getD v default).n.toNat (vecF (s.getD v default).b)=T1 at hRw hTr
   repeat' first|refine s1 ?_|refine q1 ?_|(refine kR ?_;first|refine F.a1 Int ?_)|fail
   refine AW.draw 14 G.mixed (by kernel_rfl) ?_
   refine Pz (.p 0<|.p 1<|.p 2<|.p 3<|.p 4<|.l 5<|.p 6<|.p 7<|.p 8<|.p 9<|.l 10<|.o 11 true<|.o 12 true<|.o 13 true<|.o 14 false<|.p 15<|.n) ?_
   repeat' first|refine ySQ ?_|refine s1 ?_|refine q1 ?_|(refine kR ?_;first|refine F.c (hRw) ?_|refine F.c (hTr) ?_|refine F.a1 Mat (a:=IM) ?_)|fail
   any_goals refine lf ?_
   all_goals
    repeat' first|refine s1 ?_|refine q1 ?_|fail
    exact⟨v+1,F.fit ⟨rfl,rfl,rfl,trivial⟩ ⟨obE (by rw[htd]),obE (by rw[hti]),trivial⟩,by omega,by omega⟩
  ·obtain rfl:v=s.length:=by omega
   have e:IL.take s.length=IL:=List.take_of_length_le (by omega)
   have e2:DS.take s.length=DS:=List.take_of_length_le (by omega)
   rw[e,e2]
   clear hp2 hp3 e e2
   have hdl':s.length=DS.length:=by omega
   repeat' first|refine s1 ?_|refine q1 ?_|(refine kR ?_;first|refine F.c (hZ) ?_)|fail
   refine F.loop (σ:=Nat) [11,12,13,14,15,60,61,62,63,64,65,66,67,68,69,70,71,72,73,74,75,76,77,78,79,80,81,82,83,84,85,86,87,88,89,90,91,92,93,94,95,96,97,98,99,100,101,102,103,104,105,106,107,108,109,110,111,112,113,114,115,116,117,118,119,120,121,122,123,124,125,126,127,128,129,130,131,132,133,134,135,136,137,138,139,140,141,142,143] (fun k=>[(11,.i k)]) (fun k=>[(3,.live false 3 (E true IL)),(7,.live false 3 (E true (mixL SM ZM k)))]) (fun k=>k≤r.m.length) (fun k=>r.m.length-k) 0 ⟨rfl,trivial⟩ ⟨rfl,obE (by rw[hm0,←hZM]),trivial⟩ (Nat.zero_le _) ?_
   rintro k k1
   have hlk:=hmx k
   by_cases hk:k<r.m.length
   ·obtain⟨m1,m2,m3,m4,m5⟩:=arrow_ok h1 hk
    obtain⟨g0,g1,g2,g3,g4⟩:=isMat_spec m1
    have hF1:(r.q.fr.getD k default).toNat<s.length:=by omega
    have hT1:(r.q.to.getD k default).toNat<s.length:=by omega
    have hkf:k<r.q.fr.length:=by omega
    have hkt:k<r.q.to.length:=by omega
    obtain⟨f1,f2⟩:=h3 _ hF1
    obtain⟨t1,t2⟩:=h3 _ hT1
    have hsk:=hms k (by omega)
    have hgk:=hmg k (by omega)
    rw[hzg k hk] at hgk
    have hsgk:SM.getD k default=subM r.p (r.m.getD k default) (s.getD (r.q.fr.getD k default).toNat default) (s.getD (r.q.to.getD k default).toNat default):=hsg k hk
    rw[hsgk] at hsk
    have hMu:=l3MulM_a m1 (isMat_inc f1) (by
     show(r.m.getD k default).c=((s.getD (r.q.fr.getD k default).toNat default).n.toNat:Int)
     rw[m4,←f2]
     have:=(isSpc_spec f1).2.1
     omega)
    rw[←hig _ hF1] at hMu
    have hMf:mulM r.p (r.m.getD k default) (IL.getD (r.q.fr.getD k default).toNat default)=tm (r.m.getD k default).r.toNat (s.getD (r.q.fr.getD k default).toNat default).b.length (mulF r.p (ent (r.m.getD k default)) (ent (incM (s.getD (r.q.fr.getD k default).toNat default))) (r.m.getD k default).c.toNat):=by
     rw[hig _ hF1]
     unfold mulM
     congr 1
    rw[hMf] at hMu
    have hLd:=l12Lead_a r.p (s.getD (r.q.to.getD k default).toNat default) t1
    rw[leadL_ints t1] at hLd
    have hll:=leadN_len (s.getD (r.q.to.getD k default).toNat default)
    have hil2:=ints_len (leadN (s.getD (r.q.to.getD k default).toNat default))
    have hlg:=(leadN_ech t1).2
    have hlb:=fun i (hi:i<(s.getD (r.q.to.getD k default).toNat default).b.length)=>lead_lt t1 hi
    rw[t2,←m5] at hlb
    have hmi:=fun i j hi hj=>mul_inc (m:=r.m.getD k default) f1 (by rw[f2,m4]) (i:=i) (j:=j) hi hj
    have hle1:=isSpc_le f1
    have hle2:=isSpc_le t1
    have hn1:=(isSpc_spec f1).2.1
    have hn2:=(isSpc_spec t1).2.1
    generalize hGe:mulF r.p (ent (r.m.getD k default)) (ent (incM (s.getD (r.q.fr.getD k default).toNat default))) (r.m.getD k default).c.toNat=G1 at hMu hmi
    generalize hLDe:leadN (s.getD (r.q.to.getD k default).toNat default)=LD at hLd hll hlg hil2
    have hwF:=(Int.toNat_of_nonneg m2.1).symm
    generalize mixL SM ZM k=X at hlk hsk hgk⊢
    have hsf:subF r.p (r.m.getD k default) (s.getD (r.q.fr.getD k default).toNat default) (s.getD (r.q.to.getD k default).toNat default)=fun i j=>(appV r.p (r.m.getD k default) ((s.getD (r.q.fr.getD k default).toNat default).b.getD j default)).getD (leadV ((s.getD (r.q.to.getD k default).toNat default).b.getD i default)).toNat default:=rfl
    unfold subM at hsk
    generalize hSF:subF r.p (r.m.getD k default) (s.getD (r.q.fr.getD k default).toNat default) (s.getD (r.q.to.getD k default).toNat default)=SF at hsk hsf
    have hval:∀i j,i<(s.getD (r.q.to.getD k default).toNat default).b.length→j<(s.getD (r.q.fr.getD k default).toNat default).b.length→G1 (LD.getD i default) j=SF i j:=fun i j hi hj=>by
     have e2:(leadV ((s.getD (r.q.to.getD k default).toNat default).b.getD i default)).toNat=LD.getD i default:=by rw[hlg i hi];rfl
     rw[←e2,hmi _ j (hlb i hi).2 hj,hsf]
    have hlb2:∀i,i<(s.getD (r.q.to.getD k default).toNat default).b.length→LD.getD i default<(r.m.getD k default).r.toNat:=fun i hi=>by
     have:=(hlb i hi).2
     rw[hlg i hi] at this
     exact this
    generalize hR:(s.getD (r.q.to.getD k default).toNat default).b.length=R at*
    generalize hC:(s.getD (r.q.fr.getD k default).toNat default).b.length=C at*
    generalize hR2:(r.m.getD k default).r.toNat=R2 at*
    have hbI:(E true IL).length=s.length:=by rw[E_length,hil]
    have hwI:(r.q.fr.getD k default).toNat<IL.length:=by omega
    have hself:IL.set (r.q.fr.getD k default).toNat (IL.getD (r.q.fr.getD k default).toNat default)=IL:=set_self hwI
    repeat' first|refine s1 ?_|refine q1 ?_|fail
    refine AW.takeE (α:=Mat) (o:=3) (k:=(r.q.fr.getD k default).toNat) (j:=2) (ls:=IL) rfl hwI rfl (E_length _ _) ?_
    refine AW.draw 18 G.mixed (by kernel_rfl) ?_
    refine Pz (.p 0<|.l 1<|.p 2<|.l 3<|.p 4<|.p 5<|.l 6<|.p 7<|.p 8<|.p 9<|.l 10<|.p 11<|.p 12<|.l 13<|.p 14<|.l 15<|.a [(16,true,.o 17 true<|.o 18 false<|.n),(17,true,.o 16 true<|.o 18 false<|.n)]) ?_
    repeat' first|refine yP (i:=14) ?_ (hs:=by exact(A.idxT (k:=(r.q.fr.getD k default).toNat) rfl rfl rfl hbI hwF (by omega)))|refine yL (i:=15) ?_ (hs:=by exact(A.ldSG (k:=(r.q.fr.getD k default).toNat) rfl rfl hbI (by omega) (by omega) rfl rfl))|refine ySQ ?_|refine s1 ?_|refine q1 ?_|refine yC ?_ ?_|exact trivial|(refine kR ?_;first|refine F.c (hMu) ?_)|fail
    any_goals refine lf ?_
    all_goals
     refine AW.put (α:=Mat) (o:=3) (o2:=9) (k:=(r.q.fr.getD k default).toNat) (j:=2) (v:=IL.getD (r.q.fr.getD k default).toNat default) (x:=IL.getD (r.q.fr.getD k default).toNat default) (ls:=IL) rfl rfl (E_length _ _) (E_pure _ _) rfl hwI rfl rfl ?_
     rw[hself]
     repeat' first|refine s1 ?_|refine q1 ?_|(refine kR ?_;first|refine F.c (hLd) ?_)|fail
     refine AW.takeE (α:=Mat) (o:=7) (k:=k) (j:=2) (ls:=X) rfl (by omega) rfl (E_length _ _) ?_
     rw[hgk]
     have hbX:(E true X).length=(zeroR r.p r.q DS).m.length:=by rw[E_length,hlk,hzm]
     have htl:(tab R C fun _ _=>(0:Int)).length=R*C:=tab_len ..
     refine F.loop (σ:=Nat) [14,15,94,95,96,97,98,99,100,101,102,103,104,105,106,107,108,109,110,111,112,113,114,115,116,117,118,119,120,121,122,123,124,125,126,127,128,129,130,131,132,133,134,135,136,137,138,139,140,141,142,143] (fun a=>[(14,.i a)]) (fun a=>[(13,.live false 1 (E true (tab R C (parF SF a 0))))]) (fun a=>a≤R) (fun a=>R-a) 0 ⟨rfl,trivial⟩ ⟨obE (by rw[parF_zero]),trivial⟩ (Nat.zero_le _) ?_
     rintro a a1
     by_cases ha:a<R
     ·have lb1:=hlb2 a ha
      repeat' first|refine s1 ?_|refine q1 ?_|(refine kR ?_;first|refine F.sil (A.idxT (k:=k) rfl rfl rfl hbX rfl (by omega)) rfl rfl ?_|refine F.sil (A.ldS rfl rfl hbX (Nat.zero_add _) (by omega) rfl rfl) rfl rfl ?_)|fail
      refine F.loop (σ:=Nat) [15,104,105,106,107,108,109,110,111,112,113,114,115,116,117,118,119,120,121,122,123,124,125,126,127,128,129,130,131,132,133,134,135,136,137,138,139,140,141,142,143] (fun b=>[(15,.i b)]) (fun b=>[(13,.live false 1 (E true (tab R C (parF SF a b))))]) (fun b=>b≤C) (fun b=>C-b) 0 ⟨rfl,trivial⟩ ⟨rfl,trivial⟩ (Nat.zero_le _) ?_
      rintro b b1'
      by_cases hb:b<C
      ·have hv:=hval a b ha hb
       obtain⟨t1',t2'⟩:=tab_in (i:=a) (j:=b) (r:=R) (c:=C) ha hb (by omega) (by omega)
       obtain⟨t3',t4'⟩:=tab_in (i:=LD.getD a default) (j:=b) (r:=R2) (c:=C) lb1 hb (by omega) (by omega)
       repeat' first|refine s1 ?_|refine q1 ?_|(refine kR ?_;first|refine F.sil (A.idxT (k:=k) rfl rfl rfl hbX rfl (by omega)) rfl rfl ?_|refine F.sil (A.ldS rfl rfl hbX (Nat.zero_add _) (by omega) rfl rfl) rfl rfl ?_)|fail
       refine AW.draw 30 G.mixed (by kernel_rfl) ?_
       refine Pz (.p 0<|.l 1<|.p 2<|.p 3<|.p 4<|.l 5<|.p 6<|.p 7<|.l 8<|.p 9<|.p 10<|.p 11<|.l 12<|.p 13<|.p 14<|.p 15<|.p 16<|.l 17<|.p 18<|.p 19<|.p 20<|.l 21<|.p 22<|.l 23<|.p 24<|.p 25<|.p 26<|.p 27<|.l 28<|.p 29<|.o 30 false<|.n) ?_
       repeat' first|refine yL (i:=21) ?_ (hs:=by exact(A.ldN rfl rfl (by first|rfl|omega|simp) (by omega)))|refine ySQ ?_|refine s1 ?_|refine q1 ?_|refine yP ?_ (hs:=by exact(A.idxT (k:=k) rfl rfl rfl hbX rfl (by omega)))|refine yL ?_ (hs:=by exact(A.ldS rfl rfl hbX (Nat.zero_add _) (by omega) rfl rfl))|fail
       any_goals refine lf ?_
       all_goals
        repeat' first|refine s1 ?_|refine q1 ?_|fail
        exact⟨b+1,F.fit ⟨rfl,trivial⟩ ⟨obE (by rw[hv,parF_set]),trivial⟩,by omega,by omega⟩
      ·obtain rfl:b=C:=by omega
       repeat' first|refine s1 ?_|refine q1 ?_|(refine kR ?_;first|refine F.sil (A.idxT (k:=k) rfl rfl rfl hbX rfl (by omega)) rfl rfl ?_|refine F.sil (A.ldS rfl rfl hbX (Nat.zero_add _) (by omega) rfl rfl) rfl rfl ?_)|fail
       exact⟨a+1,F.fit ⟨rfl,trivial⟩ ⟨obE (by rw[parF_next]),trivial⟩,by omega,by omega⟩
     ·obtain rfl:a=R:=by omega
      rw[parF_all]
      refine AW.put (α:=Mat) (o:=7) (o2:=13) (k:=k) (j:=2) (v:=tm a C SF) (x:=tm a C (fun _ _=>0)) (m:=(tab a C fun _ _=>(0:Int)).length) (ls:=X) rfl rfl (by rw[E_length,tab_len,tab_len]) (E_pure _ _) rfl (by omega) rfl rfl ?_
      have hrr:(mixL SM ZM (k+1)).getD (0+k) default=tm a C SF:=by
       have hkx:k<X.length:=by omega
       rw[←hsk,Nat.zero_add]
       simp[hkx]
      have hrr2:((mixL SM ZM (k+1)).getD (0+k) default).r=(a:Int):=by rw[hrr]
      have hy2:=hmx (k+1)
      rw[hsk]
      generalize hYe:mixL SM ZM (k+1)=Y at hrr hrr2 hy2⊢
      repeat' first|refine s1 ?_|refine q1 ?_|fail
      exact⟨k+1,F.fit ⟨rfl,trivial⟩ ⟨rfl,obE (by rw[hYe]),trivial⟩,by omega,by omega⟩
   ·obtain rfl:k=r.m.length:=by omega
    have hma':mixL SM ZM r.m.length=SM:=by rw[←hml];exact hma
    rw[hma'] at hlk⊢
    have hSl:SM.length=r.q.fr.length:=by omega
    repeat' first|refine s1 ?_|refine q1 ?_|fail
    (refine kZ ?_;exact F.ret rfl)
def radR(r:Rep):Rep:=subR r (radL r)
def layR:Nat→Rep→List (List Int)→List (List Int)×Bool
 |0,_,_=>([],false)
 |f+1,x,out=>if x.d.sum=0 then(out,true) else layR f (radR x) (out++[topD x])
theorem zsum:∀n:Nat,(List.replicate n (0:Int)).sum=0
 |0=>rfl
 |n+1=>by rw[List.replicate_succ,List.sum_cons,zsum n];rfl
theorem rep_sum{r:Rep}(h:isRep r=true):0≤r.d.sum∧r.d.sum≤8:=by
 obtain⟨h1,h2,h3,h4⟩:=isRep_spec h
 obtain⟨c1,c2,c3,c4⟩:=areDims_spec h2
 have:(List.replicate r.d.length (0:Int)).sum≤r.d.sum:=sum_le (by simp) fun j hj=>by
  have hj:j<r.d.length:=by simpa using hj
  have hd:0≤r.d.getD j default∧r.d.getD j default≤4:=allIn_spec c3 hj
  have e:(List.replicate r.d.length (0:Int)).getD j default=0:=by simp[hj]
  rw[e];exact hd.1
 rw[zsum] at this
 exact⟨this,c4⟩
structure LayI (r0:Rep) (f:Nat) (x:Rep) (out:List (List Int)):Prop where
 ok:isRep x=true
 lt:x.d.sum+1≤f
 eq:layR 9 r0 []=layR f x out
 le:f≤9
 ln:out.length+f=9
theorem LayI.start{r:Rep}(h:isRep r=true):LayI r 9 r []:=⟨h,by have:=rep_sum h;omega,rfl,by omega,rfl⟩
theorem pw_sub_len{a b:List Nat}(ha:a.Pairwise (·<·))(hb:b.Pairwise (·<·))(h:∀x∈a,x∈b):a.length≤b.length:=by
 have e:a=b.filter fun k=>decide (k∈a):=inc_ext ha (List.Pairwise.filter _ hb) fun x=>by
  simp only[List.mem_filter,decide_eq_true_eq]
  exact⟨fun hx=>⟨h x hx,hx⟩,fun hx=>hx.2⟩
 have h2:=List.length_filter_le (fun k=>decide (k∈a)) b
 rw[←e] at h2
 exact h2
theorem addS_mono{p:Int}{a b:Spc}(ha:isSpc p a=true)(hb:isSpc p b=true)(hn:b.n=a.n):a.b.length≤(addS p a b).b.length:=by
 have hp:=isF_pos (isSpc_spec ha).1
 obtain⟨pa,ea,la⟩:=isSpc_ech ha
 obtain⟨ps,es,ls⟩:=isSpc_ech (addS_ok ha hb hn)
 have es':Ech (addS p a b).b.length a.n.toNat (vecF (addS p a b).b) ps:=es
 rw[←la,←ls]
 refine pw_sub_len ea.pw es'.pw fun k hk=>?_
 have hkc:k<a.n.toNat:=by
  obtain⟨i,hi,e⟩:=List.getElem_of_mem hk
  have:=ea.lt i hi;simp[hi] at this;omega
 obtain⟨v,h1,h2⟩:=(ea.mem hp.1 hkc).mp hk
 exact(es'.mem hp.1 hkc).mpr ⟨v,h1.sub fun i hi=>addS_l ha hb hn hi,h2⟩
def genS(r:Rep)(X:List Spc)(i:Nat):List Spc:=X.set (r.q.to.getD i default).toNat (addS r.p (X.getD (r.q.to.getD i default).toNat default) (imgSp r.p (r.m.getD i default) (X.getD (r.q.fr.getD i default).toNat default)))
def genK(r:Rep)(s:List Spc):Nat→List Spc
 |0=>s
 |k+1=>genS r (genK r s k) k
def genR(r:Rep)(s:List Spc):List Spc:=genK r s r.q.fr.length
def genN(r:Rep)(s:List Spc):Nat→List Spc
 |0=>s
 |n+1=>genR r (genN r s n)
def genA(r:Rep)(s:List Spc):List Spc:=genN r s 9
def SpOk(r:Rep)(X:List Spc):Prop:=X.length=r.d.length∧∀v,v<r.d.length→(X.getD v default).n=r.d.getD v default∧isSpc r.p (X.getD v default)=true
theorem gen_arr{r:Rep}{X:List Spc}(h:isRep r=true)(hX:SpOk r X){i:Nat}(hi:i<r.q.fr.length):(r.q.to.getD i default).toNat<r.d.length∧(r.q.fr.getD i default).toNat<r.d.length∧isMat r.p (r.m.getD i default)=true∧isSpc r.p (X.getD (r.q.to.getD i default).toNat default)=true∧isSpc r.p (X.getD (r.q.fr.getD i default).toNat default)=true∧isSpc r.p (imgSp r.p (r.m.getD i default) (X.getD (r.q.fr.getD i default).toNat default))=true∧(imgSp r.p (r.m.getD i default) (X.getD (r.q.fr.getD i default).toNat default)).n=(X.getD (r.q.to.getD i default).toNat default).n∧(X.getD (r.q.fr.getD i default).toNat default).n=(r.m.getD i default).c:=by
 obtain⟨r1,r2,r3,r4⟩:=isRep_spec h
 obtain⟨m1,m2,m3,m4,m5⟩:=arrow_ok h (i:=i) (by omega)
 obtain⟨x1,x2⟩:=hX.2 _ m3.2
 obtain⟨y1,y2⟩:=hX.2 _ m2.2
 exact⟨m3.2,m2.2,m1,x2,y2,imgSp_ok m1 _,by rw[x1];exact m5,by rw[y1,m4]⟩
theorem genS_at{r:Rep}{X:List Spc}(i:Nat){v:Nat}(hX:(r.q.to.getD i default).toNat<X.length):(genS r X i).getD v default=if(r.q.to.getD i default).toNat=v then addS r.p (X.getD (r.q.to.getD i default).toNat default) (imgSp r.p (r.m.getD i default) (X.getD (r.q.fr.getD i default).toNat default)) else X.getD v default:=by
 unfold genS
 by_cases e:(r.q.to.getD i default).toNat=v
 ·subst e;rw[if_pos rfl,set_get hX]
 ·rw[if_neg e,set_ne e]
theorem genS_ok{r:Rep}{X:List Spc}(h:isRep r=true)(hX:SpOk r X){i:Nat}(hi:i<r.q.fr.length):SpOk r (genS r X i)∧∀v,v<r.d.length→(X.getD v default).b.length≤((genS r X i).getD v default).b.length:=by
 obtain⟨a1,a2,a3,a4,a5,a6,a7,a8⟩:=gen_arr h hX hi
 have hl:=hX.1
 refine⟨⟨by unfold genS;rw[List.length_set];exact hl,fun v hv=>?_⟩,fun v hv=>?_⟩
 ·rw[genS_at i (by omega)]
  by_cases e:(r.q.to.getD i default).toNat=v
  ·rw[if_pos e]
   subst e
   exact⟨(hX.2 _ hv).1,addS_ok a4 a6 a7⟩
  ·rw[if_neg e];exact hX.2 v hv
 ·rw[genS_at i (by omega)]
  by_cases e:(r.q.to.getD i default).toNat=v
  ·rw[if_pos e]
   subst e
   exact addS_mono a4 a6 a7
  ·rw[if_neg e];exact Nat.le_refl _
theorem genK_ok{r:Rep}{s:List Spc}(h:isRep r=true)(hs:SpOk r s):∀k,k≤r.q.fr.length→SpOk r (genK r s k)
 |0,_=>hs
 |k+1,hk=>(genS_ok h (genK_ok h hs k (by omega)) (i:=k) (by omega)).1
theorem genR_ok{r:Rep}{s:List Spc}(h:isRep r=true)(hs:SpOk r s):SpOk r (genR r s):=genK_ok h hs _ (Nat.le_refl _)
theorem genN_ok{r:Rep}{s:List Spc}(h:isRep r=true)(hs:SpOk r s):∀n,SpOk r (genN r s n)
 |0=>hs
 |n+1=>genR_ok h (genN_ok h hs n)
end Go.Proofs.YtjmjamhhppoimaaGreat.V
