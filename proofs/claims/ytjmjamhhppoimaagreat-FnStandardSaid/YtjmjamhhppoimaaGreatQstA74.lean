/- Texts that the proof needs: A78, B6, A74. -/
import Derived.Test.YtjmjamhhppoimaaGreatQstA70
namespace Go.Proofs.YtjmjamhhppoimaaGreat.V
open Go.RowKit G D
set_option linter.unusedVariables false
set_option linter.unusedSimpArgs false
set_option maxHeartbeats 1000000
set_option maxRecDepth 4000
theorem sumN_swap(h:Nat→Nat→Int)(n:Nat):∀m,sumN (fun i=>sumN (fun j=>h i j) n) m=sumN (fun j=>sumN (fun i=>h i j) m) n
 |0=>by
  rw[sumN_zero (h:=fun j=>sumN (fun i=>h i j) 0) n fun j _=>rfl];rfl
 |m+1=>by
  rw[sumN,sumN_swap h n m]
  exact(sumN_add (fun j=>sumN (fun i=>h i j) m) (fun j=>h m j) n).symm
theorem appV_get(p:Int)(m:Mat)(v:List Int){j:Nat}(hj:j<m.r.toNat):(appV p m v).getD j default=sumN (fun k=>ent m j k*v.getD k default) m.c.toNat%p:=by
 unfold appV;rw[rowL_get _ hj]
theorem vecF_map{p:Int}{m:Mat}{b:List (List Int)}{i:Nat}(hi:i<b.length)(j:Nat):vecF (b.map (appV p m)) i j=(appV p m (b.getD i default)).getD j default:=by
 unfold vecF;simp[hi]
theorem appV_sp{p:Int}{m:Mat}{b:List (List Int)}{v:List Int}(h:Sp p b.length m.c.toNat (vecF b) (fun j=>v.getD j default)):Sp p b.length m.r.toNat (vecF (b.map (appV p m))) (fun j=>(appV p m v).getD j default):=by
 obtain⟨co,e⟩:=h
 refine⟨co,fun j hj=>?_⟩
 dsimp only
 rw[appV_get p m v hj]
 refine(Cg.mod _ _).trans ((sumN_cg (g:=fun k=>ent m j k*sumN (fun i=>co i*vecF b i k) b.length) _ fun k hk=>(Cg.refl _).mul (e k hk)).trans ?_)
 rw[sumN_eq (g:=fun k=>sumN (fun i=>ent m j k*(co i*vecF b i k)) b.length) _ fun k _=>(sumN_mul _ _ _).symm,sumN_swap]
 refine sumN_cg _ fun i hi=>?_
 rw[vecF_map hi,appV_get p m _ hj,sumN_eq (g:=fun k=>co i*(ent m j k*vecF b i k)) _ fun k _=>by rw[←Int.mul_assoc,←Int.mul_assoc,Int.mul_comm (ent m j k)],sumN_mul]
 exact(Cg.refl _).mul (Cg.mod _ _).symm
theorem appV_cols{p:Int}{m:Mat}(v:List Int):Sp p m.c.toNat m.r.toNat (vecF (rowsL m.c.toNat m.r.toNat fun k i=>ent m i k)) (fun j=>(appV p m v).getD j default):=by
 refine⟨fun k=>v.getD k default,fun j hj=>?_⟩
 dsimp only
 rw[appV_get p m v hj]
 refine(Cg.mod _ _).trans ?_
 rw[sumN_eq (g:=fun k=>v.getD k default*vecF (rowsL m.c.toNat m.r.toNat fun k i=>ent m i k) k j) _ fun k hk=>by rw[vecF_rows hk hj,Int.mul_comm]]
 exact .refl _
theorem imgW_iff{p:Int}{m:Mat}{s T:Spc}(hm:isMat p m=true)(hT:isSpc p T=true)(hn:T.n=m.r):inS p (imgSp p m s) T=true↔∀i,i<s.b.length→Sp p T.b.length T.n.toNat (vecF T.b) (fun j=>(appV p m (s.b.getD i default)).getD j default):=by
 obtain⟨h0,h1,h2,h3,h4⟩:=isMat_spec hm
 have hp:=isF_pos h0
 have hv:=imgL_vec (show 0<p by omega) m s
 have hss:SS p (imgSp p m s).b.length s.b.length m.r.toNat (vecF (imgSp p m s).b) (vecF (imgL p m s)):=by
  have:=span_ss h0 hv.bd
  rw[imgL_len] at this
  show SS p (spanL p m.r.toNat (imgL p m s)).length _ _ (vecF (spanL p m.r.toNat (imgL p m s))) _
  unfold spanL
  rw[imgL_len]
  exact this
 rw[inS_iff (imgSp_ok hm s) hT hn,hn]
 constructor
 ·intro h i hi
  refine((hss.2 i hi).sub h).cg fun j _=>?_
  unfold imgL
  rw[vecF_map hi];exact .refl _
 ·intro h i hi
  refine(hss.1 i hi).sub fun t ht=>(h t ht).cg fun j _=>?_
  unfold imgL
  rw[vecF_map ht];exact .refl _
theorem addS_ss{p:Int}{a b:Spc}(ha:isSpc p a=true)(hb:isSpc p b=true)(hn:b.n=a.n):SS p (addS p a b).b.length (a.b.length+b.b.length) a.n.toNat (vecF (addS p a b).b) (vecF (a.b++b.b)):=by
 obtain⟨h1,h2,h3,h4⟩:=isSpc_spec ha
 obtain⟨_,_,g3,g4⟩:=isSpc_spec hb
 rw[hn] at g4
 have:=span_ss h1 (h4.app g4).bd
 rw[List.length_append] at this
 show SS p (spanL p a.n.toNat (a.b++b.b)).length _ _ (vecF (spanL p a.n.toNat (a.b++b.b))) _
 unfold spanL
 rw[List.length_append]
 exact this
theorem addS_l{p:Int}{a b:Spc}(ha:isSpc p a=true)(hb:isSpc p b=true)(hn:b.n=a.n){i:Nat}(hi:i<a.b.length):Sp p (addS p a b).b.length a.n.toNat (vecF (addS p a b).b) (vecF a.b i):=
 ((addS_ss ha hb hn).2 i (by omega)).cg fun j _=>by rw[vecF_app_l hi];exact .refl _
theorem addS_r{p:Int}{a b:Spc}(ha:isSpc p a=true)(hb:isSpc p b=true)(hn:b.n=a.n){i:Nat}(hi:i<b.b.length):Sp p (addS p a b).b.length a.n.toNat (vecF (addS p a b).b) (vecF b.b i):=
 ((addS_ss ha hb hn).2 (a.b.length+i) (by omega)).cg fun j _=>by rw[vecF_app_r];exact .refl _
theorem arrow_ok{r:Rep}(h:isRep r=true){i:Nat}(hi:i<r.m.length):isMat r.p (r.m.getD i default)=true∧(0≤r.q.fr.getD i default∧(r.q.fr.getD i default).toNat<r.d.length)∧(0≤r.q.to.getD i default∧(r.q.to.getD i default).toNat<r.d.length)∧(r.m.getD i default).c=r.d.getD (r.q.fr.getD i default).toNat default∧(r.m.getD i default).r=r.d.getD (r.q.to.getD i default).toNat default:=by
 obtain⟨h1,h2,h3,h4⟩:=isRep_spec h
 obtain⟨c1,c2,c3,_⟩:=areDims_spec h2
 have f:0≤r.q.fr.getD i default∧r.q.fr.getD i default<r.q.n:=okQ_fr c1 (by omega)
 have t:0≤r.q.to.getD i default∧r.q.to.getD i default<r.q.n:=okQ_to c1 (by omega)
 have hm:=h4 i hi
 simp only[fitM,Bool.and_eq_true,decide_eq_true_eq] at hm
 exact⟨hm.1.1,⟨f.1,by omega⟩,⟨t.1,by omega⟩,hm.1.2,hm.2⟩
theorem isSub_mk{r:Rep}{s:List Spc}(h1:isRep r=true)(h2:s.length=r.d.length)(h3:∀v,v<s.length→isSpc r.p (s.getD v default)=true∧(s.getD v default).n=r.d.getD v default)(h4:∀i,i<r.m.length→subAt r s i=true):isSub r s=true:=by
 simp only[isSub,Bool.and_eq_true,decide_eq_true_eq,List.all_eq_true]
 refine⟨h1,h2,fun v hv=>?_,fun i hi=>h4 i (by simpa using hi)⟩
 have:=h3 v (by simpa using hv)
 simpa[spcAt] using this
end Go.Proofs.YtjmjamhhppoimaaGreat.V
namespace Go.Proofs.YtjmjamhhppoimaaGreat.V
open V.Enc (enc)
open Go.RowKit G D
set_option linter.unusedVariables false
set_option linter.unusedSimpArgs false
set_option maxHeartbeats 4000000
set_option maxRecDepth 4000
attribute [local irreducible] AW ARg ARA ARet MRet ASil AC AM
def colK(r:Nat)(g:Nat→Int)(n:Nat):List Int:=rowL r fun j=>if j<n then g j else 0
theorem colK_len(r:Nat)(g:Nat→Int)(n:Nat):(colK r g n).length=r:=rowL_len ..
theorem colK_zero(r:Nat)(g:Nat→Int):colK r g 0=List.replicate r 0:=by
 apply List.ext_getElem (by simp[colK])
 intro i h1 h2
 simp[colK,rowL]
theorem colK_set(r:Nat)(g:Nat→Int)(n:Nat):(colK r g n).set n (g n)=colK r g (n+1):=by
 apply List.ext_getElem (by simp[colK])
 intro i h1 h2
 rw[List.getElem_set]
 simp only[colK,rowL,List.getElem_map,List.getElem_range]
 by_cases e:n=i
 ·subst e;simp
 ·have:i<n+1↔i<n:=by omega
  simp[e,this]
theorem colK_all(r:Nat)(g:Nat→Int):colK r g r=rowL r g:=by
 apply List.ext_getElem (by simp[colK])
 intro i h1 h2
 have:i<r:=by simpa using h2
 simp[colK,rowL,this]
theorem column_a(r c k:Nat)(f:Nat→Nat→Int)(hk:k<c)(hr:r≤1024)(hc:c≤1024):AC Tryz.prog 148 [.agg (enc false (tm r c f)),.i (k:Int)] [.dt true 1 (E true (rowL r fun i=>f i k))]:=by
 refine AC.go Tryz.func148 Tryz.ntmps148 rfl rfl fun w0 hw=>?_;simp[WfL,WfA,E_length,Enc.enc,In64] at hw
 repeat' first|refine s1 ?_|refine q1 ?_|(refine kR ?_;first|refine F.mk (m:=r) Int rfl rfl rfl (mkB (by omega)) (by omega) rfl rfl ?_)|fail
 refine F.loop (σ:=Nat) [6,12,13,14,15,16,17,18,19,20,21,22,23,24,25,26,27,28] (fun i=>[(12,.i i)]) (fun i=>[(1,.live false 1 (E true (colK r (fun i=>f i k) i)))]) (fun i=>i≤r) (fun i=>r-i) 0 ⟨rfl,trivial⟩ ⟨obE (by rw[colK_zero]),trivial⟩ (Nat.zero_le _) ?_
 rintro i i1
 by_cases hi:i<r
 ·obtain⟨t1,t2⟩:=tab_in (i:=i) (j:=k) (r:=r) (c:=c) hi hk hr hc
  have hs:=colK_set r (fun i=>f i k) i
  have hl:=colK_len r (fun i=>f i k) i
  generalize colK r (fun i=>f i k) i=X at hs hl⊢
  repeat' first|refine s1 ?_|refine q1 ?_|fail
  exact⟨i+1,F.fit ⟨rfl,trivial⟩ ⟨obE (by rw[Nat.zero_add,hs]),trivial⟩,by omega,by omega⟩
 ·obtain rfl:i=r:=by omega
  rw[colK_all]
  have hl:=rowL_len i (fun j=>f j k)
  generalize rowL i (fun j=>f j k)=X at hl⊢
  repeat' first|refine s1 ?_|refine q1 ?_|fail
  (refine kZ ?_;exact F.ret rfl)
theorem columns_a(r c:Nat)(f:Nat→Nat→Int)(hr:r≤1024)(hc:c≤1024):AC Tryz.prog 332 [.agg (enc false (tm r c f))] [.dt true 1 (E true (rowsL c r fun k i=>f i k))]:=by
 refine AC.go Tryz.func332 Tryz.ntmps332 rfl rfl fun w0 hw=>?_;simp[WfL,WfA,E_length,Enc.enc,In64] at hw
 repeat' first|refine s1 ?_|refine q1 ?_|fail
 refine AW.open 3 1 (.inl rfl) ?_
 refine F.loop (σ:=Nat) [3,4,7,8,9,10,11,12,13,14,15,16] (fun k=>[(3,.sl 1 k 0 k),(7,.i k)]) (fun k=>[(1,.live false 1 (E true ((rowsL c r fun k i=>f i k).take k)))]) (fun k=>k≤c) (fun k=>c-k) 0 ⟨rfl,rfl,trivial⟩ ⟨rfl,trivial⟩ (Nat.zero_le _) ?_
 rintro k k1
 have hll:=rowsL_len c r fun k i=>f i k
 have hp:((rowsL c r fun k i=>f i k).take k).length=k:=by rw[List.length_take];omega
 by_cases hk:k<c
 ·have hC:=column_a r c k f hk hr hc
  have hts:=rowsL_take r (fun k i=>f i k) hk
  have hrl:=rowL_len r (fun i=>f i k)
  generalize rowL r (fun i=>f i k)=X at hC hts hrl
  repeat' first|refine s1 ?_|refine q1 ?_|(refine kR ?_;first|refine F.c (hC) ?_|refine F.a1 (List Int) (a:=X) ?_)|fail
  exact⟨k+1,F.fit ⟨rfl,rfl,trivial⟩ ⟨obE (by rw[hts]),trivial⟩,by omega,by omega⟩
 ·obtain rfl:k=c:=by omega
  have e:(rowsL k r fun k i=>f i k).take k=rowsL k r fun k i=>f i k:=List.take_of_length_le (by omega)
  rw[e]
  clear hp e
  generalize (rowsL k r fun k i=>f i k)=X at hll⊢
  repeat' first|refine s1 ?_|refine q1 ?_|fail
  (refine kZ ?_;exact F.ret rfl)
theorem tab_succ(k n:Nat)(f:Nat→Nat→Int):tab (k+1) n f=tab k n f++rowL n (f k):=by
 unfold tab rowL
 rw[Nat.add_mul,Nat.one_mul,List.range_add,List.map_append,List.map_map]
 congr 1
 apply List.map_congr_left
 intro t ht
 have ht:t<n:=by simpa using ht
 have d:=tab_div (i:=k) ht
 show f ((k*n+t)/n) ((k*n+t)%n)=f k t
 rw[d.1,d.2]
theorem vec_row{l:List (List Int)}{n k:Nat}(h:(l.getD k default).length=n):rowL n (vecF l k)=l.getD k default:=rowL_of h
theorem flat_tab{l:List (List Int)}{n:Nat}(h:∀k,k<l.length→(l.getD k default).length=n):∀k,k≤l.length→(l.take k).flatten=tab k n (vecF l)
 |0,_=>by simp[tab]
 |k+1,hk=>by rw[flat_take l hk,flat_tab h k (by omega),tab_succ,vec_row (h k hk)]
theorem fromRows_a(n:Nat)(l:List (List Int))(hl:l.length≤1000)(hn:n≤1000)(h:∀k,k<l.length→(l.getD k default).length=n):AC Tryz.prog 370 [.i (n:Int),ar false l] [.agg (enc true (tm l.length n (vecF l)))]:=by
 refine AC.go Tryz.func370 Tryz.ntmps370 rfl rfl fun w0 hw=>?_;simp[WfL,WfA,E_length,Enc.enc,In64] at hw
 have e:=flat_tab h l.length (Nat.le_refl _)
 rw[List.take_length] at e
 have hb:l.length*n≤1000*1000:=Nat.mul_le_mul hl hn
 have hC:=concat_a l (by rw[e,tab_len];omega)
 rw[e] at hC
 unfold tm
 generalize tab l.length n (vecF l)=T at hC⊢
 repeat' first|refine s1 ?_|refine q1 ?_|(refine kR ?_;first|refine F.c (hC) ?_)|fail
 (refine kZ ?_;exact F.ret rfl)
theorem VecB.len{p:Int}{n:Nat}{l:List (List Int)}(h:VecB p n l):∀k,k<l.length→(l.getD k default).length=n:=fun k hk=>(h _ (gm hk)).1
theorem spanB_take{p:Int}{r n:Nat}{f:Nat→Nat→Int}{i:Nat}(hi:i<(redK p r f n).2.length):(spanB p r n f).take (i+1)=(spanB p r n f).take i++[rowL n ((redK p r f n).1 i)]:=rowsL_take n _ hi
theorem span_a(p:Int)(n:Nat)(l:List (List Int))(hF:isF p=true)(hl:l.length≤1000)(hn:n≤1000)(hv:VecB p n l):AC Tryz.prog 305 [.i p,.i (n:Int),ar false l] [.agg (enc true (⟨(n:Nat),spanL p n l⟩:Spc))]:=by
 refine AC.go Tryz.func305 Tryz.ntmps305 rfl rfl fun w0 hw=>?_;simp[WfL,WfA,E_length,Enc.enc,In64] at hw
 have h5:=isF_pos hF
 have hA:=fromRows_a n l hl hn hv.len
 have hR:=implReduce_a p l.length n (vecF l) hF (by omega) (by omega) hv.bd
 obtain⟨b1,b2,b3,b4⟩:=redK_bd (p:=p) (by omega) hv.bd n
 have hSl:=spanB_len p l.length n (vecF l)
 have hSt:=fun i hi=>spanB_take (p:=p) (r:=l.length) (n:=n) (f:=vecF l) (i:=i) hi
 unfold spanL
 generalize spanB p l.length n (vecF l)=SB at hSl hSt⊢
 generalize redK p l.length (vecF l) n=R at hR b1 b2 b3 b4 hSl hSt
 obtain⟨g,piv⟩:=R
 dsimp only at hR b1 b2 b3 b4 hSl hSt
 have hpl:=ints_len piv
 generalize ints piv=PI at hR hpl
 generalize tm l.length n (vecF l)=T0 at hA hR
 generalize hrr:l.length=r at*
 have hN:=tab_len r n g
 have hNb:r*n≤1048576:=tab_le (by omega) (by omega)
 repeat' first|refine s1 ?_|refine q1 ?_|(refine kR ?_;first|refine F.c (hA) ?_|refine F.c (hR) ?_)|fail
 refine AW.open 9 1 (.inl rfl) ?_
 refine F.loop (σ:=Nat) [9,10,21,22,23,24,25,26,27,28,29,30,31] (fun i=>[(9,.sl 5 i 0 i),(21,.i i)]) (fun i=>[(2,.live false 1 (E true (tab r n g))),(5,.live false 1 (E true (SB.take i)))]) (fun i=>i≤piv.length) (fun i=>piv.length-i) 0 ⟨rfl,rfl,trivial⟩ ⟨rfl,rfl,trivial⟩ (Nat.zero_le _) ?_
 rintro i i1
 have hp2:(SB.take i).length=i:=by rw[List.length_take];omega
 by_cases hi:i<piv.length
 ·have hir:i<r:=by omega
  have hRw:=row_m r n i g _ hN hir (by omega) (by omega)
  have hC:AC Tryz.prog 143 [ar false (((tab r n g).drop (i*n)).take n)] [.dt true 1 (E true (rowL n (g i)))]:=by
   rw[tab_row g hir]
   exact clone_a (rowL n (g i)) (by simp;omega)
  have hts:=hSt i hi
  have hrl:=rowL_len n (g i)
  generalize rowL n (g i)=X at hC hts hrl
  repeat' first|refine s1 ?_|refine q1 ?_|(refine kR ?_;first|refine F.m [2] (hRw) ?_|refine F.c (hC) ?_|refine F.a1 (List Int) (a:=X) ?_)|fail
  exact⟨i+1,F.fit ⟨rfl,rfl,trivial⟩ ⟨rfl,obE (by rw[hts]),trivial⟩,by omega,by omega⟩
 ·obtain rfl:i=piv.length:=by omega
  have e:SB.take piv.length=SB:=List.take_of_length_le (by omega)
  rw[e]
  rw[←hSl]
  clear hp2 e
  repeat' first|refine s1 ?_|refine q1 ?_|fail
  (refine kZ ?_;exact F.ret rfl)
theorem grow2_a(n:Nat)(hn:n≤1048576):AC Tryz.prog 354 [.nl,.i n] [.dt true 1 []]:=by
 refine AC.go Tryz.func354 Tryz.ntmps354 rfl rfl fun w0 hw=>?_;simp[WfL,WfA,E_length,Enc.enc,In64] at hw
 repeat' first|refine s1 ?_|refine q1 ?_|(refine kR ?_;first|refine F.sil (A.capN rfl) rfl rfl ?_|refine F.sil (A.slcN (lo:=0) (hi':=0) rfl rfl rfl (Nat.le_refl _) rfl) rfl rfl ?_|refine F.appZ (m:=n) (List Int) rfl rfl rfl (by omega) (by omega) (mkB (by omega)) (by omega) rfl rfl ?_|refine F.slcut (k:=0) rfl rfl (by simp[E_length]) rfl (Nat.zero_le _) rfl rfl rfl ?_)|(refine s2 ?_ ?_<;>intro hc<;>(try simp only[decide_eq_true_eq,decide_eq_false_iff_not,Bool.not_eq_true',Bool.not_eq_false'] at hc))|fail
 all_goals exact F.ret rfl
theorem concat2_w(ls:List (List (List Int)))(hn:ls.flatten.length≤1048576):AM Tryz.prog 263 [ar false ls] [] [.dt true 1 (E false ls.flatten)] []:=by
 refine AM.go Tryz.func263 Tryz.ntmps263 rfl rfl fun w0 mp hw=>?_;simp[WfL,WfA,E_length,Enc.enc,In64] at hw
 repeat' first|refine s1 ?_|refine q1 ?_|(refine s2 ?_ ?_<;>intro hc<;>(try simp only[decide_eq_true_eq,decide_eq_false_iff_not,Bool.not_eq_true',Bool.not_eq_false'] at hc))|fail
 refine F.loop (σ:=Nat) [3,5,11,12,13,14,15,16,17,18,19,20,21,22] (fun k=>[(3,.i ((ls.take k).flatten.length:Nat)),(11,.i k)]) (fun _=>[]) (fun k=>k≤ls.length) (fun k=>ls.length-k) 0 ⟨rfl,rfl,trivial⟩ trivial (Nat.zero_le _) ?_
 rintro k h1
 have hfl:=flat_le ls k
 by_cases hlt:k<ls.length
 ·have hf2:=flat_len ls hlt
  have hf3:=flat_le ls (k+1)
  repeat' first|refine s1 ?_|refine q1 ?_|fail
  refine⟨k+1,F.fit ⟨iE (by omega),rfl,trivial⟩ trivial,by omega,by omega⟩
 ·have hG:=grow2_a (ls.take k).flatten.length (by omega)
  repeat' first|refine s1 ?_|refine q1 ?_|(refine kR ?_;first|refine F.c (hG) ?_)|(refine s2 ?_ ?_<;>intro hc<;>(try simp only[decide_eq_true_eq,decide_eq_false_iff_not,Bool.not_eq_true',Bool.not_eq_false'] at hc))|fail
  obtain rfl:k=ls.length:=by omega
  refine F.loop (σ:=Nat) [6,8,27,28,29,30,31,32,33,34] (fun k=>[(6,.sl 0 (ls.take k).flatten.length 0 (ls.take k).flatten.length),(27,.i k)]) (fun k=>[(0,.live false 1 (E false (ls.take k).flatten))]) (fun k=>k≤ls.length) (fun k=>ls.length-k) 0 ⟨rfl,rfl,trivial⟩ ⟨rfl,trivial⟩ (Nat.zero_le _) ?_
  rintro k h1
  have hfl:=flat_le ls k
  by_cases hlt:k<ls.length
  ·have hf2:=flat_len ls hlt
   have hf3:=flat_le ls (k+1)
   repeat' first|refine s1 ?_|refine q1 ?_|(refine kR ?_;first|refine F.appL (α:=List Int) (oo:=false) rfl rfl rfl rfl .imm rfl rfl (by omega) (by omega) rfl rfl rfl rfl rfl ?_)|fail
   refine⟨k+1,F.fit ⟨slE (by omega),rfl,trivial⟩ ⟨obE (by rw[flat_take ls hlt]),trivial⟩,by omega,by omega⟩
  ·obtain rfl:k=ls.length:=by omega
   rw[List.take_length]
   repeat' first|refine s1 ?_|refine q1 ?_|fail
   refine kM ?_
   exact F.retM rfl trivial
theorem sumSpace_a(p:Int)(a b:Spc)(ha:isSpc p a=true)(hb:isSpc p b=true)(hn:b.n=a.n):AC Tryz.prog 199 [.i p,.agg (enc false a),.agg (enc false b)] [.agg (enc true (addS p a b))]:=by
 refine AC.go Tryz.func199 Tryz.ntmps199 rfl rfl fun w0 hw=>?_;simp[WfL,WfA,E_length,Enc.enc,In64] at hw
 obtain⟨h1,h2,h3,h4⟩:=isSpc_spec ha
 obtain⟨_,_,g3,g4⟩:=isSpc_spec hb
 rw[hn] at g4
 have hS:=span_a p a.n.toNat (a.b++b.b) h1 (by rw[List.length_append];omega) (by omega) (h4.app g4)
 rw[Int.toNat_of_nonneg h2.1] at hS
 rw[show(⟨a.n,spanL p a.n.toNat (a.b++b.b)⟩:Spc)=addS p a b from rfl] at hS
 have hC:=concat2_w [a.b,b.b] (by simp;omega)
 rw[show[a.b,b.b].flatten=a.b++b.b by simp] at hC
 generalize addS p a b=SS' at hS⊢
 repeat' first|refine s1 ?_|refine q1 ?_|fail
 refine AW.draw 10 G.mixed (by kernel_rfl) ?_
 refine Pz (.p 0<|.p 1<|.l 2<|.p 3<|.l 4<|.p 5<|.l 6<|.o 7 true<|.h 7<|.o 8 true<|.o 9 true<|.o 10 false<|.n) ?_
 repeat' first|(refine yH (i:=7) ?_ (fun h=>(dzA (α:=List (List Int)) (ls:=[a.b,b.b]) 14 rfl rfl rfl h)))|refine ySQ ?_|refine s1 ?_|refine q1 ?_|(refine kR ?_;first|refine F.w (hC) ?_|refine F.c (hS) ?_)|fail
 any_goals refine lf ?_
 all_goals
  repeat' first|refine s1 ?_|refine q1 ?_|fail
  (refine kZ ?_;exact F.ret rfl)
theorem zeroS_take{d:List Int}{k:Nat}(h:k<d.length):(d.take (k+1)).map (fun d=>(⟨d,[]⟩:Spc))=(d.take k).map (fun d=>(⟨d,[]⟩:Spc))++[⟨d.getD k default,[]⟩]:=by
 have e:d.getD k default=d[k]:=by simp[h]
 rw[List.take_succ_eq_append_getElem h,List.map_append,e]
 rfl
theorem zeroSub_a(r:Rep)(h:r.d.length≤1000):AC Tryz.prog 216 [.agg (enc false r)] [.dt true 2 (E true (radK r 0))]:=by
 refine AC.go Tryz.func216 Tryz.ntmps216 rfl rfl fun w0 hw=>?_;simp[WfL,WfA,E_length,Enc.enc,In64] at hw
 unfold radK
 repeat' first|refine s1 ?_|refine q1 ?_|fail
 refine AW.open 3 2 (.inl rfl) ?_
 refine F.loop (σ:=Nat) [3,5,9,10,11,12,13,14,15,16,17,18] (fun k=>[(3,.sl 1 k 0 k),(9,.i k)]) (fun k=>[(1,.live false 2 (E true ((r.d.take k).map fun d=>(⟨d,[]⟩:Spc))))]) (fun k=>k≤r.d.length) (fun k=>r.d.length-k) 0 ⟨rfl,rfl,trivial⟩ ⟨rfl,trivial⟩ (Nat.zero_le _) ?_
 rintro k k1
 have hp:((r.d.take k).map fun d=>(⟨d,[]⟩:Spc)).length=k:=by simp;omega
 by_cases hk:k<r.d.length
 ·have hts:=zeroS_take hk
  generalize (r.d.take k).map (fun d=>(⟨d,[]⟩:Spc))=X at hts hp⊢
  repeat' first|refine s1 ?_|refine q1 ?_|(refine kR ?_;first|refine F.a1 Spc (a:=⟨r.d.getD k default,[]⟩) ?_ (hmv:=.at1 rfl (.nl 1 .nil)))|fail
  exact⟨k+1,F.fit ⟨rfl,rfl,trivial⟩ ⟨obE (by rw[hts]),trivial⟩,by omega,by omega⟩
 ·obtain rfl:k=r.d.length:=by omega
  rw[List.take_length]
  have hml:(r.d.map fun d=>(⟨d,[]⟩:Spc)).length=r.d.length:=by simp
  rw[←hml]
  repeat' first|refine s1 ?_|refine q1 ?_|fail
  (refine kZ ?_;exact F.ret rfl)
section
variable {P : Program} {w0 : World} {MP : Fr} {E : Nat → AV} {hp : Nat → Ob} {nx : Nat} {d : Option Tmp} {ty t : TypeId} {pos : String} {af : Array Edge} {g : Option (Nat × Bool)} {x y : Operand}
theorem A.ldSG{sz bys:Nat}{zz:Value}[h1:Agg P t][hi:HasI P t sz bys zz]{esz o n k k1:Nat}{l:Bool}{xs:List (List AV)}{c:List AV}(hx:evA ⟨E,hp,nx⟩ x=.pt o n k1 0)(hh:hp o=.live l esz (xs.set k c))(hn:xs.length=n)(hk1:k1=k)(hk:k<xs.length)(hl:c.length=sz)(hs:c.all V.shr=true):
  ASil false P w0 MP ⟨E,hp,nx⟩ ⟨d,.load t x,ty,pos,af,g⟩ (.agg c):=by
 subst hk1
 exact A.ldRG (c:=c) (ds:=c) hx hh (by rw[List.length_set,hn]) (by simp[hk]) (by rw[List.drop_zero];exact List.take_of_length_le (by omega)) hl hs
end
theorem imgSpan_a{p:Int}{m:Mat}(h:isMat p m=true):AC Tryz.prog 305 [.i p,.i m.r,ar false (rowsL m.c.toNat m.r.toNat fun k i=>ent m i k)] [.agg (enc true (imgS p m))]:=by
 obtain⟨h0,h1,h2,h3,h4⟩:=isMat_spec h
 have hv:VecB p m.r.toNat (rowsL m.c.toNat m.r.toNat fun k i=>ent m i k):=VecB.rows fun k hk i hi=>ent_bd h i hi k hk
 have:=span_a p m.r.toNat _ h0 (by rw[rowsL_len];omega) (by omega) hv
 rw[Int.toNat_of_nonneg h1.1] at this
 exact this
theorem matCols_a{p:Int}{m:Mat}(h:isMat p m=true):AC Tryz.prog 332 [.agg (enc false m)] [.dt true 1 (E true (rowsL m.c.toNat m.r.toNat fun k i=>ent m i k))]:=by
 obtain⟨h0,h1,h2,h3,h4⟩:=isMat_spec h
 have:=columns_a m.r.toNat m.c.toNat (ent m) (by omega) (by omega)
 rw[isMat_tm h] at this
 exact this
def sameS(x y:Spc):Bool:=decide (x.n=y.n)&&decide (x.b=y.b)
def sameSL(f g:List Spc):Bool:=decide (f.length=g.length)&&(List.range f.length).all fun v=>sameS (f.getD v default) (g.getD v default)
end Go.Proofs.YtjmjamhhppoimaaGreat.V
