/- Texts that the proof needs: A71, C1, A64, A80, A83, A72, A87, A85. -/
import Derived.Test.YtjmjamhhppoimaaGreatQstA74
namespace Go.Proofs.YtjmjamhhppoimaaGreat.V
open V.Enc (enc)
open Go.RowKit G D
set_option linter.unusedVariables false
set_option linter.unusedSimpArgs false
set_option maxHeartbeats 4000000
set_option maxRecDepth 4000
attribute [local irreducible] AW ARg ARA ARet MRet ASil AC AM
theorem ent_fc(m:Mat)(v:List Int)(n r:Nat)(p:Int):tab r 1 (mulF p (ent m) (fcF [v]) n)=rowL r fun i=>sumN (fun k=>ent m i k*v.getD k default) n%p:=by
 rw[tab_one]
 refine rowL_ext fun i _=>?_
 unfold mulF
 rw[dotK_sum]
 rfl
theorem apply_a{p:Int}{m:Mat}{v:List Int}(hm:isMat p m=true)(hn:v.length=m.c.toNat)(hb:∀j,j<m.c.toNat→0≤v.getD j default∧v.getD j default≤p-1):AC Tryz.prog 131 [.i p,.agg (enc false m),ar false v] [.dt true 1 (E true (appV p m v))]:=by
 refine AC.go Tryz.func131 Tryz.ntmps131 rfl rfl fun w0 hw=>?_;simp[WfL,WfA,E_length,Enc.enc,In64] at hw
 obtain⟨h0,h1,h2,h3,h4⟩:=isMat_spec hm
 have hFC:=fromColumns_a m.c.toNat [v] (by omega) (by simp) (fun k hk=>by
  obtain rfl:k=0:=by simpa using hk
  exact hn)
 rw[show[v].length=1 from rfl,Int.toNat_of_nonneg h2.1] at hFC
 have hT:=times_a p m.r.toNat m.c.toNat 1 (ent m) (fcF [v]) h0 (by omega) (by omega) (by omega) (ent_bd hm) (fun i hi j hj=>by
  obtain rfl:j=0:=by omega
  exact hb i hi)
 rw[isMat_tm hm] at hT
 have e:tm m.r.toNat 1 (mulF p (ent m) (fcF [v]) m.c.toNat)=⟨(m.r.toNat:Int),1,appV p m v⟩:=by
  unfold tm appV
  rw[ent_fc];rfl
 rw[e] at hT
 generalize appV p m v=X at hT⊢
 generalize tm m.c.toNat 1 (fcF [v])=T1 at hFC hT
 repeat' first|refine s1 ?_|refine q1 ?_|fail
 refine AW.draw 10 G.mixed (by kernel_rfl) ?_
 refine Pz (.p 0<|.l 1<|.p 2<|.l 3<|.p 4<|.o 5 true<|.o 6 true<|.o 7 true<|.p 8<|.p 9<|.n) ?_
 repeat' first|refine yP (i:=8) ?_ (hs:=by exact(A.fldG ⟨Tryz.underlying112⟩ rfl (inferInstance:One Tryz.prog 24) rfl rfl))|refine ySQ ?_|refine s1 ?_|refine q1 ?_|(refine kR ?_;first|refine F.c (hFC) ?_|refine F.c (hT) ?_)|fail
 any_goals refine lf ?_
 all_goals
  repeat' first|refine s1 ?_|refine q1 ?_|fail
  (refine kZ ?_;exact F.ret rfl)
theorem imageOf_a{p:Int}{m:Mat}{s:Spc}(hm:isMat p m=true)(hs:isSpc p s=true)(hn:s.n=m.c):AC Tryz.prog 204 [.i p,.agg (enc false m),.agg (enc false s)] [.agg (enc true (imgSp p m s))]:=by
 refine AC.go Tryz.func204 Tryz.ntmps204 rfl rfl fun w0 hw=>?_;simp[WfL,WfA,E_length,Enc.enc,In64] at hw
 obtain⟨h0,h1,h2,h3,h4⟩:=isMat_spec hm
 obtain⟨_,_,g3,g4⟩:=isSpc_spec hs
 have hp:=isF_pos h0
 have hll:=imgL_len p m s
 have hS:=span_a p m.r.toNat (imgL p m s) h0 (by omega) (by omega) (imgL_vec (by omega) m s)
 rw[Int.toNat_of_nonneg h1.1,show(⟨m.r,spanL p m.r.toNat (imgL p m s)⟩:Spc)=imgSp p m s from rfl] at hS
 have hAp:=fun k (hk:k<s.b.length)=>apply_a hm (v:=s.b.getD k default) (by rw[(g4 _ (gm hk)).1,hn]) (fun j hj=>(g4 _ (gm hk)).2 j (by rw[hn];exact hj))
 have hIt:=fun k (hk:k<s.b.length)=>imgL_take p m s hk
 generalize imgSp p m s=IM at hS⊢
 generalize imgL p m s=L at hll hS hIt
 repeat' first|refine s1 ?_|refine q1 ?_|fail
 refine AW.open 7 1 (.inl rfl) ?_
 refine F.loop (σ:=Nat) [7,9,13,14,15,16,17,18,19,20,21,22,23,24] (fun k=>[(7,.sl 3 k 0 k),(13,.i k)]) (fun k=>[(3,.live false 1 (E true (L.take k)))]) (fun k=>k≤s.b.length) (fun k=>s.b.length-k) 0 ⟨rfl,rfl,trivial⟩ ⟨rfl,trivial⟩ (Nat.zero_le _) ?_
 rintro k k1
 have hp2:(L.take k).length=k:=by rw[List.length_take];omega
 by_cases hk:k<s.b.length
 ·have hA:=hAp k hk
  have hts:=hIt k hk
  generalize appV p m (s.b.getD k default)=X at hA hts
  repeat' first|refine s1 ?_|refine q1 ?_|(refine kR ?_;first|refine F.c (hA) ?_|refine F.a1 (List Int) (a:=X) ?_)|fail
  exact⟨k+1,F.fit ⟨rfl,rfl,trivial⟩ ⟨obE (by rw[hts]),trivial⟩,by omega,by omega⟩
 ·obtain rfl:k=s.b.length:=by omega
  have e:L.take s.b.length=L:=List.take_of_length_le (by omega)
  rw[e]
  rw[←hll]
  clear hp2 e
  repeat' first|refine s1 ?_|refine q1 ?_|(refine kR ?_;first|refine F.c (hS) ?_)|fail
  (refine kZ ?_;exact F.ret rfl)
theorem pivC_vec{p:Int}{m:Mat}(h:isMat p m=true):VecB p m.r.toNat (pivC m.r.toNat (ent m) (redK p m.r.toNat (ent m) m.c.toNat).2)∧(pivC m.r.toNat (ent m) (redK p m.r.toNat (ent m) m.c.toNat).2).length≤8:=by
 obtain⟨h0,h1,h2,h3,h4⟩:=isMat_spec h
 have hp:=isF_pos h0
 obtain⟨b1,b2,b3,b4⟩:=redK_bd (show 0<p by omega) (ent_bd h) m.c.toNat
 refine⟨fun x hx=>?_,by rw[pivC_len];omega⟩
 simp only[pivC,List.mem_map] at hx
 obtain⟨k,hk,rfl⟩:=hx
 exact⟨rowL_len ..,fun j hj=>by rw[rowL_get _ hj];exact ent_bd h j hj k (b4 k hk)⟩
def dimS(l:List Spc):List Int:=l.map fun s=>(s.b.length:Int)
theorem dimS_take{l:List Spc}{k:Nat}(h:k<l.length):dimS (l.take (k+1))=dimS (l.take k)++[((l.getD k default).b.length:Int)]:=by
 have e:l.getD k default=l[k]:=by simp[h]
 rw[dimS,List.take_succ_eq_append_getElem h,List.map_append,e]
 rfl
theorem dimS_len(l:List Spc):(dimS l).length=l.length:=by simp[dimS]
theorem subDims_a(l:List Spc)(hl:l.length≤1000)(hb:∀i,i<l.length→(l.getD i default).b.length≤1000):AC Tryz.prog 176 [ar false l] [.dt true 1 (E true (dimS l))]:=by
 refine AC.go Tryz.func176 Tryz.ntmps176 rfl rfl fun w0 hw=>?_;simp[WfL,WfA,E_length,Enc.enc,In64] at hw
 repeat' first|refine s1 ?_|fail
 refine AW.open 3 1 (.inl rfl) ?_
 refine F.loop (σ:=Nat) [3,5,8,9,10,11,12,13,14,15,16,17,18] (fun k=>[(3,.sl 0 k 0 k),(8,.i k)]) (fun k=>[(0,.live false 1 (E true (dimS (l.take k))))]) (fun k=>k≤l.length) (fun k=>l.length-k) 0 ⟨rfl,rfl,trivial⟩ ⟨rfl,trivial⟩ (Nat.zero_le _) ?_
 rintro k k1
 have hp:(dimS (l.take k)).length=k:=by rw[dimS_len,List.length_take];omega
 by_cases hk:k<l.length
 ·have hts:=dimS_take hk
  have hbk:=hb k hk
  generalize dimS (l.take k)=X at hts hp⊢
  repeat' first|refine s1 ?_|(refine kR ?_;first|refine F.a1 Int ?_)|fail
  exact⟨k+1,F.fit ⟨rfl,rfl,trivial⟩ ⟨obE (by rw[hts]),trivial⟩,by omega,by omega⟩
 ·obtain rfl:k=l.length:=by omega
  rw[List.take_length]
  have hml:=dimS_len l
  rw[←hml]
  repeat' first|refine s1 ?_|fail
  (refine kZ ?_;exact F.ret rfl)
def topK(d:List Int)(l:List Int)(k:Nat):List Int:=rowL l.length fun v=>if v<k then d.getD v default-l.getD v default else l.getD v default
def topD(r:Rep):List Int:=if isRep r=true then topK r.d (dimS (radL r)) r.d.length else[]
theorem kerV_bd{p:Int}{c:Nat}{g:Nat→Nat→Int}{piv:List Nat}{k:Nat}(hp:2≤p):∀n,∀j,j<c→0≤(kerV p c g piv k n).getD j default∧(kerV p c g piv k n).getD j default≤p-1
 |0,j,hj=>by
  have:=unitL_get (k:=k) hj
  show 0≤(unitL c k).getD j default∧_
  rw[kerV,this]
  split<;>omega
 |n+1,j,hj=>by
  rw[kerV]
  by_cases e:piv.getD n 0=j
  ·subst e
   rw[set_get (by rw[kerV_len];exact hj)]
   exact mod_bd (by omega)
  ·have e2:((kerV p c g piv k n).set (piv.getD n 0) (-(g n k)%p)).getD j default=(kerV p c g piv k n).getD j default:=set_ne e _
   rw[e2]
   exact kerV_bd hp n j hj
theorem kerL_vec{p:Int}{r c:Nat}{f:Nat→Nat→Int}(hp:2≤p):VecB p c (kerL p r c f):=fun x hx=>by
 simp only[kerL,List.mem_map] at hx
 obtain⟨k,_,rfl⟩:=hx
 exact⟨kerV_len ..,fun j hj=>kerV_bd hp _ j hj⟩
theorem kerL_le(p:Int)(r c:Nat)(f:Nat→Nat→Int):(kerL p r c f).length≤c:=by
 rw[kerL,List.length_map];exact freeL_le ..
def cmbV(p:Int)(n:Nat)(l:List (List Int))(k:List Int):Nat→List Int
 |0=>List.replicate n 0
 |m+1=>addK p (k.getD m default) 0 (l.getD m default) (cmbV p n l k m) n
theorem cmbV_len(p:Int)(n:Nat)(l:List (List Int))(k:List Int):∀m,(cmbV p n l k m).length=n
 |0=>by simp[cmbV]
 |m+1=>by rw[cmbV,addK_len,cmbV_len p n l k m]
theorem cmbV_bd{p:Int}{n:Nat}{l:List (List Int)}{k:List Int}(hp:2≤p):∀m,∀j,j<n→0≤(cmbV p n l k m).getD j default∧(cmbV p n l k m).getD j default≤p-1
 |0,j,hj=>by
  have:(cmbV p n l k 0).getD j default=0:=by simp[cmbV,hj]
  rw[this];omega
 |m+1,j,hj=>by
  have hl:=cmbV_len p n l k m
  have e:(cmbV p n l k (m+1)).getD j default=((cmbV p n l k m).getD j default+k.getD m default*(l.getD m default).getD j default)%p:=by
   rw[cmbV]
   simp only[addK,List.getD_eq_getElem?_getD,List.getElem?_map,List.getElem?_range (show j<(cmbV p n l k m).length by omega),Option.map_some,Option.getD_some]
   rw[if_pos (by omega)]
   rfl
  rw[e]
  exact mod_bd (by omega)
def kerS(p:Int)(m:Mat):Spc:=⟨m.c,spanL p m.c.toNat (kerL p m.r.toNat m.c.toNat (ent m))⟩
theorem kerS_ok{p:Int}{m:Mat}(h:isMat p m=true):isSpc p (kerS p m)=true:=by
 obtain⟨h0,h1,h2,h3,h4⟩:=isMat_spec h
 have hp:=isF_pos h0
 have:=isSpc_span h0 (show m.c.toNat≤8 by omega) (kerL_vec (r:=m.r.toNat) (c:=m.c.toNat) (f:=ent m) hp.1).bd
 rw[Int.toNat_of_nonneg h2.1] at this
 exact this
def idF:Nat→Nat→Int:=fun i j=>if i=j then 1 else 0
theorem idF_bd{p:Int}(hp:2≤p)(n:Nat):BdF p n n idF:=fun i _ j _=>by
 unfold idF;split<;>omega
theorem id_ech(n:Nat):Ech n n idF (List.range n):=by
 have hg:∀i,i<n→(List.range n).getD i 0=i:=fun i hi=>by simp[hi]
 refine⟨by simp,fun i hi=>?_,fun i j hij hj=>?_,fun i hi j hj=>?_,fun i hi=>?_,fun i hi j hj=>?_⟩
 ·simp at hi;rw[hg i hi];exact hi
 ·simp at hj;rw[hg i (by omega),hg j hj];exact hij
 ·simp at hi hj;rw[hg j hj];rfl
 ·simp at hi;intro h;omega
 ·simp at hi
  rw[hg i hi] at hj
  unfold idF
  rw[if_neg (by omega)]
theorem span_id{p:Int}{n:Nat}(hF:isF p=true):spanB p n n idF=rowsL n n idF:=by
 have hp:=isF_pos hF
 obtain⟨h1,h2⟩:=redK_ech hF (idF_bd hp.1 n) n (Nat.le_refl _)
 obtain⟨e1,e2⟩:=Ech.uniq hp.1 h1 (id_ech n) (redK_bd (by omega) (idF_bd hp.1 n) n).1 (idF_bd hp.1 n) h2.symm
 unfold spanB
 have hl:(redK p n idF n).2.length=n:=by rw[e1];simp
 rw[hl] at e2⊢
 exact rowsL_ext e2
def subF(p:Int)(m:Mat)(a b:Spc):Nat→Nat→Int:=fun i j=>(appV p m (a.b.getD j default)).getD (leadV (b.b.getD i default)).toNat default
def subM(p:Int)(m:Mat)(a b:Spc):Mat:=tm b.b.length a.b.length (subF p m a b)
def subA(r:Rep)(s:List Spc)(i:Nat):Mat:=subM r.p (r.m.getD i default) (s.getD (r.q.fr.getD i default).toNat default) (s.getD (r.q.to.getD i default).toNat default)
def subMs(r:Rep)(s:List Spc):List Mat:=(List.range r.m.length).map (subA r s)
def subR(r:Rep)(s:List Spc):Rep:=⟨r.p,r.q,dimS s,subMs r s⟩
theorem dimS_get{s:List Spc}{v:Nat}(h:v<s.length):(dimS s).getD v default=((s.getD v default).b.length:Int):=by simp[dimS,h]
theorem isSpc_le{p:Int}{s:Spc}(h:isSpc p s=true):s.b.length≤s.n.toNat:=by
 obtain⟨h1,h2,h3,h4⟩:=isSpc_spec h
 have hp:=isF_pos h1
 simp only[isSpc,Bool.and_eq_true,decide_eq_true_eq] at h
 have:=(spanB_le (show 0<p by omega) h4.bd).2
 rw[show spanB p s.b.length s.n.toNat (vecF s.b)=s.b from h.2] at this
 exact this
theorem sum_le:∀{a b:List Int},a.length=b.length→(∀j,j<a.length→a.getD j default≤b.getD j default)→a.sum≤b.sum
 |[],[],_,_=>by simp
 |x::a,y::b,hl,h=>by
  have h1:=h 0 (by simp)
  have h2:=sum_le (a:=a) (b:=b) (by simpa using hl) fun j hj=>by simpa using h (j+1) (by simpa using hj)
  simp only[List.getD_cons_zero] at h1
  simp only[List.sum_cons]
  omega
theorem sum_eq_of:∀{a b:List Int},a.length=b.length→(∀j,j<a.length→a.getD j default≤b.getD j default)→a.sum=b.sum→a=b
 |[],[],_,_,_=>rfl
 |x::a,y::b,hl,h,he=>by
  have h1:=h 0 (by simp)
  have hh:∀j,j<a.length→a.getD j default≤b.getD j default:=fun j hj=>by simpa using h (j+1) (by simpa using hj)
  have h2:=sum_le (a:=a) (b:=b) (by simpa using hl) hh
  simp only[List.getD_cons_zero] at h1
  simp only[List.sum_cons] at he
  have:x=y:=by omega
  subst this
  rw[sum_eq_of (by simpa using hl) hh (by omega)]
theorem sub_dims{r:Rep}{s:List Spc}(h:isSub r s=true):(dimS s).length=r.d.length∧(∀v,v<r.d.length→0≤(dimS s).getD v default∧(dimS s).getD v default≤r.d.getD v default)∧(dimS s).sum≤r.d.sum∧∀v,v<r.d.length→(dimS s).getD v default≤4:=by
 obtain⟨h1,h2,h3,h4⟩:=isSub_spec h
 obtain⟨r1,r2,r3,r4⟩:=isRep_spec h1
 obtain⟨c1,c2,c3,_⟩:=areDims_spec r2
 have hl:=dimS_len s
 have key:∀v,v<r.d.length→0≤(dimS s).getD v default∧(dimS s).getD v default≤r.d.getD v default:=fun v hv=>by
  obtain⟨a1,a2⟩:=h3 v (by omega)
  have hd:0≤r.d.getD v default∧r.d.getD v default≤4:=allIn_spec c3 hv
  have:=isSpc_le a1
  rw[dimS_get (by omega)]
  omega
 refine⟨by omega,key,sum_le (by omega) fun j hj=>(key j (by omega)).2,fun v hv=>?_⟩
 have hd:0≤r.d.getD v default∧r.d.getD v default≤4:=allIn_spec c3 hv
 have:=key v hv
 omega
theorem appV_unit{p:Int}{m:Mat}(h:isMat p m=true){i j:Nat}(hi:i<m.r.toNat)(hj:j<m.c.toNat):(appV p m (rowL m.c.toNat (idF j))).getD i default=ent m i j:=by
 rw[appV_get p m _ hi]
 have e:sumN (fun k=>ent m i k*(rowL m.c.toNat (idF j)).getD k default) m.c.toNat=ent m i j:=by
  rw[sumN_eq (g:=fun k=>(if k=j then 1 else 0)*ent m i k) _ fun k hk=>by
   rw[rowL_get _ hk,Int.mul_comm]
   unfold idF
   by_cases e:j=k
   ·subst e;rfl
   ·rw[if_neg e,if_neg (fun h=>e h.symm)],sumN_one,if_pos hj]
 rw[e]
 have:=ent_bd h i hi j hj
 exact Int.emod_eq_of_lt this.1 (by omega)
end Go.Proofs.YtjmjamhhppoimaaGreat.V
namespace Go.Proofs.YtjmjamhhppoimaaGreat.V
open V.Enc (enc)
open Go.RowKit G D
set_option linter.unusedVariables false
set_option linter.unusedSimpArgs false
set_option maxHeartbeats 4000000
set_option maxRecDepth 4000
attribute [local irreducible] AW ARg ARA ARet MRet ASil AC AM ARI
def mixL{α:Type}(x y:List α)(k:Nat):List α:=x.take k++y.drop k
theorem mixL_zero{α:Type}(x y:List α):mixL x y 0=y:=by simp[mixL]
theorem mixL_all{α:Type}{x y:List α}(h:x.length=y.length):mixL x y x.length=x:=by
 unfold mixL
 rw[List.take_length,List.drop_of_length_le (by omega),List.append_nil]
theorem mixL_len{α:Type}{x y:List α}(h:x.length=y.length)(k:Nat):(mixL x y k).length=y.length:=by
 simp[mixL];omega
theorem mixL_set{α:Type}[Inhabited α]{x y:List α}(h:x.length=y.length){k:Nat}(hk:k<x.length):(mixL x y k).set k (x.getD k default)=mixL x y (k+1):=by
 unfold mixL
 have h2:k-(x.take k).length=0:=by simp;omega
 have h3:y.drop k=y[k]'(by omega)::y.drop (k+1):=List.drop_eq_getElem_cons (by omega)
 rw[h3,List.set_append_right _ _ (by simp;omega),h2,List.set_cons_zero,List.take_succ_eq_append_getElem hk,List.append_assoc]
 congr 1
 simp[hk]
theorem mixL_get{α:Type}[Inhabited α]{x y:List α}(h:x.length=y.length){k:Nat}(hk:k<y.length):(mixL x y k).getD k default=y.getD k default:=by
 unfold mixL
 have h3:y.drop k=y[k]'(by omega)::y.drop (k+1):=List.drop_eq_getElem_cons (by omega)
 have h2:(x.take k).length=k:=by simp;omega
 rw[h3]
 simp[List.getElem?_append_right,h2,hk]
theorem isVec_of{p:Int}{v:List Int}(hF:isF p=true)(hl:v.length≤64)(hb:∀j,j<v.length→0≤v.getD j default∧v.getD j default≤p-1):isVec p v=true:=by
 simp only[isVec,Bool.and_eq_true,decide_eq_true_eq]
 exact⟨⟨hF,hl⟩,allIn_all hb⟩
theorem specApply_a{p:Int}{m:Mat}{v:List Int}(hm:isMat p m=true)(hn:v.length=m.c.toNat)(hb:∀j,j<m.c.toNat→0≤v.getD j default∧v.getD j default≤p-1):AC Tryz.prog 138 [.i p,.agg (enc false m),ar false v] [.dt true 1 (E true (appV p m v)),.b true]:=by
 refine AC.go Tryz.func138 Tryz.ntmps138 rfl rfl fun w0 hw=>?_;simp[WfL,WfA,E_length,Enc.enc,In64] at hw
 obtain⟨h0,h1,h2,h3,h4⟩:=isMat_spec hm
 have hM:=specIsMatrix_a p m
 rw[hm] at hM
 have hV:=specIsVector_a p v
 rw[isVec_of h0 (by omega) (fun j hj=>hb j (by omega))] at hV
 have hT:=l3Multiply_a p m.r.toNat m.c.toNat 1 (ent m) (fcF [v]) h0 (by omega) (by omega) (by omega) (ent_bd hm) (fun i hi j hj=>by
  obtain rfl:j=0:=by omega
  exact hb i hi)
 rw[isMat_tm hm] at hT
 have e:tm m.r.toNat 1 (mulF p (ent m) (fcF [v]) m.c.toNat)=⟨(m.r.toNat:Int),1,appV p m v⟩:=by
  unfold tm appV
  rw[ent_fc];rfl
 have e0:tm m.c.toNat 1 (fcF [v])=⟨(v.length:Int),1,v⟩:=by
  unfold tm
  rw[tab_one,hn]
  congr 1
  exact rowL_of hn
 rw[e,e0] at hT
 have hcn:(v.length:Int)=m.c:=by omega
 generalize appV p m v=X at hT⊢
 repeat' first|refine s1 ?_|refine q1 ?_|(refine kR ?_;first|refine F.c (hM) ?_|refine F.c (hV) ?_)|fail
 refine AW.draw 12 G.mixed (by kernel_rfl) ?_
 refine Pz (.p 0<|.l 1<|.p 2<|.p 3<|.p 5<|.o 4 true<|.o 6 true<|.p 7<|.o 8 true<|.p 9<|.p 10<|.p 11<|.n) ?_
 repeat' first|refine yP (i:=9) ?_ (hs:=by exact(A.fldG ⟨Tryz.underlying112⟩ rfl (inferInstance:One Tryz.prog 24) rfl rfl))|(refine yU (i:=6) ?_;first|refine s1 ?_|refine F.aLN Int (oo:=true) ?_)|refine ySQ ?_|refine s1 ?_|refine q1 ?_|(refine kR ?_;first|refine F.c (hT) ?_)|fail
 any_goals refine lf ?_
 all_goals
  repeat' first|refine s1 ?_|refine q1 ?_|fail
  (refine kZ ?_;exact F.ret rfl)
theorem unit_bd{p:Int}(hp:2≤p)(n k:Nat):∀j,j<n→0≤(unitL n k).getD j default∧(unitL n k).getD j default≤p-1:=fun j hj=>by
 rw[unitL_get hj];split<;>omega
theorem ent_tm{r c i j:Nat}(f:Nat→Nat→Int)(hi:i<r)(hj:j<c):ent (tm r c f) i j=f i j:=by
 unfold ent tm
 dsimp only
 rw[Int.toNat_natCast,tab_get f hi hj]
theorem zeroMs_get(q:Quiv)(d:List Int){i:Nat}(hi:i<q.fr.length):(zeroMs q d).getD i default=zeroM (gI d (q.to.getD i default)) (gI d (q.fr.getD i default)):=by simp[zeroMs,hi]
end Go.Proofs.YtjmjamhhppoimaaGreat.V
