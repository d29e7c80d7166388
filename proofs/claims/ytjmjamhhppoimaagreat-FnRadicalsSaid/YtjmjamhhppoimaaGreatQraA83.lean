/- Texts that the proof needs: A83. -/
import Derived.Test.YtjmjamhhppoimaaGreatQraA87
namespace Go.Proofs.YtjmjamhhppoimaaGreat.V
open V.Enc (enc)
open Go.RowKit G D
set_option linter.unusedVariables false
set_option linter.unusedSimpArgs false
set_option maxHeartbeats 4000000
set_option maxRecDepth 4000
attribute [local irreducible] AW ARg ARA ARet MRet ASil AC AM ARI
def leadL(s:Spc):List Int:=s.b.map leadV
theorem leadL_len(s:Spc):(leadL s).length=s.b.length:=by simp[leadL]
theorem leadL_get(s:Spc){i:Nat}(h:i<s.b.length):(leadL s).getD i default=leadV (s.b.getD i default):=by simp[leadL,h]
theorem leadings_a(s:Spc)(hl:s.b.length≤1000):AC Tryz.prog 308 [.agg (enc false s)] [.dt true 1 (E true (leadL s))]:=by
 refine AC.go Tryz.func308 Tryz.ntmps308 rfl rfl fun w0 hw=>?_;simp[WfL,WfA,E_length,Enc.enc,In64] at hw
 have hll:=leadL_len s
 have hts:=fun k (hk:k<s.b.length)=>map_take leadV (l:=s.b) hk
 rw[show s.b.map leadV=leadL s from rfl] at hts
 generalize leadL s=L at hll hts⊢
 repeat' first|refine s1 ?_|fail
 refine AW.open 3 1 (.inl rfl) ?_
 refine F.loop (σ:=Nat) [3,5,9,10,11,12,13,14,15,16,17,18] (fun k=>[(3,.sl 1 k 0 k),(9,.i k)]) (fun k=>[(1,.live false 1 (E true (L.take k)))]) (fun k=>k≤s.b.length) (fun k=>s.b.length-k) 0 ⟨rfl,rfl,trivial⟩ ⟨rfl,trivial⟩ (Nat.zero_le _) ?_
 rintro k k1
 have hp:(L.take k).length=k:=by rw[List.length_take];omega
 by_cases hk:k<s.b.length
 ·have ht:=hts k hk
  have hL:=leading_a (s.b.getD k default)
  generalize leadV (s.b.getD k default)=y at ht hL
  repeat' first|refine s1 ?_|(refine kR ?_;first|refine F.c (hL) ?_|refine F.a1 Int ?_)|fail
  exact⟨k+1,F.fit ⟨rfl,rfl,trivial⟩ ⟨obE (by rw[ht]),trivial⟩,by omega,by omega⟩
 ·obtain rfl:k=s.b.length:=by omega
  have e:L.take s.b.length=L:=List.take_of_length_le (by omega)
  rw[e]
  rw[←hll]
  clear hp e
  repeat' first|refine s1 ?_|fail
  (refine kZ ?_;exact F.ret rfl)
def corL(p:Int)(m:Mat)(b:Spc)(v:List Int):List Int:=rowL b.b.length fun i=>(appV p m v).getD (leadV (b.b.getD i default)).toNat default
def cooL(p:Int)(m:Mat)(a b:Spc):List (List Int):=a.b.map (corL p m b)
theorem cooL_len(p:Int)(m:Mat)(a b:Spc):(cooL p m a b).length=a.b.length:=by simp[cooL]
theorem cooL_get(p:Int)(m:Mat)(a b:Spc){j:Nat}(hj:j<a.b.length):(cooL p m a b).getD j default=corL p m b (a.b.getD j default):=by simp[cooL,hj]
theorem cooL_tm(p:Int)(m:Mat)(a b:Spc):tm b.b.length (cooL p m a b).length (fcF (cooL p m a b))=subM p m a b:=by
 unfold subM tm
 rw[cooL_len]
 congr 1
 refine tab_ext fun i hi j hj=>?_
 unfold fcF
 have e:(cooL p m a b).getD j default=corL p m b (a.b.getD j default):=by simp[cooL,hj]
 rw[e,corL,rowL_get _ hi]
 rfl
def mixL{α:Type}(x y:List α)(k:Nat):List α:=x.take k++y.drop k
theorem mixL_zero{α:Type}(x y:List α):mixL x y 0=y:=by simp[mixL]
theorem mixL_all{α:Type}{x y:List α}(h:x.length=y.length):mixL x y x.length=x:=by
 unfold mixL
 rw[List.take_length,List.drop_of_length_le (by omega),List.append_nil]
theorem mixL_len{α:Type}{x y:List α}(h:x.length=y.length)(k:Nat):(mixL x y k).length=y.length:=by
 simp[mixL];omega
theorem mixL_set{α:Type}[Inhabited α]{x y:List α}(h:x.length=y.length){k:Nat}(hk:k<x.length):(mixL x y k).set k (x.getD k default)=mixL x y (k+1):=by
 unfold mixL
 have h2:k-(x.take k).length=0:=by simp;omega
 have h3:y.drop k=y[k]'(by omega)::y.drop (k+1):=List.drop_eq_getElem_cons (by omega)
 rw[h3,List.set_append_right _ _ (by simp;omega),h2,List.set_cons_zero,List.take_succ_eq_append_getElem hk,List.append_assoc]
 congr 1
 simp[hk]
theorem mixL_get{α:Type}[Inhabited α]{x y:List α}(h:x.length=y.length){k:Nat}(hk:k<y.length):(mixL x y k).getD k default=y.getD k default:=by
 unfold mixL
 have h3:y.drop k=y[k]'(by omega)::y.drop (k+1):=List.drop_eq_getElem_cons (by omega)
 have h2:(x.take k).length=k:=by simp;omega
 rw[h3]
 simp[List.getElem?_append_right,h2,hk]
def subP(r:Rep)(s:List Spc):Rep×List Mat×Bool:=if isSub r s=true then(subR r s,incL s,true) else(⟨0,⟨0,[],[]⟩,[],[]⟩,[],false)
theorem subRep_a (r : Rep) (s : List Spc) (h : isSub r s = true) : AC Tryz.prog 185 [.agg (enc false r), ar false s] [.agg (enc true (subR r s)), .dt true 3 (E true (incL s))] := by
  refine AC.go Tryz.func185 Tryz.ntmps185 rfl rfl fun w0 hw => ?_; simp [WfL, WfA, E_length, Enc.enc, In64] at hw
  obtain ⟨h1, h2, h3, h4⟩ := isSub_spec h
  obtain ⟨r1, r2, r3, r4⟩ := isRep_spec h1
  obtain ⟨c1, c2, c3, _⟩ := areDims_spec r2
  have h5 := okQ_spec c1
  obtain ⟨d1, d2, d3, d4⟩ := sub_dims h
  have hD := subDims_a s (by omega) (fun i hi => by have := (isSpc_spec (h3 i hi).1).2.2.1; omega)
  have hZ := zeroRep_a r.p r.q (dimS s) c1 (by omega) (fun j hj => by have := (d2 j (by omega)).1; have := d4 j (by omega); omega)
  have hzl := zeroMs_len r.q (dimS s)
  have hml := subMs_len r s
  have hxy : (subMs r s).length = (zeroMs r.q (dimS s)).length := by omega
  have hmx := mixL_len hxy
  have hms := fun k hk => mixL_set hxy (k := k) hk
  have hm0 := mixL_zero (subMs r s) (zeroMs r.q (dimS s))
  have hma := mixL_all hxy
  have hil := incL_len s
  have hit := fun k hk => incL_take (s := s) (k := k) hk
  unfold subR
  have hsg := fun i (hi : i < r.m.length) => subMs_get r s hi
  generalize subMs r s = SM at hml hxy hmx hms hm0 hma hsg ⊢
  generalize hZM : zeroMs r.q (dimS s) = ZM at hzl hxy hmx hms hm0 hma
  generalize incL s = IL at hil hit ⊢
  have hdl := dimS_len s
  generalize dimS s = DS at hD hZ hZM hdl d1 d2 ⊢
  have hzm : (zeroR r.p r.q DS).m.length = ZM.length := by rw [← hZM]
  have hzm2 : (zeroMs r.q DS).length = ZM.length := by rw [← hZM]
  repeat' first | refine s1 ?_ | fail
  refine AW.draw 8 G.mixed (by kernel_rfl) ?_
  refine Pz (.p 0 <| .l 1 <| .p 2 <| .l 3 <| .p 4 <| .a [(5, true, .a [(6, true, .o 7 true <| .o 8 false <| .n), (7, true, .o 6 true <| .o 8 false <| .n)]), (7, true, .o 5 true <| .o 6 true <| .o 8 false <| .n)]) ?_
  repeat' first | refine yS ?_ | refine s1 ?_ | refine yC ?_ ?_ | exact trivial | (refine kR ?_; first | refine F.c (hD) ?_ | refine F.c (hZ) ?_) | fail
  any_goals refine lf ?_
  all_goals try
   (
    repeat' first | refine s1 ?_ | fail
    refine F.loop (σ := Nat) [7, 8, 9, 10, 12, 13, 14, 16, 30, 31, 32, 33, 34, 35, 36, 37, 38, 39, 40, 41, 42, 43, 44, 45, 46, 47, 48, 49, 50, 51, 52, 53, 54, 55, 56, 57, 58, 59, 60, 61, 62, 63, 64, 65, 66, 67, 68, 69, 70, 71, 72, 73, 74, 75, 76, 77, 78, 79, 80, 81, 82, 83, 84, 85, 86, 87, 88, 89, 90, 91, 92, 93] (fun k => [(30, .i k)]) (fun k => [(6, .live false 3 (E true (mixL SM ZM k)))]) (fun k => k ≤ r.m.length) (fun k => r.m.length - k) 0 ⟨rfl, trivial⟩ ⟨obE (by rw [hm0, ← hZM]), trivial⟩ (Nat.zero_le _) ?_
    rintro k k1
    have hlk := hmx k
    by_cases hk : k < r.m.length
    · obtain ⟨m1, m2, m3, m4, m5⟩ := arrow_ok h1 hk
      have hF1 : (r.q.fr.getD k default).toNat < s.length := by omega
      have hT1 : (r.q.to.getD k default).toNat < s.length := by omega
      have hkf : k < r.q.fr.length := by omega
      have hkt : k < r.q.to.length := by omega
      obtain ⟨f1, f2⟩ := h3 _ hF1
      obtain ⟨t1, t2⟩ := h3 _ hT1
      have hsk := hms k (by omega)
      have hsgk : SM.getD k default = subM r.p (r.m.getD k default) (s.getD (r.q.fr.getD k default).toNat default) (s.getD (r.q.to.getD k default).toNat default) := hsg k hk
      rw [hsgk] at hsk
      have hct := cooL_tm r.p (r.m.getD k default) (s.getD (r.q.fr.getD k default).toNat default) (s.getD (r.q.to.getD k default).toNat default)
      have hcl := cooL_len r.p (r.m.getD k default) (s.getD (r.q.fr.getD k default).toNat default) (s.getD (r.q.to.getD k default).toNat default)
      obtain ⟨w1, w2, w3, w4⟩ := isSpc_spec f1
      obtain ⟨_, _, v3, v4⟩ := isSpc_spec t1
      have hFC := fromColumns_a (s.getD (r.q.to.getD k default).toNat default).b.length (cooL r.p (r.m.getD k default) (s.getD (r.q.fr.getD k default).toNat default) (s.getD (r.q.to.getD k default).toNat default)) (by omega) (by omega) (fun j hj => by
        rw [hcl] at hj
        rw [cooL_get r.p _ _ _ hj]; exact rowL_len ..)
      rw [hct] at hFC
      have hLd := leadings_a (s.getD (r.q.to.getD k default).toNat default) (by omega)
      have hct2 := fun j (hj : j < (s.getD (r.q.fr.getD k default).toNat default).b.length) => map_take (corL r.p (r.m.getD k default) (s.getD (r.q.to.getD k default).toNat default)) hj
      have hll := leadL_len (s.getD (r.q.to.getD k default).toNat default)
      have hlg := fun i (hi : i < (s.getD (r.q.to.getD k default).toNat default).b.length) => leadL_get _ hi
      have hlb := fun i (hi : i < (s.getD (r.q.to.getD k default).toNat default).b.length) => lead_lt t1 hi
      rw [t2, ← m5] at hlb
      have hAp := fun j (hj : j < (s.getD (r.q.fr.getD k default).toNat default).b.length) => apply_a m1 (v := (s.getD (r.q.fr.getD k default).toNat default).b.getD j default) (by rw [(w4 _ (gm hj)).1, f2, m4]) (fun t ht => (w4 _ (gm hj)).2 t (by rw [f2, ← m4]; exact ht))
      change ∀ j, j < (s.getD (r.q.fr.getD k default).toNat default).b.length → (cooL r.p (r.m.getD k default) (s.getD (r.q.fr.getD k default).toNat default) (s.getD (r.q.to.getD k default).toNat default)).take (j + 1) = (cooL r.p (r.m.getD k default) (s.getD (r.q.fr.getD k default).toNat default) (s.getD (r.q.to.getD k default).toNat default)).take j ++ [corL r.p (r.m.getD k default) (s.getD (r.q.to.getD k default).toNat default) ((s.getD (r.q.fr.getD k default).toNat default).b.getD j default)] at hct2
      generalize subM r.p (r.m.getD k default) (s.getD (r.q.fr.getD k default).toNat default) (s.getD (r.q.to.getD k default).toNat default) = SA at hsk hFC
      generalize cooL r.p (r.m.getD k default) (s.getD (r.q.fr.getD k default).toNat default) (s.getD (r.q.to.getD k default).toNat default) = CL at hcl hFC hct2
      generalize hLDe : leadL (s.getD (r.q.to.getD k default).toNat default) = LD at hLd hll hlg
      generalize mixL SM ZM k = X at hlk hsk ⊢
      repeat' first | refine s1 ?_ | fail
      refine AW.open 10 1 (.inl rfl) ?_
      refine F.loop (σ := Nat) [10, 12, 13, 14, 16, 55, 56, 57, 58, 59, 60, 61, 62, 63, 64, 65, 66, 67, 68, 69, 70, 71, 72, 73, 74, 75, 76, 77, 78, 79, 80, 81, 82, 83] (fun j => [(10, .sl 10 j 0 j), (55, .i j)]) (fun j => [(10, .live false 1 (E true (CL.take j)))]) (fun j => j ≤ (s.getD (r.q.fr.getD k default).toNat default).b.length) (fun j => (s.getD (r.q.fr.getD k default).toNat default).b.length - j) 0 ⟨rfl, rfl, trivial⟩ ⟨rfl, trivial⟩ (Nat.zero_le _) ?_
      rintro j j1
      have hp2 : (CL.take j).length = j := by rw [List.length_take]; omega
      by_cases hj : j < (s.getD (r.q.fr.getD k default).toNat default).b.length
      · have hA := hAp j hj
        have hts := hct2 j hj
        unfold corL at hts
        have hIl := appV_len r.p (r.m.getD k default) ((s.getD (r.q.fr.getD k default).toNat default).b.getD j default)
        generalize appV r.p (r.m.getD k default) ((s.getD (r.q.fr.getD k default).toNat default).b.getD j default) = IM at hA hts hIl
        have hrt := fun i hi => rowL_take (r := (s.getD (r.q.to.getD k default).toNat default).b.length) (k := i) (fun i => IM.getD (leadV ((s.getD (r.q.to.getD k default).toNat default).b.getD i default)).toNat default) hi
        have hrl := rowL_len (s.getD (r.q.to.getD k default).toNat default).b.length (fun i => IM.getD (leadV ((s.getD (r.q.to.getD k default).toNat default).b.getD i default)).toNat default)
        generalize (rowL (s.getD (r.q.to.getD k default).toNat default).b.length fun i => IM.getD (leadV ((s.getD (r.q.to.getD k default).toNat default).b.getD i default)).toNat default) = CO at hts hrt hrl
        repeat' first | refine s1 ?_ | (refine kR ?_; first | refine F.c (hA) ?_ | refine F.c (hLd) ?_) | fail
        refine AW.open 14 1 (.inl rfl) ?_
        refine F.loop (σ := Nat) [14, 16, 67, 68, 69, 70, 71, 72, 73, 74, 75, 76, 77, 78] (fun i => [(14, .sl 13 i 0 i), (67, .i i)]) (fun i => [(13, .live false 1 (E true (CO.take i)))]) (fun i => i ≤ (s.getD (r.q.to.getD k default).toNat default).b.length) (fun i => (s.getD (r.q.to.getD k default).toNat default).b.length - i) 0 ⟨rfl, rfl, trivial⟩ ⟨rfl, trivial⟩ (Nat.zero_le _) ?_
        rintro i i1
        have hp3 : (CO.take i).length = i := by rw [List.length_take]; omega
        by_cases hi : i < (s.getD (r.q.to.getD k default).toNat default).b.length
        · have hti := hrt i hi
          obtain ⟨lb0, lb1⟩ := hlb i hi
          rw [← hlg i hi] at hti lb0 lb1
          rw [← Nat.zero_add i] at lb0 lb1
          repeat' first | refine s1 ?_ | (refine kR ?_; first | refine F.a1 Int ?_) | fail
          exact ⟨i + 1, F.fit ⟨rfl, rfl, trivial⟩ ⟨obE (by rw [hti]; simp), trivial⟩, by omega, by omega⟩
        · obtain rfl : i = (s.getD (r.q.to.getD k default).toNat default).b.length := by omega
          have e : CO.take (s.getD (r.q.to.getD k default).toNat default).b.length = CO := List.take_of_length_le (by omega)
          rw [e]
          rw [← hrl]
          clear hp3 e
          repeat' first | refine s1 ?_ | (refine kR ?_; first | refine F.a1 (List Int) (a := CO) ?_) | fail
          exact ⟨j + 1, F.fit ⟨rfl, rfl, trivial⟩ ⟨obE (by rw [hts]), trivial⟩, by omega, by omega⟩
      · obtain rfl : j = (s.getD (r.q.fr.getD k default).toNat default).b.length := by omega
        have e : CL.take (s.getD (r.q.fr.getD k default).toNat default).b.length = CL := List.take_of_length_le (by omega)
        rw [e]
        rw [← hcl]
        clear hp2 e
        repeat' first | refine s1 ?_ | fail
        refine AW.draw 9 G.mixed (by kernel_rfl) ?_
        refine Pz (.p 0 <| .l 1 <| .p 2 <| .p 3 <| .l 4 <| .p 5 <| .p 6 <| .o 7 true <| .p 8 <| .o 9 false <| .n) ?_
        repeat' first | (refine yU (i := 9) ?_; first | refine s1 ?_ | (refine F.stGE (α := Mat) (oo := true) (v := SA) rfl rfl rfl rfl rfl (by omega) (by omega) (.at1 rfl (.at1 rfl (.mv rfl (by simp) (E_length _ _) (E_pure _ _) .nil))) rfl rfl rfl rfl rfl ?_)) | refine yS ?_ | refine s1 ?_ | (refine kR ?_; first | refine F.c (hFC) ?_) | fail
        any_goals refine lf ?_
        all_goals
          rw [Nat.zero_add k]
          repeat' first | refine s1 ?_ | fail
          exact ⟨k + 1, F.fit ⟨rfl, trivial⟩ ⟨obE (by rw [hsk]), trivial⟩, by omega, by omega⟩
    · obtain rfl : k = r.m.length := by omega
      have hma' : mixL SM ZM r.m.length = SM := by rw [← hml]; exact hma
      rw [hma'] at hlk ⊢
      have hSl : SM.length = r.q.fr.length := by omega
      repeat' first | refine s1 ?_ | fail
      refine AW.open 17 3 (.inl rfl) ?_
      refine F.loop (σ := Nat) [17, 19, 96, 97, 98, 99, 100, 101, 102, 103, 104, 105, 106, 107, 108] (fun v => [(17, .sl 8 v 0 v), (96, .i v)]) (fun v => [(8, .live false 3 (E true (IL.take v)))]) (fun v => v ≤ s.length) (fun v => s.length - v) 0 ⟨rfl, rfl, trivial⟩ ⟨rfl, trivial⟩ (Nat.zero_le _) ?_
      rintro v v1
      have hp4 : (IL.take v).length = v := by rw [List.length_take]; omega
      by_cases hv : v < s.length
      · obtain ⟨a1, a2⟩ := h3 v hv
        obtain ⟨w1, w2, w3, w4⟩ := isSpc_spec a1
        have hFC := fromColumns_a (s.getD v default).n.toNat (s.getD v default).b (by omega) (by omega) w4.len
        have hti := hit v hv
        rw [Int.toNat_of_nonneg w2.1, show tm (s.getD v default).n.toNat (s.getD v default).b.length (fcF (s.getD v default).b) = incM (s.getD v default) from rfl] at hFC
        generalize incM (s.getD v default) = IM at hFC hti
        repeat' first | refine s1 ?_ | (refine kR ?_; first | refine F.c (hFC) ?_ | refine F.a1 Mat (a := IM) ?_) | fail
        exact ⟨v + 1, F.fit ⟨rfl, rfl, trivial⟩ ⟨obE (by rw [hti]), trivial⟩, by omega, by omega⟩
      · obtain rfl : v = s.length := by omega
        have e : IL.take s.length = IL := List.take_of_length_le (by omega)
        rw [e]
        rw [← hil]
        clear hp4 e
        repeat' first | refine s1 ?_ | fail
        (refine kZ ?_; exact F.ret rfl))
  all_goals try
   (
    repeat' first | refine s1 ?_ | fail
    refine F.loop (σ := Nat) [7, 8, 9, 10, 12, 13, 14, 16, 30, 31, 32, 33, 34, 35, 36, 37, 38, 39, 40, 41, 42, 43, 44, 45, 46, 47, 48, 49, 50, 51, 52, 53, 54, 55, 56, 57, 58, 59, 60, 61, 62, 63, 64, 65, 66, 67, 68, 69, 70, 71, 72, 73, 74, 75, 76, 77, 78, 79, 80, 81, 82, 83, 84, 85, 86, 87, 88, 89, 90, 91, 92, 93] (fun k => [(30, .i k)]) (fun k => [(7, .live false 3 (E true (mixL SM ZM k)))]) (fun k => k ≤ r.m.length) (fun k => r.m.length - k) 0 ⟨rfl, trivial⟩ ⟨obE (by rw [hm0, ← hZM]), trivial⟩ (Nat.zero_le _) ?_
    rintro k k1
    have hlk := hmx k
    by_cases hk : k < r.m.length
    · obtain ⟨m1, m2, m3, m4, m5⟩ := arrow_ok h1 hk
      have hF1 : (r.q.fr.getD k default).toNat < s.length := by omega
      have hT1 : (r.q.to.getD k default).toNat < s.length := by omega
      have hkf : k < r.q.fr.length := by omega
      have hkt : k < r.q.to.length := by omega
      obtain ⟨f1, f2⟩ := h3 _ hF1
      obtain ⟨t1, t2⟩ := h3 _ hT1
      have hsk := hms k (by omega)
      have hsgk : SM.getD k default = subM r.p (r.m.getD k default) (s.getD (r.q.fr.getD k default).toNat default) (s.getD (r.q.to.getD k default).toNat default) := hsg k hk
      rw [hsgk] at hsk
      have hct := cooL_tm r.p (r.m.getD k default) (s.getD (r.q.fr.getD k default).toNat default) (s.getD (r.q.to.getD k default).toNat default)
      have hcl := cooL_len r.p (r.m.getD k default) (s.getD (r.q.fr.getD k default).toNat default) (s.getD (r.q.to.getD k default).toNat default)
      obtain ⟨w1, w2, w3, w4⟩ := isSpc_spec f1
      obtain ⟨_, _, v3, v4⟩ := isSpc_spec t1
      have hFC := fromColumns_a (s.getD (r.q.to.getD k default).toNat default).b.length (cooL r.p (r.m.getD k default) (s.getD (r.q.fr.getD k default).toNat default) (s.getD (r.q.to.getD k default).toNat default)) (by omega) (by omega) (fun j hj => by
        rw [hcl] at hj
        rw [cooL_get r.p _ _ _ hj]; exact rowL_len ..)
      rw [hct] at hFC
      have hLd := leadings_a (s.getD (r.q.to.getD k default).toNat default) (by omega)
      have hct2 := fun j (hj : j < (s.getD (r.q.fr.getD k default).toNat default).b.length) => map_take (corL r.p (r.m.getD k default) (s.getD (r.q.to.getD k default).toNat default)) hj
      have hll := leadL_len (s.getD (r.q.to.getD k default).toNat default)
      have hlg := fun i (hi : i < (s.getD (r.q.to.getD k default).toNat default).b.length) => leadL_get _ hi
      have hlb := fun i (hi : i < (s.getD (r.q.to.getD k default).toNat default).b.length) => lead_lt t1 hi
      rw [t2, ← m5] at hlb
      have hAp := fun j (hj : j < (s.getD (r.q.fr.getD k default).toNat default).b.length) => apply_a m1 (v := (s.getD (r.q.fr.getD k default).toNat default).b.getD j default) (by rw [(w4 _ (gm hj)).1, f2, m4]) (fun t ht => (w4 _ (gm hj)).2 t (by rw [f2, ← m4]; exact ht))
      change ∀ j, j < (s.getD (r.q.fr.getD k default).toNat default).b.length → (cooL r.p (r.m.getD k default) (s.getD (r.q.fr.getD k default).toNat default) (s.getD (r.q.to.getD k default).toNat default)).take (j + 1) = (cooL r.p (r.m.getD k default) (s.getD (r.q.fr.getD k default).toNat default) (s.getD (r.q.to.getD k default).toNat default)).take j ++ [corL r.p (r.m.getD k default) (s.getD (r.q.to.getD k default).toNat default) ((s.getD (r.q.fr.getD k default).toNat default).b.getD j default)] at hct2
      generalize subM r.p (r.m.getD k default) (s.getD (r.q.fr.getD k default).toNat default) (s.getD (r.q.to.getD k default).toNat default) = SA at hsk hFC
      generalize cooL r.p (r.m.getD k default) (s.getD (r.q.fr.getD k default).toNat default) (s.getD (r.q.to.getD k default).toNat default) = CL at hcl hFC hct2
      generalize hLDe : leadL (s.getD (r.q.to.getD k default).toNat default) = LD at hLd hll hlg
      generalize mixL SM ZM k = X at hlk hsk ⊢
      repeat' first | refine s1 ?_ | fail
      refine AW.open 10 1 (.inl rfl) ?_
      refine F.loop (σ := Nat) [10, 12, 13, 14, 16, 55, 56, 57, 58, 59, 60, 61, 62, 63, 64, 65, 66, 67, 68, 69, 70, 71, 72, 73, 74, 75, 76, 77, 78, 79, 80, 81, 82, 83] (fun j => [(10, .sl 10 j 0 j), (55, .i j)]) (fun j => [(10, .live false 1 (E true (CL.take j)))]) (fun j => j ≤ (s.getD (r.q.fr.getD k default).toNat default).b.length) (fun j => (s.getD (r.q.fr.getD k default).toNat default).b.length - j) 0 ⟨rfl, rfl, trivial⟩ ⟨rfl, trivial⟩ (Nat.zero_le _) ?_
      rintro j j1
      have hp2 : (CL.take j).length = j := by rw [List.length_take]; omega
      by_cases hj : j < (s.getD (r.q.fr.getD k default).toNat default).b.length
      · have hA := hAp j hj
        have hts := hct2 j hj
        unfold corL at hts
        have hIl := appV_len r.p (r.m.getD k default) ((s.getD (r.q.fr.getD k default).toNat default).b.getD j default)
        generalize appV r.p (r.m.getD k default) ((s.getD (r.q.fr.getD k default).toNat default).b.getD j default) = IM at hA hts hIl
        have hrt := fun i hi => rowL_take (r := (s.getD (r.q.to.getD k default).toNat default).b.length) (k := i) (fun i => IM.getD (leadV ((s.getD (r.q.to.getD k default).toNat default).b.getD i default)).toNat default) hi
        have hrl := rowL_len (s.getD (r.q.to.getD k default).toNat default).b.length (fun i => IM.getD (leadV ((s.getD (r.q.to.getD k default).toNat default).b.getD i default)).toNat default)
        generalize (rowL (s.getD (r.q.to.getD k default).toNat default).b.length fun i => IM.getD (leadV ((s.getD (r.q.to.getD k default).toNat default).b.getD i default)).toNat default) = CO at hts hrt hrl
        repeat' first | refine s1 ?_ | (refine kR ?_; first | refine F.c (hA) ?_ | refine F.c (hLd) ?_) | fail
        refine AW.open 14 1 (.inl rfl) ?_
        refine F.loop (σ := Nat) [14, 16, 67, 68, 69, 70, 71, 72, 73, 74, 75, 76, 77, 78] (fun i => [(14, .sl 13 i 0 i), (67, .i i)]) (fun i => [(13, .live false 1 (E true (CO.take i)))]) (fun i => i ≤ (s.getD (r.q.to.getD k default).toNat default).b.length) (fun i => (s.getD (r.q.to.getD k default).toNat default).b.length - i) 0 ⟨rfl, rfl, trivial⟩ ⟨rfl, trivial⟩ (Nat.zero_le _) ?_
        rintro i i1
        have hp3 : (CO.take i).length = i := by rw [List.length_take]; omega
        by_cases hi : i < (s.getD (r.q.to.getD k default).toNat default).b.length
        · have hti := hrt i hi
          obtain ⟨lb0, lb1⟩ := hlb i hi
          rw [← hlg i hi] at hti lb0 lb1
          rw [← Nat.zero_add i] at lb0 lb1
          repeat' first | refine s1 ?_ | (refine kR ?_; first | refine F.a1 Int ?_) | fail
          exact ⟨i + 1, F.fit ⟨rfl, rfl, trivial⟩ ⟨obE (by rw [hti]; simp), trivial⟩, by omega, by omega⟩
        · obtain rfl : i = (s.getD (r.q.to.getD k default).toNat default).b.length := by omega
          have e : CO.take (s.getD (r.q.to.getD k default).toNat default).b.length = CO := List.take_of_length_le (by omega)
          rw [e]
          rw [← hrl]
          clear hp3 e
          repeat' first | refine s1 ?_ | (refine kR ?_; first | refine F.a1 (List Int) (a := CO) ?_) | fail
          exact ⟨j + 1, F.fit ⟨rfl, rfl, trivial⟩ ⟨obE (by rw [hts]), trivial⟩, by omega, by omega⟩
      · obtain rfl : j = (s.getD (r.q.fr.getD k default).toNat default).b.length := by omega
        have e : CL.take (s.getD (r.q.fr.getD k default).toNat default).b.length = CL := List.take_of_length_le (by omega)
        rw [e]
        rw [← hcl]
        clear hp2 e
        repeat' first | refine s1 ?_ | fail
        refine AW.draw 9 G.mixed (by kernel_rfl) ?_
        refine Pz (.p 0 <| .l 1 <| .p 2 <| .p 3 <| .l 4 <| .p 5 <| .p 6 <| .o 7 true <| .p 8 <| .o 9 false <| .n) ?_
        repeat' first | (refine yU (i := 9) ?_; first | refine s1 ?_ | (refine F.stGE (α := Mat) (oo := true) (v := SA) rfl rfl rfl rfl rfl (by omega) (by omega) (.at1 rfl (.at1 rfl (.mv rfl (by simp) (E_length _ _) (E_pure _ _) .nil))) rfl rfl rfl rfl rfl ?_)) | refine yS ?_ | refine s1 ?_ | (refine kR ?_; first | refine F.c (hFC) ?_) | fail
        any_goals refine lf ?_
        all_goals
          rw [Nat.zero_add k]
          repeat' first | refine s1 ?_ | fail
          exact ⟨k + 1, F.fit ⟨rfl, trivial⟩ ⟨obE (by rw [hsk]), trivial⟩, by omega, by omega⟩
    · obtain rfl : k = r.m.length := by omega
      have hma' : mixL SM ZM r.m.length = SM := by rw [← hml]; exact hma
      rw [hma'] at hlk ⊢
      have hSl : SM.length = r.q.fr.length := by omega
      repeat' first | refine s1 ?_ | fail
      refine AW.open 17 3 (.inl rfl) ?_
      refine F.loop (σ := Nat) [17, 19, 96, 97, 98, 99, 100, 101, 102, 103, 104, 105, 106, 107, 108] (fun v => [(17, .sl 8 v 0 v), (96, .i v)]) (fun v => [(8, .live false 3 (E true (IL.take v)))]) (fun v => v ≤ s.length) (fun v => s.length - v) 0 ⟨rfl, rfl, trivial⟩ ⟨rfl, trivial⟩ (Nat.zero_le _) ?_
      rintro v v1
      have hp4 : (IL.take v).length = v := by rw [List.length_take]; omega
      by_cases hv : v < s.length
      · obtain ⟨a1, a2⟩ := h3 v hv
        obtain ⟨w1, w2, w3, w4⟩ := isSpc_spec a1
        have hFC := fromColumns_a (s.getD v default).n.toNat (s.getD v default).b (by omega) (by omega) w4.len
        have hti := hit v hv
        rw [Int.toNat_of_nonneg w2.1, show tm (s.getD v default).n.toNat (s.getD v default).b.length (fcF (s.getD v default).b) = incM (s.getD v default) from rfl] at hFC
        generalize incM (s.getD v default) = IM at hFC hti
        repeat' first | refine s1 ?_ | (refine kR ?_; first | refine F.c (hFC) ?_ | refine F.a1 Mat (a := IM) ?_) | fail
        exact ⟨v + 1, F.fit ⟨rfl, rfl, trivial⟩ ⟨obE (by rw [hti]), trivial⟩, by omega, by omega⟩
      · obtain rfl : v = s.length := by omega
        have e : IL.take s.length = IL := List.take_of_length_le (by omega)
        rw [e]
        rw [← hil]
        clear hp4 e
        repeat' first | refine s1 ?_ | fail
        (refine kZ ?_; exact F.ret rfl))
end Go.Proofs.YtjmjamhhppoimaaGreat.V
