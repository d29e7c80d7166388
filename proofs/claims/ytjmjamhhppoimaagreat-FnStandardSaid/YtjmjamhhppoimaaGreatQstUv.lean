/- Texts that the proof needs: Ht, B1, Um, Uv. -/
import Derived.Test.YtjmjamhhppoimaaGreatQstGt
import Derived.Test.YtjmjamhhppoimaaGreatQstUk
namespace Go.Proofs.YtjmjamhhppoimaaGreat.V
open G
instance:ZeroE Tryz.prog 3 Int 0:=ZeroE.int (inferInstance:HasI Tryz.prog 3 1 8 (.int .i64 0))
instance{α:Type}[Enc α]:ZeroE Tryz.prog 24 (List α) []:=ZeroE.lst (inferInstance:HasI Tryz.prog 24 1 24 (.slice none 0 0))
instance:HasZ Tryz.prog 26 3 [.i 0,.nl,.nl]:=HasZ.of [(.int .i64 0),(.slice none 0 0),(.slice none 0 0)] (inferInstance:HasI Tryz.prog 26 3 56 (.agg #[(.int .i64 0),(.slice none 0 0),(.slice none 0 0)])) rfl rfl rfl rfl
instance:HasP Tryz.prog 26 [(0,1),(1,1),(2,1)]:=⟨_,Tryz.underlying26,fun w=>by kernel_rfl⟩
instance:HasZ Tryz.prog 29 6 [.i 0,.i 0,.nl,.nl,.nl,.nl]:=HasZ.of [(.int .i64 0),(.int .i64 0),(.slice none 0 0),(.slice none 0 0),(.slice none 0 0),(.slice none 0 0)] (inferInstance:HasI Tryz.prog 29 6 112 (.agg #[(.int .i64 0),(.int .i64 0),(.slice none 0 0),(.slice none 0 0),(.slice none 0 0),(.slice none 0 0)])) rfl rfl rfl rfl
instance:HasP Tryz.prog 29 [(0,1),(1,3),(4,1),(5,1)]:=⟨_,Tryz.underlying29,fun w=>by kernel_rfl⟩
instance:HasZ Tryz.prog 70 2 [.i 0,.nl]:=HasZ.of [(.int .i64 0),(.slice none 0 0)] (inferInstance:HasI Tryz.prog 70 2 32 (.agg #[(.int .i64 0),(.slice none 0 0)])) rfl rfl rfl rfl
instance:HasP Tryz.prog 70 [(0,1),(1,1)]:=⟨_,Tryz.underlying70,fun w=>by kernel_rfl⟩
instance:HasZ Tryz.prog 109 2 [.i 0,.nl]:=HasZ.of [(.int .i64 0),(.slice none 0 0)] (inferInstance:HasI Tryz.prog 109 2 32 (.agg #[(.int .i64 0),(.slice none 0 0)])) rfl rfl rfl rfl
instance:HasP Tryz.prog 109 [(0,1),(1,1)]:=⟨_,Tryz.underlying109,fun w=>by kernel_rfl⟩
instance:ZeroE Tryz.prog 109 Pth ⟨0,[]⟩:=ZeroE.pth (inferInstance:HasI Tryz.prog 109 2 32 (.agg #[(.int .i64 0),(.slice none 0 0)]))
instance:HasZ Tryz.prog 112 3 [.i 0,.i 0,.nl]:=HasZ.of [(.int .i64 0),(.int .i64 0),(.slice none 0 0)] (inferInstance:HasI Tryz.prog 112 3 40 (.agg #[(.int .i64 0),(.int .i64 0),(.slice none 0 0)])) rfl rfl rfl rfl
instance:HasP Tryz.prog 112 [(0,1),(1,1),(2,1)]:=⟨_,Tryz.underlying112,fun w=>by kernel_rfl⟩
instance:HasZ Tryz.prog 231 3 [.nl,.i 0,.i 0]:=HasZ.of [(.slice none 0 0),(.int .i64 0),(.int .i64 0)] (inferInstance:HasI Tryz.prog 231 3 40 (.agg #[(.slice none 0 0),(.int .i64 0),(.int .i64 0)])) rfl rfl rfl rfl
instance:HasP Tryz.prog 231 [(0,1),(1,1),(2,1)]:=⟨_,Tryz.underlying231,fun w=>by kernel_rfl⟩
end Go.Proofs.YtjmjamhhppoimaaGreat.V
namespace Go.Proofs.YtjmjamhhppoimaaGreat.V
open Go.RowKit G D
set_option linter.unusedVariables false
set_option linter.unusedSimpArgs false
theorem within_a(n lo hi:Int):AC Tryz.prog 250 [.i n,.i lo,.i hi] [.b (decide (lo≤n∧n≤hi))]:=by
 refine AC.go Tryz.func250 Tryz.ntmps250 rfl rfl fun w0 _=>?_
 repeat' first|refine s1 ?_|(refine s2 ?_ ?_<;>intro hc<;>(try simp only[decide_eq_true_eq,decide_eq_false_iff_not,Bool.not_eq_true',Bool.not_eq_false'] at hc))|fail
 all_goals
  refine F.ret ?_
  simp[*]
def idxFrom{α:Type}(p:α→Bool):List α→Nat→Int
 |[],_=>-1
 |x::l,k=>bif p x then(k:Int) else idxFrom p l (k+1)
theorem idxFrom_any{α:Type}(p:α→Bool):∀(l:List α) (k:Nat),decide (0≤idxFrom p l k)=l.any p
 |[],k=>by simp[idxFrom]
 |x::l,k=>by
  cases hp:p x with
  |true=>simp[idxFrom,hp]
  |false=>simp only[idxFrom,hp,cond_false,List.any_cons,Bool.false_or];exact idxFrom_any p l (k+1)
theorem idxFrom_drop{α:Type}[Inhabited α](p:α→Bool)(l:List α){k:Nat}(hk:k<l.length):idxFrom p (l.drop k) k=bif p (l.getD k default) then(k:Int) else idxFrom p (l.drop (k+1)) (k+1):=by
 rw[List.drop_eq_getElem_cons hk];simp[idxFrom,hk]
theorem IndexFunc1_a(xs:List Int)(f:Nat)[IsFn Tryz.prog f](cs:List AV)(p:Int→Bool)(hcs:∀hp,SnapL hp cs cs)(hf:∀x∈xs,AC Tryz.prog f (.i x::cs) [.b (p x)]):
  AC Tryz.prog 367 [ar false xs,.fn f cs] [.i (idxFrom p xs 0)]:=by
 refine AC.go Tryz.func367 Tryz.ntmps367 rfl rfl fun w0 hw=>?_;simp[WfL,WfA,E_length,Enc.enc,In64] at hw
 repeat' first|refine s1 ?_|(refine s2 ?_ ?_<;>intro hc<;>(try simp only[decide_eq_true_eq,decide_eq_false_iff_not,Bool.not_eq_true',Bool.not_eq_false'] at hc))|fail
 refine F.loop (σ:=Nat) [4,5,8,9,10,11,12,13,14,15,16,17,18] (fun k=>[(8,.i k)]) (fun _=>[]) (fun k=>k≤xs.length∧idxFrom p xs 0=idxFrom p (xs.drop k) k) (fun k=>xs.length-k) 0 ⟨rfl,trivial⟩ trivial ⟨Nat.zero_le _,rfl⟩ ?_
 rintro k ⟨hk,hi⟩
 by_cases hlt:k<xs.length
 ·rw[idxFrom_drop p xs hlt] at hi
  cases hpx:p (xs.getD k default) with
  |true=>
   rw[hpx] at hi
   have h1:=hf (xs.getD k default) (gm hlt)
   rw[hpx] at h1
   repeat' first|refine s1 ?_|(refine kR ?_;first|refine F.cv (h1) ?_)|(refine s2 ?_ ?_<;>intro hc<;>(try simp only[decide_eq_true_eq,decide_eq_false_iff_not,Bool.not_eq_true',Bool.not_eq_false'] at hc))|fail
   refine F.ret ?_
   simp[hi]
  |false=>
   rw[hpx] at hi
   have h1:=hf (xs.getD k default) (gm hlt)
   rw[hpx] at h1
   repeat' first|refine s1 ?_|(refine kR ?_;first|refine F.cv (h1) ?_)|(refine s2 ?_ ?_<;>intro hc<;>(try simp only[decide_eq_true_eq,decide_eq_false_iff_not,Bool.not_eq_true',Bool.not_eq_false'] at hc))|fail
   exact⟨k+1,F.fit ⟨rfl,trivial⟩ trivial,⟨by omega,hi⟩,by omega⟩
 ·have e:k=xs.length:=by omega
  subst e
  repeat' first|refine s1 ?_|(refine s2 ?_ ?_<;>intro hc<;>(try simp only[decide_eq_true_eq,decide_eq_false_iff_not,Bool.not_eq_true',Bool.not_eq_false'] at hc))|fail
  refine F.ret ?_
  simp[hi,idxFrom]
theorem ContainsFunc1_a(xs:List Int)(f:Nat)[IsFn Tryz.prog f](cs:List AV)(p:Int→Bool)(hcs:∀hp,SnapL hp cs cs)(hf:∀x∈xs,AC Tryz.prog f (.i x::cs) [.b (p x)]):
  AC Tryz.prog 296 [ar false xs,.fn f cs] [.b (xs.any p)]:=by
 refine AC.go Tryz.func296 Tryz.ntmps296 rfl rfl fun w0 hw=>?_;simp[WfL,WfA,E_length,Enc.enc,In64] at hw
 repeat' first|refine s1 ?_|(refine kR ?_;first|refine F.c (IndexFunc1_a xs f cs p hcs hf) ?_)|fail
 exact F.ret (by rw[←idxFrom_any p xs 0])
theorem allWithin1_a(x lo hi:Int):AC Tryz.prog 365 [.i x,.ip [.i lo],.ip [.i hi]] [.b (!decide (lo≤x∧x≤hi))]:=by
 refine AC.go Tryz.func365 Tryz.ntmps365 rfl rfl fun w0 _=>?_
 repeat' first|refine s1 ?_|(refine kR ?_;first|(refine jCf 250 ?_;refine F.c (within_a _ _ _) ?_))|(refine s2 ?_ ?_<;>intro hc<;>(try simp only[decide_eq_true_eq,decide_eq_false_iff_not,Bool.not_eq_true',Bool.not_eq_false'] at hc))|fail
 exact F.ret rfl
theorem allWithin_a(xs:List Int)(lo hi:Int):AC Tryz.prog 284 [ar false xs,.i lo,.i hi] [.b (allIn lo hi xs)]:=by
 refine AC.go Tryz.func284 Tryz.ntmps284 rfl rfl fun w0 hw=>?_;simp[WfL,WfA,E_length,Enc.enc,In64] at hw
 repeat' first|refine s1 ?_|(refine kR ?_;first|refine F.c (ContainsFunc1_a xs 365 [.ip [.i lo],.ip [.i hi]] (fun x=>!decide (lo≤x∧x≤hi)) (fun _=>.ip (.ip .nil)) (fun x _=>allWithin1_a x lo hi)) ?_)|fail
 refine F.ret ?_
 rw[allIn,List.not_any_eq_all_not];simp
theorem l1In_a(n lo hi:Int):AC Tryz.prog 169 [.i n,.i lo,.i hi] [.b (decide (lo≤n∧n≤hi))]:=by
 refine AC.go Tryz.func169 Tryz.ntmps169 rfl rfl fun w0 _=>?_
 repeat' first|refine s1 ?_|(refine s2 ?_ ?_<;>intro hc<;>(try simp only[decide_eq_true_eq,decide_eq_false_iff_not,Bool.not_eq_true',Bool.not_eq_false'] at hc))|fail
 all_goals
  refine F.ret ?_
  simp[*]
end Go.Proofs.YtjmjamhhppoimaaGreat.V
namespace Go.Proofs.YtjmjamhhppoimaaGreat.V
open V.Enc (enc)
open Go.RowKit G D
set_option linter.unusedVariables false
set_option linter.unusedSimpArgs false
set_option maxHeartbeats 400000
theorem implIsQuiver_a(q:Quiv):AC Tryz.prog 167 [.agg (enc false q)] [.b (okQ q)]:=by
 refine AC.go Tryz.func167 Tryz.ntmps167 rfl rfl fun w0 hw=>?_;simp[WfL,WfA,E_length,Enc.enc,In64] at hw
 repeat' first|refine s1 ?_|(refine kR ?_;first|(refine jCf 250 ?_;refine F.c (within_a _ _ _) ?_)|(refine jCf 284 ?_;refine F.c (allWithin_a _ _ _) ?_))|(refine s2 ?_ ?_<;>intro hc<;>(try simp only[decide_eq_true_eq,decide_eq_false_iff_not,Bool.not_eq_true',Bool.not_eq_false'] at hc))|fail
 all_goals
  refine F.ret ?_
  simp[okQ, *]<;>omega
theorem okQ_iff(q:Quiv):okQ q=true↔1≤q.n∧q.n≤5∧q.fr.length=q.to.length∧q.fr.length≤6∧∀j,j<q.fr.length→(0≤q.fr.getD j 0∧q.fr.getD j 0≤q.n-1)∧0≤q.to.getD j 0∧q.to.getD j 0≤q.n-1:=by
 constructor
 ·intro h
  have h1:=okQ_spec h
  exact⟨h1.1,h1.2.1,h1.2.2.1,h1.2.2.2.1,fun j hj=>by have h2:=okQ_fr h hj;have h3:=okQ_to h hj;omega⟩
 ·intro⟨h1,h2,h3,h4,h5⟩
  simp only[okQ,allIn,Bool.and_eq_true,decide_eq_true_eq,List.all_eq_true]
  refine⟨⟨⟨⟨⟨h1,h2⟩,h3⟩,h4⟩,fun x hx=>?_⟩,fun x hx=>?_⟩
  ·obtain⟨j,hj,rfl⟩:=List.mem_iff_getElem.mp hx
   have:=(h5 j hj).1;simp[hj] at this;simpa using this
  ·obtain⟨j,hj,rfl⟩:=List.mem_iff_getElem.mp hx
   have:=(h5 j (by omega)).2;simp[hj] at this;simpa using this
theorem specIsQuiver_a (q : Quiv) : AC Tryz.prog 168 [.agg (enc false q)] [.b (okQ q)] := by
  refine AC.go Tryz.func168 Tryz.ntmps168 rfl rfl fun w0 hw => ?_; simp [WfL, WfA, E_length, Enc.enc, In64] at hw
  repeat' first | refine s1 ?_ | (refine s2 ?_ ?_ <;> intro hc <;> (try simp only [decide_eq_true_eq, decide_eq_false_iff_not, Bool.not_eq_true', Bool.not_eq_false'] at hc)) | fail
  refine F.loop (σ := Nat) [2, 3, 4, 5, 6, 7, 8, 9, 10, 11, 12, 13, 14, 15, 16, 17, 18, 19, 20, 21, 22, 23, 24, 25, 26, 27, 28, 29, 30, 31, 32, 33, 34, 35, 36, 37, 38, 39] (fun k => [(3, .i k)]) (fun _ => []) (fun k => k ≤ q.fr.length ∧ k ≤ q.to.length ∧ ∀ j, j < k → (0 ≤ q.fr.getD j 0 ∧ q.fr.getD j 0 ≤ RowKit.wrap64 (q.n - 1)) ∧ 0 ≤ q.to.getD j 0 ∧ q.to.getD j 0 ≤ RowKit.wrap64 (q.n - 1)) (fun k => q.fr.length - k) 0 ⟨rfl, trivial⟩ trivial ⟨Nat.zero_le _, Nat.zero_le _, fun j hj => by omega⟩ ?_
  rintro k ⟨h1, h2, h3⟩
  have hwr := fun h => wr_in (a := q.n - 1) h
  by_cases hlt : k < q.fr.length ∧ k < q.to.length
  · obtain ⟨g1, g2⟩ := hlt
    repeat' first | refine s1 ?_ | fail
    refine AW.draw 22 G.mixed (by kernel_rfl) ?_
    refine Pz (.p 0 <| .l 1 <| .p 2 <| .p 3 <| .l 4 <| .p 5 <| .l 6 <| .p 7 <| .o 8 true <| .p 9 <| .p 10 <| .g 28 <| .k 11 <| .j 12 <| .k 13 <| .k 14 <| .j 15 <| .k 16 <| .j 17 <| .k 18 <| .o 19 true <| .k 20 <| .p 21 <| .n) ?_
    repeat' first | refine yS ?_ | refine s1 ?_ | (refine yD ?_ ?_ <;> intro hc <;> (try simp only [decide_eq_true_eq, decide_eq_false_iff_not, Bool.not_eq_true', Bool.not_eq_false'] at hc)) | refine yG ?_ | (refine kR ?_; first | (refine jCf 169 ?_; refine F.c (l1In_a _ _ _) ?_)) | fail
    any_goals refine lf ?_
    all_goals repeat' first | refine s1 ?_ | (refine s2 ?_ ?_ <;> intro hc <;> (try simp only [decide_eq_true_eq, decide_eq_false_iff_not, Bool.not_eq_true', Bool.not_eq_false'] at hc)) | fail
    · refine F.ret ?_
      simp
      cases ho : okQ q with
      | false => rfl
      | true =>
        exfalso
        have h5 := okQ_spec ho
        have h6 := okQ_fr ho g1
        simp only [show (default : Int) = 0 from rfl] at hc
        rw [hwr ⟨by omega, by omega⟩] at hc
        omega
    · refine F.ret ?_
      simp
      cases ho : okQ q with
      | false => rfl
      | true =>
        exfalso
        have h5 := okQ_spec ho
        have h6 := okQ_to ho g1
        simp only [show (default : Int) = 0 from rfl] at hc
        rw [hwr ⟨by omega, by omega⟩] at hc
        omega
    · refine ⟨k + 1, F.fit ⟨rfl, trivial⟩ trivial, ⟨by omega, by omega, fun j hj => ?_⟩, by omega⟩
      rcases Nat.lt_or_ge j k with h | h
      · exact h3 j h
      · have : j = k := by omega
        subst this
        rename_i hc'
        exact ⟨hc', hc⟩
  · cases hA : decide ((k : Int) < q.fr.length) <;> simp at hA
    all_goals
      repeat' first | refine s1 ?_ | (refine kR ?_; first | (refine jCf 169 ?_; refine F.c (l1In_a _ _ _) ?_)) | (refine s2 ?_ ?_ <;> intro hc <;> (try simp only [decide_eq_true_eq, decide_eq_false_iff_not, Bool.not_eq_true', Bool.not_eq_false'] at hc)) | fail
    all_goals
      refine F.ret ?_
      simp
      cases ho : okQ q with
      | false =>
        first
          | rfl
          | (refine decide_eq_false fun hh => ?_
             have hI := (okQ_iff q).mpr ⟨by omega, by omega, by omega, by omega, fun j hj => by have h8 := h3 j (by omega); rw [hwr ⟨by omega, by omega⟩] at h8; exact h8⟩
             rw [ho] at hI; cases hI)
      | true =>
        have h5 := okQ_spec ho
        first | omega | (refine decide_eq_true ?_; omega)
theorem l6Copy_a(q:Quiv)(hb:q.fr.length≤1048576∧q.to.length≤1048576):AC Tryz.prog 302 [.agg (enc false q)] [.agg (enc true q)]:=by
 refine AC.go Tryz.func302 Tryz.ntmps302 rfl rfl fun w0 hw=>?_;simp[WfL,WfA,E_length,Enc.enc,In64] at hw
 repeat' first|refine s1 ?_|(refine s2 ?_ ?_<;>intro hc<;>(try simp only[decide_eq_true_eq,decide_eq_false_iff_not,Bool.not_eq_true',Bool.not_eq_false'] at hc))|fail
 refine AW.draw 11 G.mixed (by kernel_rfl) ?_
 refine Pz (.p 0<|.l 1<|.p 3<|.l 4<|.p 7<|.l 8<|.a [(2,true,.a [(5,true,.o 6 true<|.o 9 true<|.p 10<|.o 11 false<|.n),(6,true,.o 5 true<|.o 9 true<|.p 10<|.o 11 false<|.n)]),(6,true,.o 2 true<|.o 5 true<|.o 9 true<|.p 10<|.o 11 false<|.n)]) ?_
 repeat' first|refine yS ?_|refine s1 ?_|refine yC ?_ ?_|exact trivial|(refine kR ?_;first|refine F.appLN (α:=Int) (oo:=true) (.inr rfl) rfl .imm rfl rfl (by omega) (by omega) rfl rfl rfl rfl ?_)|fail
 all_goals
  refine lf ?_
  repeat' first|refine s1 ?_|fail
  exact F.ret rfl
theorem grow_a(n:Nat)(hn:n≤1048576):AC Tryz.prog 397 [.nl,.i n] [.dt true 1 []]:=by
 refine AC.go Tryz.func397 Tryz.ntmps397 rfl rfl fun w0 hw=>?_;simp[WfL,WfA,E_length,Enc.enc,In64] at hw
 repeat' first|refine s1 ?_|(refine kR ?_;first|refine F.sil (A.capN rfl) rfl rfl ?_|refine F.sil (A.slcN (lo:=0) (hi':=0) rfl rfl rfl (Nat.le_refl _) rfl) rfl rfl ?_|refine F.appZ (m:=n) Int rfl rfl rfl (by omega) (by omega) (mkB (by omega)) (by omega) rfl rfl ?_|refine F.slcut (k:=0) rfl rfl (by simp[E_length]) rfl (Nat.zero_le _) rfl rfl rfl ?_)|(refine s2 ?_ ?_<;>intro hc<;>(try simp only[decide_eq_true_eq,decide_eq_false_iff_not,Bool.not_eq_true',Bool.not_eq_false'] at hc))|fail
 all_goals exact F.ret rfl
theorem flat_take{α:Type}(ls:List (List α)){k:Nat}(hk:k<ls.length):(ls.take (k+1)).flatten=(ls.take k).flatten++ls.getD k default:=by
 rw[List.take_succ_eq_append_getElem hk,List.flatten_append];simp[hk]
theorem flat_len{α:Type}(ls:List (List α)){k:Nat}(hk:k<ls.length):(ls.take (k+1)).flatten.length=(ls.take k).flatten.length+(ls.getD k default).length:=by
 rw[flat_take ls hk,List.length_append]
theorem flat_le{α:Type}(ls:List (List α))(k:Nat):(ls.take k).flatten.length≤ls.flatten.length:=by
 have:ls.flatten=(ls.take k).flatten++(ls.drop k).flatten:=by rw[←List.flatten_append,List.take_append_drop]
 rw[this,List.length_append];omega
theorem concat_a(ls:List (List Int))(hn:ls.flatten.length≤1048576):AC Tryz.prog 392 [.dt false 1 (E false ls)] [.dt true 1 (E true ls.flatten)]:=by
 refine AC.go Tryz.func392 Tryz.ntmps392 rfl rfl fun w0 hw=>?_;simp[WfL,WfA,E_length,Enc.enc,In64] at hw
 repeat' first|refine s1 ?_|(refine s2 ?_ ?_<;>intro hc<;>(try simp only[decide_eq_true_eq,decide_eq_false_iff_not,Bool.not_eq_true',Bool.not_eq_false'] at hc))|fail
 refine F.loop (σ:=Nat) [3,5,11,12,13,14,15,16,17,18,19,20,21,22] (fun k=>[(3,.i ((ls.take k).flatten.length:Nat)),(11,.i k)]) (fun _=>[]) (fun k=>k≤ls.length) (fun k=>ls.length-k) 0 ⟨rfl,rfl,trivial⟩ trivial (Nat.zero_le _) ?_
 rintro k h1
 have hfl:=flat_le ls k
 by_cases hlt:k<ls.length
 ·have hf2:=flat_len ls hlt
  have hf3:=flat_le ls (k+1)
  repeat' first|refine s1 ?_|fail
  refine⟨k+1,F.fit ⟨iE (by omega),rfl,trivial⟩ trivial,by omega,by omega⟩
 ·repeat' first|refine s1 ?_|(refine kR ?_;first|(refine jCf 397 ?_;refine F.c (grow_a (ls.take k).flatten.length (by omega)) ?_))|(refine s2 ?_ ?_<;>intro hc<;>(try simp only[decide_eq_true_eq,decide_eq_false_iff_not,Bool.not_eq_true',Bool.not_eq_false'] at hc))|fail
  obtain rfl:k=ls.length:=by omega
  refine F.loop (σ:=Nat) [6,8,27,28,29,30,31,32,33,34] (fun k=>[(6,.sl 0 (ls.take k).flatten.length 0 (ls.take k).flatten.length),(27,.i k)]) (fun k=>[(0,.live false 1 (E true (ls.take k).flatten))]) (fun k=>k≤ls.length) (fun k=>ls.length-k) 0 ⟨rfl,rfl,trivial⟩ ⟨rfl,trivial⟩ (Nat.zero_le _) ?_
  rintro k h1
  have hfl:=flat_le ls k
  by_cases hlt:k<ls.length
  ·have hf2:=flat_len ls hlt
   have hf3:=flat_le ls (k+1)
   repeat' first|refine s1 ?_|(refine kR ?_;first|refine F.appL (α:=Int) (oo:=true) rfl rfl rfl rfl .imm rfl rfl (by omega) (by omega) rfl rfl rfl rfl rfl ?_)|fail
   refine⟨k+1,F.fit ⟨slE (by omega),rfl,trivial⟩ ⟨obE (by rw[flat_take ls hlt]),trivial⟩,by omega,by omega⟩
  ·obtain rfl:k=ls.length:=by omega
   repeat' first|refine s1 ?_|(refine s2 ?_ ?_<;>intro hc<;>(try simp only[decide_eq_true_eq,decide_eq_false_iff_not,Bool.not_eq_true',Bool.not_eq_false'] at hc))|fail
   refine F.ret ?_
   rw[List.take_length]
def sz1(n:Nat)(left:Int):Int:=if left-n<0 then-1 else left-n
def part{α:Type}(xs:List α)(z:α)(k:Nat):List α:=xs.take k++List.replicate (xs.length-k) z
theorem set_get{α:Type}[Inhabited α]{L:List α}{j:Nat}(h:j<L.length)(x:α):(L.set j x).getD j default=x:=by simp[h]
end Go.Proofs.YtjmjamhhppoimaaGreat.V
namespace Go.Proofs.YtjmjamhhppoimaaGreat.V
open Go.RowKit G D
set_option linter.unusedVariables false
set_option linter.unusedSimpArgs false
def matR:Rp Mat:=mapR (fun m=>(m.r,m.c,m.m)) (seqR intR (seqR intR (listR intR)))
end Go.Proofs.YtjmjamhhppoimaaGreat.V
namespace Go.Proofs.YtjmjamhhppoimaaGreat.V
open Go.RowKit G
set_option linter.unusedVariables false
set_option linter.unusedSimpArgs false
section
variable {P : Program} {w0 : World} {MP : Fr} {st : St} {d : Option Tmp} {ty : TypeId} {pos : String} {af : Array Edge} {g : Option (Nat × Bool)} {x y : Operand} {t t' : Nat}
theorem Sm.evQ{C:Nat→Option Conc}{Im:Nat→Prop}{E:Env}{w:World}(hm:Sm w0 MP st C Im E w){c:Value}(hx:evA st x=.q (fun v=>v=c)):G.ev E x=c:=by
 have:=hm.ev x
 rw[hx] at this
 exact this.1
theorem A.cvQI{k:IntKind}{n:Int}{d1:TypeDesc}[hs:HasU P t d1][hu:HasU P t' (.int .i64)](hx:evA st x=.q (fun v=>v=.int k n))(h:In64 n):ASil true P w0 MP st ⟨d,.convert t t' x,ty,pos,af,g⟩ (.i n):=fun C Im E w hm=>by
 have h1:=hm.evQ hx
 refine⟨.int .i64 n,fun w'=>?_,rfl,h⟩
 unfold Sil
 intro w2 _
 have h2:=hs.und w2
 have h3:=hu.und w2
 have h4:IntKind.i64.wrap n=n:=wrap_in h
 simp[execOp,h1,convert,h2,h3,Conv.intToInt,h4]
theorem A.cvIQ{k:IntKind}{n:Int}{d1:TypeDesc}[hs:HasU P t d1][hu:HasU P t' (.int k)](hx:evA st x=.i n):ASil true P w0 MP st ⟨d,.convert t t' x,ty,pos,af,g⟩ (.q fun v=>v=.int k (k.wrap n)):=fun C Im E w hm=>by
 have h1:=(hm.evI hx).1
 refine⟨.int k (k.wrap n),fun w'=>?_,rfl,rfl⟩
 unfold Sil
 intro w2 _
 have h2:=hs.und w2
 have h3:=hu.und w2
 simp[execOp,h1,convert,h2,h3,Conv.intToInt]
theorem A.eqlS{a b:ByteArray}[hu:HasU P t .string](hx:evA st x=.q (fun v=>v=.string a))(hy:evA st y=.q (fun v=>v=.string b)):ASil true P w0 MP st ⟨d,.binOp .eql t x y t',ty,pos,af,g⟩ (.b (a.toList==b.toList)):=fun C Im E w hm=>by
 have h1:=hm.evQ hx
 have h2:=hm.evQ hy
 refine⟨.bool (a.toList==b.toList),fun w'=>?_,rfl⟩
 unfold Sil
 intro w2 _
 have h3:=hu.und w2
 simp[execOp,h1,h2,eqGuard,binOp,Op.stringOp]
theorem A.lenStr{a:ByteArray}[hu:HasU P t .string](hl:a.size≤9223372036854775807)(hx:evA st x=.q (fun v=>v=.string a)):ASil true P w0 MP st ⟨d,.call ⟨.builtin .len,#[x],#[t]⟩,ty,pos,af,g⟩ (.i (a.size:Int)):=fun C Im E w hm=>by
 have h1:=hm.evQ hx
 refine⟨.int .i64 (a.size:Int),fun w'=>?_,rfl,?_⟩
 ·unfold Sil
  intro w2 _
  have h3:=hu.und w2
  simp[execOp,resolve,h1,invoke,builtin,Builtin.len_,h3,goInt]
 ·show In64 _
  unfold In64
  omega
theorem A.addStr{a b:ByteArray}(hx:evA st x=.q (fun v=>v=.string a))(hy:evA st y=.q (fun v=>v=.string b))(hl:(a.size:Int)+b.size≤9223372036854775807):ASil true P w0 MP st ⟨d,.binOp .add t x y t',ty,pos,af,g⟩ (.q fun v=>v=.string (a++b)):=fun C Im E w hm=>by
 have h1:=hm.evQ hx
 have h2:=hm.evQ hy
 refine⟨.string (a++b),fun w'=>?_,rfl,rfl⟩
 unfold Sil
 intro w2 _
 simp[execOp,h1,h2,eqGuard,binOp,Op.stringOp]
 exact hl
theorem A.idxStr{a:ByteArray}{k:Nat}{z:UInt8}[hu:HasU P t .string](hx:evA st x=.q (fun v=>v=.string a))(hy:evA st y=.i (k:Int))(hk:a[k]?=some z):ASil true P w0 MP st ⟨d,.index t x y,ty,pos,af,g⟩ (.q fun v=>v=.int .u8 z.toNat):=fun C Im E w hm=>by
 have h1:=hm.evQ hx
 have h2:=(hm.evI hy).1
 refine⟨.int .u8 z.toNat,fun w'=>?_,rfl,rfl⟩
 unfold Sil
 intro w2 _
 have h3:=hu.und w2
 simp[execOp,h1,h2,Instr.index,asIntOf,h3,hk]
end
end Go.Proofs.YtjmjamhhppoimaaGreat.V
