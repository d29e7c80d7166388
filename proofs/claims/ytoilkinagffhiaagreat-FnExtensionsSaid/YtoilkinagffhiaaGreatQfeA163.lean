/- Texts that the proof needs: Uz, A163. -/
import Derived.Test.YtoilkinagffhiaaGreatQfeA166
namespace Go.Proofs.YtoilkinagffhiaaGreat.V
open Go.RowKit G
set_option linter.unusedVariables false
set_option linter.unusedSimpArgs false
def outB : AV → Bool
 | .agg cs => cs.all pureB && ownL' cs
 | a => pureB a && ownA a
theorem ResM.resL {N : Nat} {C : Nat → Option Conc} {J : Nat → Prop} {w : World} {rs : List AV} {vs : List Value} {F : List Nat} (h : ResM N C J w rs vs F) (ho : rs.all outB = true) : ResL w rs vs F := by
 induction h with
 | nil => exact .nil
 | @cell a v rs vs F G h1 _ ih =>
  rw [List.all_cons, Bool.and_eq_true] at ho
  refine .cell ?_ (ih ho.2)
  cases a with
  | agg cs =>
   cases h1 with
   | at1 h3 h4 _ => obtain ⟨us, rfl, _⟩ := h3; cases h4
  | _ =>
   have h2 := ho.1
   simp only [outB, Bool.and_eq_true] at h2
   exact (h1.pure (by simp [h2.1])).own (by simp [ownL', h2.2])
 | @agg cs us rs vs F G h1 _ ih =>
  rw [List.all_cons, Bool.and_eq_true] at ho
  have h2 := ho.1
  simp only [outB, Bool.and_eq_true] at h2
  exact .agg ((h1.pure h2.1).own h2.2) (ih ho.2)
def ACx (P : Program) (f : FuncId) (bs : List AV) {ι : Type} (p : ι → Prop) (rs : ι → List AV) : Prop := ∀ (w : World) (us : List Value), RVs w bs us → Run P f us w fun v w' => Later w w' ∧ ∃ i, p i ∧ ∃ vs F, v = tupV vs ∧ ResL w' (rs i) vs F ∧ F.Nodup ∧ ∀ k ∈ F, w.heap.size ≤ k
theorem ACx.ofAMx {P : Program} {f : FuncId} {bs : List AV} {ι : Type} {p : ι → Prop} {rs : ι → List AV} (h : AMx P f bs [] p rs (fun _ => [])) (ho : ∀ i, (rs i).all outB = true) : ACx P f bs p rs := fun w us hus => by
 have hS : Sm w (Fr0 w) ⟨fun _ => .no, obS [], 0⟩ noC (Fr0 w).J (fr []) w := by
  refine ⟨⟨fun _ _ _ => rfl, Nat.le_refl _, rfl, rfl, rfl⟩, fun _ h => h, fun t => trivial, fun _ _ => rfl, (fun o l sz xs h => by cases h), fun _ _ => rfl, (fun o o' cc cc' _ h => by cases h), fun k hk => .inl hk, fun p hp => by cases hp⟩
 refine (h w (Fr0 w) noC (fr []) us hS hus).mono fun v w' ⟨i, hp, C', J', E', hb, vs, F, e, hR, hL, hF⟩ => ?_
 exact ⟨Later.ofTouched hb.tch, i, hp, vs, F, e, hR.resL (ho i), hL.nd, fun k hk => (hL.ge k hk).elim id fun h => by cases h⟩
section
variable {P : Program} {n : Nat} {w0 : World} {MP : Fr} {Q : Exit → St → Prop} {E : Nat → AV} {hp : Nat → Ob} {nx : Nat} {lb : Bool} {ops : Array Oper} {os : List Oper} {d : Option Tmp} {ty : TypeId} {pos : String} {af : Array Edge} {g : Option (Nat × Bool)} {args : Array Operand} {ats : Array TypeId}
def CC (P : Program) (n : Nat) (w0 : World) (MP : Fr) (lb : Bool) (ops : Array Oper) (os : List Oper) (Q : Exit → St → Prop) (E : Nat → AV) (hp : Nat → Ob) (nx : Nat) (d : Option Tmp) (rs : List AV) : Prop :=
 ∃ zs ob, ThwR nx rs zs ob ∧ ARg P n w0 MP lb ops os Q ⟨putE E d (tupA zs), addO hp nx ob, nx + ob.length⟩
theorem F.cx {f : FuncId} {bs : List AV} {ι : Type} {p : ι → Prop} {rs : ι → List AV} [hf : IsFn P f] (hc : ACx P f bs p rs) (h : ∀ i, p i → CC P n w0 MP lb ops os Q E hp nx d (rs i)) (hs : SnapL hp (args.toList.map (evA ⟨E, hp, nx⟩)) bs := by (repeat' first | exact SnapL.nil | refine SnapL.i ?_ | refine SnapL.bo ?_ | refine SnapL.q ?_ | refine SnapL.dt ?_ | refine SnapL.slE rfl (by first | rfl | omega | (simp; done) | (simp; omega)) ?_ | refine SnapL.slV rfl (by first | rfl | omega | (simp; done) | (simp; omega)) ?_ | refine SnapL.nd ?_ | refine SnapL.ed ?_ | refine SnapL.nl ?_ | refine SnapL.agg ?_ ?_ | refine SnapL.fn ?_ ?_ | refine SnapL.ip ?_ | refine SnapL.pt rfl rfl rfl rfl ?_ rfl ?_) <;> fail)
    (hw : awant n ops ⟨d, .call ⟨.value (.func f), args, ats⟩, ty, pos, af, g⟩ E true = true := by exact rfl) (hd : fits n d = true := by exact rfl) : ARg P n w0 MP lb ops (⟨d, .call ⟨.value (.func f), args, ats⟩, ty, pos, af, g⟩ :: os) Q ⟨E, hp, nx⟩ := fun E' w ⟨C, Im, hm⟩ => by
  refine G.Rg.call (hc w _ (hs.spec hm (hm.evL _))) rfl (awant_spec (st := ⟨E, hp, nx⟩) hm hw) hd ?_
  rintro v w' ⟨hl, i, hpi, hr⟩
  obtain ⟨zs, ob, ht, hA⟩ := h i hpi
  have hS := hm.called (d := d) ht hl hr
  unfold callS at hS
  rw [putA_eq] at hS
  exact (hA _ _ hS).mono fun e E2 w2 hq => ⟨fun hb => hl.trans (hq.1 hb), hq.2⟩
theorem F.ck {rs zs : List AV} {a : AV} {ob : List (Nat × List (List AV))} (h : ARg P n w0 MP lb ops os Q ⟨putE E d a, addO hp nx ob, nx + ob.length⟩) (ht : ThwR nx rs zs ob := by (repeat' first | exact ThwR.nil | apply ThwR.agg | apply ThwR.cell | exact Thw.nil | apply Thw.at1 rfl | apply Thw.ow (E_length _ _) | apply Thw.ow rfl) <;> fail) (ha : tupA zs = a := by exact rfl) : CC P n w0 MP lb ops os Q E hp nx d rs := by
 subst ha; exact ⟨zs, ob, ht, h⟩
end
end Go.Proofs.YtoilkinagffhiaaGreat.V
namespace Go.Proofs.YtoilkinagffhiaaGreat.V
open Go.RowKit G D
set_option linter.unusedVariables false
set_option linter.unusedSimpArgs false
set_option maxHeartbeats 4000000
set_option maxRecDepth 4000
attribute [local irreducible] AW ARg ARA ARet MRet ASil AC AM AMx ACx
theorem specFormatQuiver_c (q : Quiv) : ACx Tryz.prog 131 [.agg (enc false q)] (fun s : ByteArray => s.size ≤ 20) (fun s => [strA s]) := ACx.ofAMx (specFormatQuiver_x q) (fun s => rfl)
def lenQ (n : Nat) (q : Quiv) : Prop := q.fr.length ≤ n ∧ q.to.length ≤ n
theorem specParseQuiver_x (s : ByteArray) (hs : s.size ≤ 100) : AMx Tryz.prog 127 [strA s] [] (fun x : Quiv × Bool => lenQ 100 x.1) (fun x => [.agg (enc true x.1), .b x.2]) (fun _ => []) := by
 refine AMx.go Tryz.func127 Tryz.ntmps127 rfl rfl fun w0 mp hw => ?_; simp [WfL, WfA, E_length, Enc.enc, In64] at hw
 have hC := l6Cut_x s 32 (by omega)
 repeat' first | refine s1 ?_ | (refine kR ?_; first | (refine F.x [] (hC) ?_; rintro l ⟨l0, l1, l2⟩; refine F.xk ?_)) | fail
 have h00 : (l.getD (0 + 0) default).size ≤ s.size := l2 0 l0
 by_cases hw2 : ((l.getD (0 + 0) default).size : Int) = 2
 ·obtain ⟨z0, hz0⟩ : ∃ z, (l.getD (0 + 0) default)[0]? = some z := ⟨_, getElem?_pos _ 0 (by omega)⟩
  have hzb := UInt8.toNat_lt z0
  by_cases h30 : (s.size : Int) ≤ 30
  ·repeat' first | refine s1 ?_ | (refine kR ?_; first | refine F.sil (A.lenStr (by omega) rfl) rfl rfl ?_ | refine F.sil (A.idxStr (k := 0) rfl rfl hz0) rfl rfl ?_ | refine F.sil (A.cvQI rfl (In64.mk (by omega))) rfl rfl ?_) | fail
   generalize hv : (z0.toNat : Int) - 48 = v
   have hvb : In64 v := by rw [← hv]; unfold In64; omega
   refine AW.only [(0, strA s), (2, .pt 0 1 0 0), (4, .sl 1 l.length 0 l.length), (5, .pt 2 1 0 0), (6, .i 1)] [(0, .live false 3 [[.i 0, .nl, .nl]]), (1, .live false 1 (E true l)), (2, .live false 3 [[.i v, .em, .em]])] 3 ⟨rfl, rfl, rfl, rfl, rfl, trivial⟩ ⟨rfl, rfl, rfl, trivial⟩ rfl ?_
   refine AW.openV (o := 2) (j := 1) 1 rfl rfl (.inr rfl) rfl ?_
   refine AW.openV (o := 2) (j := 2) 1 rfl rfl (.inr rfl) rfl ?_
   refine F.loop (σ := Nat × List Int × List Int) [3, 6, 29, 30, 31, 32, 33, 34, 35, 36, 37, 38, 39, 40, 41, 42, 43, 44, 45, 46, 47, 48, 49, 50, 51, 52, 53, 54, 55, 56, 57, 58, 59, 60, 61, 62, 63, 64, 65] (fun x => [(6, .i ((x.1 + 1 : Nat) : Int))]) (fun x => [(2, .live false 3 [[.i v, .sl 3 x.1 0 x.1, .sl 4 x.1 0 x.1]]), (3, .live false 1 (E true x.2.1)), (4, .live false 1 (E true x.2.2))]) (fun x => x.1 + 1 ≤ l.length ∧ x.2.1.length = x.1 ∧ x.2.2.length = x.1) (fun x => l.length - x.1) (0, [], []) ⟨rfl, trivial⟩ ⟨rfl, rfl, rfl, trivial⟩ ⟨by omega, rfl, rfl⟩ ?_
   rintro ⟨k, fr, to⟩ ⟨k1, k2, k3⟩
   dsimp only at k1 k2 k3 ⊢
   by_cases hk : k + 1 < l.length
   ·have hk0 : (l.getD (0 + (k + 1)) default).size ≤ s.size := by rw [Nat.zero_add]; exact l2 (k + 1) hk
    by_cases hs2 : ((l.getD (0 + (k + 1)) default).size : Int) = 2
    ·obtain ⟨u0, hu0⟩ : ∃ z, (l.getD (0 + (k + 1)) default)[0]? = some z := ⟨_, getElem?_pos _ 0 (by omega)⟩
     obtain ⟨u1, hu1⟩ : ∃ z, (l.getD (0 + (k + 1)) default)[1]? = some z := ⟨_, getElem?_pos _ 1 (by omega)⟩
     have hub0 := UInt8.toNat_lt u0
     have hub1 := UInt8.toNat_lt u1
     repeat' first | refine s1 ?_ | (refine kR ?_; first | refine F.sil (A.lenStr (by omega) rfl) rfl rfl ?_) | fail
     refine AW.draw 10 G.mixed (by kernel_rfl) ?_
     refine dP 0 ?_
     refine dL 1 ?_
     refine dP 2 ?_
     refine dP 3 ?_
     refine dP 4 ?_
     refine dL 5 ?_
     first | refine dP 6 ?_ (hs := by exact (A.idxStr (k := 0) rfl rfl hu0)) | refine dP 6 ?_
     first | refine dP 7 ?_ (hs := by exact (A.cvQI rfl (In64.mk (by omega)))) | refine dP 7 ?_
     refine dP 8 ?_
     refine dO 9 true ?_
     refine s1 ?_
     refine tN ?_
     refine dO 10 false ?_
     first | refine s1 ?_ | refine F.a1 Int ?_
     refine tN ?_
     refine dP 11 ?_
     refine dO 12 false ?_
     refine s1 ?_
     refine tN ?_
     refine dN ?_
     rotate_left
     all_goals
      refine ATh.normal ?_
      refine AW.draw 10 G.mixed (by kernel_rfl) ?_
      refine dP 0 ?_
      refine dL 1 ?_
      refine dP 2 ?_
      refine dP 3 ?_
      refine dP 4 ?_
      refine dL 5 ?_
      first | refine dP 6 ?_ (hs := by exact (A.idxStr (k := 1) rfl rfl hu1)) | refine dP 6 ?_
      first | refine dP 7 ?_ (hs := by exact (A.cvQI rfl (In64.mk (by omega)))) | refine dP 7 ?_
      refine dP 8 ?_
      refine dO 9 true ?_
      refine s1 ?_
      refine tN ?_
      refine dO 10 false ?_
      first | refine s1 ?_ | refine F.a1 Int ?_
      refine tN ?_
      refine dP 11 ?_
      refine dO 12 false ?_
      refine s1 ?_
      refine tN ?_
      refine dN ?_
      rotate_left
      all_goals
       repeat' first | refine s1 ?_ | fail
       exact ⟨(k + 1, fr ++ [(u0.toNat : Int) - 48], to ++ [(u1.toNat : Int) - 48]), F.fit ⟨rfl, trivial⟩ ⟨rfl, obE rfl, obE rfl, trivial⟩, ⟨by omega, by simp; omega, by simp; omega⟩, by show l.length - (k + 1) < l.length - k; omega⟩
    ·repeat' first | refine s1 ?_ | (refine kR ?_; first | refine F.sil (A.lenStr (by omega) rfl) rfl rfl ?_) | fail
     exact F.rx (⟨0, [], []⟩, false) ⟨Nat.zero_le _, Nat.zero_le _⟩ (F.retM rfl trivial)
   ·obtain hkl : k + 1 = l.length := by omega
    have hF := specFormatQuiver_c ⟨v, fr, to⟩
    repeat' first | refine s1 ?_ | (refine kR ?_; first | (refine F.cx (hF) ?_; rintro z hz; refine F.ck ?_) | refine F.sil (A.neqS rfl rfl) rfl rfl ?_) | fail
    generalize (z.toList != s.toList) = c
    cases c with
    | true =>
     repeat' first | refine s1 ?_ | fail
     exact F.rx (⟨0, [], []⟩, false) ⟨Nat.zero_le _, Nat.zero_le _⟩ (F.retM rfl trivial)
    | false =>
     repeat' first | refine s1 ?_ | fail
     exact F.rx (⟨v, fr, to⟩, true) ⟨by show fr.length ≤ 100; omega, by show to.length ≤ 100; omega⟩ (F.retM rfl trivial)
  ·repeat' first | refine s1 ?_ | (refine kR ?_; first | refine F.sil (A.lenStr (by omega) rfl) rfl rfl ?_) | fail
   exact F.rx (⟨0, [], []⟩, false) ⟨Nat.zero_le _, Nat.zero_le _⟩ (F.retM rfl trivial)
 ·repeat' first | refine s1 ?_ | (refine kR ?_; first | refine F.sil (A.lenStr (by omega) rfl) rfl rfl ?_) | fail
  exact F.rx (⟨0, [], []⟩, false) ⟨Nat.zero_le _, Nat.zero_le _⟩ (F.retM rfl trivial)
def nameL : List ByteArray := [⟨#[65, 49]⟩, ⟨#[65, 50]⟩, ⟨#[65, 51]⟩, ⟨#[65, 51, 105, 110]⟩, ⟨#[65, 52]⟩, ⟨#[68, 52]⟩, ⟨#[68, 53]⟩, ⟨#[75, 50]⟩, ⟨#[115, 116, 97, 114, 52]⟩, ⟨#[115, 113, 117, 97, 114, 101]⟩, ⟨#[108, 111, 111, 112]⟩, ⟨#[99, 105, 114, 99, 108, 101]⟩]
theorem l6Names_a : AC Tryz.prog 115 [] [.dt true 1 (E true nameL)] := by
 refine AC.go Tryz.func115 Tryz.ntmps115 rfl rfl fun w0 hw => ?_; simp [WfL, WfA, E_length, Enc.enc, In64] at hw
 repeat' first | refine s1 ?_ | (refine kR ?_; first | refine F.litN (xs := V.E true nameL) rfl rfl rfl rfl rfl rfl rfl rfl ?_) | fail
 (refine kZ ?_; exact F.ret rfl)
theorem specNamedQuiver_x (s : ByteArray) : AMx Tryz.prog 110 [strA s] [] (fun x : Quiv × Bool => lenQ 100 x.1) (fun x => [.agg (enc true x.1), .b x.2]) (fun _ => []) := by
 refine AMx.go Tryz.func110 Tryz.ntmps110 rfl rfl fun w0 mp hw => ?_; simp [WfL, WfA, E_length, Enc.enc, In64] at hw
 have hP := fun t ht => specParseQuiver_x t ht
 iterate 14 (refine s1 ?_)
 refine F.cut (σ := ByteArray) [4, 8, 9, 10, 11, 12, 13, 14, 15, 16, 17, 18, 19, 20, 21, 22, 23, 24, 25, 26, 27, 28, 29, 30, 31] (fun t => [(4, strA t)]) (fun _ => []) (fun t => t.size ≤ 100) ?_ (fun t ht => ?_)
 ·repeat' first | refine s1 ?_ | (refine kR ?_; first | refine F.sil (A.eqlS rfl rfl) rfl rfl ?_) | (refine s2 ?_ ?_ <;> intro hc <;> (try simp only [decide_eq_true_eq, decide_eq_false_iff_not, Bool.not_eq_true', Bool.not_eq_false'] at hc)) | fail
  all_goals exact ⟨_, F.fit ⟨rfl, trivial⟩ trivial, by show ByteArray.size _ ≤ _; decide⟩
 ·repeat' first | refine s1 ?_ | (refine kR ?_; first | (refine F.x [] ((hP t ht)) ?_; rintro ⟨q, c⟩ hq; refine F.xk ?_)) | fail
  exact F.rx (q, c) hq (F.retM rfl trivial)
end Go.Proofs.YtoilkinagffhiaaGreat.V
