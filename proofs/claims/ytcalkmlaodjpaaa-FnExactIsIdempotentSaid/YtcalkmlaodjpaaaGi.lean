/- The walk's next step, found by trying the rules in turn (as default proofs of a rule's condition). Over any program; nothing is claimed of the given one. -/
import Derived.Test.YtcalkmlaodjpaaaGe
namespace Go.Proofs.Ytcalkmlaodjpaaa.G
open Go.RowKit
set_option linter.unusedVariables false

/-- one step with one goal behind it -/
theorem go1 {p p' : Prop} (h : p') (hs : p' → p := by
  intro h
  first
    | (refine jR ?_; first
      | exact Rg.nil h
      | (refine jM ?_; first | exact mI rfl rfl rfl h | exact mS rfl rfl rfl h | exact mB rfl rfl rfl h | exact mP rfl rfl rfl h | exact mG rfl rfl rfl h | exact mF rfl rfl rfl h | exact mV rfl rfl rfl h | exact Rg.skip rfl rfl h)
      | (refine jA ?_; first | exact aI rfl rfl rfl h | exact aS rfl rfl rfl h | exact aB rfl rfl rfl h | exact aP rfl rfl rfl h | exact aG rfl rfl rfl h | exact aF rfl rfl rfl h | exact aV rfl rfl rfl h | exact Rg.skip rfl rfl h)
      | (refine jL ?_; first | exact lH hH rfl ii rfl rfl rfl h | exact lA hH rfl ii rfl rfl rfl h | exact lC rfl (by assumption) rfl rfl h | exact lB rfl (by assumption) rfl rfl rfl h | exact lG rfl (by assumption) rfl rfl rfl h | exact Rg.skip rfl rfl h)
      | (refine jF ?_; first | exact fA rfl rfl rfl h | exact Rg.skip rfl rfl h)
      | (refine jB ?_; first | exact bL rfl rfl rfl rfl h | exact bA rfl rfl (by omega) rfl rfl h | exact bE rfl rfl rfl rfl h | exact bN rfl rfl rfl rfl h | exact bS rfl rfl (by omega) rfl rfl h | exact bQ rfl rfl rfl rfl h | exact bG rfl rfl rfl rfl h | exact bH rfl rfl rfl rfl h | exact Rg.skip rfl rfl h)
      | (refine jI ?_; first | exact iX rfl rfl rfl (by omega) rfl rfl h | exact iG rfl rfl rfl (by omega) rfl rfl h | exact Rg.skip rfl rfl h)
      | (refine jU ?_; first | exact uT rfl rfl rfl h | exact uF rfl rfl rfl h | exact uN rfl rfl rfl h | exact Rg.skip rfl rfl h)
      | (refine jP ?_; first | exact pY rfl rfl rfl rfl h | exact pN rfl rfl rfl rfl h)
      | (refine jE ?_; exact eX rfl rfl rfl rfl h)
      | (refine jK ?_; exact kF rfl rfl rfl rfl h)
      | (refine jX ?_; first | exact xG hH rfl rfl rfl h | exact xI hH rfl rfl rfl h | exact xS hH rfl rfl rfl h)
      | (refine jN ?_; first | exact nG hH rfl rfl h | exact nO hH rfl rfl rfl h)
      | (refine jY ?_; first | exact t0 hH rfl rfl h | exact tI hH rfl rfl rfl h | exact tS hH rfl rfl rfl h | exact tG hH rfl rfl rfl rfl rfl h)
      | (refine jS ?_; first | exact sI hH rfl rfl ii rfl rfl rfl h | exact sS hH rfl rfl ii rfl rfl rfl h | exact sG hH rfl rfl ii rfl rfl rfl rfl rfl h)
      | exact kM hH rfl rfl rfl rfl (by omega) rfl rfl (by omega) h
      | exact nL rfl rfl rfl h
      | exact nC rfl rfl rfl h
      | exact Rg.skip rfl rfl h
      | (refine jG ?_; first | exact gA rfl rfl (by omega) h | exact gB rfl rfl (by omega) h))
    | (refine jW ?_; first | exact Wp.seq h | exact Wp.region h | exact Wp.block h | exact Wp.ret h | exact Wp.exit h | exact Wp.skip h | exact Wp.yes rfl h | exact Wp.no rfl h | exact wA rfl (by omega) h | exact wB rfl (by omega) h)
    | (refine jT ?_; first | exact Th.normal h | exact Th.exit h | exact Th.ret h)
    | (refine jO ?_; first | exact Bk.normal h | exact Bk.here rfl h | exact Bk.far rfl h | exact Bk.ret h)) : p := hs h
/-- one with two -/
theorem go2 {p p1 p2 : Prop} (h1 : p1) (h2 : p2) (hs : p1 → p2 → p := by
  intro h1 h2
  first
    | (refine jD ?_; first | exact Wp.condD rfl h1 h2 | exact Wp.condN rfl h1 h2)
    | (refine jG ?_; first | exact Rg.splitD rfl rfl h1 h2 | exact Rg.splitN rfl rfl h1 h2)) : p := hs h1 h2
section
variable {P : Program} {ops : Array Oper} {Q : Exit → Env → World → Prop} {n m : Nat} {fuel : Nat} {listed : Array Bool} {E : Env} {w : World}
/-- operation i of a drawn region, a load -/
theorem ld [hQ : NoPan Q] (i : Nat) {o : Oper} {v : Value} (h : RgA P n m ops fuel (listed.setIfInBounds i true) Q (put E o.dst v) w) (ho : ops[i]? = some o := by exact rfl)
    (hc : (Nat.blt i m && isLoad ops i && Region.free .any ops listed i && (Region.ready .any ops listed).contains i) = true := by kernel_rfl)
    (hs : Sil P E o v w := by
      first
        | exact Sil.loadO hH rfl ii rfl | exact Sil.loadGO hH rfl ii rfl | exact Sil.load rfl (by assumption) | exact Sil.load rfl (Blk.cell (by assumption) rfl) | exact Sil.loadAgg rfl (Blk.cells (by assumption)) rfl)
    (hw : want n ops o E = true := by exact rfl) (hd : fits n o.dst = true := by exact rfl) : RgA P n m ops (fuel + 1) listed Q E w := RgA.take i ho hc hs hw hd h
/-- one that does not look at memory -/
theorem td [hQ : NoPan Q] (i : Nat) {o : Oper} {v : Value} (h : RgA P n m ops fuel (listed.setIfInBounds i true) Q (put E o.dst v) w) (ho : ops[i]? = some o := by exact rfl)
    (hc : (Region.free .any ops listed i && (Region.ready .any ops listed).contains i) = true := by kernel_rfl)
    (hs : ∀ w, Sil P E o v w := by
      intro w
      first
        | exact Sil.movI rfl | exact Sil.movS rfl | exact Sil.movB rfl | exact Sil.movP rfl | exact Sil.movG rfl | exact Sil.movF rfl
        | exact Sil.fieldAddr rfl
        | exact Sil.index1 rfl rfl rfl (by omega) | exact Sil.indexAddr rfl rfl rfl (by omega)
        | exact Sil.lss rfl rfl | exact Sil.eql rfl rfl | exact Sil.neq rfl rfl | exact Sil.add rfl rfl (In64.mk (by omega)) | exact Sil.sub rfl rfl (In64.mk (by omega)) | exact Sil.mul rfl rfl (In64.mk (by omega)) | exact Sil.leq rfl rfl | exact Sil.gtr rfl rfl | exact Sil.geq rfl rfl
        | exact Sil.len rfl | exact Sil.cap rfl | exact Sil.notT rfl | exact Sil.notF rfl | exact Sil.not rfl | exact Sil.pickYB rfl rfl | exact Sil.pickNB rfl rfl | exact Sil.extract rfl rfl | exact Sil.makeFunc rfl rfl
        | exact Sil.asgI rfl | exact Sil.asgS rfl | exact Sil.asgB rfl | exact Sil.asgP rfl | exact Sil.asgG rfl | exact Sil.move rfl | exact Sil.assign rfl)
    (hw : want n ops o E = true := by exact rfl) (hd : fits n o.dst = true := by exact rfl) : RgA P n m ops (fuel + 1) listed Q E w := RgA.pure i ho hc hs hw hd h
/-- one that is not wanted -/
theorem sd [hQ : NoPan Q] (i : Nat) {o : Oper} (h : RgA P n m ops fuel (listed.setIfInBounds i true) Q (put E o.dst undef) w) (ho : ops[i]? = some o := by exact rfl)
    (hc : (Region.free .any ops listed i && (Region.ready .any ops listed).contains i) = true := by kernel_rfl)
    (hw : want n ops o E = false := by exact rfl) (hd : fits n o.dst = true := by exact rfl) : RgA P n m ops (fuel + 1) listed Q E w := RgA.skip i ho hc hw hd h
/-- the only one that may come up -/
theorem od (i : Nat) {o : Oper} (h : Rg P n ops [o] (Th (fun E' w' => (m ≤ i ∨ Later w w') ∧ RgA P n m ops fuel (listed.setIfInBounds i true) Q E' w') Q) E w) (ho : ops[i]? = some o := by exact rfl) (hr : Region.ready .any ops listed = [i] := by kernel_rfl) :
    RgA P n m ops (fuel + 1) listed Q E w := RgA.only i ho hr h
theorem nd (h : Q .normal E w) (hr : Region.ready .any ops listed = [] := by kernel_rfl) : RgA P n m ops fuel listed Q E w := RgA.nil hr h
end
theorem slcEq {p : Option Addr} {l l' c : Nat} (h : l = l') : Value.slice p l c = .slice p l' c := by rw [h]
section
variable {P : Program} {n : Nat} {Q : Exit → Env → World → Prop} {E : Env} {w : World}
/-- a cut behind x: the slots of S may hold anything but what 'st' and I say -/
theorem Wp.cutC {σ : Type} (S : List Nat) (st : σ → List (Nat × Value)) (I : σ → World → Prop) {x : Code} {K : Env → World → Prop}
    (hx : Wp P n x (Th (fun E' w' => ∃ s, At E' (st s) ∧ Agr S E' E ∧ I s w') Q) E w)
    (hy : ∀ s w h, I s w → K (ups (st s) (hv S h E)) w) : Wp P n x (Th K Q) E w :=
  hx.mono fun e E' w' hq => by
    cases e <;> first
      | exact hq
      | (obtain ⟨s, hat, hag, hI⟩ := hq
         have := hy s w' E' hI
         rw [hv_of_agr hag, ups_of_at hat] at this
         exact this)
end
theorem Agr.hvIn {S S' : List Nat} {E0 E h : Env} (hs : S'.all (mem S) = true) (ha : Agr S E0 E) : Agr S (G.hv S' h E0) E := fun t ht => by
  unfold G.hv
  cases hm : mem S' t with
  | false => exact ha t ht
  | true =>
    have : mem S t = true := by
      clear ht ha
      induction S' with
      | nil => cases hm
      | cons a l ih =>
        rw [List.all_cons, Bool.and_eq_true] at hs
        simp only [mem] at hm
        cases hb : Nat.beq t a with
        | true => rw [Nat.eq_of_beq_eq_true hb]; exact hs.1
        | false => rw [hb] at hm; exact ih hs.2 hm
    rw [this] at ht; cases ht
theorem agr {S : List Nat} {E' E : Env} (h : Agr S E' E := by repeat first | exact Agr.refl _ _ | exact Agr.hv _ _ _ | exact Agr.ups rfl (Agr.hv _ _ _) | refine Agr.put rfl ?_ | refine Agr.upd rfl ?_ | refine Agr.ups rfl ?_ | refine Agr.hvIn rfl ?_) : Agr S E' E := h
end Go.Proofs.Ytcalkmlaodjpaaa.G
