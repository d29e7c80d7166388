/- Contracts: morphisms, their products, idempotents. -/
import Derived.Test.YtedjajokbdokhaaA25
namespace Go.Proofs.Ytedjajokbdokhaa.V
open V.Enc (enc)
open Go.RowKit G D
set_option linter.unusedVariables false
set_option linter.unusedSimpArgs false
set_option maxHeartbeats 4000000
set_option maxRecDepth 4000
attribute [local irreducible] AW ARg ARA ARet MRet ASil AC AM

theorem implMor1_a (m : Mat) : AC Try.prog 69 [.agg (enc false m)] [.b (!isZ m)] := by
  refine AC.go Try.func69 Try.ntmps69 rfl rfl fun w0 hw => ?_; simp [WfL, WfA, E_length, Enc.enc, In64] at hw
  have hZ := isZero_a m
  repeat' first | refine s1 ?_ | (refine kR ?_; first | refine F.c (hZ) ?_) | fail
  (refine kZ ?_; exact F.ret rfl)
theorem implIsMorphism_a (a b : Rep) (f : List Mat) : AC Try.prog 43 [.agg (enc false a), .agg (enc false b), ar false f] [.b (isMor a b f)] := by
  refine AC.go Try.func43 Try.ntmps43 rfl rfl fun w0 hw => ?_; simp [WfL, WfA, E_length, Enc.enc, In64] at hw
  have hA := implAreMatrices_a a b f
  unfold isMor
  cases ha : areM a b f with
  | false =>
    rw [ha] at hA
    repeat' first | refine s1 ?_ | (refine kR ?_; first | refine F.c (hA) ?_) | fail
    refine F.ret ?_
    rfl
  | true =>
    rw [ha] at hA
    have hC := coboundary_a a b f ha
    have hF := ContainsFuncM_a (cobL a b f) 69 [] (fun m => !isZ m) (fun _ => .nil) (fun x _ => implMor1_a x)
    have he : ((List.range a.q.fr.length).all fun i => sameM (arX a b f i) (arY a b f i)) = !((cobL a b f).any fun m => !isZ m) := by
      rw [← cobL_all ha, List.not_any_eq_all_not]; simp
    rw [he]
    generalize ((cobL a b f).any fun m => !isZ m) = Y at hF ⊢
    generalize cobL a b f = L at hC hF
    repeat' first | refine s1 ?_ | (refine kR ?_; first | refine F.c (hA) ?_ | refine F.c (hC) ?_ | refine F.c (hF) ?_) | fail
    refine F.ret ?_
    simp
theorem specIsMorphism_a (a b : Rep) (f : List Mat) : AC Try.prog 39 [.agg (enc false a), .agg (enc false b), ar false f] [.b (isMor a b f)] := by
  refine AC.go Try.func39 Try.ntmps39 rfl rfl fun w0 hw => ?_; simp [WfL, WfA, E_length, Enc.enc, In64] at hw
  have hA := specAreMatrices_a a b f
  cases ha : areM a b f with
  | false =>
    rw [ha] at hA
    repeat' first | refine s1 ?_ | (refine kR ?_; first | refine F.c (hA) ?_) | fail
    refine F.ret ?_
    rw [isMor, ha]; rfl
  | true =>
    rw [ha] at hA
    have h1 := (areM_spec ha).1
    have hh := Fits.of h1
    have h5 := okQ_spec hh.ok
    have hma := hh.ma
    have hmb := hh.mb
    repeat' first | refine s1 ?_ | (refine kR ?_; first | refine F.c (hA) ?_) | fail
    refine F.loop (σ := Nat) [6, 7, 8, 9, 15, 16, 17, 18, 19, 20, 21, 22, 23, 24, 25, 26, 27, 28, 29, 30, 31, 32, 33, 34, 35, 36, 37, 38, 39, 40, 41, 42, 43, 44, 45, 46, 47, 48, 49, 50, 51, 52, 53, 54, 55, 56, 57, 58, 59] (fun k => [(7, .i k)]) (fun _ => []) (fun k => k ≤ a.q.fr.length ∧ ∀ j, j < k → sameM (arX a b f j) (arY a b f j) = true) (fun k => a.q.fr.length - k) 0 ⟨rfl, trivial⟩ trivial ⟨Nat.zero_le _, fun j hj => by omega⟩ ?_
    rintro k ⟨g1, g2⟩
    by_cases hlt : k < a.q.fr.length
    · have hAr := ArF.of ha hlt
      have fr := hAr.fr
      have to := hAr.to
      have hX := l3MulM_a hAr.mb hAr.ff hAr.cx
      have hY := l3MulM_a hAr.ft hAr.ma hAr.cy
      rw [show mulM a.p (b.m.getD k default) (f.getD (a.q.fr.getD k default).toNat default) = arX a b f k from rfl] at hX
      rw [show mulM a.p (f.getD (a.q.to.getD k default).toNat default) (a.m.getD k default) = arY a b f k from rfl] at hY
      have hE := specEqualMatrices_a (arX a b f k) (arY a b f k)
      cases hs : sameM (arX a b f k) (arY a b f k) with
      | true =>
        rw [hs] at hE
        generalize arX a b f k = X at hX hE
        generalize arY a b f k = Y at hY hE
        repeat' first | refine s1 ?_ | fail
        refine AW.draw 18 G.mixed (by kernel_rfl) ?_
        refine dP 0 ?_
        refine dL 1 ?_
        refine dP 2 ?_
        refine dL 3 ?_
        refine dP 4 ?_
        refine dP 5 ?_
        refine dL 6 ?_
        refine dP 7 ?_
        refine dP 8 ?_
        refine dP 9 ?_
        refine dL 10 ?_
        refine dP 11 ?_
        refine dP 12 ?_
        refine dL 13 ?_
        refine dP 14 ?_
        refine dL 15 ?_
        refine ARA.any [16, 17] (by kernel_rfl) (by simp) ?_
        intro k hk
        simp only [List.mem_cons, List.not_mem_nil, or_false] at hk
        rcases hk with rfl | rfl
        · refine ⟨_, true, rfl, rfl, ?_⟩
          first | refine s1 ?_ | refine F.c (hX) ?_
          refine ARg.nil (ATh.normal ?_)
          refine dO 17 true ?_
          refine s1 ?_
          refine ARg.nil (ATh.normal ?_)
          refine dO 18 false ?_
          refine s1 ?_
          refine ARg.nil (ATh.normal ?_)
          refine dN ?_
          repeat' first | refine s1 ?_ | fail
          refine AW.draw 18 G.mixed (by kernel_rfl) ?_
          refine dP 0 ?_
          refine dL 1 ?_
          refine dP 2 ?_
          refine dP 3 ?_
          refine dP 4 ?_
          refine dL 5 ?_
          refine dP 6 ?_
          refine dP 7 ?_
          refine dL 8 ?_
          refine dP 9 ?_
          refine dL 10 ?_
          refine dP 11 ?_
          refine dL 12 ?_
          refine dP 13 ?_
          refine dP 14 ?_
          refine dL 15 ?_
          refine ARA.any [16, 17] (by kernel_rfl) (by simp) ?_
          intro k hk
          simp only [List.mem_cons, List.not_mem_nil, or_false] at hk
          rcases hk with rfl | rfl
          · refine ⟨_, true, rfl, rfl, ?_⟩
            first | refine s1 ?_ | refine F.c (hY) ?_
            refine ARg.nil (ATh.normal ?_)
            refine dO 17 true ?_
            refine s1 ?_
            refine ARg.nil (ATh.normal ?_)
            refine dO 18 false ?_
            refine s1 ?_
            refine ARg.nil (ATh.normal ?_)
            refine dN ?_
            repeat' first | refine s1 ?_ | (refine kR ?_; first | refine F.c (hE) ?_) | fail
            exact ⟨k + 1, F.fit ⟨rfl, trivial⟩ trivial, ⟨by omega, snocP g2 hs⟩, by omega⟩
          · refine ⟨_, true, rfl, rfl, ?_⟩
            refine s1 ?_
            refine ARg.nil (ATh.normal ?_)
            refine dO 16 true ?_
            first | refine s1 ?_ | refine F.c (hY) ?_
            refine ARg.nil (ATh.normal ?_)
            refine dO 18 false ?_
            refine s1 ?_
            refine ARg.nil (ATh.normal ?_)
            refine dN ?_
            repeat' first | refine s1 ?_ | (refine kR ?_; first | refine F.c (hE) ?_) | fail
            exact ⟨k + 1, F.fit ⟨rfl, trivial⟩ trivial, ⟨by omega, snocP g2 hs⟩, by omega⟩
        · refine ⟨_, true, rfl, rfl, ?_⟩
          refine s1 ?_
          refine ARg.nil (ATh.normal ?_)
          refine dO 16 true ?_
          first | refine s1 ?_ | refine F.c (hX) ?_
          refine ARg.nil (ATh.normal ?_)
          refine dO 18 false ?_
          refine s1 ?_
          refine ARg.nil (ATh.normal ?_)
          refine dN ?_
          repeat' first | refine s1 ?_ | fail
          refine AW.draw 18 G.mixed (by kernel_rfl) ?_
          refine dP 0 ?_
          refine dL 1 ?_
          refine dP 2 ?_
          refine dP 3 ?_
          refine dP 4 ?_
          refine dL 5 ?_
          refine dP 6 ?_
          refine dP 7 ?_
          refine dL 8 ?_
          refine dP 9 ?_
          refine dL 10 ?_
          refine dP 11 ?_
          refine dL 12 ?_
          refine dP 13 ?_
          refine dP 14 ?_
          refine dL 15 ?_
          refine ARA.any [16, 17] (by kernel_rfl) (by simp) ?_
          intro k hk
          simp only [List.mem_cons, List.not_mem_nil, or_false] at hk
          rcases hk with rfl | rfl
          · refine ⟨_, true, rfl, rfl, ?_⟩
            first | refine s1 ?_ | refine F.c (hY) ?_
            refine ARg.nil (ATh.normal ?_)
            refine dO 17 true ?_
            refine s1 ?_
            refine ARg.nil (ATh.normal ?_)
            refine dO 18 false ?_
            refine s1 ?_
            refine ARg.nil (ATh.normal ?_)
            refine dN ?_
            repeat' first | refine s1 ?_ | (refine kR ?_; first | refine F.c (hE) ?_) | fail
            exact ⟨k + 1, F.fit ⟨rfl, trivial⟩ trivial, ⟨by omega, snocP g2 hs⟩, by omega⟩
          · refine ⟨_, true, rfl, rfl, ?_⟩
            refine s1 ?_
            refine ARg.nil (ATh.normal ?_)
            refine dO 16 true ?_
            first | refine s1 ?_ | refine F.c (hY) ?_
            refine ARg.nil (ATh.normal ?_)
            refine dO 18 false ?_
            refine s1 ?_
            refine ARg.nil (ATh.normal ?_)
            refine dN ?_
            repeat' first | refine s1 ?_ | (refine kR ?_; first | refine F.c (hE) ?_) | fail
            exact ⟨k + 1, F.fit ⟨rfl, trivial⟩ trivial, ⟨by omega, snocP g2 hs⟩, by omega⟩
      | false =>
        rw [hs] at hE
        generalize arX a b f k = X at hX hE
        generalize arY a b f k = Y at hY hE
        repeat' first | refine s1 ?_ | fail
        refine AW.draw 18 G.mixed (by kernel_rfl) ?_
        refine dP 0 ?_
        refine dL 1 ?_
        refine dP 2 ?_
        refine dL 3 ?_
        refine dP 4 ?_
        refine dP 5 ?_
        refine dL 6 ?_
        refine dP 7 ?_
        refine dP 8 ?_
        refine dP 9 ?_
        refine dL 10 ?_
        refine dP 11 ?_
        refine dP 12 ?_
        refine dL 13 ?_
        refine dP 14 ?_
        refine dL 15 ?_
        refine ARA.any [16, 17] (by kernel_rfl) (by simp) ?_
        intro k hk
        simp only [List.mem_cons, List.not_mem_nil, or_false] at hk
        rcases hk with rfl | rfl
        · refine ⟨_, true, rfl, rfl, ?_⟩
          first | refine s1 ?_ | refine F.c (hX) ?_
          refine ARg.nil (ATh.normal ?_)
          refine dO 17 true ?_
          refine s1 ?_
          refine ARg.nil (ATh.normal ?_)
          refine dO 18 false ?_
          refine s1 ?_
          refine ARg.nil (ATh.normal ?_)
          refine dN ?_
          repeat' first | refine s1 ?_ | fail
          refine AW.draw 18 G.mixed (by kernel_rfl) ?_
          refine dP 0 ?_
          refine dL 1 ?_
          refine dP 2 ?_
          refine dP 3 ?_
          refine dP 4 ?_
          refine dL 5 ?_
          refine dP 6 ?_
          refine dP 7 ?_
          refine dL 8 ?_
          refine dP 9 ?_
          refine dL 10 ?_
          refine dP 11 ?_
          refine dL 12 ?_
          refine dP 13 ?_
          refine dP 14 ?_
          refine dL 15 ?_
          refine ARA.any [16, 17] (by kernel_rfl) (by simp) ?_
          intro k hk
          simp only [List.mem_cons, List.not_mem_nil, or_false] at hk
          rcases hk with rfl | rfl
          · refine ⟨_, true, rfl, rfl, ?_⟩
            first | refine s1 ?_ | refine F.c (hY) ?_
            refine ARg.nil (ATh.normal ?_)
            refine dO 17 true ?_
            refine s1 ?_
            refine ARg.nil (ATh.normal ?_)
            refine dO 18 false ?_
            refine s1 ?_
            refine ARg.nil (ATh.normal ?_)
            refine dN ?_
            repeat' first | refine s1 ?_ | (refine kR ?_; first | refine F.c (hE) ?_) | fail
            refine F.ret ?_
            rw [isMor, all_no hlt hs, Bool.and_false]
          · refine ⟨_, true, rfl, rfl, ?_⟩
            refine s1 ?_
            refine ARg.nil (ATh.normal ?_)
            refine dO 16 true ?_
            first | refine s1 ?_ | refine F.c (hY) ?_
            refine ARg.nil (ATh.normal ?_)
            refine dO 18 false ?_
            refine s1 ?_
            refine ARg.nil (ATh.normal ?_)
            refine dN ?_
            repeat' first | refine s1 ?_ | (refine kR ?_; first | refine F.c (hE) ?_) | fail
            refine F.ret ?_
            rw [isMor, all_no hlt hs, Bool.and_false]
        · refine ⟨_, true, rfl, rfl, ?_⟩
          refine s1 ?_
          refine ARg.nil (ATh.normal ?_)
          refine dO 16 true ?_
          first | refine s1 ?_ | refine F.c (hX) ?_
          refine ARg.nil (ATh.normal ?_)
          refine dO 18 false ?_
          refine s1 ?_
          refine ARg.nil (ATh.normal ?_)
          refine dN ?_
          repeat' first | refine s1 ?_ | fail
          refine AW.draw 18 G.mixed (by kernel_rfl) ?_
          refine dP 0 ?_
          refine dL 1 ?_
          refine dP 2 ?_
          refine dP 3 ?_
          refine dP 4 ?_
          refine dL 5 ?_
          refine dP 6 ?_
          refine dP 7 ?_
          refine dL 8 ?_
          refine dP 9 ?_
          refine dL 10 ?_
          refine dP 11 ?_
          refine dL 12 ?_
          refine dP 13 ?_
          refine dP 14 ?_
          refine dL 15 ?_
          refine ARA.any [16, 17] (by kernel_rfl) (by simp) ?_
          intro k hk
          simp only [List.mem_cons, List.not_mem_nil, or_false] at hk
          rcases hk with rfl | rfl
          · refine ⟨_, true, rfl, rfl, ?_⟩
            first | refine s1 ?_ | refine F.c (hY) ?_
            refine ARg.nil (ATh.normal ?_)
            refine dO 17 true ?_
            refine s1 ?_
            refine ARg.nil (ATh.normal ?_)
            refine dO 18 false ?_
            refine s1 ?_
            refine ARg.nil (ATh.normal ?_)
            refine dN ?_
            repeat' first | refine s1 ?_ | (refine kR ?_; first | refine F.c (hE) ?_) | fail
            refine F.ret ?_
            rw [isMor, all_no hlt hs, Bool.and_false]
          · refine ⟨_, true, rfl, rfl, ?_⟩
            refine s1 ?_
            refine ARg.nil (ATh.normal ?_)
            refine dO 16 true ?_
            first | refine s1 ?_ | refine F.c (hY) ?_
            refine ARg.nil (ATh.normal ?_)
            refine dO 18 false ?_
            refine s1 ?_
            refine ARg.nil (ATh.normal ?_)
            refine dN ?_
            repeat' first | refine s1 ?_ | (refine kR ?_; first | refine F.c (hE) ?_) | fail
            refine F.ret ?_
            rw [isMor, all_no hlt hs, Bool.and_false]
    · obtain rfl : k = a.q.fr.length := by omega
      repeat' first | refine s1 ?_ | fail
      refine F.ret ?_
      rw [isMor, ha, all_yes g2]; rfl
def sameL (f g : List Mat) : Bool := decide (f.length = g.length) && (List.range f.length).all fun v => sameM (f.getD v default) (g.getD v default)
theorem sameM_comm (x y : Mat) : sameM x y = sameM y x := by
  unfold sameM
  rw [show decide (x.r = y.r) = decide (y.r = x.r) from decide_eq_decide.2 eq_comm, show decide (x.c = y.c) = decide (y.c = x.c) from decide_eq_decide.2 eq_comm, show decide (x.m = y.m) = decide (y.m = x.m) from decide_eq_decide.2 eq_comm]
theorem sameL_comm (f g : List Mat) : sameL f g = sameL g f := by
  unfold sameL
  by_cases h : f.length = g.length
  · rw [decide_eq_true h, decide_eq_true h.symm, h]
    congr 1
    refine congrArg (fun p => (List.range g.length).all p) (funext fun v => sameM_comm _ _)
  · rw [decide_eq_false h, decide_eq_false (fun e => h e.symm)]; rfl
/-- products of matrices with others -/
def compL (p : Int) (f g : List Mat) : List Mat := (List.range f.length).map fun v => mulM p (g.getD v default) (f.getD v default)
theorem compL_len (p : Int) (f g : List Mat) : (compL p f g).length = f.length := by simp [compL]
theorem compL_take (p : Int) (f g : List Mat) {k : Nat} (hk : k < f.length) : (compL p f g).take (k + 1) = (compL p f g).take k ++ [mulM p (g.getD k default) (f.getD k default)] := by
  simp only [compL, ← List.map_take, range_take hk, List.map_append, List.map_cons, List.map_nil]
def compM (a b c : Rep) (f g : List Mat) : List Mat × Bool := if isMor a b f = true ∧ isMor b c g = true then (compL a.p f g, true) else ([], false)
theorem isMor_are {a b : Rep} {f : List Mat} (h : isMor a b f = true) : areM a b f = true := by
  simp only [isMor, Bool.and_eq_true] at h; exact h.1
theorem comp_ok {a b c : Rep} {f g : List Mat} (h1 : isMor a b f = true) (h2 : isMor b c g = true) : f.length = g.length ∧ f.length ≤ 5 ∧ ∀ v, v < f.length → isMat a.p (f.getD v default) = true ∧ isMat a.p (g.getD v default) = true ∧ (g.getD v default).c = (f.getD v default).r := by
  obtain ⟨a1, a2, a3⟩ := areM_spec (isMor_are h1)
  obtain ⟨b1, b2, b3⟩ := areM_spec (isMor_are h2)
  have hh := Fits.of a1
  have h5 := okQ_spec hh.ok
  have hda := hh.da
  have hdb := hh.db
  refine ⟨by omega, by omega, fun v hv => ?_⟩
  have f1 := a3 v hv
  have f2 := b3 v (by omega)
  simp only [fitV, Bool.and_eq_true, decide_eq_true_eq] at f1 f2
  rw [← hh.p] at f2
  exact ⟨f1.1.1, f2.1.1, by rw [f2.1.2, f1.2]⟩
def isIdem (r : Rep) (f : List Mat) : Bool := isMor r r f && sameL (compL r.p f f) f
end Go.Proofs.Ytedjajokbdokhaa.V
