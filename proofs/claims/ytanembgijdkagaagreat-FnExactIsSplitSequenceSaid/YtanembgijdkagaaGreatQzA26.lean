/- Contracts: morphisms, their products, idempotents. -/
import Derived.Test.YtanembgijdkagaaGreatQzA25
namespace Go.Proofs.YtanembgijdkagaaGreat.V
open V.Enc (enc)
open Go.RowKit G D
set_option linter.unusedVariables false
set_option linter.unusedSimpArgs false
set_option maxHeartbeats 4000000
set_option maxRecDepth 4000
attribute [local irreducible] AW ARg ARA ARet MRet ASil AC AM
theorem implMor1_a (m : Mat) : AC Tryz.prog 163 [.agg (enc false m)] [.b (!isZ m)] := by
  refine AC.go Tryz.func163 Tryz.ntmps163 rfl rfl fun w0 hw => ?_; simp [WfL, WfA, E_length, Enc.enc, In64] at hw
  have hZ := isZero_a m
  repeat' first | refine s1 ?_ | (refine kR ?_; first | refine F.c (hZ) ?_) | fail
  (refine kZ ?_; exact F.ret rfl)
theorem implIsMorphism_a (a b : Rep) (f : List Mat) : AC Tryz.prog 123 [.agg (enc false a), .agg (enc false b), ar false f] [.b (isMor a b f)] := by
  refine AC.go Tryz.func123 Tryz.ntmps123 rfl rfl fun w0 hw => ?_; simp [WfL, WfA, E_length, Enc.enc, In64] at hw
  have hA := implAreMatrices_a a b f
  unfold isMor
  cases ha : areM a b f with
  | false =>
    rw [ha] at hA
    repeat' first | refine s1 ?_ | (refine kR ?_; first | refine F.c (hA) ?_) | fail
    refine F.ret ?_
    rfl
  | true =>
    rw [ha] at hA
    have hC := coboundary_a a b f ha
    have hF := ContainsFuncM_a (cobL a b f) 163 [] (fun m => !isZ m) (fun _ => .nil) (fun x _ => implMor1_a x)
    have he : ((List.range a.q.fr.length).all fun i => sameM (arX a b f i) (arY a b f i)) = !((cobL a b f).any fun m => !isZ m) := by
      rw [← cobL_all ha, List.not_any_eq_all_not]; simp
    rw [he]
    generalize ((cobL a b f).any fun m => !isZ m) = Y at hF ⊢
    generalize cobL a b f = L at hC hF
    repeat' first | refine s1 ?_ | (refine kR ?_; first | refine F.c (hA) ?_ | refine F.c (hC) ?_ | refine F.c (hF) ?_) | fail
    refine F.ret ?_
    simp
theorem specIsMorphism_a (a b : Rep) (f : List Mat) : AC Tryz.prog 118 [.agg (enc false a), .agg (enc false b), ar false f] [.b (isMor a b f)] := by
  refine AC.go Tryz.func118 Tryz.ntmps118 rfl rfl fun w0 hw => ?_; simp [WfL, WfA, E_length, Enc.enc, In64] at hw
  have hA := specAreMatrices_a a b f
  cases ha : areM a b f with
  | false =>
    rw [ha] at hA
    repeat' first | refine s1 ?_ | (refine kR ?_; first | refine F.c (hA) ?_) | fail
    refine F.ret ?_
    rw [isMor, ha]; rfl
  | true =>
    rw [ha] at hA
    have h1 := (areM_spec ha).1
    have hh := Fits.of h1
    have h5 := okQ_spec hh.ok
    have hma := hh.ma
    have hmb := hh.mb
    repeat' first | refine s1 ?_ | (refine kR ?_; first | refine F.c (hA) ?_) | fail
    refine F.loop (σ := Nat) [6, 7, 8, 9, 15, 16, 17, 18, 19, 20, 21, 22, 23, 24, 25, 26, 27, 28, 29, 30, 31, 32, 33, 34, 35, 36, 37, 38, 39, 40, 41, 42, 43, 44, 45, 46, 47, 48, 49, 50, 51, 52, 53, 54, 55, 56, 57, 58, 59] (fun k => [(7, .i k)]) (fun _ => []) (fun k => k ≤ a.q.fr.length ∧ ∀ j, j < k → sameM (arX a b f j) (arY a b f j) = true) (fun k => a.q.fr.length - k) 0 ⟨rfl, trivial⟩ trivial ⟨Nat.zero_le _, fun j hj => by omega⟩ ?_
    rintro k ⟨g1, g2⟩
    by_cases hlt : k < a.q.fr.length
    · have hAr := ArF.of ha hlt
      have fr := hAr.fr
      have to := hAr.to
      have hX := l3MulM_a hAr.mb hAr.ff hAr.cx
      have hY := l3MulM_a hAr.ft hAr.ma hAr.cy
      rw [show mulM a.p (b.m.getD k default) (f.getD (a.q.fr.getD k default).toNat default) = arX a b f k from rfl] at hX
      rw [show mulM a.p (f.getD (a.q.to.getD k default).toNat default) (a.m.getD k default) = arY a b f k from rfl] at hY
      have hE := specEqualMatrices_a (arX a b f k) (arY a b f k)
      cases hs : sameM (arX a b f k) (arY a b f k) with
      | true =>
        rw [hs] at hE
        generalize arX a b f k = X at hX hE
        generalize arY a b f k = Y at hY hE
        repeat' first | refine s1 ?_ | fail
        refine AW.draw 18 G.mixed (by kernel_rfl) ?_
        refine dP 0 ?_
        refine dL 1 ?_
        refine dP 2 ?_
        refine dL 3 ?_
        refine dP 4 ?_
        refine dP 5 ?_
        refine dL 6 ?_
        refine dP 7 ?_
        refine dP 8 ?_
        refine dP 9 ?_
        refine dL 10 ?_
        refine dP 11 ?_
        refine dP 12 ?_
        refine dL 13 ?_
        refine dP 14 ?_
        refine dL 15 ?_
        refine ARA.any [16, 17] (by kernel_rfl) (by simp) ?_
        intro k hk
        simp only [List.mem_cons, List.not_mem_nil, or_false] at hk
        rcases hk with rfl | rfl
        · refine ⟨_, true, rfl, rfl, ?_⟩
          first | refine s1 ?_ | refine F.c (hX) ?_
          refine ARg.nil (ATh.normal ?_)
          refine dO 17 true ?_
          refine s1 ?_
          refine ARg.nil (ATh.normal ?_)
          refine dO 18 false ?_
          refine s1 ?_
          refine ARg.nil (ATh.normal ?_)
          refine dN ?_
          repeat' first | refine s1 ?_ | fail
          refine AW.draw 18 G.mixed (by kernel_rfl) ?_
          refine dP 0 ?_
          refine dL 1 ?_
          refine dP 2 ?_
          refine dP 3 ?_
          refine dP 4 ?_
          refine dL 5 ?_
          refine dP 6 ?_
          refine dP 7 ?_
          refine dL 8 ?_
          refine dP 9 ?_
          refine dL 10 ?_
          refine dP 11 ?_
          refine dL 12 ?_
          refine dP 13 ?_
          refine dP 14 ?_
          refine dL 15 ?_
          refine ARA.any [16, 17] (by kernel_rfl) (by simp) ?_
          intro k hk
          simp only [List.mem_cons, List.not_mem_nil, or_false] at hk
          rcases hk with rfl | rfl
          · refine ⟨_, true, rfl, rfl, ?_⟩
            first | refine s1 ?_ | refine F.c (hY) ?_
            refine ARg.nil (ATh.normal ?_)
            refine dO 17 true ?_
            refine s1 ?_
            refine ARg.nil (ATh.normal ?_)
            refine dO 18 false ?_
            refine s1 ?_
            refine ARg.nil (ATh.normal ?_)
            refine dN ?_
            repeat' first | refine s1 ?_ | (refine kR ?_; first | refine F.c (hE) ?_) | fail
            exact ⟨k + 1, F.fit ⟨rfl, trivial⟩ trivial, ⟨by omega, snocP g2 hs⟩, by omega⟩
          · refine ⟨_, true, rfl, rfl, ?_⟩
            refine s1 ?_
            refine ARg.nil (ATh.normal ?_)
            refine dO 16 true ?_
            first | refine s1 ?_ | refine F.c (hY) ?_
            refine ARg.nil (ATh.normal ?_)
            refine dO 18 false ?_
            refine s1 ?_
            refine ARg.nil (ATh.normal ?_)
            refine dN ?_
            repeat' first | refine s1 ?_ | (refine kR ?_; first | refine F.c (hE) ?_) | fail
            exact ⟨k + 1, F.fit ⟨rfl, trivial⟩ trivial, ⟨by omega, snocP g2 hs⟩, by omega⟩
        · refine ⟨_, true, rfl, rfl, ?_⟩
          refine s1 ?_
          refine ARg.nil (ATh.normal ?_)
          refine dO 16 true ?_
          first | refine s1 ?_ | refine F.c (hX) ?_
          refine ARg.nil (ATh.normal ?_)
          refine dO 18 false ?_
          refine s1 ?_
          refine ARg.nil (ATh.normal ?_)
          refine dN ?_
          repeat' first | refine s1 ?_ | fail
          refine AW.draw 18 G.mixed (by kernel_rfl) ?_
          refine dP 0 ?_
          refine dL 1 ?_
          refine dP 2 ?_
          refine dP 3 ?_
          refine dP 4 ?_
          refine dL 5 ?_
          refine dP 6 ?_
          refine dP 7 ?_
          refine dL 8 ?_
          refine dP 9 ?_
          refine dL 10 ?_
          refine dP 11 ?_
          refine dL 12 ?_
          refine dP 13 ?_
          refine dP 14 ?_
          refine dL 15 ?_
          refine ARA.any [16, 17] (by kernel_rfl) (by simp) ?_
          intro k hk
          simp only [List.mem_cons, List.not_mem_nil, or_false] at hk
          rcases hk with rfl | rfl
          · refine ⟨_, true, rfl, rfl, ?_⟩
            first | refine s1 ?_ | refine F.c (hY) ?_
            refine ARg.nil (ATh.normal ?_)
            refine dO 17 true ?_
            refine s1 ?_
            refine ARg.nil (ATh.normal ?_)
            refine dO 18 false ?_
            refine s1 ?_
            refine ARg.nil (ATh.normal ?_)
            refine dN ?_
            repeat' first | refine s1 ?_ | (refine kR ?_; first | refine F.c (hE) ?_) | fail
            exact ⟨k + 1, F.fit ⟨rfl, trivial⟩ trivial, ⟨by omega, snocP g2 hs⟩, by omega⟩
          · refine ⟨_, true, rfl, rfl, ?_⟩
            refine s1 ?_
            refine ARg.nil (ATh.normal ?_)
            refine dO 16 true ?_
            first | refine s1 ?_ | refine F.c (hY) ?_
            refine ARg.nil (ATh.normal ?_)
            refine dO 18 false ?_
            refine s1 ?_
            refine ARg.nil (ATh.normal ?_)
            refine dN ?_
            repeat' first | refine s1 ?_ | (refine kR ?_; first | refine F.c (hE) ?_) | fail
            exact ⟨k + 1, F.fit ⟨rfl, trivial⟩ trivial, ⟨by omega, snocP g2 hs⟩, by omega⟩
      | false =>
        rw [hs] at hE
        generalize arX a b f k = X at hX hE
        generalize arY a b f k = Y at hY hE
        repeat' first | refine s1 ?_ | fail
        refine AW.draw 18 G.mixed (by kernel_rfl) ?_
        refine dP 0 ?_
        refine dL 1 ?_
        refine dP 2 ?_
        refine dL 3 ?_
        refine dP 4 ?_
        refine dP 5 ?_
        refine dL 6 ?_
        refine dP 7 ?_
        refine dP 8 ?_
        refine dP 9 ?_
        refine dL 10 ?_
        refine dP 11 ?_
        refine dP 12 ?_
        refine dL 13 ?_
        refine dP 14 ?_
        refine dL 15 ?_
        refine ARA.any [16, 17] (by kernel_rfl) (by simp) ?_
        intro k hk
        simp only [List.mem_cons, List.not_mem_nil, or_false] at hk
        rcases hk with rfl | rfl
        · refine ⟨_, true, rfl, rfl, ?_⟩
          first | refine s1 ?_ | refine F.c (hX) ?_
          refine ARg.nil (ATh.normal ?_)
          refine dO 17 true ?_
          refine s1 ?_
          refine ARg.nil (ATh.normal ?_)
          refine dO 18 false ?_
          refine s1 ?_
          refine ARg.nil (ATh.normal ?_)
          refine dN ?_
          repeat' first | refine s1 ?_ | fail
          refine AW.draw 18 G.mixed (by kernel_rfl) ?_
          refine dP 0 ?_
          refine dL 1 ?_
          refine dP 2 ?_
          refine dP 3 ?_
          refine dP 4 ?_
          refine dL 5 ?_
          refine dP 6 ?_
          refine dP 7 ?_
          refine dL 8 ?_
          refine dP 9 ?_
          refine dL 10 ?_
          refine dP 11 ?_
          refine dL 12 ?_
          refine dP 13 ?_
          refine dP 14 ?_
          refine dL 15 ?_
          refine ARA.any [16, 17] (by kernel_rfl) (by simp) ?_
          intro k hk
          simp only [List.mem_cons, List.not_mem_nil, or_false] at hk
          rcases hk with rfl | rfl
          · refine ⟨_, true, rfl, rfl, ?_⟩
            first | refine s1 ?_ | refine F.c (hY) ?_
            refine ARg.nil (ATh.normal ?_)
            refine dO 17 true ?_
            refine s1 ?_
            refine ARg.nil (ATh.normal ?_)
            refine dO 18 false ?_
            refine s1 ?_
            refine ARg.nil (ATh.normal ?_)
            refine dN ?_
            repeat' first | refine s1 ?_ | (refine kR ?_; first | refine F.c (hE) ?_) | fail
            refine F.ret ?_
            rw [isMor, all_no hlt hs, Bool.and_false]
          · refine ⟨_, true, rfl, rfl, ?_⟩
            refine s1 ?_
            refine ARg.nil (ATh.normal ?_)
            refine dO 16 true ?_
            first | refine s1 ?_ | refine F.c (hY) ?_
            refine ARg.nil (ATh.normal ?_)
            refine dO 18 false ?_
            refine s1 ?_
            refine ARg.nil (ATh.normal ?_)
            refine dN ?_
            repeat' first | refine s1 ?_ | (refine kR ?_; first | refine F.c (hE) ?_) | fail
            refine F.ret ?_
            rw [isMor, all_no hlt hs, Bool.and_false]
        · refine ⟨_, true, rfl, rfl, ?_⟩
          refine s1 ?_
          refine ARg.nil (ATh.normal ?_)
          refine dO 16 true ?_
          first | refine s1 ?_ | refine F.c (hX) ?_
          refine ARg.nil (ATh.normal ?_)
          refine dO 18 false ?_
          refine s1 ?_
          refine ARg.nil (ATh.normal ?_)
          refine dN ?_
          repeat' first | refine s1 ?_ | fail
          refine AW.draw 18 G.mixed (by kernel_rfl) ?_
          refine dP 0 ?_
          refine dL 1 ?_
          refine dP 2 ?_
          refine dP 3 ?_
          refine dP 4 ?_
          refine dL 5 ?_
          refine dP 6 ?_
          refine dP 7 ?_
          refine dL 8 ?_
          refine dP 9 ?_
          refine dL 10 ?_
          refine dP 11 ?_
          refine dL 12 ?_
          refine dP 13 ?_
          refine dP 14 ?_
          refine dL 15 ?_
          refine ARA.any [16, 17] (by kernel_rfl) (by simp) ?_
          intro k hk
          simp only [List.mem_cons, List.not_mem_nil, or_false] at hk
          rcases hk with rfl | rfl
          · refine ⟨_, true, rfl, rfl, ?_⟩
            first | refine s1 ?_ | refine F.c (hY) ?_
            refine ARg.nil (ATh.normal ?_)
            refine dO 17 true ?_
            refine s1 ?_
            refine ARg.nil (ATh.normal ?_)
            refine dO 18 false ?_
            refine s1 ?_
            refine ARg.nil (ATh.normal ?_)
            refine dN ?_
            repeat' first | refine s1 ?_ | (refine kR ?_; first | refine F.c (hE) ?_) | fail
            refine F.ret ?_
            rw [isMor, all_no hlt hs, Bool.and_false]
          · refine ⟨_, true, rfl, rfl, ?_⟩
            refine s1 ?_
            refine ARg.nil (ATh.normal ?_)
            refine dO 16 true ?_
            first | refine s1 ?_ | refine F.c (hY) ?_
            refine ARg.nil (ATh.normal ?_)
            refine dO 18 false ?_
            refine s1 ?_
            refine ARg.nil (ATh.normal ?_)
            refine dN ?_
            repeat' first | refine s1 ?_ | (refine kR ?_; first | refine F.c (hE) ?_) | fail
            refine F.ret ?_
            rw [isMor, all_no hlt hs, Bool.and_false]
    · obtain rfl : k = a.q.fr.length := by omega
      repeat' first | refine s1 ?_ | fail
      refine F.ret ?_
      rw [isMor, ha, all_yes g2]; rfl
/-- products of matrices with others -/
def compL (p : Int) (f g : List Mat) : List Mat := (List.range f.length).map fun v => mulM p (g.getD v default) (f.getD v default)
theorem compL_len (p : Int) (f g : List Mat) : (compL p f g).length = f.length := by simp [compL]
theorem compL_take (p : Int) (f g : List Mat) {k : Nat} (hk : k < f.length) : (compL p f g).take (k + 1) = (compL p f g).take k ++ [mulM p (g.getD k default) (f.getD k default)] := by
  simp only [compL, ← List.map_take, range_take hk, List.map_append, List.map_cons, List.map_nil]
theorem composed_a (p : Int) (f g : List Mat) (hl : f.length ≤ g.length) (hb : f.length ≤ 1048576) (h : ∀ v, v < f.length → isMat p (f.getD v default) = true ∧ isMat p (g.getD v default) = true ∧ (g.getD v default).c = (f.getD v default).r) :
    AC Tryz.prog 74 [.i p, ar false f, ar false g] [.dt true 3 (E true (compL p f g))] := by
  refine AC.go Tryz.func74 Tryz.ntmps74 rfl rfl fun w0 hw => ?_; simp [WfL, WfA, E_length, Enc.enc, In64] at hw
  repeat' first | refine s1 ?_ | fail
  refine AW.open 7 3 (.inl rfl) ?_
  refine F.loop (σ := Nat) [7, 8, 9, 12, 13, 14, 15, 16, 17, 18, 19, 20, 21, 22, 23, 24, 25, 26, 27] (fun k => [(7, .sl 0 k 0 k), (12, .i k)]) (fun k => [(0, .live false 3 (E true ((compL p f g).take k)))]) (fun k => k ≤ f.length) (fun k => f.length - k) 0 ⟨rfl, rfl, trivial⟩ ⟨rfl, trivial⟩ (Nat.zero_le _) ?_
  rintro k k1
  have hcl := compL_len p f g
  have htl : ((compL p f g).take k).length = k := by rw [List.length_take]; omega
  by_cases hlt : k < f.length
  · obtain ⟨h1, h2, h3⟩ := h k hlt
    have hX := timesM_a h2 h1 h3
    have hts := compL_take p f g hlt
    generalize mulM p (g.getD k default) (f.getD k default) = X at hX hts
    repeat' first | refine s1 ?_ | fail
    refine AW.draw 9 G.mixed (by kernel_rfl) ?_
    refine dP 0 ?_
    refine dP 1 ?_
    refine dP 2 ?_
    refine dP 3 ?_
    refine dP 4 ?_
    refine dL 5 ?_
    refine dL 6 ?_
    refine dO 7 true ?_
    first | refine s1 ?_ | refine F.c (hX) ?_
    refine ARg.nil (ATh.normal ?_)
    refine dO 8 true ?_
    refine s1 ?_
    refine ARg.nil (ATh.normal ?_)
    refine dO 9 false ?_
    first | refine s1 ?_ | refine F.a1 Mat (a := X) ?_
    refine ARg.nil (ATh.normal ?_)
    refine dP 10 ?_
    refine dN ?_
    repeat' first | refine s1 ?_ | fail
    exact ⟨k + 1, F.fit ⟨rfl, rfl, trivial⟩ ⟨obE (by rw [hts]), trivial⟩, by omega, by omega⟩
  · obtain rfl : k = f.length := by omega
    have e : (compL p f g).take f.length = compL p f g := List.take_of_length_le (by omega)
    rw [e]
    repeat' first | refine s1 ?_ | fail
    (refine kZ ?_; exact F.ret rfl)
def compM (a b c : Rep) (f g : List Mat) : List Mat × Bool := if isMor a b f = true ∧ isMor b c g = true then (compL a.p f g, true) else ([], false)
theorem isMor_are {a b : Rep} {f : List Mat} (h : isMor a b f = true) : areM a b f = true := by
  simp only [isMor, Bool.and_eq_true] at h; exact h.1
theorem comp_ok {a b c : Rep} {f g : List Mat} (h1 : isMor a b f = true) (h2 : isMor b c g = true) : f.length = g.length ∧ f.length ≤ 5 ∧ ∀ v, v < f.length → isMat a.p (f.getD v default) = true ∧ isMat a.p (g.getD v default) = true ∧ (g.getD v default).c = (f.getD v default).r := by
  obtain ⟨a1, a2, a3⟩ := areM_spec (isMor_are h1)
  obtain ⟨b1, b2, b3⟩ := areM_spec (isMor_are h2)
  have hh := Fits.of a1
  have h5 := okQ_spec hh.ok
  have hda := hh.da
  have hdb := hh.db
  refine ⟨by omega, by omega, fun v hv => ?_⟩
  have f1 := a3 v hv
  have f2 := b3 v (by omega)
  simp only [fitV, Bool.and_eq_true, decide_eq_true_eq] at f1 f2
  rw [← hh.p] at f2
  exact ⟨f1.1.1, f2.1.1, by rw [f2.1.2, f1.2]⟩
theorem specComposeMorphisms_a (a b c : Rep) (f g : List Mat) : AC Tryz.prog 63 [.agg (enc false a), .agg (enc false b), .agg (enc false c), ar false f, ar false g] [.dt true 3 (E true (compM a b c f g).1), .b (compM a b c f g).2] := by
  refine AC.go Tryz.func63 Tryz.ntmps63 rfl rfl fun w0 hw => ?_; simp [WfL, WfA, E_length, Enc.enc, In64] at hw
  have hF := specIsMorphism_a a b f
  have hG := specIsMorphism_a b c g
  unfold compM
  cases hf : isMor a b f with
  | false =>
    rw [hf] at hF
    rw [if_neg (by simp)]
    repeat' first | refine s1 ?_ | (refine kR ?_; first | refine F.c (hF) ?_) | fail
    (refine kZ ?_; exact F.ret rfl)
  | true =>
    rw [hf] at hF
    cases hg : isMor b c g with
    | false =>
      rw [hg] at hG
      rw [if_neg (by simp)]
      repeat' first | refine s1 ?_ | (refine kR ?_; first | refine F.c (hF) ?_ | refine F.c (hG) ?_) | fail
      (refine kZ ?_; exact F.ret rfl)
    | true =>
      rw [hg] at hG
      rw [if_pos ⟨rfl, rfl⟩]
      obtain ⟨hl, hl5, hok⟩ := comp_ok hf hg
      dsimp only
      repeat' first | refine s1 ?_ | (refine kR ?_; first | refine F.c (hF) ?_ | refine F.c (hG) ?_) | fail
      refine AW.open 12 3 (.inr rfl) ?_
      refine F.loop (σ := Nat) [12, 13, 28, 29, 30, 31, 32, 33, 34, 35, 36, 37, 38, 39, 40, 41, 42, 43, 44, 45, 46, 47] (fun k => [(12, .sl 3 k 0 k), (13, .i k)]) (fun k => [(3, .live false 3 (E true ((compL a.p f g).take k)))]) (fun k => k ≤ f.length) (fun k => f.length - k) 0 ⟨rfl, rfl, trivial⟩ ⟨rfl, trivial⟩ (Nat.zero_le _) ?_
      rintro k k1
      have hcl := compL_len a.p f g
      have htl : ((compL a.p f g).take k).length = k := by rw [List.length_take]; omega
      by_cases hlt : k < f.length
      · obtain ⟨h1, h2, h3⟩ := hok k hlt
        have hX := l3MulM_a h2 h1 h3
        have hts := compL_take a.p f g hlt
        generalize mulM a.p (g.getD k default) (f.getD k default) = X at hX hts
        repeat' first | refine s1 ?_ | fail
        refine AW.draw 13 G.mixed (by kernel_rfl) ?_
        refine dP 0 ?_
        refine dP 1 ?_
        refine dL 2 ?_
        refine dP 3 ?_
        refine dP 4 ?_
        refine dP 5 ?_
        refine dL 6 ?_
        refine dP 7 ?_
        refine dP 8 ?_
        refine dP 9 ?_
        refine dL 10 ?_
        refine dO 11 true ?_
        first | refine s1 ?_ | refine F.c (hX) ?_
        refine ARg.nil (ATh.normal ?_)
        refine dO 12 true ?_
        refine s1 ?_
        refine ARg.nil (ATh.normal ?_)
        refine dO 13 false ?_
        first | refine s1 ?_ | refine F.a1 Mat (a := X) ?_
        refine ARg.nil (ATh.normal ?_)
        refine dP 14 ?_
        refine dN ?_
        repeat' first | refine s1 ?_ | fail
        exact ⟨k + 1, F.fit ⟨rfl, rfl, trivial⟩ ⟨obE (by rw [hts]), trivial⟩, by omega, by omega⟩
      · obtain rfl : k = f.length := by omega
        have e : (compL a.p f g).take f.length = compL a.p f g := List.take_of_length_le (by omega)
        rw [e]
        repeat' first | refine s1 ?_ | fail
        (refine kZ ?_; exact F.ret rfl)
end Go.Proofs.YtanembgijdkagaaGreat.V
