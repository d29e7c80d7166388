/- Contracts: products along a path, morphisms from projective representations. -/
import Derived.Test.YtanembgijdkagaaQpA91
import Derived.Test.YtanembgijdkagaaQpA72
import Derived.Test.YtanembgijdkagaaQpA93
import Derived.Test.YtanembgijdkagaaQpB7
import Derived.Test.YtanembgijdkagaaQpC2
import Derived.Test.YtanembgijdkagaaQpUg
namespace Go.Proofs.Ytanembgijdkagaa.V
open V.Enc (enc)
open Go.RowKit G D
set_option linter.unusedVariables false
set_option linter.unusedSimpArgs false
set_option maxHeartbeats 4000000
set_option maxRecDepth 4000
attribute [local irreducible] AW ARg ARA ARet MRet ASil AC AM ARI
/-- where a path is after k arrows -/
def vAt (q : Quiv) (v : Int) (l : List Int) : Nat → Int
  | 0 => v
  | k + 1 => q.to.getD (l.getD k default).toNat default
theorem chain_at {q : Quiv} : ∀ (l : List Int) (v : Int), chain q v l → ∀ k, k < l.length → 0 ≤ l.getD k default ∧ l.getD k default < q.fr.length ∧ q.fr.getD (l.getD k default).toNat default = vAt q v l k
  | [], _, _, k, hk => by simp at hk
  | i :: l, v, ⟨c1, c2, c3, c4⟩, 0, _ => ⟨c1, c2, c3⟩
  | i :: l, v, ⟨c1, c2, c3, c4⟩, k + 1, hk => by
    obtain ⟨a, b, c⟩ := chain_at l _ c4 k (by simpa using hk)
    refine ⟨a, b, ?_⟩
    show q.fr.getD (l.getD k default).toNat default = _
    rw [c]
    cases k with
    | zero => rfl
    | succ j => rfl
theorem endQ_at (q : Quiv) (x : Pth) : endQ q x = vAt q x.s x.a x.a.length := by
  unfold endQ
  cases h : x.a.length with
  | zero => rfl
  | succ n => rw [if_neg (by omega)]; rfl
/-- the product of the first k matrices along a path -/
def aloK (r : Rep) (x : Pth) : Nat → Mat
  | 0 => idM (r.d.getD x.s.toNat default)
  | k + 1 => mulM r.p (r.m.getD (x.a.getD k default).toNat default) (aloK r x k)
def aloM (r : Rep) (x : Pth) : Mat := aloK r x x.a.length
theorem alo_ok {r : Rep} {x : Pth} (h : isRep r = true) (hv : 0 ≤ x.s ∧ x.s ≤ r.q.n - 1) (hc : chain r.q x.s x.a) : ∀ k, k ≤ x.a.length → isMat r.p (aloK r x k) = true ∧ (aloK r x k).r = r.d.getD (vAt r.q x.s x.a k).toNat default ∧ (aloK r x k).c = r.d.getD x.s.toNat default ∧ 0 ≤ vAt r.q x.s x.a k ∧ vAt r.q x.s x.a k ≤ r.q.n - 1
  | 0, _ => by
    obtain ⟨r1, r2, r3, r4⟩ := isRep_spec h
    obtain ⟨c1, c2, c3, c4⟩ := areDims_spec r2
    have hd : 0 ≤ r.d.getD x.s.toNat default ∧ r.d.getD x.s.toNat default ≤ 4 := allIn_spec c3 (by omega)
    exact ⟨isMat_id r1 (by omega), Int.toNat_of_nonneg hd.1, Int.toNat_of_nonneg hd.1, hv⟩
  | k + 1, hk => by
    obtain ⟨a, b, c, d⟩ := alo_ok h hv hc k (by omega)
    obtain ⟨r1, r2, r3, r4⟩ := isRep_spec h
    obtain ⟨c1, c2, c3, c4⟩ := areDims_spec r2
    obtain ⟨e1, e2, e3⟩ := chain_at x.a x.s hc k (by omega)
    obtain ⟨m1, m2, m3, m4, m5⟩ := arrow_ok h (i := (x.a.getD k default).toNat) (by omega)
    have t : 0 ≤ r.q.to.getD (x.a.getD k default).toNat default ∧ r.q.to.getD (x.a.getD k default).toNat default < r.q.n := okQ_to c1 (by omega)
    obtain ⟨f1, f2⟩ := mulM_rc m1 a
    exact ⟨isMat_mul m1 a, by rw [aloK, f1, m5]; rfl, by rw [aloK, f2, c], t.1, by show r.q.to.getD (x.a.getD k default).toNat default ≤ r.q.n - 1; omega⟩
theorem alo_step {r : Rep} {x : Pth} (h : isRep r = true) (hv : 0 ≤ x.s ∧ x.s ≤ r.q.n - 1) (hc : chain r.q x.s x.a) {k : Nat} (hk : k < x.a.length) : 0 ≤ x.a.getD k default ∧ (x.a.getD k default).toNat < r.m.length ∧ isMat r.p (r.m.getD (x.a.getD k default).toNat default) = true ∧ isMat r.p (aloK r x k) = true ∧ (r.m.getD (x.a.getD k default).toNat default).c = (aloK r x k).r := by
  obtain ⟨a, b, c, d⟩ := alo_ok h hv hc k (by omega)
  obtain ⟨r1, r2, r3, r4⟩ := isRep_spec h
  obtain ⟨e1, e2, e3⟩ := chain_at x.a x.s hc k hk
  obtain ⟨m1, m2, m3, m4, m5⟩ := arrow_ok h (i := (x.a.getD k default).toNat) (by omega)
  exact ⟨e1, by omega, m1, a, by rw [m4, b, e3]⟩
theorem along_a (r : Rep) (x : Pth) (h : isRep r = true) (hv : 0 ≤ x.s ∧ x.s ≤ r.q.n - 1) (hc' : chain r.q x.s x.a) : AC Try.prog 93 [.agg (enc false r), .agg (enc false x)] [.agg (enc true (aloM r x))] := by
  refine AC.go Try.func93 Try.ntmps93 rfl rfl fun w0 hw => ?_; simp [WfL, WfA, E_length, Enc.enc, In64] at hw
  obtain ⟨r1, r2, r3, r4⟩ := isRep_spec h
  obtain ⟨c1, c2, c3, c4⟩ := areDims_spec r2
  have hd : 0 ≤ r.d.getD x.s.toNat default ∧ r.d.getD x.s.toNat default ≤ 4 := allIn_spec c3 (by omega)
  have hI := identity_a (r.d.getD x.s.toNat default).toNat (by omega)
  rw [Int.toNat_of_nonneg hd.1, show tm (r.d.getD x.s.toNat default).toNat (r.d.getD x.s.toNat default).toNat idF = aloK r x 0 from rfl] at hI
  have hst := fun k (hk : k < x.a.length) => alo_step h hv hc' hk
  have hT : ∀ k, k < x.a.length → AC Try.prog 134 [.i r.p, .agg (enc false (r.m.getD (x.a.getD k default).toNat default)), .agg (enc false (aloK r x k))] [.agg (enc true (aloK r x (k + 1)))] := fun k hk => by
    obtain ⟨_, _, a, b, c⟩ := hst k hk
    exact timesM_a a b c
  have hin := fun k hk => (hst k hk).1
  have hin2 := fun k hk => (hst k hk).2.1
  unfold aloM
  generalize aloK r x = AK at hI hT ⊢
  clear hst
  repeat' first | refine s1 ?_ | refine q1 ?_ | (refine kR ?_; first | refine F.c (hI) ?_) | fail
  refine AW.putV 5 2 rfl rfl rfl rfl (E_length _ _) (E_pure _ _) rfl ?_
  refine F.loop (σ := Nat) [7, 18, 19, 20, 21, 22, 23, 24, 25, 26, 27, 28, 29, 30, 31] (fun k => [(18, .i k)]) (fun k => [(4, .live false 3 (E true [AK k]))]) (fun k => k ≤ x.a.length) (fun k => x.a.length - k) 0 ⟨rfl, trivial⟩ ⟨rfl, trivial⟩ (Nat.zero_le _) ?_
  rintro k k1
  refine AW.takeE (α := Mat) (o := 4) (k := 0) (j := 2) (ls := [AK k]) rfl (by simp) rfl (E_length _ _) ?_
  by_cases hk : k < x.a.length
  · have hTk := hT k hk
    have h1 := hin k hk
    have h2 := hin2 k hk
    generalize hY : AK (k + 1) = Y at hTk
    repeat' first | refine s1 ?_ | refine q1 ?_ | fail
    refine AW.draw 9 G.mixed (by kernel_rfl) ?_
    refine dP 0 ?_
    first | refine dL 1 ?_ | refine dLQ 1 ?_
    refine dP 2 ?_
    first | refine dL 3 ?_ | refine dLQ 3 ?_
    refine dP 4 ?_
    first | refine dP 5 ?_ | refine dQ 5 ?_
    first | refine dL 6 ?_ | refine dLQ 6 ?_
    first | refine dL 7 ?_ | refine dLQ 7 ?_
    refine dO 8 true ?_
    first | refine s1 ?_ | refine F.c (hTk) ?_
    refine ARg.nil (ATh.normal ?_)
    refine dO 9 false ?_
    first | refine s1 ?_ | refine q1 ?_
    refine ARg.nil (ATh.normal ?_)
    refine dN ?_
    rotate_left
    all_goals
      refine AW.putV (o2 := 6) 5 2 rfl rfl rfl rfl (E_length _ _) (E_pure _ _) rfl ?_
      repeat' first | refine s1 ?_ | refine q1 ?_ | fail
      exact ⟨k + 1, F.fit ⟨rfl, trivial⟩ ⟨obE (by rw [hY]; rfl), trivial⟩, by omega, by omega⟩
  · obtain rfl : k = x.a.length := by omega
    repeat' first | refine s1 ?_ | refine q1 ?_ | fail
    (refine kZ ?_; exact F.ret rfl)
theorem mapAlong_a (r : Rep) (x : Pth) (h : isRep r = true) (hv : 0 ≤ x.s ∧ x.s ≤ r.q.n - 1) (hc' : chain r.q x.s x.a) (hl : x.a.length ≤ 20) : AC Try.prog 88 [.agg (enc false r), .agg (enc false x)] [.agg (enc true (aloM r x)), .b true] := by
  refine AC.go Try.func88 Try.ntmps88 rfl rfl fun w0 hw => ?_; simp [WfL, WfA, E_length, Enc.enc, In64] at hw
  obtain ⟨r1, r2, r3, r4⟩ := isRep_spec h
  obtain ⟨c1, c2, c3, c4⟩ := areDims_spec r2
  have hF := specIsRep_a r
  rw [h] at hF
  have hP := specIsPath_t r.q x c1 hv hc' hl
  have hd : 0 ≤ r.d.getD x.s.toNat default ∧ r.d.getD x.s.toNat default ≤ 4 := allIn_spec c3 (by omega)
  have hI := l3Identity_a (r.d.getD x.s.toNat default).toNat (by omega)
  rw [Int.toNat_of_nonneg hd.1, show tm (r.d.getD x.s.toNat default).toNat (r.d.getD x.s.toNat default).toNat idF = aloK r x 0 from rfl] at hI
  have hst := fun k (hk : k < x.a.length) => alo_step h hv hc' hk
  have hT : ∀ k, k < x.a.length → AC Try.prog 132 [.i r.p, .agg (enc false (r.m.getD (x.a.getD k default).toNat default)), .agg (enc false (aloK r x k))] [.agg (enc true (aloK r x (k + 1)))] := fun k hk => by
    obtain ⟨_, _, a, b, c⟩ := hst k hk
    exact l3MulM_a a b c
  have hin := fun k hk => (hst k hk).1
  have hin2 := fun k hk => (hst k hk).2.1
  unfold aloM
  generalize aloK r x = AK at hI hT ⊢
  clear hst
  repeat' first | refine s1 ?_ | refine q1 ?_ | (refine kR ?_; first | refine F.c (hF) ?_ | refine F.c (hP) ?_ | refine F.c (hI) ?_) | fail
  refine AW.putV 6 2 rfl rfl rfl rfl (E_length _ _) (E_pure _ _) rfl ?_
  refine F.loop (σ := Nat) [7, 26, 27, 28, 29, 30, 31, 32, 33, 34, 35, 36, 37, 38, 39, 40, 41, 42, 43, 44, 45] (fun k => [(7, .i k)]) (fun k => [(4, .live false 3 (E true [AK k]))]) (fun k => k ≤ x.a.length) (fun k => x.a.length - k) 0 ⟨rfl, trivial⟩ ⟨rfl, trivial⟩ (Nat.zero_le _) ?_
  rintro k k1
  refine AW.takeE (α := Mat) (o := 4) (k := 0) (j := 2) (ls := [AK k]) rfl (by simp) rfl (E_length _ _) ?_
  by_cases hk : k < x.a.length
  · have hTk := hT k hk
    have h1 := hin k hk
    have h2 := hin2 k hk
    generalize hY : AK (k + 1) = Y at hTk
    repeat' first | refine s1 ?_ | refine q1 ?_ | fail
    refine AW.draw 13 G.mixed (by kernel_rfl) ?_
    refine dP 0 ?_
    first | refine dL 1 ?_ | refine dLQ 1 ?_
    refine dP 2 ?_
    first | refine dL 3 ?_ | refine dLQ 3 ?_
    refine dP 4 ?_
    first | refine dL 5 ?_ | refine dLQ 5 ?_
    refine dP 6 ?_
    first | refine dP 7 ?_ | refine dQ 7 ?_
    first | refine dL 8 ?_ | refine dLQ 8 ?_
    first | refine dP 9 ?_ | refine dQ 9 ?_
    first | refine dL 10 ?_ | refine dLQ 10 ?_
    first | refine dL 11 ?_ | refine dLQ 11 ?_
    refine dO 12 true ?_
    first | refine s1 ?_ | refine F.c (hTk) ?_
    refine ARg.nil (ATh.normal ?_)
    refine dO 13 false ?_
    first | refine s1 ?_ | refine q1 ?_
    refine ARg.nil (ATh.normal ?_)
    refine dN ?_
    rotate_left
    all_goals
      refine AW.putV (o2 := 6) 6 2 rfl rfl rfl rfl (E_length _ _) (E_pure _ _) rfl ?_
      repeat' first | refine s1 ?_ | refine q1 ?_ | fail
      exact ⟨k + 1, F.fit ⟨rfl, trivial⟩ ⟨obE (by rw [hY]; rfl), trivial⟩, by omega, by omega⟩
  · obtain rfl : k = x.a.length := by omega
    repeat' first | refine s1 ?_ | refine q1 ?_ | fail
    (refine kZ ?_; exact F.ret rfl)
def mfpC (r : Rep) (v : Int) (x : List Int) (w : Nat) : List (List Int) := (betw r.q v (w : Int)).map fun y => appV r.p (aloM r y) x
def mfpM (r : Rep) (v : Int) (x : List Int) (w : Nat) : Mat := tm (r.d.getD w default).toNat (betw r.q v (w : Int)).length (fcF (mfpC r v x w))
def mfpL (r : Rep) (v : Int) (x : List Int) : List Mat := (List.range r.d.length).map (mfpM r v x)
theorem mfpL_len (r : Rep) (v : Int) (x : List Int) : (mfpL r v x).length = r.d.length := by simp [mfpL]
theorem mfpL_take (r : Rep) (v : Int) (x : List Int) {k : Nat} (h : k < r.d.length) : (mfpL r v x).take (k + 1) = (mfpL r v x).take k ++ [mfpM r v x k] := by
  simp only [mfpL, ← List.map_take, range_take h, List.map_append, List.map_cons, List.map_nil]
def mfpP (r : Rep) (v : Int) (x : List Int) : List Mat × Bool := if isRep r = true ∧ isVec r.p x = true ∧ (x.length : Int) = r.d.getD v.toNat default ∧ (projP r.p r.q v).2 = true then (mfpL r v x, true) else ([], false)
theorem projP_true3 {p : Int} {q : Quiv} {v : Int} (h : (projP p q v).2 = true) : isF p = true ∧ areDims q (projD q v) = true ∧ projP p q v = (projR p q v, true) := by
  unfold projP at h ⊢
  by_cases hh : isF p = true ∧ areDims q (projD q v) = true
  · exact ⟨hh.1, hh.2, if_pos hh⟩
  · rw [if_neg hh] at h; cases h
theorem betw_path {q : Quiv} {v w : Int} {y : Pth} (h : y ∈ betw q v w) : y.s = v ∧ chain q v y.a ∧ y.a.length ≤ 5 ∧ endQ q y = w := by
  unfold betw at h
  obtain ⟨h1, h2⟩ := List.mem_filter.1 h
  obtain ⟨c1, c2⟩ := lfQ_chain q 5 v y h1
  exact ⟨lfQ_s q 5 v y h1, c1, c2, of_decide_eq_true h2⟩
/-- what is known of a column -/
theorem mfp_col {r : Rep} {v : Int} {x : List Int} {w : Nat} (h : isRep r = true) (hv : 0 ≤ v ∧ v ≤ r.q.n - 1) (hx : isVec r.p x = true) (hl : (x.length : Int) = r.d.getD v.toNat default) {k : Nat} (hk : k < (betw r.q v (w : Int)).length) : isMat r.p (aloM r ((betw r.q v (w : Int)).getD k default)) = true ∧ (aloM r ((betw r.q v (w : Int)).getD k default)).r = r.d.getD w default ∧ x.length = (aloM r ((betw r.q v (w : Int)).getD k default)).c.toNat ∧ (∀ j, j < (aloM r ((betw r.q v (w : Int)).getD k default)).c.toNat → 0 ≤ x.getD j default ∧ x.getD j default ≤ r.p - 1) ∧ ((betw r.q v (w : Int)).getD k default).s = v ∧ chain r.q v ((betw r.q v (w : Int)).getD k default).a ∧ ((betw r.q v (w : Int)).getD k default).a.length ≤ 5 := by
  obtain ⟨b1, b2, b3, b4⟩ := betw_path (gm (d := default) hk)
  generalize (betw r.q v (w : Int)).getD k default = y at *
  have hv' : 0 ≤ y.s ∧ y.s ≤ r.q.n - 1 := by rw [b1]; exact hv
  have hc : chain r.q y.s y.a := by rw [b1]; exact b2
  obtain ⟨a1, a2, a3, a4⟩ := alo_ok h hv' hc y.a.length (Nat.le_refl _)
  rw [← endQ_at, b4] at a2
  have hvec : ∀ j, j < x.length → 0 ≤ x.getD j default ∧ x.getD j default ≤ r.p - 1 := fun j hj => by
    simp only [isVec, Bool.and_eq_true] at hx
    exact allIn_spec hx.2 hj
  have e : x.length = (aloM r y).c.toNat := by
    unfold aloM
    rw [a3, b1]; omega
  exact ⟨a1, by unfold aloM; rw [a2]; rfl, e, fun j hj => hvec j (by omega), b1, b2, b3⟩
theorem implMapFromProjective_a (r : Rep) (v : Int) (x : List Int) : AC Try.prog 32 [.agg (enc false r), .i v, ar false x] [.dt true 3 (E true (mfpP r v x).1), .b (mfpP r v x).2] := by
  refine AC.go Try.func32 Try.ntmps32 rfl rfl fun w0 hw => ?_; simp [WfL, WfA, E_length, Enc.enc, In64] at hw
  have hF := implIsRep_a r
  have hV := implIsVector_a r.p x
  have hP := implProjectiveRep_a r.p r.q v
  unfold mfpP
  cases h1 : isRep r with
  | false =>
    rw [h1] at hF
    rw [if_neg (by simp)]
    repeat' first | refine s1 ?_ | refine q1 ?_ | (refine kR ?_; first | refine F.c (hF) ?_) | fail
    (refine kZ ?_; exact F.ret rfl)
  | true =>
    rw [h1] at hF
    obtain ⟨r1, r2, r3, r4⟩ := isRep_spec h1
    obtain ⟨c1, c2, c3, c4⟩ := areDims_spec r2
    have h5 := okQ_spec c1
    have hH := hasVertex_a r.q v c1
    by_cases hv : 0 ≤ v ∧ v ≤ r.q.n - 1
    · rw [decide_eq_true hv] at hH
      cases h2 : isVec r.p x with
      | false =>
        rw [h2] at hV
        rw [if_neg (by simp)]
        repeat' first | refine s1 ?_ | refine q1 ?_ | (refine kR ?_; first | refine F.c (hF) ?_ | refine F.c (hH) ?_ | refine F.c (hV) ?_) | fail
        (refine kZ ?_; exact F.ret rfl)
      | true =>
        rw [h2] at hV
        by_cases h3 : (x.length : Int) = r.d.getD v.toNat default
        · cases h4 : (projP r.p r.q v).2 with
          | false =>
            rw [h4] at hP
            rw [if_neg (by simp)]
            generalize (projP r.p r.q v).1 = PR at hP
            repeat' first | refine s1 ?_ | refine q1 ?_ | (refine kR ?_; first | refine F.c (hF) ?_ | refine F.c (hH) ?_ | refine F.c (hV) ?_ | refine F.c (hP) ?_) | fail
            (refine kZ ?_; exact F.ret rfl)
          | true =>
            rw [h4] at hP
            rw [if_pos ⟨rfl, rfl, h3, rfl⟩]
            obtain ⟨k1, k2, k3⟩ := projP_true3 h4
            obtain ⟨p1, p2, p3, p4⟩ := projD_yes k2
            obtain ⟨d1, d2, d3, d4⟩ := areDims_spec k2
            obtain ⟨rk, hrk⟩ := acy_of p1
            have hll := mfpL_len r v x
            have hts := fun k hk => mfpL_take r v x (k := k) hk
            have hcol := fun w k hk => mfp_col (w := w) h1 hv h2 h3 (k := k) hk
            have hBw := fun w : Nat => pathsBetween_m r.q rk hrk v (w : Int)
            have hbl : ∀ w : Nat, w < r.d.length → (betw r.q v (w : Int)).length ≤ 4 := fun w hw => by
              have e := p4 w (by omega)
              have : 0 ≤ (projD r.q v).getD w default ∧ (projD r.q v).getD w default ≤ 4 := allIn_spec d3 (by omega)
              omega
            generalize (projP r.p r.q v).1 = PR at hP
            generalize mfpL r v x = L at hll hts ⊢
            repeat' first | refine s1 ?_ | refine q1 ?_ | (refine kR ?_; first | refine F.c (hF) ?_ | refine F.c (hH) ?_ | refine F.c (hV) ?_ | refine F.c (hP) ?_) | fail
            refine AW.open 10 3 (.inl rfl) ?_
            refine F.loop (σ := Nat) [10, 11, 12, 14, 56, 57, 58, 59, 60, 61, 62, 63, 64, 65, 66, 67, 68, 69, 70, 71, 72, 73, 74, 75, 76, 77, 78, 79, 80, 81, 82, 83, 84, 85, 86, 87, 88, 89, 90] (fun w => [(10, .sl 6 w 0 w), (56, .i w)]) (fun w => [(6, .live false 3 (E true (L.take w)))]) (fun w => w ≤ r.d.length) (fun w => r.d.length - w) 0 ⟨rfl, rfl, trivial⟩ ⟨rfl, trivial⟩ (Nat.zero_le _) ?_
            rintro w w1
            have hp2 : (L.take w).length = w := by rw [List.length_take]; omega
            by_cases hw2 : w < r.d.length
            · have ht := hts w hw2
              have hB := hBw w
              have hC := hcol w
              have hbw := hbl w hw2
              have hdw : 0 ≤ r.d.getD w default ∧ r.d.getD w default ≤ 4 := allIn_spec c3 hw2
              have hcl : (mfpC r v x w).length = (betw r.q v (w : Int)).length := by simp [mfpC]
              have hct := fun k (hk : k < (betw r.q v (w : Int)).length) => map_take (fun y => appV r.p (aloM r y) x) (l := betw r.q v (w : Int)) hk
              rw [show (betw r.q v (w : Int)).map (fun y => appV r.p (aloM r y) x) = mfpC r v x w from rfl] at hct
              have hFC0 := fromColumns_a (r.d.getD w default).toNat (mfpC r v x w) (by omega) (by omega) (fun k hk => by
                have hk' : k < (betw r.q v (w : Int)).length := by rw [← hcl]; exact hk
                have e : (mfpC r v x w).getD k default = appV r.p (aloM r ((betw r.q v (w : Int)).getD k default)) x := by simp [mfpC, hk']
                rw [e, appV_len, (hC k hk').2.1])
              rw [hcl, Int.toNat_of_nonneg hdw.1] at hFC0
              have hFC : AC Try.prog 94 [.i (r.d.getD w default), ar false (mfpC r v x w)] [.agg (enc true (mfpM r v x w))] := hFC0
              clear hFC0
              generalize mfpM r v x w = Y at hFC ht
              generalize mfpC r v x w = CL at hcl hct hFC
              have hAl := fun k (hk : k < (betw r.q v (w : Int)).length) => along_a r ((betw r.q v (w : Int)).getD k default) h1 (by rw [(hC k hk).2.2.2.2.1]; exact hv) (by rw [(hC k hk).2.2.2.2.1]; exact (hC k hk).2.2.2.2.2.1)
              have hAp := fun k (hk : k < (betw r.q v (w : Int)).length) => apply_a (hC k hk).1 (hC k hk).2.2.1 (hC k hk).2.2.2.1
              clear hC
              generalize betw r.q v (w : Int) = B at *
              repeat' first | refine s1 ?_ | refine q1 ?_ | (refine kR ?_; first | refine F.w (hB) ?_) | fail
              refine AW.open 12 1 (.inl rfl) ?_
              refine F.loop (σ := Nat) [12, 14, 65, 66, 67, 68, 69, 70, 71, 72, 73, 74, 75, 76, 77, 78, 79] (fun k => [(12, .sl 7 k 0 k), (65, .i k)]) (fun k => [(7, .live false 1 (E true (CL.take k)))]) (fun k => k ≤ B.length) (fun k => B.length - k) 0 ⟨rfl, rfl, trivial⟩ ⟨rfl, trivial⟩ (Nat.zero_le _) ?_
              rintro k k1'
              have hp3 : (CL.take k).length = k := by rw [List.length_take]; omega
              by_cases hk : k < B.length
              · have hA1 := hAl k hk
                have hA2 := hAp k hk
                have hc2 := hct k hk
                generalize appV r.p (aloM r (B.getD k default)) x = Z at hA2 hc2
                generalize aloM r (B.getD k default) = M at hA1 hA2
                repeat' first | refine s1 ?_ | refine q1 ?_ | fail
                refine AW.draw 9 G.mixed (by kernel_rfl) ?_
                refine dP 0 ?_
                refine dP 1 ?_
                first | refine dL 2 ?_ | refine dLQ 2 ?_
                first | refine dL 3 ?_ | refine dLQ 3 ?_
                first | refine dL 4 ?_ | refine dLQ 4 ?_
                refine dP 6 ?_
                refine dO 5 true ?_
                first | refine s1 ?_ | refine F.c (hA1) ?_ | refine F.c (hA2) ?_
                refine ARg.nil (ATh.normal ?_)
                refine dO 7 true ?_
                first | refine s1 ?_ | refine F.c (hA1) ?_ | refine F.c (hA2) ?_
                refine ARg.nil (ATh.normal ?_)
                refine dO 8 true ?_
                refine s1 ?_
                refine ARg.nil (ATh.normal ?_)
                refine dO 9 false ?_
                first | refine s1 ?_ | refine F.a1 (List Int) (a := Z) ?_
                refine ARg.nil (ATh.normal ?_)
                refine dP 10 ?_
                refine dN ?_
                rotate_left
                all_goals
                  repeat' first | refine s1 ?_ | refine q1 ?_ | fail
                  exact ⟨k + 1, F.fit ⟨rfl, rfl, trivial⟩ ⟨obE (by rw [hc2]), trivial⟩, by omega, by omega⟩
              · obtain rfl : k = B.length := by omega
                have e : CL.take B.length = CL := List.take_of_length_le (by omega)
                rw [e]
                rw [← hcl]
                clear hp3 e
                repeat' first | refine s1 ?_ | refine q1 ?_ | (refine kR ?_; first | refine F.c (hFC) ?_ | refine F.a1 Mat (a := Y) ?_) | fail
                exact ⟨w + 1, F.fit ⟨rfl, rfl, trivial⟩ ⟨obE (by rw [ht]), trivial⟩, by omega, by omega⟩
            · obtain rfl : w = r.d.length := by omega
              have e : L.take r.d.length = L := List.take_of_length_le (by omega)
              rw [e]
              clear hp2 e
              rw [← hll]
              repeat' first | refine s1 ?_ | refine q1 ?_ | fail
              (refine kZ ?_; exact F.ret rfl)
        · rw [if_neg fun hh => h3 hh.2.2.1]
          repeat' first | refine s1 ?_ | refine q1 ?_ | (refine kR ?_; first | refine F.c (hF) ?_ | refine F.c (hH) ?_ | refine F.c (hV) ?_) | fail
          (refine kZ ?_; exact F.ret rfl)
    · rw [decide_eq_false hv] at hH
      rw [if_neg fun hh => by
        obtain ⟨k1, k2, k3⟩ := projP_true3 hh.2.2.2
        obtain ⟨p1, p2, p3, p4⟩ := projD_yes k2
        exact hv ⟨p2, p3⟩]
      repeat' first | refine s1 ?_ | refine q1 ?_ | (refine kR ?_; first | refine F.c (hF) ?_ | refine F.c (hH) ?_) | fail
      (refine kZ ?_; exact F.ret rfl)
theorem specMapFromProjective_a (r : Rep) (v : Int) (x : List Int) : AC Try.prog 30 [.agg (enc false r), .i v, ar false x] [.dt true 3 (E true (mfpP r v x).1), .b (mfpP r v x).2] := by
  refine AC.go Try.func30 Try.ntmps30 rfl rfl fun w0 hw => ?_; simp [WfL, WfA, E_length, Enc.enc, In64] at hw
  have hF := specIsRep_a r
  have hV := specIsVector_a r.p x
  have hP := specProjectiveRep_a r.p r.q v
  unfold mfpP
  cases h1 : isRep r with
  | false =>
    rw [h1] at hF
    rw [if_neg (by simp)]
    repeat' first | refine s1 ?_ | refine q1 ?_ | (refine kR ?_; first | refine F.c (hF) ?_) | fail
    (refine kZ ?_; exact F.ret rfl)
  | true =>
    rw [h1] at hF
    obtain ⟨r1, r2, r3, r4⟩ := isRep_spec h1
    obtain ⟨c1, c2, c3, c4⟩ := areDims_spec r2
    have h5 := okQ_spec c1
    cases h2 : isVec r.p x with
    | false =>
      rw [h2] at hV
      rw [if_neg (by simp)]
      repeat' first | refine s1 ?_ | refine q1 ?_ | (refine kR ?_; first | refine F.c (hF) ?_ | refine F.c (hV) ?_) | fail
      (refine kZ ?_; exact F.ret rfl)
    | true =>
      rw [h2] at hV
      cases h4 : (projP r.p r.q v).2 with
      | false =>
        rw [h4] at hP
        rw [if_neg (by simp)]
        generalize (projP r.p r.q v).1 = PR at hP
        repeat' first | refine s1 ?_ | refine q1 ?_ | (refine kR ?_; first | refine F.c (hF) ?_ | refine F.c (hV) ?_ | refine F.c (hP) ?_) | fail
        (refine kZ ?_; exact F.ret rfl)
      | true =>
        obtain ⟨k1, k2, k3⟩ := projP_true3 h4
        obtain ⟨p1, p2, p3, p4⟩ := projD_yes k2
        obtain ⟨d1, d2, d3, d4⟩ := areDims_spec k2
        have hv : 0 ≤ v ∧ v ≤ r.q.n - 1 := ⟨p2, p3⟩
        rw [k3] at hP
        dsimp only at hP
        unfold projR at hP
        have hpm := pjMs_len r.q v
        by_cases h3 : (x.length : Int) = r.d.getD v.toNat default
        · rw [if_pos ⟨rfl, rfl, h3, rfl⟩]
          have hll := mfpL_len r v x
          have hts := fun k hk => mfpL_take r v x (k := k) hk
          have hcol := fun w k hk => mfp_col (w := w) h1 hv h2 h3 (k := k) hk
          have hBw := fun (w : Nat) (hw : w < r.d.length) => specPathsBetween_m r.q v (w : Int) (by
            simp only [betwB, Bool.and_eq_true, decide_eq_true_eq]
            exact ⟨⟨p1, hv⟩, by omega, by omega⟩)
          have hbl : ∀ w : Nat, w < r.d.length → (projD r.q v).getD w default = ((betw r.q v (w : Int)).length : Int) ∧ (betw r.q v (w : Int)).length ≤ 4 := fun w hw => by
            have e := p4 w (by omega)
            have : 0 ≤ (projD r.q v).getD w default ∧ (projD r.q v).getD w default ≤ 4 := allIn_spec d3 (by omega)
            exact ⟨e, by omega⟩
          have hpl : r.d.length = (projD r.q v).length := by omega
          generalize pjMs r.q v = PM at hP hpm
          generalize projD r.q v = PD at hP hbl hpl
          generalize mfpL r v x = L at hll hts ⊢
          repeat' first | refine s1 ?_ | refine q1 ?_ | (refine kR ?_; first | refine F.c (hF) ?_ | refine F.c (hV) ?_ | refine F.c (hP) ?_) | fail
          refine AW.open 8 3 (.inr rfl) ?_
          refine F.loop (σ := Nat) [8, 11, 12, 13, 14, 15, 16, 17, 18, 19, 20, 55, 56, 57, 58, 59, 60, 61, 62, 63, 64, 65, 66, 67, 68, 69, 70, 71, 72, 73, 74, 75, 76, 77, 78, 79, 80, 81, 82, 83, 84, 85, 86, 87, 88, 89, 90, 91, 92, 93, 94, 95, 96, 97, 98, 99, 100, 101, 102, 103, 104, 105, 106, 107, 108, 109, 110, 111, 112, 113, 114, 115, 116, 117, 118, 119, 120, 121, 122, 123, 124, 125, 126] (fun w => [(8, .sl 6 w 0 w), (11, .i w)]) (fun w => [(6, .live false 3 (E true (L.take w)))]) (fun w => w ≤ r.d.length) (fun w => r.d.length - w) 0 ⟨rfl, rfl, trivial⟩ ⟨rfl, trivial⟩ (Nat.zero_le _) ?_
          rintro w w1
          have hp2 : (L.take w).length = w := by rw [List.length_take]; omega
          by_cases hw2 : w < r.d.length
          · have ht := hts w hw2
            have hB := hBw w hw2
            have hC := hcol w
            obtain ⟨hN, hbw⟩ := hbl w hw2
            have hdw : 0 ≤ r.d.getD w default ∧ r.d.getD w default ≤ 4 := allIn_spec c3 hw2
            have hcl : (mfpC r v x w).length = (betw r.q v (w : Int)).length := by simp [mfpC]
            have hcg : ∀ k, k < (betw r.q v (w : Int)).length → (mfpC r v x w).getD k default = appV r.p (aloM r ((betw r.q v (w : Int)).getD k default)) x := fun k hk => by simp [mfpC, hk]
            have hzl' : ∀ k, k < (betw r.q v (w : Int)).length → (appV r.p (aloM r ((betw r.q v (w : Int)).getD k default)) x).length = (r.d.getD w default).toNat := fun k hk => by rw [appV_len, (hC k hk).2.1]
            unfold mfpM at ht
            generalize mfpC r v x w = CL at hcl hcg ht
            have hAl := fun k (hk : k < (betw r.q v (w : Int)).length) => mapAlong_a r ((betw r.q v (w : Int)).getD k default) h1 (by rw [(hC k hk).2.2.2.2.1]; exact hv) (by rw [(hC k hk).2.2.2.2.1]; exact (hC k hk).2.2.2.2.2.1) (by have := (hC k hk).2.2.2.2.2.2; omega)
            have hAp := fun k (hk : k < (betw r.q v (w : Int)).length) => specApply_a (hC k hk).1 (hC k hk).2.2.1 (hC k hk).2.2.2.1
            clear hC
            generalize betw r.q v (w : Int) = B at *
            have hZ0 := l3ZeroT_a (r.d.getD w default).toNat B.length (by omega) (by omega)
            rw [Int.toNat_of_nonneg hdw.1, ← hN] at hZ0
            have hZ : AC Try.prog 63 [.i (r.d.getD w default), .i (PD.getD (0 + w) default)] [.agg (enc true (tm (r.d.getD w default).toNat B.length (fun _ _ => 0)))] := by
              rw [Nat.zero_add]
              exact hZ0
            clear hZ0
            have hR4 : (r.d.getD w default).toNat ≤ 4 := by omega
            generalize (r.d.getD w default).toNat = R at *
            have hl0 := tab_len R B.length (fun _ _ => 0)
            have hw3 : w < PD.length := by omega
            repeat' first | refine s1 ?_ | refine q1 ?_ | (refine kR ?_; first | refine F.w (hB) ?_) | fail
            refine AW.draw 12 G.mixed (by kernel_rfl) ?_
            refine dP 0 ?_
            first | refine dL 1 ?_ | refine dLQ 1 ?_
            refine dP 2 ?_
            first | refine dP 3 ?_ | refine dQ 3 ?_
            first | refine dL 4 ?_ | refine dLQ 4 ?_
            refine dP 5 ?_
            first | refine dL 6 ?_ | refine dLQ 6 ?_
            refine dP 7 ?_
            first | refine dP 8 ?_ | refine dQ 8 ?_
            first | refine dL 9 ?_ | refine dLQ 9 ?_
            refine ARA.any [10, 11] (by kernel_rfl) (by simp) ?_
            intro k hk
            simp only [List.mem_cons, List.not_mem_nil, or_false] at hk
            rcases hk with rfl | rfl
            refine ⟨_, true, rfl, rfl, ?_⟩
            first | refine s1 ?_ | refine F.c (hZ) ?_
            refine ARg.nil (ATh.normal ?_)
            refine dO 11 true ?_
            refine s1 ?_
            refine ARg.nil (ATh.normal ?_)
            refine dO 12 false ?_
            first | refine s1 ?_ | refine q1 ?_
            refine ARg.nil (ATh.normal ?_)
            refine dN ?_
            rotate_left
            refine ⟨_, true, rfl, rfl, ?_⟩
            refine s1 ?_
            refine ARg.nil (ATh.normal ?_)
            refine dO 10 true ?_
            first | refine s1 ?_ | refine F.c (hZ) ?_
            refine ARg.nil (ATh.normal ?_)
            refine dO 12 false ?_
            first | refine s1 ?_ | refine q1 ?_
            refine ARg.nil (ATh.normal ?_)
            refine dN ?_
            rotate_left
            all_goals try
             (
              repeat' first | refine s1 ?_ | refine q1 ?_ | fail
              refine F.loop (σ := Nat) [15, 16, 17, 18, 19, 20, 81, 82, 83, 84, 85, 86, 87, 88, 89, 90, 91, 92, 93, 94, 95, 96, 97, 98, 99, 100, 101, 102, 103, 104, 105, 106, 107, 108, 109, 110, 111, 112, 113, 114, 115, 116, 117, 118, 119, 120, 121, 122] (fun k => [(15, .i k)]) (fun k => [(7, .live false 1 (E true (tab R B.length (fcK CL k 0))))]) (fun k => k ≤ B.length) (fun k => B.length - k) 0 ⟨rfl, trivial⟩ ⟨obE (by rw [fcK_zero]), trivial⟩ (Nat.zero_le _) ?_
              rintro k k1'
              by_cases hk : k < B.length
              · have hA1 := hAl k hk
                have hA2 := hAp k hk
                have hc2 := hcg k hk
                have hzl := hzl' k hk
                generalize appV r.p (aloM r (B.getD k default)) x = Z at hA2 hc2 hzl
                generalize aloM r (B.getD k default) = M at hA1 hA2
                repeat' first | refine s1 ?_ | refine q1 ?_ | fail
                refine AW.draw 10 G.mixed (by kernel_rfl) ?_
                first | refine dL 0 ?_ | refine dLQ 0 ?_
                refine dP 1 ?_
                refine dP 2 ?_
                first | refine dP 3 ?_ | refine dQ 3 ?_
                first | refine dL 4 ?_ | refine dLQ 4 ?_
                refine ARA.any [5, 9] (by kernel_rfl) (by simp) ?_
                intro k hk
                simp only [List.mem_cons, List.not_mem_nil, or_false] at hk
                rcases hk with rfl | rfl
                refine ⟨_, true, rfl, rfl, ?_⟩
                first | refine s1 ?_ | refine F.c (hA1) ?_
                refine ARg.nil (ATh.normal ?_)
                refine dP 6 ?_
                refine dP 7 ?_
                refine dP 8 ?_
                refine dO 9 true ?_
                refine s1 ?_
                refine ARg.nil (ATh.normal ?_)
                refine dO 10 false ?_
                first | refine s1 ?_ | refine q1 ?_
                refine ARg.nil (ATh.normal ?_)
                refine dP 11 ?_
                refine dN ?_
                rotate_left
                refine ⟨_, true, rfl, rfl, ?_⟩
                refine s1 ?_
                refine ARg.nil (ATh.normal ?_)
                refine dO 5 true ?_
                first | refine s1 ?_ | refine F.c (hA1) ?_
                refine ARg.nil (ATh.normal ?_)
                refine dP 6 ?_
                refine dP 7 ?_
                refine dP 8 ?_
                refine dO 10 false ?_
                first | refine s1 ?_ | refine q1 ?_
                refine ARg.nil (ATh.normal ?_)
                refine dP 11 ?_
                refine dN ?_
                rotate_left
                all_goals
                  repeat' first | refine s1 ?_ | refine q1 ?_ | (refine kR ?_; first | refine F.c (hA2) ?_) | fail
                  refine F.loop (σ := Nat) [20, 104, 105, 106, 107, 108, 109, 110, 111, 112, 113, 114, 115, 116, 117, 118, 119, 120, 121, 122] (fun i => [(20, .i i)]) (fun i => [(7, .live false 1 (E true (tab R B.length (fcK CL k i))))]) (fun i => i ≤ R) (fun i => R - i) 0 ⟨rfl, trivial⟩ ⟨rfl, trivial⟩ (Nat.zero_le _) ?_
                  rintro i i1
                  by_cases hi : i < R
                  · obtain ⟨t1, t2⟩ := tab_in (i := i) (j := k) (r := R) (c := B.length) hi hk (by omega) (by omega)
                    repeat' first | refine s1 ?_ | refine q1 ?_ | fail
                    refine AW.draw 13 G.mixed (by kernel_rfl) ?_
                    refine dP 0 ?_
                    first | refine dL 1 ?_ | refine dLQ 1 ?_
                    refine dP 2 ?_
                    refine dP 3 ?_
                    first | refine dL 4 ?_ | refine dLQ 4 ?_
                    refine dP 5 ?_
                    refine dP 6 ?_
                    refine dP 7 ?_
                    refine dP 8 ?_
                    refine dP 9 ?_
                    first | refine dP 10 ?_ | refine dQ 10 ?_
                    first | refine dL 11 ?_ | refine dLQ 11 ?_
                    first | refine dP 12 ?_ | refine dQ 12 ?_
                    refine dO 13 false ?_
                    first | refine s1 ?_ | refine q1 ?_
                    refine ARg.nil (ATh.normal ?_)
                    refine dN ?_
                    rotate_left
                    all_goals
                      repeat' first | refine s1 ?_ | refine q1 ?_ | fail
                      exact ⟨i + 1, F.fit ⟨rfl, trivial⟩ ⟨obE (by rw [Nat.zero_add, ← hc2, fcK_set]), trivial⟩, by omega, by omega⟩
                  · obtain rfl : i = R := by omega
                    repeat' first | refine s1 ?_ | refine q1 ?_ | fail
                    exact ⟨k + 1, F.fit ⟨rfl, trivial⟩ ⟨obE (by rw [fcK_next]), trivial⟩, by omega, by omega⟩
              · obtain rfl : k = B.length := by omega
                have e9 : tab R B.length (fcK CL B.length 0) = tab R B.length (fcF CL) := by rw [← hcl]; exact fcK_all CL R
                rw [e9]
                have e8 := tab_len R B.length (fun _ _ => 0)
                have e7 := tab_len R B.length (fcF CL)
                repeat' first | refine s1 ?_ | refine q1 ?_ | (refine kR ?_; first | refine F.a1 Mat (a := tm R B.length (fcF CL)) ?_) | fail
                exact ⟨w + 1, F.fit ⟨rfl, rfl, trivial⟩ ⟨obE (by rw [ht]), trivial⟩, by omega, by omega⟩)
            all_goals try
             (
              repeat' first | refine s1 ?_ | refine q1 ?_ | fail
              refine F.loop (σ := Nat) [15, 16, 17, 18, 19, 20, 81, 82, 83, 84, 85, 86, 87, 88, 89, 90, 91, 92, 93, 94, 95, 96, 97, 98, 99, 100, 101, 102, 103, 104, 105, 106, 107, 108, 109, 110, 111, 112, 113, 114, 115, 116, 117, 118, 119, 120, 121, 122] (fun k => [(15, .i k)]) (fun k => [(8, .live false 1 (E true (tab R B.length (fcK CL k 0))))]) (fun k => k ≤ B.length) (fun k => B.length - k) 0 ⟨rfl, trivial⟩ ⟨obE (by rw [fcK_zero]), trivial⟩ (Nat.zero_le _) ?_
              rintro k k1'
              by_cases hk : k < B.length
              · have hA1 := hAl k hk
                have hA2 := hAp k hk
                have hc2 := hcg k hk
                have hzl := hzl' k hk
                generalize appV r.p (aloM r (B.getD k default)) x = Z at hA2 hc2 hzl
                generalize aloM r (B.getD k default) = M at hA1 hA2
                repeat' first | refine s1 ?_ | refine q1 ?_ | fail
                refine AW.draw 10 G.mixed (by kernel_rfl) ?_
                first | refine dL 0 ?_ | refine dLQ 0 ?_
                refine dP 1 ?_
                refine dP 2 ?_
                first | refine dP 3 ?_ | refine dQ 3 ?_
                first | refine dL 4 ?_ | refine dLQ 4 ?_
                refine ARA.any [5, 9] (by kernel_rfl) (by simp) ?_
                intro k hk
                simp only [List.mem_cons, List.not_mem_nil, or_false] at hk
                rcases hk with rfl | rfl
                refine ⟨_, true, rfl, rfl, ?_⟩
                first | refine s1 ?_ | refine F.c (hA1) ?_
                refine ARg.nil (ATh.normal ?_)
                refine dP 6 ?_
                refine dP 7 ?_
                refine dP 8 ?_
                refine dO 9 true ?_
                refine s1 ?_
                refine ARg.nil (ATh.normal ?_)
                refine dO 10 false ?_
                first | refine s1 ?_ | refine q1 ?_
                refine ARg.nil (ATh.normal ?_)
                refine dP 11 ?_
                refine dN ?_
                rotate_left
                refine ⟨_, true, rfl, rfl, ?_⟩
                refine s1 ?_
                refine ARg.nil (ATh.normal ?_)
                refine dO 5 true ?_
                first | refine s1 ?_ | refine F.c (hA1) ?_
                refine ARg.nil (ATh.normal ?_)
                refine dP 6 ?_
                refine dP 7 ?_
                refine dP 8 ?_
                refine dO 10 false ?_
                first | refine s1 ?_ | refine q1 ?_
                refine ARg.nil (ATh.normal ?_)
                refine dP 11 ?_
                refine dN ?_
                rotate_left
                all_goals
                  repeat' first | refine s1 ?_ | refine q1 ?_ | (refine kR ?_; first | refine F.c (hA2) ?_) | fail
                  refine F.loop (σ := Nat) [20, 104, 105, 106, 107, 108, 109, 110, 111, 112, 113, 114, 115, 116, 117, 118, 119, 120, 121, 122] (fun i => [(20, .i i)]) (fun i => [(8, .live false 1 (E true (tab R B.length (fcK CL k i))))]) (fun i => i ≤ R) (fun i => R - i) 0 ⟨rfl, trivial⟩ ⟨rfl, trivial⟩ (Nat.zero_le _) ?_
                  rintro i i1
                  by_cases hi : i < R
                  · obtain ⟨t1, t2⟩ := tab_in (i := i) (j := k) (r := R) (c := B.length) hi hk (by omega) (by omega)
                    repeat' first | refine s1 ?_ | refine q1 ?_ | fail
                    refine AW.draw 13 G.mixed (by kernel_rfl) ?_
                    refine dP 0 ?_
                    first | refine dL 1 ?_ | refine dLQ 1 ?_
                    refine dP 2 ?_
                    refine dP 3 ?_
                    first | refine dL 4 ?_ | refine dLQ 4 ?_
                    refine dP 5 ?_
                    refine dP 6 ?_
                    refine dP 7 ?_
                    refine dP 8 ?_
                    refine dP 9 ?_
                    first | refine dP 10 ?_ | refine dQ 10 ?_
                    first | refine dL 11 ?_ | refine dLQ 11 ?_
                    first | refine dP 12 ?_ | refine dQ 12 ?_
                    refine dO 13 false ?_
                    first | refine s1 ?_ | refine q1 ?_
                    refine ARg.nil (ATh.normal ?_)
                    refine dN ?_
                    rotate_left
                    all_goals
                      repeat' first | refine s1 ?_ | refine q1 ?_ | fail
                      exact ⟨i + 1, F.fit ⟨rfl, trivial⟩ ⟨obE (by rw [Nat.zero_add, ← hc2, fcK_set]), trivial⟩, by omega, by omega⟩
                  · obtain rfl : i = R := by omega
                    repeat' first | refine s1 ?_ | refine q1 ?_ | fail
                    exact ⟨k + 1, F.fit ⟨rfl, trivial⟩ ⟨obE (by rw [fcK_next]), trivial⟩, by omega, by omega⟩
              · obtain rfl : k = B.length := by omega
                have e9 : tab R B.length (fcK CL B.length 0) = tab R B.length (fcF CL) := by rw [← hcl]; exact fcK_all CL R
                rw [e9]
                have e8 := tab_len R B.length (fun _ _ => 0)
                have e7 := tab_len R B.length (fcF CL)
                repeat' first | refine s1 ?_ | refine q1 ?_ | (refine kR ?_; first | refine F.a1 Mat (a := tm R B.length (fcF CL)) ?_) | fail
                exact ⟨w + 1, F.fit ⟨rfl, rfl, trivial⟩ ⟨obE (by rw [ht]), trivial⟩, by omega, by omega⟩)
          · obtain rfl : w = r.d.length := by omega
            have e : L.take r.d.length = L := List.take_of_length_le (by omega)
            rw [e]
            clear hp2 e
            rw [← hll]
            repeat' first | refine s1 ?_ | refine q1 ?_ | fail
            (refine kZ ?_; exact F.ret rfl)
        · rw [if_neg fun hh => h3 hh.2.2.1]
          have hvl : v.toNat < r.d.length := by omega
          generalize pjMs r.q v = PM at hP hpm
          generalize projD r.q v = PD at hP
          repeat' first | refine s1 ?_ | refine q1 ?_ | (refine kR ?_; first | refine F.c (hF) ?_ | refine F.c (hV) ?_ | refine F.c (hP) ?_) | fail
          (refine kZ ?_; exact F.ret rfl)
theorem mfpP_ct (r : Rep) (v : Int) (x : List Int) : cnt ctM (mfpP r v x).1 ≤ 1000 := by
  unfold mfpP
  by_cases h : isRep r = true ∧ isVec r.p x = true ∧ (x.length : Int) = r.d.getD v.toNat default ∧ (projP r.p r.q v).2 = true
  · rw [if_pos h]
    obtain ⟨r1, r2, r3, r4⟩ := isRep_spec h.1
    obtain ⟨c1, c2, c3, c4⟩ := areDims_spec r2
    have h5 := okQ_spec c1
    obtain ⟨k1, k2, k3⟩ := projP_true3 h.2.2.2
    obtain ⟨p1, p2, p3, p4⟩ := projD_yes k2
    obtain ⟨d1, d2, d3, d4⟩ := areDims_spec k2
    have hA : cnt ctM (mfpL r v x) ≤ (mfpL r v x).length * 18 := cnt_bd fun y hy => by
      simp only [mfpL, List.mem_map] at hy
      obtain ⟨w, hw, rfl⟩ := hy
      have hw : w < r.d.length := by simpa using hw
      have e := p4 w (by omega)
      have b1 : 0 ≤ (projD r.q v).getD w default ∧ (projD r.q v).getD w default ≤ 4 := allIn_spec d3 (by omega)
      have b2 : 0 ≤ r.d.getD w default ∧ r.d.getD w default ≤ 4 := allIn_spec c3 hw
      have := Nat.mul_le_mul (show (r.d.getD w default).toNat ≤ 4 by omega) (show (betw r.q v (w : Int)).length ≤ 4 by omega)
      simp only [ctM, mfpM, tm, tab_len]
      omega
    have e := mfpL_len r v x
    show cnt ctM (mfpL r v x) ≤ 1000
    omega
  · rw [if_neg h]; simp [cnt]
end Go.Proofs.Ytanembgijdkagaa.V
