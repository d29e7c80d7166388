/- Contracts: rank, zero matrices, semisimple representations. -/
import Derived.Test.YtcalkmlaodjpaaaA12
import Derived.Test.YtcalkmlaodjpaaaA15
import Derived.Test.YtcalkmlaodjpaaaA16
namespace Go.Proofs.Ytcalkmlaodjpaaa.V
open V.Enc (enc)
open Go.RowKit G D
set_option linter.unusedVariables false
set_option linter.unusedSimpArgs false
set_option maxHeartbeats 400000
set_option maxRecDepth 4000
attribute [local irreducible] AW ARg ARA ARet MRet ASil AC AM

theorem isMat_spec {p : Int} {m : Mat} (h : isMat p m = true) : isF p = true ∧ (0 ≤ m.r ∧ m.r ≤ 8) ∧ (0 ≤ m.c ∧ m.c ≤ 8) ∧ (m.m.length : Int) = m.r * m.c ∧ ∀ j, j < m.m.length → 0 ≤ m.m.getD j default ∧ m.m.getD j default ≤ p - 1 := by
  simp only [isMat, isVec, Bool.and_eq_true, decide_eq_true_eq] at h
  exact ⟨h.2.1.1, h.1.1.1, h.1.1.2, h.1.2, fun j hj => allIn_spec h.2.2 hj⟩
theorem ent_bd {p : Int} {m : Mat} (h : isMat p m = true) : BdF p m.r.toNat m.c.toNat (ent m) := fun i hi j hj => by
  obtain ⟨_, h1, h2, h3, h4⟩ := isMat_spec h
  have e1 : ((m.r.toNat : Nat) : Int) = m.r := Int.toNat_of_nonneg h1.1
  have e2 : ((m.c.toNat : Nat) : Int) = m.c := Int.toNat_of_nonneg h2.1
  have e3 : m.m.length = m.r.toNat * m.c.toNat := by
    have : (m.m.length : Int) = ((m.r.toNat * m.c.toNat : Nat) : Int) := by push_cast; rw [e1, e2]; exact h3
    exact_mod_cast this
  exact h4 _ (by rw [e3]; exact tab_lt hi hj)
theorem isMat_tm {p : Int} {m : Mat} (h : isMat p m = true) : tm m.r.toNat m.c.toNat (ent m) = m := by
  obtain ⟨_, h1, h2, h3, h4⟩ := isMat_spec h
  exact tm_of h1.1 h2.1 h3
/-- the reduced form of a matrix, and the columns of the leading ones -/
def redM (p : Int) (m : Mat) : (Nat → Nat → Int) × List Nat := redK p m.r.toNat (ent m) m.c.toNat
theorem l4Red_a {p : Int} {m : Mat} (h : isMat p m = true) : AC Try.prog 162 [.i p, .agg (enc false m)] [.agg (enc true (tm m.r.toNat m.c.toNat (redM p m).1)), .dt true 1 (E true (ints (redM p m).2))] := by
  obtain ⟨h0, h1, h2, h3, h4⟩ := isMat_spec h
  have := l4Reduce_a p m.r.toNat m.c.toNat (ent m) h0 (by omega) (by omega) (ent_bd h)
  rwa [isMat_tm h] at this
def rowRed (p : Int) (m : Mat) : Mat × List Int × Bool := if isMat p m = true then (tm m.r.toNat m.c.toNat (redM p m).1, ints (redM p m).2, true) else (⟨0, 0, []⟩, [], false)
theorem specRowReduce_a (p : Int) (m : Mat) : AC Try.prog 137 [.i p, .agg (enc false m)] [.agg (enc true (rowRed p m).1), .dt true 1 (E true (rowRed p m).2.1), .b (rowRed p m).2.2] := by
  refine AC.go Try.func137 Try.ntmps137 rfl rfl fun w0 hw => ?_; simp [WfL, WfA, E_length, Enc.enc, In64] at hw
  have hM := specIsMatrix_a p m
  cases hm : isMat p m with
  | false =>
    rw [hm] at hM
    rw [rowRed, if_neg (by simp [hm])]
    repeat' first | refine s1 ?_ | (refine kR ?_; first | refine F.c (hM) ?_) | fail
    (refine kZ ?_; exact F.ret rfl)
  | true =>
    rw [hm] at hM
    have hR := l4Red_a hm
    rw [rowRed, if_pos hm]
    generalize tm m.r.toNat m.c.toNat (redM p m).1 = M1 at hR ⊢
    generalize ints (redM p m).2 = L1 at hR ⊢
    repeat' first | refine s1 ?_ | (refine kR ?_; first | refine F.c (hM) ?_ | refine F.c (hR) ?_) | fail
    (refine kZ ?_; exact F.ret rfl)
def rankM (p : Int) (m : Mat) : Int := if isMat p m = true then ((redM p m).2.length : Nat) else -1
theorem specRankOf_a (p : Int) (m : Mat) : AC Try.prog 94 [.i p, .agg (enc false m)] [.i (rankM p m)] := by
  refine AC.go Try.func94 Try.ntmps94 rfl rfl fun w0 hw => ?_; simp [WfL, WfA, E_length, Enc.enc, In64] at hw
  have hR := specRowReduce_a p m
  by_cases hm : isMat p m = true
  · rw [rowRed, if_pos hm] at hR
    rw [rankM, if_pos hm]
    have hl := ints_len (redM p m).2
    dsimp only at hR
    generalize tm m.r.toNat m.c.toNat (redM p m).1 = M1 at hR
    generalize ints (redM p m).2 = L1 at hR hl
    rw [← hl]
    repeat' first | refine s1 ?_ | (refine kR ?_; first | refine F.c (hR) ?_) | fail
    (refine kZ ?_; exact F.ret rfl)
  · rw [rowRed, if_neg hm] at hR
    rw [rankM, if_neg hm]
    dsimp only at hR
    repeat' first | refine s1 ?_ | (refine kR ?_; first | refine F.c (hR) ?_) | fail
    (refine kZ ?_; exact F.ret rfl)
/-- no number but 0 -/
def isZ (m : Mat) : Bool := m.m.all fun x => decide (x = 0)
theorem isZero1_a (x : Int) : AC Try.prog 140 [.i x] [.b (decide (x ≠ 0))] := by
  refine AC.go Try.func140 Try.ntmps140 rfl rfl fun w0 hw => ?_; simp [WfL, WfA, E_length, Enc.enc, In64] at hw
  repeat' first | refine s1 ?_ | fail
  (refine kZ ?_; exact F.ret rfl)
theorem isZero_a (m : Mat) : AC Try.prog 98 [.agg (enc false m)] [.b (isZ m)] := by
  refine AC.go Try.func98 Try.ntmps98 rfl rfl fun w0 hw => ?_; simp [WfL, WfA, E_length, Enc.enc, In64] at hw
  repeat' first | refine s1 ?_ | (refine kR ?_; first | refine F.c (ContainsFunc1_a m.m 140 [] (fun x => decide (x ≠ 0)) (fun _ => .nil) (fun x _ => isZero1_a x)) ?_) | fail
  refine F.ret ?_
  rw [isZ, List.not_any_eq_all_not]; simp
/-- the rank is 0 where all is 0 -/
theorem rank_isZ {p : Int} {m : Mat} (h : isMat p m = true) : isZ m = decide ((redM p m).2.length = 0) := by
  obtain ⟨_, h1, h2, h3, h4⟩ := isMat_spec h
  have e1 : ((m.r.toNat : Nat) : Int) = m.r := Int.toNat_of_nonneg h1.1
  have e2 : ((m.c.toNat : Nat) : Int) = m.c := Int.toNat_of_nonneg h2.1
  have e3 : m.m.length = m.r.toNat * m.c.toNat := by
    have : (m.m.length : Int) = ((m.r.toNat * m.c.toNat : Nat) : Int) := by push_cast; rw [e1, e2]; exact h3
    exact_mod_cast this
  cases hz : isZ m with
  | true =>
    have hall : ∀ i, i < m.r.toNat → ∀ j, j < m.c.toNat → ent m i j = 0 := fun i hi j hj => by
      have hlt : i * m.c.toNat + j < m.m.length := by rw [e3]; exact tab_lt hi hj
      have h := List.all_eq_true.1 hz (m.m.getD (i * m.c.toNat + j) default) (gm hlt)
      exact of_decide_eq_true h
    have := redK_rank0 (p := p) hall m.c.toNat (Nat.le_refl _)
    simp [redM, this]
  | false =>
    symm
    refine decide_eq_false fun h0 => ?_
    have hn : ¬ ∀ x ∈ m.m, x = 0 := fun ha => by
      have : isZ m = true := List.all_eq_true.2 fun x hx => by simpa using ha x hx
      rw [hz] at this; cases this
    apply hn
    intro x hx
    obtain ⟨t, ht, rfl⟩ := List.mem_iff_getElem.1 hx
    have ht' : t < m.r.toNat * m.c.toNat := by omega
    have hc := pos_of_mul ht'
    have hi : t / m.c.toNat < m.r.toNat := Nat.div_lt_of_lt_mul (by rw [Nat.mul_comm]; exact ht')
    have e : t / m.c.toNat * m.c.toNat + t % m.c.toNat = t := Nat.div_add_mod' t m.c.toNat
    have hent : ent m (t / m.c.toNat) (t % m.c.toNat) = m.m[t] := by unfold ent; rw [e]; simp [ht]
    rcases Int.decEq (ent m (t / m.c.toNat) (t % m.c.toNat)) 0 with hne | he
    · exact absurd h0 (redK_rank1 hi (Nat.mod_lt _ hc) hne)
    · rw [← hent]; exact he
def isSemi (r : Rep) : Bool := isRep r && r.m.all isZ
theorem implSemi1_a (m : Mat) : AC Try.prog 97 [.agg (enc false m)] [.b (!isZ m)] := by
  refine AC.go Try.func97 Try.ntmps97 rfl rfl fun w0 hw => ?_; simp [WfL, WfA, E_length, Enc.enc, In64] at hw
  have hZ := isZero_a m
  repeat' first | refine s1 ?_ | (refine kR ?_; first | refine F.c (hZ) ?_) | fail
  (refine kZ ?_; exact F.ret rfl)
theorem implIsSemisimple_a (r : Rep) : AC Try.prog 50 [.agg (enc false r)] [.b (isSemi r)] := by
  refine AC.go Try.func50 Try.ntmps50 rfl rfl fun w0 hw => ?_; simp [WfL, WfA, E_length, Enc.enc, In64] at hw
  have hR := implIsRep_a r
  have hF := ContainsFuncM_a r.m 97 [] (fun m => !isZ m) (fun _ => .nil) (fun x _ => implSemi1_a x)
  have hs : isSemi r = (isRep r && !(r.m.any fun m => !isZ m)) := by rw [isSemi, List.not_any_eq_all_not]; simp
  generalize isSemi r = X at hs ⊢
  cases hr : isRep r with
  | false =>
    rw [hr] at hR hs
    repeat' first | refine s1 ?_ | (refine kR ?_; first | refine F.c (hR) ?_) | fail
    subst hs
    (refine kZ ?_; exact F.ret rfl)
  | true =>
    rw [hr] at hR hs
    generalize (r.m.any fun m => !isZ m) = Y at hF hs
    repeat' first | refine s1 ?_ | (refine kR ?_; first | refine F.c (hR) ?_ | refine F.c (hF) ?_) | fail
    subst hs
    refine F.ret ?_
    simp
theorem specIsSemisimple_a (r : Rep) : AC Try.prog 49 [.agg (enc false r)] [.b (isSemi r)] := by
  refine AC.go Try.func49 Try.ntmps49 rfl rfl fun w0 hw => ?_; simp [WfL, WfA, E_length, Enc.enc, In64] at hw
  have hR := specIsRep_a r
  cases hr : isRep r with
  | false =>
    rw [hr] at hR
    rw [isSemi, hr]
    cases hm : r.m with
    | nil =>
      repeat' first | refine s1 ?_ | fail
      refine F.loop (σ := Unit) [2, 3, 4, 5, 6, 7, 8, 9, 10, 11, 12, 13, 14, 15, 16, 17, 18, 19, 20, 21, 22, 23] (fun _ => [(3, .i 0)]) (fun _ => []) (fun _ => True) (fun _ => 0) () ⟨rfl, trivial⟩ trivial trivial ?_
      rintro _ _
      have hl : r.m.length = 0 := by rw [hm]; rfl
      repeat' first | refine s1 ?_ | (refine kR ?_; first | refine F.c (hR) ?_) | fail
      (refine kZ ?_; exact F.ret rfl)
    | cons m0 ms =>
      have hl : 0 < r.m.length := by rw [hm]; simp
      repeat' first | refine s1 ?_ | fail
      refine F.loop (σ := Unit) [2, 3, 4, 5, 6, 7, 8, 9, 10, 11, 12, 13, 14, 15, 16, 17, 18, 19, 20, 21, 22, 23] (fun _ => [(3, .i 0)]) (fun _ => []) (fun _ => True) (fun _ => 0) () ⟨rfl, trivial⟩ trivial trivial ?_
      rintro _ _
      repeat' first | refine s1 ?_ | (refine kR ?_; first | refine F.c (hR) ?_) | fail
      (refine kZ ?_; exact F.ret rfl)
  | true =>
    rw [hr] at hR
    obtain ⟨h1, h2, h3, h4⟩ := isRep_spec hr
    repeat' first | refine s1 ?_ | fail
    refine F.loop (σ := Nat) [2, 3, 4, 5, 6, 7, 8, 9, 10, 11, 12, 13, 14, 15, 16, 17, 18, 19, 20, 21, 22, 23] (fun k => [(3, .i k)]) (fun _ => []) (fun k => k ≤ r.m.length ∧ ∀ j, j < k → isZ (r.m.getD j default) = true) (fun k => r.m.length - k) 0 ⟨rfl, trivial⟩ trivial ⟨Nat.zero_le _, fun j hj => by omega⟩ ?_
    rintro k ⟨g1, g2⟩
    by_cases hlt : k < r.m.length
    · have hm : isMat r.p (r.m.getD k default) = true := by
        have := h4 k hlt
        simp only [fitM, Bool.and_eq_true] at this
        exact this.1.1
      have hK := specRankOf_a r.p (r.m.getD k default)
      rw [rankM, if_pos hm] at hK
      have hz := rank_isZ hm
      generalize (redM r.p (r.m.getD k default)).2.length = y at hK hz
      by_cases hy : y = 0
      · subst hy
        repeat' first | refine s1 ?_ | (refine kR ?_; first | refine F.c (hR) ?_) | fail
        refine AW.draw 9 G.mixed (by kernel_rfl) ?_
        refine dP 0 ?_
        refine dL 1 ?_
        refine dP 2 ?_
        refine dL 3 ?_
        refine dP 4 ?_
        refine dP 5 ?_
        refine dL 6 ?_
        refine dO 7 true ?_
        first | refine s1 ?_ | refine F.c (hK) ?_
        refine ARg.nil (ATh.normal ?_)
        refine dP 8 ?_
        refine dN ?_
        repeat' first | refine s1 ?_ | fail
        exact ⟨k + 1, F.fit ⟨rfl, trivial⟩ trivial, ⟨by omega, snocP g2 (by rw [hz]; rfl)⟩, by omega⟩
      · rw [decide_eq_false hy] at hz
        repeat' first | refine s1 ?_ | (refine kR ?_; first | refine F.c (hR) ?_) | fail
        refine AW.draw 9 G.mixed (by kernel_rfl) ?_
        refine dP 0 ?_
        refine dL 1 ?_
        refine dP 2 ?_
        refine dL 3 ?_
        refine dP 4 ?_
        refine dP 5 ?_
        refine dL 6 ?_
        refine dO 7 true ?_
        first | refine s1 ?_ | refine F.c (hK) ?_
        refine ARg.nil (ATh.normal ?_)
        refine dP 8 ?_
        refine dN ?_
        repeat' first | refine s1 ?_ | fail
        refine F.ret ?_
        have : r.m.all isZ = false := by
          rw [← Bool.not_eq_true, List.all_eq_true]
          intro ha
          have := ha _ (gm (d := default) hlt)
          rw [hz] at this; cases this
        rw [isSemi, this, Bool.and_false]
    · obtain rfl : k = r.m.length := by omega
      repeat' first | refine s1 ?_ | (refine kR ?_; first | refine F.c (hR) ?_) | fail
      have hall : r.m.all isZ = true := List.all_eq_true.2 fun x hx => by
        obtain ⟨i, hi, rfl⟩ := List.mem_iff_getElem.1 hx
        have := g2 i hi
        simpa [hi] using this
      refine F.ret ?_
      rw [isSemi, hr, hall]; rfl
end Go.Proofs.Ytcalkmlaodjpaaa.V
