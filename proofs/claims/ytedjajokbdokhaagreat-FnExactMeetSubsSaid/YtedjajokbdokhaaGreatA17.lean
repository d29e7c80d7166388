/- Contracts: rank, zero matrices, semisimple representations. -/
import Derived.Test.YtedjajokbdokhaaGreatA12
import Derived.Test.YtedjajokbdokhaaGreatA15
import Derived.Test.YtedjajokbdokhaaGreatB2
namespace Go.Proofs.YtedjajokbdokhaaGreat.V
open V.Enc (enc)
open Go.RowKit G D
set_option linter.unusedVariables false
set_option linter.unusedSimpArgs false
set_option maxHeartbeats 400000
set_option maxRecDepth 4000
attribute [local irreducible] AW ARg ARA ARet MRet ASil AC AM

theorem isMat_spec {p : Int} {m : Mat} (h : isMat p m = true) : isF p = true ∧ (0 ≤ m.r ∧ m.r ≤ 8) ∧ (0 ≤ m.c ∧ m.c ≤ 8) ∧ (m.m.length : Int) = m.r * m.c ∧ ∀ j, j < m.m.length → 0 ≤ m.m.getD j default ∧ m.m.getD j default ≤ p - 1 := by
  simp only [isMat, isVec, Bool.and_eq_true, decide_eq_true_eq] at h
  exact ⟨h.2.1.1, h.1.1.1, h.1.1.2, h.1.2, fun j hj => allIn_spec h.2.2 hj⟩
theorem ent_bd {p : Int} {m : Mat} (h : isMat p m = true) : BdF p m.r.toNat m.c.toNat (ent m) := fun i hi j hj => by
  obtain ⟨_, h1, h2, h3, h4⟩ := isMat_spec h
  have e1 : ((m.r.toNat : Nat) : Int) = m.r := Int.toNat_of_nonneg h1.1
  have e2 : ((m.c.toNat : Nat) : Int) = m.c := Int.toNat_of_nonneg h2.1
  have e3 : m.m.length = m.r.toNat * m.c.toNat := by
    have : (m.m.length : Int) = ((m.r.toNat * m.c.toNat : Nat) : Int) := by push_cast; rw [e1, e2]; exact h3
    exact_mod_cast this
  exact h4 _ (by rw [e3]; exact tab_lt hi hj)
theorem isMat_tm {p : Int} {m : Mat} (h : isMat p m = true) : tm m.r.toNat m.c.toNat (ent m) = m := by
  obtain ⟨_, h1, h2, h3, h4⟩ := isMat_spec h
  exact tm_of h1.1 h2.1 h3
/-- the reduced form of a matrix, and the columns of the leading ones -/
def redM (p : Int) (m : Mat) : (Nat → Nat → Int) × List Nat := redK p m.r.toNat (ent m) m.c.toNat
theorem l4Red_a {p : Int} {m : Mat} (h : isMat p m = true) : AC Tryz.prog 155 [.i p, .agg (enc false m)] [.agg (enc true (tm m.r.toNat m.c.toNat (redM p m).1)), .dt true 1 (E true (ints (redM p m).2))] := by
  obtain ⟨h0, h1, h2, h3, h4⟩ := isMat_spec h
  have := l4Reduce_a p m.r.toNat m.c.toNat (ent m) h0 (by omega) (by omega) (ent_bd h)
  rwa [isMat_tm h] at this
def rowRed (p : Int) (m : Mat) : Mat × List Int × Bool := if isMat p m = true then (tm m.r.toNat m.c.toNat (redM p m).1, ints (redM p m).2, true) else (⟨0, 0, []⟩, [], false)
theorem specRowReduce_a (p : Int) (m : Mat) : AC Tryz.prog 203 [.i p, .agg (enc false m)] [.agg (enc true (rowRed p m).1), .dt true 1 (E true (rowRed p m).2.1), .b (rowRed p m).2.2] := by
  refine AC.go Tryz.func203 Tryz.ntmps203 rfl rfl fun w0 hw => ?_; simp [WfL, WfA, E_length, Enc.enc, In64] at hw
  have hM := specIsMatrix_a p m
  cases hm : isMat p m with
  | false =>
    rw [hm] at hM
    rw [rowRed, if_neg (by simp [hm])]
    repeat' first | refine s1 ?_ | (refine kR ?_; first | refine F.c (hM) ?_) | fail
    (refine kZ ?_; exact F.ret rfl)
  | true =>
    rw [hm] at hM
    have hR := l4Red_a hm
    rw [rowRed, if_pos hm]
    generalize tm m.r.toNat m.c.toNat (redM p m).1 = M1 at hR ⊢
    generalize ints (redM p m).2 = L1 at hR ⊢
    repeat' first | refine s1 ?_ | (refine kR ?_; first | refine F.c (hM) ?_ | refine F.c (hR) ?_) | fail
    (refine kZ ?_; exact F.ret rfl)
def rankM (p : Int) (m : Mat) : Int := if isMat p m = true then ((redM p m).2.length : Nat) else -1
theorem specRankOf_a (p : Int) (m : Mat) : AC Tryz.prog 172 [.i p, .agg (enc false m)] [.i (rankM p m)] := by
  refine AC.go Tryz.func172 Tryz.ntmps172 rfl rfl fun w0 hw => ?_; simp [WfL, WfA, E_length, Enc.enc, In64] at hw
  have hR := specRowReduce_a p m
  by_cases hm : isMat p m = true
  · rw [rowRed, if_pos hm] at hR
    rw [rankM, if_pos hm]
    have hl := ints_len (redM p m).2
    dsimp only at hR
    generalize tm m.r.toNat m.c.toNat (redM p m).1 = M1 at hR
    generalize ints (redM p m).2 = L1 at hR hl
    rw [← hl]
    repeat' first | refine s1 ?_ | (refine kR ?_; first | refine F.c (hR) ?_) | fail
    (refine kZ ?_; exact F.ret rfl)
  · rw [rowRed, if_neg hm] at hR
    rw [rankM, if_neg hm]
    dsimp only at hR
    repeat' first | refine s1 ?_ | (refine kR ?_; first | refine F.c (hR) ?_) | fail
    (refine kZ ?_; exact F.ret rfl)
/-- no number but 0 -/
def isZ (m : Mat) : Bool := m.m.all fun x => decide (x = 0)
theorem isZero1_a (x : Int) : AC Tryz.prog 163 [.i x] [.b (decide (x ≠ 0))] := by
  refine AC.go Tryz.func163 Tryz.ntmps163 rfl rfl fun w0 hw => ?_; simp [WfL, WfA, E_length, Enc.enc, In64] at hw
  repeat' first | refine s1 ?_ | fail
  (refine kZ ?_; exact F.ret rfl)
theorem isZero_a (m : Mat) : AC Tryz.prog 111 [.agg (enc false m)] [.b (isZ m)] := by
  refine AC.go Tryz.func111 Tryz.ntmps111 rfl rfl fun w0 hw => ?_; simp [WfL, WfA, E_length, Enc.enc, In64] at hw
  repeat' first | refine s1 ?_ | (refine kR ?_; first | refine F.c (ContainsFunc1_a m.m 163 [] (fun x => decide (x ≠ 0)) (fun _ => .nil) (fun x _ => isZero1_a x)) ?_) | fail
  refine F.ret ?_
  rw [isZ, List.not_any_eq_all_not]; simp
/-- the rank is 0 where all is 0 -/
theorem rank_isZ {p : Int} {m : Mat} (h : isMat p m = true) : isZ m = decide ((redM p m).2.length = 0) := by
  obtain ⟨_, h1, h2, h3, h4⟩ := isMat_spec h
  have e1 : ((m.r.toNat : Nat) : Int) = m.r := Int.toNat_of_nonneg h1.1
  have e2 : ((m.c.toNat : Nat) : Int) = m.c := Int.toNat_of_nonneg h2.1
  have e3 : m.m.length = m.r.toNat * m.c.toNat := by
    have : (m.m.length : Int) = ((m.r.toNat * m.c.toNat : Nat) : Int) := by push_cast; rw [e1, e2]; exact h3
    exact_mod_cast this
  cases hz : isZ m with
  | true =>
    have hall : ∀ i, i < m.r.toNat → ∀ j, j < m.c.toNat → ent m i j = 0 := fun i hi j hj => by
      have hlt : i * m.c.toNat + j < m.m.length := by rw [e3]; exact tab_lt hi hj
      have h := List.all_eq_true.1 hz (m.m.getD (i * m.c.toNat + j) default) (gm hlt)
      exact of_decide_eq_true h
    have := redK_rank0 (p := p) hall m.c.toNat (Nat.le_refl _)
    simp [redM, this]
  | false =>
    symm
    refine decide_eq_false fun h0 => ?_
    have hn : ¬ ∀ x ∈ m.m, x = 0 := fun ha => by
      have : isZ m = true := List.all_eq_true.2 fun x hx => by simpa using ha x hx
      rw [hz] at this; cases this
    apply hn
    intro x hx
    obtain ⟨t, ht, rfl⟩ := List.mem_iff_getElem.1 hx
    have ht' : t < m.r.toNat * m.c.toNat := by omega
    have hc := pos_of_mul ht'
    have hi : t / m.c.toNat < m.r.toNat := Nat.div_lt_of_lt_mul (by rw [Nat.mul_comm]; exact ht')
    have e : t / m.c.toNat * m.c.toNat + t % m.c.toNat = t := Nat.div_add_mod' t m.c.toNat
    have hent : ent m (t / m.c.toNat) (t % m.c.toNat) = m.m[t] := by unfold ent; rw [e]; simp [ht]
    rcases Int.decEq (ent m (t / m.c.toNat) (t % m.c.toNat)) 0 with hne | he
    · exact absurd h0 (redK_rank1 hi (Nat.mod_lt _ hc) hne)
    · rw [← hent]; exact he
def isSemi (r : Rep) : Bool := isRep r && r.m.all isZ
end Go.Proofs.YtedjajokbdokhaaGreat.V
