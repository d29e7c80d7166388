/- Joined: Contracts of small functions on numbers and lists of numbers. Contracts of functions on quivers. Contracts: slices.Grow, slices.Concat, determinants.. -/
import Derived.Test.YtedjajokbdokhaaGreatHt
import Derived.Test.YtedjajokbdokhaaGreatUc
/- Contracts of small functions on numbers and lists of numbers. -/
namespace Go.Proofs.YtedjajokbdokhaaGreat.V
open Go.RowKit G D
set_option linter.unusedVariables false
set_option linter.unusedSimpArgs false

theorem within_a (n lo hi : Int) : AC Tryz.prog 186 [.i n, .i lo, .i hi] [.b (decide (lo ≤ n ∧ n ≤ hi))] := by
  refine AC.go Tryz.func186 Tryz.ntmps186 rfl rfl fun w0 _ => ?_
  repeat' first | refine s1 ?_ | (refine s2 ?_ ?_ <;> intro hc <;> (try simp only [decide_eq_true_eq, decide_eq_false_iff_not, Bool.not_eq_true', Bool.not_eq_false'] at hc)) | fail
  all_goals
    refine F.ret ?_
    simp [*]
/-- the first place from k on at which p holds; -1 -/
def idxFrom {α : Type} (p : α → Bool) : List α → Nat → Int
  | [], _ => -1
  | x :: l, k => bif p x then (k : Int) else idxFrom p l (k + 1)
theorem idxFrom_any {α : Type} (p : α → Bool) : ∀ (l : List α) (k : Nat), decide (0 ≤ idxFrom p l k) = l.any p
  | [], k => by simp [idxFrom]
  | x :: l, k => by
    cases hp : p x with
    | true => simp [idxFrom, hp]
    | false => simp only [idxFrom, hp, cond_false, List.any_cons, Bool.false_or]; exact idxFrom_any p l (k + 1)
theorem idxFrom_drop {α : Type} [Inhabited α] (p : α → Bool) (l : List α) {k : Nat} (hk : k < l.length) : idxFrom p (l.drop k) k = bif p (l.getD k default) then (k : Int) else idxFrom p (l.drop (k + 1)) (k + 1) := by
  rw [List.drop_eq_getElem_cons hk]; simp [idxFrom, hk]
theorem IndexFunc1_a (xs : List Int) (f : Nat) [IsFn Tryz.prog f] (cs : List AV) (p : Int → Bool) (hcs : ∀ hp, SnapL hp cs cs) (hf : ∀ x ∈ xs, AC Tryz.prog f (.i x :: cs) [.b (p x)]) :
    AC Tryz.prog 200 [ar false xs, .fn f cs] [.i (idxFrom p xs 0)] := by
  refine AC.go Tryz.func200 Tryz.ntmps200 rfl rfl fun w0 hw => ?_; simp [WfL, WfA, E_length, Enc.enc, In64] at hw
  repeat' first | refine s1 ?_ | (refine s2 ?_ ?_ <;> intro hc <;> (try simp only [decide_eq_true_eq, decide_eq_false_iff_not, Bool.not_eq_true', Bool.not_eq_false'] at hc)) | fail
  refine F.loop (σ := Nat) [4, 5, 8, 9, 10, 11, 12, 13, 14, 15, 16, 17, 18] (fun k => [(8, .i k)]) (fun _ => []) (fun k => k ≤ xs.length ∧ idxFrom p xs 0 = idxFrom p (xs.drop k) k) (fun k => xs.length - k) 0 ⟨rfl, trivial⟩ trivial ⟨Nat.zero_le _, rfl⟩ ?_
  rintro k ⟨hk, hi⟩
  by_cases hlt : k < xs.length
  · rw [idxFrom_drop p xs hlt] at hi
    cases hpx : p (xs.getD k default) with
    | true =>
      rw [hpx] at hi
      have h1 := hf (xs.getD k default) (gm hlt)
      rw [hpx] at h1
      repeat' first | refine s1 ?_ | (refine kR ?_; first | refine F.cv (h1) ?_) | (refine s2 ?_ ?_ <;> intro hc <;> (try simp only [decide_eq_true_eq, decide_eq_false_iff_not, Bool.not_eq_true', Bool.not_eq_false'] at hc)) | fail
      refine F.ret ?_
      simp [hi]
    | false =>
      rw [hpx] at hi
      have h1 := hf (xs.getD k default) (gm hlt)
      rw [hpx] at h1
      repeat' first | refine s1 ?_ | (refine kR ?_; first | refine F.cv (h1) ?_) | (refine s2 ?_ ?_ <;> intro hc <;> (try simp only [decide_eq_true_eq, decide_eq_false_iff_not, Bool.not_eq_true', Bool.not_eq_false'] at hc)) | fail
      exact ⟨k + 1, F.fit ⟨rfl, trivial⟩ trivial, ⟨by omega, hi⟩, by omega⟩
  · have e : k = xs.length := by omega
    subst e
    repeat' first | refine s1 ?_ | (refine s2 ?_ ?_ <;> intro hc <;> (try simp only [decide_eq_true_eq, decide_eq_false_iff_not, Bool.not_eq_true', Bool.not_eq_false'] at hc)) | fail
    refine F.ret ?_
    simp [hi, idxFrom]
theorem ContainsFunc1_a (xs : List Int) (f : Nat) [IsFn Tryz.prog f] (cs : List AV) (p : Int → Bool) (hcs : ∀ hp, SnapL hp cs cs) (hf : ∀ x ∈ xs, AC Tryz.prog f (.i x :: cs) [.b (p x)]) :
    AC Tryz.prog 162 [ar false xs, .fn f cs] [.b (xs.any p)] := by
  refine AC.go Tryz.func162 Tryz.ntmps162 rfl rfl fun w0 hw => ?_; simp [WfL, WfA, E_length, Enc.enc, In64] at hw
  repeat' first | refine s1 ?_ | (refine kR ?_; first | refine F.c (IndexFunc1_a xs f cs p hcs hf) ?_) | fail
  exact F.ret (by rw [← idxFrom_any p xs 0])
theorem allWithin1_a (x lo hi : Int) : AC Tryz.prog 209 [.i x, .ip [.i lo], .ip [.i hi]] [.b (!decide (lo ≤ x ∧ x ≤ hi))] := by
  refine AC.go Tryz.func209 Tryz.ntmps209 rfl rfl fun w0 _ => ?_
  repeat' first | refine s1 ?_ | (refine kR ?_; first | (refine jCf 186 ?_; refine F.c (within_a _ _ _) ?_)) | (refine s2 ?_ ?_ <;> intro hc <;> (try simp only [decide_eq_true_eq, decide_eq_false_iff_not, Bool.not_eq_true', Bool.not_eq_false'] at hc)) | fail
  exact F.ret rfl
theorem allWithin_a (xs : List Int) (lo hi : Int) : AC Tryz.prog 185 [ar false xs, .i lo, .i hi] [.b (allIn lo hi xs)] := by
  refine AC.go Tryz.func185 Tryz.ntmps185 rfl rfl fun w0 hw => ?_; simp [WfL, WfA, E_length, Enc.enc, In64] at hw
  repeat' first | refine s1 ?_ | (refine kR ?_; first | refine F.c (ContainsFunc1_a xs 209 [.ip [.i lo], .ip [.i hi]] (fun x => !decide (lo ≤ x ∧ x ≤ hi)) (fun _ => .ip (.ip .nil)) (fun x _ => allWithin1_a x lo hi)) ?_) | fail
  refine F.ret ?_
  rw [allIn, List.not_any_eq_all_not]; simp
theorem l1In_a (n lo hi : Int) : AC Tryz.prog 133 [.i n, .i lo, .i hi] [.b (decide (lo ≤ n ∧ n ≤ hi))] := by
  refine AC.go Tryz.func133 Tryz.ntmps133 rfl rfl fun w0 _ => ?_
  repeat' first | refine s1 ?_ | (refine s2 ?_ ?_ <;> intro hc <;> (try simp only [decide_eq_true_eq, decide_eq_false_iff_not, Bool.not_eq_true', Bool.not_eq_false'] at hc)) | fail
  all_goals
    refine F.ret ?_
    simp [*]
end Go.Proofs.YtedjajokbdokhaaGreat.V

/- Contracts of functions on quivers. -/
namespace Go.Proofs.YtedjajokbdokhaaGreat.V
open V.Enc (enc)
open Go.RowKit G D
set_option linter.unusedVariables false
set_option linter.unusedSimpArgs false
set_option maxHeartbeats 400000

theorem implIsQuiver_a (q : Quiv) : AC Tryz.prog 184 [.agg (enc false q)] [.b (okQ q)] := by
  refine AC.go Tryz.func184 Tryz.ntmps184 rfl rfl fun w0 hw => ?_; simp [WfL, WfA, E_length, Enc.enc, In64] at hw
  repeat' first | refine s1 ?_ | (refine kR ?_; first | (refine jCf 186 ?_; refine F.c (within_a _ _ _) ?_) | (refine jCf 185 ?_; refine F.c (allWithin_a _ _ _) ?_)) | (refine s2 ?_ ?_ <;> intro hc <;> (try simp only [decide_eq_true_eq, decide_eq_false_iff_not, Bool.not_eq_true', Bool.not_eq_false'] at hc)) | fail
  all_goals
    refine F.ret ?_
    simp [okQ, *] <;> omega
theorem okQ_iff (q : Quiv) : okQ q = true ↔ 1 ≤ q.n ∧ q.n ≤ 5 ∧ q.fr.length = q.to.length ∧ q.fr.length ≤ 6 ∧ ∀ j, j < q.fr.length → (0 ≤ q.fr.getD j 0 ∧ q.fr.getD j 0 ≤ q.n - 1) ∧ 0 ≤ q.to.getD j 0 ∧ q.to.getD j 0 ≤ q.n - 1 := by
  constructor
  · intro h
    have h1 := okQ_spec h
    exact ⟨h1.1, h1.2.1, h1.2.2.1, h1.2.2.2.1, fun j hj => by have h2 := okQ_fr h hj; have h3 := okQ_to h hj; omega⟩
  · intro ⟨h1, h2, h3, h4, h5⟩
    simp only [okQ, allIn, Bool.and_eq_true, decide_eq_true_eq, List.all_eq_true]
    refine ⟨⟨⟨⟨⟨h1, h2⟩, h3⟩, h4⟩, fun x hx => ?_⟩, fun x hx => ?_⟩
    · obtain ⟨j, hj, rfl⟩ := List.mem_iff_getElem.mp hx
      have := (h5 j hj).1; simp [hj] at this; simpa using this
    · obtain ⟨j, hj, rfl⟩ := List.mem_iff_getElem.mp hx
      have := (h5 j (by omega)).2; simp [hj] at this; simpa using this
theorem specIsQuiver_a (q : Quiv) : AC Tryz.prog 182 [.agg (enc false q)] [.b (okQ q)] := by
  refine AC.go Tryz.func182 Tryz.ntmps182 rfl rfl fun w0 hw => ?_; simp [WfL, WfA, E_length, Enc.enc, In64] at hw
  repeat' first | refine s1 ?_ | (refine s2 ?_ ?_ <;> intro hc <;> (try simp only [decide_eq_true_eq, decide_eq_false_iff_not, Bool.not_eq_true', Bool.not_eq_false'] at hc)) | fail
  refine F.loop (σ := Nat) [2, 3, 4, 5, 6, 7, 8, 9, 10, 11, 12, 13, 14, 15, 16, 17, 18, 19, 20, 21, 22, 23, 24, 25, 26, 27, 28, 29, 30, 31, 32, 33, 34, 35, 36, 37, 38, 39] (fun k => [(3, .i k)]) (fun _ => []) (fun k => k ≤ q.fr.length ∧ k ≤ q.to.length ∧ ∀ j, j < k → (0 ≤ q.fr.getD j 0 ∧ q.fr.getD j 0 ≤ RowKit.wrap64 (q.n - 1)) ∧ 0 ≤ q.to.getD j 0 ∧ q.to.getD j 0 ≤ RowKit.wrap64 (q.n - 1)) (fun k => q.fr.length - k) 0 ⟨rfl, trivial⟩ trivial ⟨Nat.zero_le _, Nat.zero_le _, fun j hj => by omega⟩ ?_
  rintro k ⟨h1, h2, h3⟩
  have hwr := fun h => wr_in (a := q.n - 1) h
  by_cases hlt : k < q.fr.length ∧ k < q.to.length
  · obtain ⟨g1, g2⟩ := hlt
    repeat' first | refine s1 ?_ | fail
    refine AW.draw 22 G.mixed (by kernel_rfl) ?_
    refine dP 0 ?_
    refine dL 1 ?_
    refine dP 2 ?_
    refine dP 3 ?_
    refine dL 4 ?_
    refine dP 5 ?_
    refine dL 6 ?_
    refine dP 7 ?_
    refine dO 8 true ?_
    first | refine s1 ?_ | (refine jCf 133 ?_; refine F.c (l1In_a _ _ _) ?_)
    refine ARg.nil (ATh.normal ?_)
    refine dP 9 ?_
    refine dP 10 ?_
    first | refine dT 28 rfl (by first | assumption | rfl | (simp only [decide_eq_true_eq, Bool.not_eq_true', decide_eq_false_iff_not, Bool.and_eq_true, Bool.or_eq_true]; omega)) ?_ | refine dF 28 rfl (by first | assumption | rfl | (simp only [decide_eq_false_iff_not, Bool.not_eq_false', decide_eq_true_eq, Bool.and_eq_false_iff, Bool.or_eq_false_iff]; omega)) ?_ | (refine dD 28 rfl ?_ ?_ <;> intro hc <;> (try simp only [decide_eq_true_eq, decide_eq_false_iff_not, Bool.not_eq_true', Bool.not_eq_false'] at hc)) | skip
    all_goals
      first | refine dK 11 ?_ | refine dP 11 ?_
      first | refine dK 12 ?_ | refine dL 12 ?_
      first | refine dK 13 ?_ | refine dP 13 ?_
      first | refine dK 14 ?_ | refine dP 14 ?_
      first | refine dK 15 ?_ | refine dL 15 ?_
      first | refine dK 16 ?_ | refine dP 16 ?_
      first | refine dK 17 ?_ | refine dL 17 ?_
      first | refine dK 18 ?_ | refine dP 18 ?_
      refine dO 19 true ?_
      first | refine s1 ?_ | (refine jCf 133 ?_; refine F.c (l1In_a _ _ _) ?_)
      refine ARg.nil (ATh.normal ?_)
      first | refine dK 20 ?_ | refine dP 20 ?_
      refine dP 21 ?_
      refine dN ?_
    all_goals repeat' first | refine s1 ?_ | (refine s2 ?_ ?_ <;> intro hc <;> (try simp only [decide_eq_true_eq, decide_eq_false_iff_not, Bool.not_eq_true', Bool.not_eq_false'] at hc)) | fail
    · refine F.ret ?_
      simp
      cases ho : okQ q with
      | false => rfl
      | true =>
        exfalso
        have h5 := okQ_spec ho
        have h6 := okQ_fr ho g1
        simp only [show (default : Int) = 0 from rfl] at hc
        rw [hwr ⟨by omega, by omega⟩] at hc
        omega
    · refine F.ret ?_
      simp
      cases ho : okQ q with
      | false => rfl
      | true =>
        exfalso
        have h5 := okQ_spec ho
        have h6 := okQ_to ho g1
        simp only [show (default : Int) = 0 from rfl] at hc
        rw [hwr ⟨by omega, by omega⟩] at hc
        omega
    · refine ⟨k + 1, F.fit ⟨rfl, trivial⟩ trivial, ⟨by omega, by omega, fun j hj => ?_⟩, by omega⟩
      rcases Nat.lt_or_ge j k with h | h
      · exact h3 j h
      · have : j = k := by omega
        subst this
        rename_i hc'
        exact ⟨hc', hc⟩
  · cases hA : decide ((k : Int) < q.fr.length) <;> simp at hA
    all_goals
      repeat' first | refine s1 ?_ | (refine kR ?_; first | (refine jCf 133 ?_; refine F.c (l1In_a _ _ _) ?_)) | (refine s2 ?_ ?_ <;> intro hc <;> (try simp only [decide_eq_true_eq, decide_eq_false_iff_not, Bool.not_eq_true', Bool.not_eq_false'] at hc)) | fail
    all_goals
      refine F.ret ?_
      simp
      cases ho : okQ q with
      | false =>
        first
          | rfl
          | (refine decide_eq_false fun hh => ?_
             have hI := (okQ_iff q).mpr ⟨by omega, by omega, by omega, by omega, fun j hj => by have h8 := h3 j (by omega); rw [hwr ⟨by omega, by omega⟩] at h8; exact h8⟩
             rw [ho] at hI; cases hI)
      | true =>
        have h5 := okQ_spec ho
        first | omega | (refine decide_eq_true ?_; omega)
theorem l6Copy_a (q : Quiv) (hb : q.fr.length ≤ 1048576 ∧ q.to.length ≤ 1048576) : AC Tryz.prog 151 [.agg (enc false q)] [.agg (enc true q)] := by
  refine AC.go Tryz.func151 Tryz.ntmps151 rfl rfl fun w0 hw => ?_; simp [WfL, WfA, E_length, Enc.enc, In64] at hw
  repeat' first | refine s1 ?_ | (refine s2 ?_ ?_ <;> intro hc <;> (try simp only [decide_eq_true_eq, decide_eq_false_iff_not, Bool.not_eq_true', Bool.not_eq_false'] at hc)) | fail
  refine AW.draw 11 G.mixed (by kernel_rfl) ?_
  refine dP 0 ?_
  refine dL 1 ?_
  refine dP 3 ?_
  refine dL 4 ?_
  refine dP 7 ?_
  refine dL 8 ?_
  refine ARA.any [2, 6] (by kernel_rfl) (by simp) ?_
  intro k hk
  simp only [List.mem_cons, List.not_mem_nil, or_false] at hk
  rcases hk with rfl | rfl
  · refine ⟨_, true, rfl, rfl, ?_⟩
    refine s1 ?_
    refine ARg.nil (ATh.normal ?_)
    refine ARA.any [5, 6] (by kernel_rfl) (by simp) ?_
    intro k hk
    simp only [List.mem_cons, List.not_mem_nil, or_false] at hk
    rcases hk with rfl | rfl
    · refine ⟨_, true, rfl, rfl, ?_⟩
      first | refine s1 ?_ | refine F.appLN (α := Int) (oo := true) (.inr rfl) rfl .imm rfl rfl (by omega) (by omega) rfl rfl rfl rfl ?_
      refine ARg.nil (ATh.normal ?_)
      refine dO 6 true ?_
      refine s1 ?_
      refine ARg.nil (ATh.normal ?_)
      refine dO 9 true ?_
      first | refine s1 ?_ | refine F.appLN (α := Int) (oo := true) (.inr rfl) rfl .imm rfl rfl (by omega) (by omega) rfl rfl rfl rfl ?_
      refine ARg.nil (ATh.normal ?_)
      refine dP 10 ?_
      refine dO 11 false ?_
      refine s1 ?_
      refine ARg.nil (ATh.normal ?_)
      refine dN ?_
      repeat' first | refine s1 ?_ | fail
      exact F.ret rfl
    · refine ⟨_, true, rfl, rfl, ?_⟩
      refine s1 ?_
      refine ARg.nil (ATh.normal ?_)
      refine dO 5 true ?_
      first | refine s1 ?_ | refine F.appLN (α := Int) (oo := true) (.inr rfl) rfl .imm rfl rfl (by omega) (by omega) rfl rfl rfl rfl ?_
      refine ARg.nil (ATh.normal ?_)
      refine dO 9 true ?_
      first | refine s1 ?_ | refine F.appLN (α := Int) (oo := true) (.inr rfl) rfl .imm rfl rfl (by omega) (by omega) rfl rfl rfl rfl ?_
      refine ARg.nil (ATh.normal ?_)
      refine dP 10 ?_
      refine dO 11 false ?_
      refine s1 ?_
      refine ARg.nil (ATh.normal ?_)
      refine dN ?_
      repeat' first | refine s1 ?_ | fail
      exact F.ret rfl
  · refine ⟨_, true, rfl, rfl, ?_⟩
    refine s1 ?_
    refine ARg.nil (ATh.normal ?_)
    refine dO 2 true ?_
    refine s1 ?_
    refine ARg.nil (ATh.normal ?_)
    refine dO 5 true ?_
    first | refine s1 ?_ | refine F.appLN (α := Int) (oo := true) (.inr rfl) rfl .imm rfl rfl (by omega) (by omega) rfl rfl rfl rfl ?_
    refine ARg.nil (ATh.normal ?_)
    refine dO 9 true ?_
    first | refine s1 ?_ | refine F.appLN (α := Int) (oo := true) (.inr rfl) rfl .imm rfl rfl (by omega) (by omega) rfl rfl rfl rfl ?_
    refine ARg.nil (ATh.normal ?_)
    refine dP 10 ?_
    refine dO 11 false ?_
    refine s1 ?_
    refine ARg.nil (ATh.normal ?_)
    refine dN ?_
    repeat' first | refine s1 ?_ | fail
    exact F.ret rfl
end Go.Proofs.YtedjajokbdokhaaGreat.V

/- Contracts: slices.Grow, slices.Concat, determinants. -/
namespace Go.Proofs.YtedjajokbdokhaaGreat.V
open Go.RowKit G D
set_option linter.unusedVariables false
set_option linter.unusedSimpArgs false
set_option maxHeartbeats 400000

theorem grow_a (n : Nat) (hn : n ≤ 1048576) : AC Tryz.prog 215 [.nl, .i n] [.dt true 1 []] := by
  refine AC.go Tryz.func215 Tryz.ntmps215 rfl rfl fun w0 hw => ?_; simp [WfL, WfA, E_length, Enc.enc, In64] at hw
  repeat' first | refine s1 ?_ | (refine kR ?_; first | refine F.sil (A.capN rfl) rfl rfl ?_ | refine F.sil (A.slcN (lo := 0) (hi' := 0) rfl rfl rfl (Nat.le_refl _) rfl) rfl rfl ?_ | refine F.appZ (m := n) Int rfl rfl rfl (by omega) (by omega) (mkB (by omega)) (by omega) rfl rfl ?_ | refine F.slcut (k := 0) rfl rfl (by simp [E_length]) rfl (Nat.zero_le _) rfl rfl rfl ?_) | (refine s2 ?_ ?_ <;> intro hc <;> (try simp only [decide_eq_true_eq, decide_eq_false_iff_not, Bool.not_eq_true', Bool.not_eq_false'] at hc)) | fail
  all_goals exact F.ret rfl
theorem flat_take {α : Type} (ls : List (List α)) {k : Nat} (hk : k < ls.length) : (ls.take (k + 1)).flatten = (ls.take k).flatten ++ ls.getD k default := by
  rw [List.take_succ_eq_append_getElem hk, List.flatten_append]; simp [hk]
theorem flat_len {α : Type} (ls : List (List α)) {k : Nat} (hk : k < ls.length) : (ls.take (k + 1)).flatten.length = (ls.take k).flatten.length + (ls.getD k default).length := by
  rw [flat_take ls hk, List.length_append]
theorem flat_le {α : Type} (ls : List (List α)) (k : Nat) : (ls.take k).flatten.length ≤ ls.flatten.length := by
  have : ls.flatten = (ls.take k).flatten ++ (ls.drop k).flatten := by rw [← List.flatten_append, List.take_append_drop]
  rw [this, List.length_append]; omega
theorem concat_a (ls : List (List Int)) (hn : ls.flatten.length ≤ 1048576) : AC Tryz.prog 202 [.dt false 1 (E false ls)] [.dt true 1 (E true ls.flatten)] := by
  refine AC.go Tryz.func202 Tryz.ntmps202 rfl rfl fun w0 hw => ?_; simp [WfL, WfA, E_length, Enc.enc, In64] at hw
  repeat' first | refine s1 ?_ | (refine s2 ?_ ?_ <;> intro hc <;> (try simp only [decide_eq_true_eq, decide_eq_false_iff_not, Bool.not_eq_true', Bool.not_eq_false'] at hc)) | fail
  refine F.loop (σ := Nat) [3, 5, 11, 12, 13, 14, 15, 16, 17, 18, 19, 20, 21, 22] (fun k => [(3, .i ((ls.take k).flatten.length : Nat)), (11, .i k)]) (fun _ => []) (fun k => k ≤ ls.length) (fun k => ls.length - k) 0 ⟨rfl, rfl, trivial⟩ trivial (Nat.zero_le _) ?_
  rintro k h1
  have hfl := flat_le ls k
  by_cases hlt : k < ls.length
  · have hf2 := flat_len ls hlt
    have hf3 := flat_le ls (k + 1)
    repeat' first | refine s1 ?_ | fail
    refine ⟨k + 1, F.fit ⟨iE (by omega), rfl, trivial⟩ trivial, by omega, by omega⟩
  · repeat' first | refine s1 ?_ | (refine kR ?_; first | (refine jCf 215 ?_; refine F.c (grow_a (ls.take k).flatten.length (by omega)) ?_)) | (refine s2 ?_ ?_ <;> intro hc <;> (try simp only [decide_eq_true_eq, decide_eq_false_iff_not, Bool.not_eq_true', Bool.not_eq_false'] at hc)) | fail
    obtain rfl : k = ls.length := by omega
    refine F.loop (σ := Nat) [6, 8, 27, 28, 29, 30, 31, 32, 33, 34] (fun k => [(6, .sl 0 (ls.take k).flatten.length 0 (ls.take k).flatten.length), (27, .i k)]) (fun k => [(0, .live false 1 (E true (ls.take k).flatten))]) (fun k => k ≤ ls.length) (fun k => ls.length - k) 0 ⟨rfl, rfl, trivial⟩ ⟨rfl, trivial⟩ (Nat.zero_le _) ?_
    rintro k h1
    have hfl := flat_le ls k
    by_cases hlt : k < ls.length
    · have hf2 := flat_len ls hlt
      have hf3 := flat_le ls (k + 1)
      repeat' first | refine s1 ?_ | (refine kR ?_; first | refine F.appL (α := Int) (oo := true) rfl rfl rfl rfl .imm rfl rfl (by omega) (by omega) rfl rfl rfl rfl rfl ?_) | fail
      refine ⟨k + 1, F.fit ⟨slE (by omega), rfl, trivial⟩ ⟨obE (by rw [flat_take ls hlt]), trivial⟩, by omega, by omega⟩
    · obtain rfl : k = ls.length := by omega
      repeat' first | refine s1 ?_ | (refine s2 ?_ ?_ <;> intro hc <;> (try simp only [decide_eq_true_eq, decide_eq_false_iff_not, Bool.not_eq_true', Bool.not_eq_false'] at hc)) | fail
      refine F.ret ?_
      rw [List.take_length]
end Go.Proofs.YtedjajokbdokhaaGreat.V
