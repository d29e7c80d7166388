/- The laws' helpers: sizes, copies, comparisons, marks (several texts joined). Over any program; nothing is claimed of the given one. -/
import Derived.Test.YtedjajokbdokhaaGreatB1
import Derived.Test.YtedjajokbdokhaaGreatUc
import Derived.Test.YtedjajokbdokhaaGreatLa
/- Contracts of the laws' helpers on lists: sizes, copies, equality. -/
namespace Go.Proofs.YtedjajokbdokhaaGreat.V
open Go.RowKit G D
set_option linter.unusedVariables false
set_option linter.unusedSimpArgs false
set_option maxHeartbeats 400000

/-- what is left of the size -/
def sz1 (n : Nat) (left : Int) : Int := if left - n < 0 then -1 else left - n
theorem sz1_le {n : Nat} {l : Int} (h : 0 ≤ l) (h1 : l ≤ 1048576) : -1 ≤ sz1 n l ∧ sz1 n l ≤ 1048576 ∧ (0 ≤ sz1 n l → sz1 n l + n = l) := by
  unfold sz1; split <;> omega
theorem szIntS_a (xs : List Int) (l : Int) (h0 : 0 ≤ l) (h1 : l ≤ 1048576) : AC Tryz.prog 49 [ar false xs, .i l] [.i (sz1 xs.length l)] := by
  refine AC.go Tryz.func49 Tryz.ntmps49 rfl rfl fun w0 hw => ?_; simp [WfL, WfA, E_length, Enc.enc, In64] at hw
  repeat' first | refine s1 ?_ | (refine s2 ?_ ?_ <;> intro hc <;> (try simp only [decide_eq_true_eq, decide_eq_false_iff_not, Bool.not_eq_true', Bool.not_eq_false'] at hc)) | fail
  all_goals
    refine F.ret ?_
    simp [sz1, *] <;> omega
def szRows : List (List Int) → Int → Int
  | [], l => l
  | r :: rs, l => if sz1 r.length l < 0 then -1 else szRows rs (sz1 r.length l)
def szSS (m : List (List Int)) (l : Int) : Int := if l - m.length < 0 then -1 else szRows m (l - m.length)
theorem szRows_bd : ∀ (m : List (List Int)) (l : Int), 0 ≤ l → l ≤ 1048576 → 0 ≤ szRows m l → (m.map List.length).sum ≤ l
  | [], l, h, _, _ => by simpa using h
  | r :: rs, l, h, h1, hs => by
    have h2 := sz1_le (n := r.length) h h1
    simp only [szRows] at hs
    split at hs
    · omega
    · have := szRows_bd rs _ (by omega) (by omega) hs
      simp only [List.map_cons, List.sum_cons]
      have := h2.2.2 (by omega)
      push_cast
      omega
theorem szRows_drop {m : List (List Int)} {k : Nat} (hk : k < m.length) (l : Int) : szRows (m.drop k) l = if sz1 (m.getD k default).length l < 0 then -1 else szRows (m.drop (k + 1)) (sz1 (m.getD k default).length l) := by
  rw [List.drop_eq_getElem_cons hk]; simp [szRows, hk]
theorem szIntSS_a (m : List (List Int)) (l : Int) (h0 : 0 ≤ l) (h1 : l ≤ 1048576) : AC Tryz.prog 120 [ar false m, .i l] [.i (szSS m l)] := by
  refine AC.go Tryz.func120 Tryz.ntmps120 rfl rfl fun w0 hw => ?_; simp [WfL, WfA, E_length, Enc.enc, In64] at hw
  by_cases hn : l - m.length < 0
  · repeat' first | refine s1 ?_ | fail
    refine F.ret ?_
    simp [szSS, hn]
  · repeat' first | refine s1 ?_ | fail
    refine F.loop (σ := Nat × Int) [1, 4, 5, 12, 13, 14, 15, 16, 17, 18, 19, 20, 21, 22, 23, 24, 25] (fun s => [(1, .i s.2), (5, .i s.1)]) (fun _ => []) (fun s => s.1 ≤ m.length ∧ 0 ≤ s.2 ∧ s.2 ≤ 1048576 ∧ szSS m l = szRows (m.drop s.1) s.2) (fun s => m.length - s.1) (0, l - m.length) ⟨rfl, rfl, trivial⟩ trivial ⟨Nat.zero_le _, by simp; omega, by simp; omega, by simp [szSS, hn]⟩ ?_
    rintro ⟨k, a⟩ ⟨h2, h3, h4, h5⟩
    dsimp only at h2 h3 h4 h5
    by_cases hlt : k < m.length
    · rw [szRows_drop hlt] at h5
      have h6 := sz1_le (n := (m.getD k default).length) h3 h4
      by_cases hl : sz1 (m.getD k default).length a < 0
      · repeat' first | refine s1 ?_ | (refine kR ?_; first | (refine jCf 49 ?_; refine F.c (szIntS_a (m.getD k default) a h3 h4) ?_)) | fail
        refine F.ret ?_
        rw [h5, if_pos hl]
      · repeat' first | refine s1 ?_ | (refine kR ?_; first | (refine jCf 49 ?_; refine F.c (szIntS_a (m.getD k default) a h3 h4) ?_)) | fail
        rw [if_neg hl] at h5
        exact ⟨(k + 1, sz1 (m.getD k default).length a), F.fit ⟨rfl, rfl, trivial⟩ trivial, ⟨by omega, by omega, by omega, h5⟩, by simp; omega⟩
    · repeat' first | refine s1 ?_ | fail
      refine F.ret ?_
      rw [h5, List.drop_of_length_le (by omega)]; rfl
/-- the first k are copied -/
def part {α : Type} (xs : List α) (z : α) (k : Nat) : List α := xs.take k ++ List.replicate (xs.length - k) z
theorem part_zero {α : Type} (xs : List α) (z : α) : part xs z 0 = List.replicate xs.length z := by simp [part]
theorem part_all {α : Type} (xs : List α) (z : α) : part xs z xs.length = xs := by simp [part]
theorem part_len {α : Type} (xs : List α) (z : α) {k : Nat} (hk : k ≤ xs.length) : (part xs z k).length = xs.length := by simp [part]; omega
theorem part_set {α : Type} [Inhabited α] (xs : List α) (z : α) {k : Nat} (hk : k < xs.length) : (part xs z k).set k (xs.getD k default) = part xs z (k + 1) := by
  unfold part
  have h1 : xs.length - k = (xs.length - (k + 1)) + 1 := by omega
  have h2 : k - (xs.take k).length = 0 := by simp; omega
  rw [h1, List.replicate_succ, List.set_append_right _ _ (by simp; omega), h2, List.set_cons_zero, List.take_succ_eq_append_getElem hk, List.append_assoc]
  congr 1
  simp [hk]
theorem toIntS_a (xs : List Int) (h : xs.length ≤ 1048576) : AC Tryz.prog 55 [ar false xs] [.dt true 1 (E true xs)] := by
  refine AC.go Tryz.func55 Tryz.ntmps55 rfl rfl fun w0 hw => ?_; simp [WfL, WfA, E_length, Enc.enc, In64] at hw
  repeat' first | refine s1 ?_ | (refine kR ?_; first | refine F.mk (m := xs.length) Int rfl rfl rfl (mkB (by omega)) (by omega) rfl rfl ?_) | fail
  refine F.loop (σ := Nat) [4, 8, 9, 10, 11, 12, 13, 14, 15, 16, 17, 18, 19, 20] (fun k => [(4, .i k)]) (fun k => [(0, .live false 1 (E true (part xs 0 k)))]) (fun k => k ≤ xs.length) (fun k => xs.length - k) 0 ⟨rfl, trivial⟩ ⟨obE (by rw [part_zero]), trivial⟩ (Nat.zero_le _) ?_
  rintro k h1
  have hp := part_len xs 0 h1
  by_cases hlt : k < xs.length
  · repeat' first | refine s1 ?_ | fail
    exact ⟨k + 1, F.fit ⟨rfl, trivial⟩ ⟨obE (by rw [Nat.zero_add, part_set xs 0 hlt]), trivial⟩, by omega, by omega⟩
  · obtain rfl : k = xs.length := by omega
    rw [part_all] at hp ⊢
    repeat' first | refine s1 ?_ | fail
    exact F.ret rfl
theorem toIntSS_a (m : List (List Int)) (h : m.length ≤ 1048576) (h2 : ∀ x ∈ m, x.length ≤ 1048576) : AC Tryz.prog 124 [ar false m] [.dt true 1 (E true m)] := by
  refine AC.go Tryz.func124 Tryz.ntmps124 rfl rfl fun w0 hw => ?_; simp [WfL, WfA, E_length, Enc.enc, In64] at hw
  repeat' first | refine s1 ?_ | (refine kR ?_; first | refine F.mk (m := m.length) (List Int) rfl rfl rfl (mkB (by omega)) (by omega) rfl rfl ?_) | fail
  refine F.loop (σ := Nat) [4, 8, 9, 10, 11, 12, 13, 14, 15, 16, 17, 18, 19, 20, 21] (fun k => [(4, .i k)]) (fun k => [(0, .live false 1 (E true (part m [] k)))]) (fun k => k ≤ m.length) (fun k => m.length - k) 0 ⟨rfl, trivial⟩ ⟨obE (by rw [part_zero]), trivial⟩ (Nat.zero_le _) ?_
  rintro k h1
  have hp := part_len m [] h1
  by_cases hlt : k < m.length
  · repeat' first | refine s1 ?_ | (refine kR ?_; first | (refine jCf 55 ?_; refine F.c (toIntS_a (m.getD k default) (h2 _ (gm hlt))) ?_)) | fail
    refine F.stE (α := List Int) (oo := true) (m.getD k default) rfl rfl rfl rfl (by omega) (by omega) rfl (Mv.mv rfl (by simp) (E_length _ _) (E_pure _ _) .nil) rfl rfl rfl rfl rfl ?_
    repeat' first | refine s1 ?_ | fail
    exact ⟨k + 1, F.fit ⟨rfl, trivial⟩ ⟨obE (by rw [Nat.zero_add, part_set m [] hlt]), trivial⟩, by omega, by omega⟩
  · obtain rfl : k = m.length := by omega
    rw [part_all] at hp ⊢
    repeat' first | refine s1 ?_ | fail
    exact F.ret rfl
theorem eqIntS_a (xs ys : List Int) : AC Tryz.prog 33 [ar false xs, ar false ys] [.b (decide (xs = ys))] := by
  refine AC.go Tryz.func33 Tryz.ntmps33 rfl rfl fun w0 hw => ?_; simp [WfL, WfA, E_length, Enc.enc, In64] at hw
  by_cases hl : xs.length = ys.length
  · repeat' first | refine s1 ?_ | fail
    refine F.loop (σ := Nat) [4, 5, 11, 12, 13, 14, 15, 16, 17, 18, 19, 20, 21, 22, 23, 24, 25] (fun k => [(5, .i k)]) (fun _ => []) (fun k => k ≤ xs.length ∧ ∀ j, j < k → xs.getD j default = ys.getD j default) (fun k => xs.length - k) 0 ⟨rfl, trivial⟩ trivial ⟨Nat.zero_le _, fun j hj => by omega⟩ ?_
    rintro k ⟨h1, h2⟩
    by_cases hlt : k < xs.length
    · repeat' first | refine s1 ?_ | fail
      refine AW.draw 9 G.mixed (by kernel_rfl) ?_
      refine dP 0 ?_
      refine dP 1 ?_
      refine dP 2 ?_
      refine dL 3 ?_
      refine dP 4 ?_
      refine dP 5 ?_
      refine dP 6 ?_
      refine dL 7 ?_
      refine dP 8 ?_
      refine dN ?_
      by_cases he : xs.getD k default = ys.getD k default
      · repeat' first | refine s1 ?_ | fail
        refine ⟨k + 1, F.fit ⟨rfl, trivial⟩ trivial, ⟨by omega, fun j hj => ?_⟩, by omega⟩
        rcases Nat.lt_or_ge j k with h | h
        · exact h2 j h
        · obtain rfl : j = k := by omega
          exact he
      · repeat' first | refine s1 ?_ | fail
        refine F.ret ?_
        rw [decide_eq_false fun h => he (by rw [h])]
    · repeat' first | refine s1 ?_ | fail
      refine F.ret ?_
      rw [decide_eq_true (List.ext_getElem hl fun i hi hi' => by have := h2 i (by omega); simpa [hi, hi'] using this)]
  · repeat' first | refine s1 ?_ | fail
    refine F.ret ?_
    rw [decide_eq_false fun h => hl (by rw [h])]
theorem eqIntSS_a (xs ys : List (List Int)) : AC Tryz.prog 40 [ar false xs, ar false ys] [.b (decide (xs = ys))] := by
  refine AC.go Tryz.func40 Tryz.ntmps40 rfl rfl fun w0 hw => ?_; simp [WfL, WfA, E_length, Enc.enc, In64] at hw
  by_cases hl : xs.length = ys.length
  · repeat' first | refine s1 ?_ | fail
    refine F.loop (σ := Nat) [4, 5, 11, 12, 13, 14, 15, 16, 17, 18, 19, 20, 21, 22, 23, 24, 25, 26] (fun k => [(5, .i k)]) (fun _ => []) (fun k => k ≤ xs.length ∧ ∀ j, j < k → xs.getD j default = ys.getD j default) (fun k => xs.length - k) 0 ⟨rfl, trivial⟩ trivial ⟨Nat.zero_le _, fun j hj => by omega⟩ ?_
    rintro k ⟨h1, h2⟩
    by_cases hlt : k < xs.length
    · repeat' first | refine s1 ?_ | fail
      refine AW.draw 10 G.mixed (by kernel_rfl) ?_
      refine dP 0 ?_
      refine dP 1 ?_
      refine dP 2 ?_
      refine dL 3 ?_
      refine dP 4 ?_
      refine dP 5 ?_
      refine dP 6 ?_
      refine dL 7 ?_
      refine dO 8 true ?_
      first | refine s1 ?_ | (refine jCf 33 ?_; refine F.c (eqIntS_a _ _) ?_)
      refine ARg.nil (ATh.normal ?_)
      refine dP 9 ?_
      refine dN ?_
      by_cases he : xs.getD k default = ys.getD k default
      · repeat' first | refine s1 ?_ | fail
        refine ⟨k + 1, F.fit ⟨rfl, trivial⟩ trivial, ⟨by omega, fun j hj => ?_⟩, by omega⟩
        rcases Nat.lt_or_ge j k with h | h
        · exact h2 j h
        · obtain rfl : j = k := by omega
          exact he
      · repeat' first | refine s1 ?_ | fail
        refine F.ret ?_
        rw [decide_eq_false fun h => he (by rw [h])]
    · repeat' first | refine s1 ?_ | fail
      refine F.ret ?_
      rw [decide_eq_true (List.ext_getElem hl fun i hi hi' => by have := h2 i (by omega); simpa [hi, hi'] using this)]
  · repeat' first | refine s1 ?_ | fail
    refine F.ret ?_
    rw [decide_eq_false fun h => hl (by rw [h])]
end Go.Proofs.YtedjajokbdokhaaGreat.V

/- Contracts of the laws' helpers: marks on lists of numbers, on quivers and on matrices. -/
namespace Go.Proofs.YtedjajokbdokhaaGreat.V
open Go.RowKit G D
set_option linter.unusedVariables false
set_option linter.unusedSimpArgs false
set_option maxHeartbeats 400000

/-- k, k + 1, .. -/
def mkL (k : Int) (n : Nat) : List Int := (List.range n).map fun (i : Nat) => k + (i : Int)
theorem mkL_len (k : Int) (n : Nat) : (mkL k n).length = n := by simp [mkL]
theorem mkL_succ (k : Int) (n : Nat) : mkL k (n + 1) = mkL k n ++ [k + n] := by simp [mkL, List.range_succ]
theorem mkL_get {k : Int} {n j : Nat} (h : j < n) : (mkL k n).getD j default = k + j := by simp [mkL, h]
def mkp (xs : List Int) (k : Int) (j : Nat) : List Int := mkL k j ++ xs.drop j
theorem mkp_len {xs : List Int} {k : Int} {j : Nat} (h : j ≤ xs.length) : (mkp xs k j).length = xs.length := by simp [mkp, mkL_len]; omega
theorem mkp_zero (xs : List Int) (k : Int) : mkp xs k 0 = xs := by simp [mkp, mkL]
theorem mkp_all (xs : List Int) (k : Int) : mkp xs k xs.length = mkL k xs.length := by simp [mkp]
theorem mkp_set {xs : List Int} {k : Int} {j : Nat} (h : j < xs.length) : (mkp xs k j).set j (k + j) = mkp xs k (j + 1) := by
  unfold mkp
  rw [List.set_append_right _ _ (by rw [mkL_len]; exact Nat.le_refl _), mkL_len, Nat.sub_self, List.drop_eq_getElem_cons h, List.set_cons_zero, mkL_succ, List.append_assoc]; rfl
theorem markIntS_m (xs : List Int) (k : Int) (h0 : 0 ≤ k) (h1 : k + xs.length ≤ 4611686018427387904) : AM Tryz.prog 34 [.sl 0 xs.length 0 xs.length, .i k] [(1, E true xs)] [.i (k + xs.length)] [(1, E true (mkL k xs.length))] := by
  refine AM.go Tryz.func34 Tryz.ntmps34 rfl rfl fun w0 mp hw => ?_; simp [WfL, WfA, E_length, Enc.enc, In64] at hw
  repeat' first | refine s1 ?_ | fail
  refine F.loop (σ := Nat) [1, 5, 6, 7, 8, 9, 10, 11, 12, 13, 14, 15, 16, 17] (fun j => [(1, .i (k + j)), (5, .i j)]) (fun j => [(0, .live false 1 (E true (mkp xs k j)))]) (fun j => j ≤ xs.length) (fun j => xs.length - j) 0 ⟨iE (by simp), rfl, trivial⟩ ⟨obE (by rw [mkp_zero]), trivial⟩ (Nat.zero_le _) ?_
  rintro j h2
  have hp := mkp_len (k := k) h2
  by_cases hlt : j < xs.length
  · repeat' first | refine s1 ?_ | fail
    exact ⟨j + 1, F.fit ⟨iE (by push_cast; omega), rfl, trivial⟩ ⟨obE (by rw [Nat.zero_add, mkp_set hlt]), trivial⟩, by omega, by omega⟩
  · obtain rfl : j = xs.length := by omega
    rw [mkp_all] at hp ⊢
    repeat' first | refine s1 ?_ | fail
    refine F.retM rfl ?_
    exact ⟨rfl, trivial⟩
theorem heldIntS_a (k : Int) (n : Nat) (h0 : 0 ≤ k) (h1 : k + n ≤ 4611686018427387904) : AC Tryz.prog 35 [ar false (mkL k n), .i k] [.i (k + n)] := by
  refine AC.go Tryz.func35 Tryz.ntmps35 rfl rfl fun w0 hw => ?_; simp [WfL, WfA, E_length, Enc.enc, In64] at hw
  have hl := mkL_len k n
  repeat' first | refine s1 ?_ | fail
  refine F.loop (σ := Nat) [1, 4, 5, 6, 7, 8, 9, 10, 11, 12, 13, 14, 15, 16, 17, 18, 19] (fun j => [(1, .i (k + j)), (5, .i j)]) (fun _ => []) (fun j => j ≤ n) (fun j => n - j) 0 ⟨iE (by simp), rfl, trivial⟩ trivial (Nat.zero_le _) ?_
  rintro j h2
  by_cases hlt : j < n
  · have hg := mkL_get (k := k) hlt
    repeat' first | refine s1 ?_ | fail
    exact ⟨j + 1, F.fit ⟨iE (by push_cast; omega), rfl, trivial⟩ trivial, by omega, by omega⟩
  · obtain rfl : j = n := by omega
    repeat' first | refine s1 ?_ | fail
    exact F.ret rfl
end Go.Proofs.YtedjajokbdokhaaGreat.V

/- Contracts of the laws' helpers on quivers and matrices: sizes, copies, equality, marks. -/
namespace Go.Proofs.YtedjajokbdokhaaGreat.V
open V.Enc (enc)
open Go.RowKit G D
set_option linter.unusedVariables false
set_option linter.unusedSimpArgs false
set_option maxHeartbeats 400000

theorem sz1_add (a b : Nat) (l : Int) : sz1 (a + b) l = if sz1 a l < 0 then -1 else sz1 b (sz1 a l) := by
  unfold sz1; push_cast; split <;> split <;> (try split) <;> omega
theorem sz1_le' {n : Nat} {l : Int} (h : 0 ≤ sz1 n l) : (n : Int) ≤ l ∧ sz1 n l = l - n := by
  unfold sz1 at *; split at h <;> omega
def totQ (q : Quiv) : Nat := q.fr.length + q.to.length
theorem szQuiver_a (q : Quiv) (l : Int) (h0 : 0 ≤ l) (h1 : l ≤ 1048576) : AC Tryz.prog 48 [.agg (enc false q), .i l] [.i (sz1 (totQ q) l)] := by
  refine AC.go Tryz.func48 Tryz.ntmps48 rfl rfl fun w0 hw => ?_; simp [WfL, WfA, E_length, Enc.enc, In64] at hw
  rw [totQ, sz1_add]
  have hA := szIntS_a q.fr l h0 h1
  have b1 := sz1_le (n := q.fr.length) h0 h1
  generalize sz1 q.fr.length l = a at hA b1
  by_cases ha : a < 0
  · rw [if_pos ha]
    repeat' first | refine s1 ?_ | (refine kR ?_; first | refine F.c (hA) ?_) | fail
    exact F.ret rfl
  · rw [if_neg ha]
    have hB := szIntS_a q.to a (by omega) (by omega)
    have b2 := sz1_le (n := q.to.length) (l := a) (by omega) (by omega)
    generalize sz1 q.to.length a = b at hB b2
    by_cases hb : b < 0
    · obtain rfl : b = -1 := by omega
      repeat' first | refine s1 ?_ | (refine kR ?_; first | refine F.c (hA) ?_ | refine F.c (hB) ?_) | fail
      exact F.ret rfl
    · repeat' first | refine s1 ?_ | (refine kR ?_; first | refine F.c (hA) ?_ | refine F.c (hB) ?_) | fail
      exact F.ret rfl
theorem toQuiver_a (q : Quiv) (h : totQ q ≤ 1048576) : AC Tryz.prog 54 [.agg (enc false q)] [.agg (enc true q)] := by
  refine AC.go Tryz.func54 Tryz.ntmps54 rfl rfl fun w0 hw => ?_; simp [WfL, WfA, E_length, Enc.enc, In64] at hw
  unfold totQ at h
  have hA := toIntS_a q.fr (by omega)
  have hB := toIntS_a q.to (by omega)
  repeat' first | refine s1 ?_ | (refine kR ?_; first | refine F.c (hA) ?_ | refine F.c (hB) ?_) | fail
  exact F.ret rfl
theorem eqIntS_s (xs : List Int) : AC Tryz.prog 33 [ar false xs, ar false xs] [.b true] := by
  have := eqIntS_a xs xs
  rwa [decide_eq_true rfl] at this
theorem eqQuiver_s (q : Quiv) : AC Tryz.prog 61 [.agg (enc false q), .agg (enc false q)] [.b true] := by
  refine AC.go Tryz.func61 Tryz.ntmps61 rfl rfl fun w0 hw => ?_; simp [WfL, WfA, E_length, Enc.enc, In64] at hw
  have hA := eqIntS_s q.fr
  have hB := eqIntS_s q.to
  repeat' first | refine s1 ?_ | (refine kR ?_; first | refine F.c (hA) ?_ | refine F.c (hB) ?_) | fail
  exact F.ret rfl
def mkQ (k : Int) (q : Quiv) : Quiv := ⟨q.n, mkL k q.fr.length, mkL (k + q.fr.length) q.to.length⟩
theorem markQuiver_m (q : Quiv) (k : Int) (h0 : 0 ≤ k) (h1 : k + totQ q ≤ 4611686018427387904) : AM Tryz.prog 76 [.agg [.i q.n, .sl 0 q.fr.length 0 q.fr.length, .sl 1 q.to.length 0 q.to.length], .i k] [(1, E true q.fr), (1, E true q.to)] [.i (k + totQ q)] [(1, E true (mkQ k q).fr), (1, E true (mkQ k q).to)] := by
  refine AM.go Tryz.func76 Tryz.ntmps76 rfl rfl fun w0 mp hw => ?_; simp [WfL, WfA, E_length, Enc.enc, In64] at hw
  unfold totQ at *
  push_cast at *
  have hA := markIntS_m q.fr k h0 (by omega)
  have hB := markIntS_m q.to (k + q.fr.length) (by omega) (by omega)
  repeat' first | refine s1 ?_ | (refine kR ?_; first | refine F.m [0] (hA) ?_ | refine F.m [1] (hB) ?_) | fail
  refine F.retM (by rw [← Int.add_assoc]) ?_
  exact ⟨rfl, rfl, trivial⟩
theorem heldQuiver_a (k : Int) (q : Quiv) (h0 : 0 ≤ k) (h1 : k + totQ q ≤ 4611686018427387904) : AC Tryz.prog 101 [.agg (enc false (mkQ k q)), .i k] [.i (k + totQ q)] := by
  refine AC.go Tryz.func101 Tryz.ntmps101 rfl rfl fun w0 hw => ?_; simp [WfL, WfA, E_length, Enc.enc, In64] at hw
  unfold totQ at *
  push_cast at *
  have hA := heldIntS_a k q.fr.length h0 (by omega)
  have hB := heldIntS_a (k + q.fr.length) q.to.length (by omega) (by omega)
  repeat' first | refine s1 ?_ | (refine kR ?_; first | refine F.c (hA) ?_ | refine F.c (hB) ?_) | fail
  exact F.ret (by rw [← Int.add_assoc])
theorem szMatrix_a (m : Mat) (l : Int) (h0 : 0 ≤ l) (h1 : l ≤ 1048576) : AC Tryz.prog 50 [.agg (enc false m), .i l] [.i (sz1 m.m.length l)] := by
  refine AC.go Tryz.func50 Tryz.ntmps50 rfl rfl fun w0 hw => ?_; simp [WfL, WfA, E_length, Enc.enc, In64] at hw
  have hA := szIntS_a m.m l h0 h1
  have b1 := sz1_le (n := m.m.length) h0 h1
  generalize sz1 m.m.length l = a at hA b1
  by_cases ha : a < 0
  · obtain rfl : a = -1 := by omega
    repeat' first | refine s1 ?_ | (refine kR ?_; first | refine F.c (hA) ?_) | fail
    exact F.ret rfl
  · repeat' first | refine s1 ?_ | (refine kR ?_; first | refine F.c (hA) ?_) | fail
    exact F.ret rfl
theorem toMatrix_a (m : Mat) (h : m.m.length ≤ 1048576) : AC Tryz.prog 56 [.agg (enc false m)] [.agg (enc true m)] := by
  refine AC.go Tryz.func56 Tryz.ntmps56 rfl rfl fun w0 hw => ?_; simp [WfL, WfA, E_length, Enc.enc, In64] at hw
  have hA := toIntS_a m.m (by omega)
  repeat' first | refine s1 ?_ | (refine kR ?_; first | refine F.c (hA) ?_) | fail
  exact F.ret rfl
theorem eqMatrix_s (m : Mat) : AC Tryz.prog 62 [.agg (enc false m), .agg (enc false m)] [.b true] := by
  refine AC.go Tryz.func62 Tryz.ntmps62 rfl rfl fun w0 hw => ?_; simp [WfL, WfA, E_length, Enc.enc, In64] at hw
  have hA := eqIntS_s m.m
  repeat' first | refine s1 ?_ | (refine kR ?_; first | refine F.c (hA) ?_) | fail
  exact F.ret rfl
end Go.Proofs.YtedjajokbdokhaaGreat.V

/- Contracts of the laws' helpers on lists of matrices and on representations: sizes, copies, equality, marks. -/
namespace Go.Proofs.YtedjajokbdokhaaGreat.V
open V.Enc (enc)
open Go.RowKit G D
set_option linter.unusedVariables false
set_option linter.unusedSimpArgs false
set_option maxHeartbeats 400000

/-! ### lists whose elements are marked one after the other -/
section
variable {α : Type} (f : Int → α → α) (c : α → Nat)
def cnt (xs : List α) : Nat := (xs.map c).sum
def mkA : Int → List α → List α
  | _, [] => []
  | k, x :: xs => f k x :: mkA (k + c x) xs
def mkq (k : Int) (xs : List α) (j : Nat) : List α := mkA f c k (xs.take j) ++ xs.drop j
theorem mkA_len : ∀ (k : Int) (xs : List α), (mkA f c k xs).length = xs.length
  | _, [] => rfl
  | k, x :: xs => by simp [mkA, mkA_len]
theorem mkA_snoc : ∀ (k : Int) (xs : List α) (x : α), mkA f c k (xs ++ [x]) = mkA f c k xs ++ [f (k + cnt c xs) x]
  | k, [], x => by simp [mkA, cnt]
  | k, y :: xs, x => by
    have e : k + ↑(c y) + ↑(cnt c xs) = k + ↑(cnt c (y :: xs)) := by simp [cnt]; omega
    simp only [List.cons_append, mkA, mkA_snoc, e]
theorem mkq_zero (k : Int) (xs : List α) : mkq f c k xs 0 = xs := by simp [mkq, mkA]
theorem mkq_all (k : Int) (xs : List α) : mkq f c k xs xs.length = mkA f c k xs := by simp [mkq]
theorem mkq_len {k : Int} {xs : List α} {j : Nat} (h : j ≤ xs.length) : (mkq f c k xs j).length = xs.length := by simp [mkq, mkA_len]; omega
theorem mkq_set [Inhabited α] {k : Int} {xs : List α} {j : Nat} (h : j < xs.length) : (mkq f c k xs j).set j (f (k + cnt c (xs.take j)) (xs.getD j default)) = mkq f c k xs (j + 1) := by
  unfold mkq
  have hl : (mkA f c k (xs.take j)).length = j := by rw [mkA_len]; simp; omega
  rw [List.set_append_right _ _ (by omega), hl, Nat.sub_self, List.drop_eq_getElem_cons h, List.set_cons_zero, List.take_succ_eq_append_getElem h, mkA_snoc, List.append_assoc]
  simp [h]
theorem mkq_get [Inhabited α] {k : Int} {xs : List α} {j : Nat} (h : j < xs.length) : (mkq f c k xs j).getD j default = xs.getD j default := by
  unfold mkq
  have hl : (mkA f c k (xs.take j)).length = j := by rw [mkA_len]; simp; omega
  rw [List.getD_eq_getElem?_getD, List.getElem?_append_right (by omega), hl, Nat.sub_self, List.drop_eq_getElem_cons h]
  simp [h]
theorem cnt_app (xs ys : List α) : cnt c (xs ++ ys) = cnt c xs + cnt c ys := by unfold cnt; rw [List.map_append, List.sum_append]
theorem cnt_succ [Inhabited α] {xs : List α} {j : Nat} (h : j < xs.length) : cnt c (xs.take (j + 1)) = cnt c (xs.take j) + c (xs.getD j default) := by
  rw [List.take_succ_eq_append_getElem h, cnt_app]; simp [cnt, h]
theorem cnt_le {xs : List α} (j : Nat) : cnt c (xs.take j) ≤ cnt c xs := by
  have e := congrArg (cnt c) (List.take_append_drop j xs)
  rw [cnt_app] at e
  omega
theorem mkA_get [Inhabited α] : ∀ {k : Int} {xs : List α} {j : Nat}, j < xs.length → (mkA f c k xs).getD j default = f (k + cnt c (xs.take j)) (xs.getD j default)
  | k, [], j, h => by simp at h
  | k, x :: xs, 0, h => by simp [mkA, cnt]
  | k, x :: xs, j + 1, h => by
    have h' : j < xs.length := by simpa using h
    have e : k + ↑(c x) + ↑(cnt c (xs.take j)) = k + ↑(cnt c ((x :: xs).take (j + 1))) := by simp [cnt]; omega
    have := mkA_get (k := k + c x) h'
    rw [e] at this
    simpa [mkA] using this
end
def totM (m : Mat) : Nat := m.m.length
def ctM (m : Mat) : Nat := m.m.length + 2
def totMS (ms : List Mat) : Nat := ms.length + cnt totM ms
theorem szMatrixS_a (ms : List Mat) (l : Int) (h0 : 0 ≤ l) (h1 : l ≤ 1048576) : AC Tryz.prog 12 [ar false ms, .i l] [.i (sz1 (totMS ms) l)] := by
  refine AC.go Tryz.func12 Tryz.ntmps12 rfl rfl fun w0 hw => ?_; simp [WfL, WfA, E_length, Enc.enc, In64] at hw
  by_cases hn : l - ms.length < 0
  · have e : sz1 (totMS ms) l = -1 := by unfold sz1 totMS; push_cast; rw [if_pos (by omega)]
    rw [e]
    repeat' first | refine s1 ?_ | fail
    exact F.ret rfl
  · repeat' first | refine s1 ?_ | fail
    refine F.loop (σ := Nat) [1, 4, 5, 12, 13, 14, 15, 16, 17, 18, 19, 20, 21, 22, 23, 24, 25] (fun j => [(1, .i (l - ms.length - cnt totM (ms.take j))), (5, .i j)]) (fun _ => []) (fun j => j ≤ ms.length ∧ 0 ≤ l - ms.length - cnt totM (ms.take j)) (fun j => ms.length - j) 0 ⟨iE (by simp [cnt]), rfl, trivial⟩ trivial ⟨Nat.zero_le _, by simp [cnt]; omega⟩ ?_
    rintro j ⟨h2, h3⟩
    by_cases hlt : j < ms.length
    · have hA := szMatrix_a (ms.getD j default) (l - ms.length - cnt totM (ms.take j)) h3 (by omega)
      have hc := cnt_succ totM hlt
      have hcl := cnt_le totM (xs := ms) (j + 1)
      by_cases ha : l - ms.length - cnt totM (ms.take (j + 1)) < 0
      · have e1 : sz1 (ms.getD j default).m.length (l - ms.length - cnt totM (ms.take j)) = -1 := by unfold sz1; rw [if_pos (by simp only [totM] at *; omega)]
        rw [e1] at hA
        have e : sz1 (totMS ms) l = -1 := by unfold sz1 totMS; push_cast; rw [if_pos (by omega)]
        rw [e]
        repeat' first | refine s1 ?_ | (refine kR ?_; first | refine F.c (hA) ?_) | fail
        exact F.ret rfl
      · have e1 : sz1 (ms.getD j default).m.length (l - ms.length - cnt totM (ms.take j)) = l - ms.length - cnt totM (ms.take (j + 1)) := by unfold sz1; rw [if_neg (by simp only [totM] at *; omega), hc]; simp only [totM]; push_cast; omega
        rw [e1] at hA
        repeat' first | refine s1 ?_ | (refine kR ?_; first | refine F.c (hA) ?_) | fail
        exact ⟨j + 1, F.fit ⟨rfl, rfl, trivial⟩ trivial, ⟨by omega, by omega⟩, by omega⟩
    · obtain rfl : j = ms.length := by omega
      rw [List.take_length] at h3 ⊢
      have e : sz1 (totMS ms) l = l - ms.length - cnt totM ms := by unfold sz1 totMS; push_cast; rw [if_neg (by omega)]; omega
      rw [e]
      repeat' first | refine s1 ?_ | fail
      exact F.ret rfl
theorem cnt_mem {α : Type} (c : α → Nat) {xs : List α} {x : α} (h : x ∈ xs) : c x ≤ cnt c xs := by
  induction xs with
  | nil => cases h
  | cons a l ih =>
    simp only [cnt, List.map_cons, List.sum_cons] at *
    rcases List.mem_cons.1 h with rfl | h
    · omega
    · have := ih h; omega
theorem toMatrixS_a (ms : List Mat) (h : totMS ms ≤ 1048576) : AC Tryz.prog 15 [ar false ms] [.dt true (Enc.nc Mat) (E true ms)] := by
  refine AC.go Tryz.func15 Tryz.ntmps15 rfl rfl fun w0 hw => ?_; simp [WfL, WfA, E_length, Enc.enc, In64] at hw
  unfold totMS at h
  repeat' first | refine s1 ?_ | (refine kR ?_; first | refine F.mk (m := ms.length) Mat rfl rfl rfl (mkB (by omega)) (by omega) rfl rfl ?_) | fail
  refine F.loop (σ := Nat) [4, 8, 9, 10, 11, 12, 13, 14, 15, 16, 17, 18, 19, 20, 21] (fun k => [(4, .i k)]) (fun k => [(0, .live false 3 (E true (part ms ⟨0, 0, []⟩ k)))]) (fun k => k ≤ ms.length) (fun k => ms.length - k) 0 ⟨rfl, trivial⟩ ⟨obE (by rw [part_zero]), trivial⟩ (Nat.zero_le _) ?_
  rintro k h1
  have hp := part_len ms ⟨0, 0, []⟩ h1
  by_cases hlt : k < ms.length
  · have hA := toMatrix_a (ms.getD k default) (by have := cnt_mem totM (gm (d := default) hlt); unfold totM at *; omega)
    repeat' first | refine s1 ?_ | (refine kR ?_; first | refine F.c (hA) ?_) | fail
    refine F.stGE (α := Mat) (oo := true) (v := ms.getD k default) rfl rfl rfl rfl rfl (by omega) (by omega) (.at1 rfl (.at1 rfl (.mv rfl (by simp) (E_length _ _) (E_pure _ _) .nil))) rfl rfl rfl rfl rfl ?_
    repeat' first | refine s1 ?_ | fail
    exact ⟨k + 1, F.fit ⟨rfl, trivial⟩ ⟨obE (by rw [Nat.zero_add, part_set ms _ hlt]), trivial⟩, by omega, by omega⟩
  · obtain rfl : k = ms.length := by omega
    rw [part_all] at hp ⊢
    repeat' first | refine s1 ?_ | fail
    exact F.ret rfl
theorem eqMatrixS_s (ms : List Mat) : AC Tryz.prog 18 [ar false ms, ar false ms] [.b true] := by
  refine AC.go Tryz.func18 Tryz.ntmps18 rfl rfl fun w0 hw => ?_; simp [WfL, WfA, E_length, Enc.enc, In64] at hw
  repeat' first | refine s1 ?_ | fail
  refine F.loop (σ := Nat) [4, 5, 11, 12, 13, 14, 15, 16, 17, 18, 19, 20, 21, 22, 23, 24, 25, 26] (fun k => [(5, .i k)]) (fun _ => []) (fun k => k ≤ ms.length) (fun k => ms.length - k) 0 ⟨rfl, trivial⟩ trivial (Nat.zero_le _) ?_
  rintro k h1
  by_cases hlt : k < ms.length
  · have hA := eqMatrix_s (ms.getD k default)
    repeat' first | refine s1 ?_ | fail
    refine AW.draw 10 G.mixed (by kernel_rfl) ?_
    refine dP 0 ?_
    refine dP 1 ?_
    refine dP 2 ?_
    refine dL 3 ?_
    refine dP 4 ?_
    refine dP 5 ?_
    refine dP 6 ?_
    refine dL 7 ?_
    refine dO 8 true ?_
    first | refine s1 ?_ | refine F.c (hA) ?_
    refine ARg.nil (ATh.normal ?_)
    refine dP 9 ?_
    refine dN ?_
    repeat' first | refine s1 ?_ | fail
    exact ⟨k + 1, F.fit ⟨rfl, trivial⟩ trivial, by omega, by omega⟩
  · repeat' first | refine s1 ?_ | fail
    exact F.ret rfl
def totR (r : Rep) : Nat := totQ r.q + r.d.length + totMS r.m
theorem szRep_a (r : Rep) (l : Int) (h0 : 0 ≤ l) (h1 : l ≤ 1048576) : AC Tryz.prog 11 [.agg (enc false r), .i l] [.i (sz1 (totR r) l)] := by
  refine AC.go Tryz.func11 Tryz.ntmps11 rfl rfl fun w0 hw => ?_; simp [WfL, WfA, E_length, Enc.enc, In64] at hw
  rw [totR, sz1_add, sz1_add]
  have hA := szQuiver_a r.q l h0 h1
  have b1 := sz1_le (n := totQ r.q) h0 h1
  generalize sz1 (totQ r.q) l = a at hA b1
  by_cases ha : a < 0
  · rw [if_pos ha]
    repeat' first | refine s1 ?_ | (refine kR ?_; first | refine F.c (hA) ?_) | fail
    exact F.ret rfl
  · rw [if_neg ha]
    have hB := szIntS_a r.d a (by omega) (by omega)
    have b2 := sz1_le (n := r.d.length) (l := a) (by omega) (by omega)
    generalize sz1 r.d.length a = b at hB b2
    by_cases hb : b < 0
    · rw [if_pos hb]
      repeat' first | refine s1 ?_ | (refine kR ?_; first | refine F.c (hA) ?_ | refine F.c (hB) ?_) | fail
      exact F.ret rfl
    · rw [if_neg hb]
      have hC := szMatrixS_a r.m b (by omega) (by omega)
      have b3 := sz1_le (n := totMS r.m) (l := b) (by omega) (by omega)
      generalize sz1 (totMS r.m) b = d at hC b3
      by_cases hd : d < 0
      · obtain rfl : d = -1 := by omega
        repeat' first | refine s1 ?_ | (refine kR ?_; first | refine F.c (hA) ?_ | refine F.c (hB) ?_ | refine F.c (hC) ?_) | fail
        exact F.ret rfl
      · repeat' first | refine s1 ?_ | (refine kR ?_; first | refine F.c (hA) ?_ | refine F.c (hB) ?_ | refine F.c (hC) ?_) | fail
        exact F.ret rfl
theorem toRep_a (r : Rep) (h : totR r ≤ 1048576) : AC Tryz.prog 14 [.agg (enc false r)] [.agg (enc true r)] := by
  refine AC.go Tryz.func14 Tryz.ntmps14 rfl rfl fun w0 hw => ?_; simp [WfL, WfA, E_length, Enc.enc, In64] at hw
  unfold totR at h
  have hA := toQuiver_a r.q (by omega)
  have hB := toIntS_a r.d (by omega)
  have hC := toMatrixS_a r.m (by omega)
  repeat' first | refine s1 ?_ | (refine kR ?_; first | refine F.c (hA) ?_ | refine F.c (hB) ?_ | refine F.c (hC) ?_) | fail
  exact F.ret rfl
theorem eqRep_s (r : Rep) : AC Tryz.prog 17 [.agg (enc false r), .agg (enc false r)] [.b true] := by
  refine AC.go Tryz.func17 Tryz.ntmps17 rfl rfl fun w0 hw => ?_; simp [WfL, WfA, E_length, Enc.enc, In64] at hw
  have hA := eqQuiver_s r.q
  have hB := eqIntS_s r.d
  have hC := eqMatrixS_s r.m
  repeat' first | refine s1 ?_ | (refine kR ?_; first | refine F.c (hA) ?_ | refine F.c (hB) ?_ | refine F.c (hC) ?_) | fail
  exact F.ret rfl
end Go.Proofs.YtedjajokbdokhaaGreat.V

/- Contracts of the laws' helpers on lists of lists, of matrices, and on representations: marks. -/
namespace Go.Proofs.YtedjajokbdokhaaGreat.V
open V.Enc (enc)
open Go.RowKit G D
set_option linter.unusedVariables false
set_option linter.unusedSimpArgs false
set_option maxHeartbeats 400000

def mkM (k : Int) (m : Mat) : Mat := ⟨k, k + 1, mkL (k + 2) m.m.length⟩
def mkMS (k : Int) (ms : List Mat) : List Mat := mkA mkM ctM k ms
theorem set_get {α : Type} [Inhabited α] {L : List α} {j : Nat} (h : j < L.length) (x : α) : (L.set j x).getD j default = x := by simp [h]
theorem cnt_ge {α : Type} {c : α → Nat} (h : ∀ x, 1 ≤ c x) : ∀ xs : List α, xs.length ≤ cnt c xs
  | [] => Nat.zero_le _
  | x :: xs => by
    have h1 := h x
    have h2 := cnt_ge h xs
    simp only [cnt, List.map_cons, List.sum_cons, List.length_cons] at *; omega
theorem ctM_ge (m : Mat) : 1 ≤ ctM m := by unfold ctM; omega
theorem markMatrixS_m (ms : List Mat) (k : Int) (h0 : 0 ≤ k) (h1 : k + cnt ctM ms ≤ 4611686018427387904) : AM Tryz.prog 45 [.sl 0 ms.length 0 ms.length, .i k] [(3, E true ms)] [.i (k + cnt ctM ms)] [(3, E true (mkMS k ms))] := by
  refine AM.go Tryz.func45 Tryz.ntmps45 rfl rfl fun w0 mp hw => ?_; simp [WfL, WfA, E_length, Enc.enc, In64] at hw
  have hge := cnt_ge ctM_ge ms
  repeat' first | refine s1 ?_ | fail
  refine F.loop (σ := Nat) [1, 5, 6, 7, 8, 9, 10, 11, 12, 13, 14, 15, 16, 17, 18, 19, 20, 21, 22, 23, 24, 25, 26, 27, 28, 29, 30, 31, 32] (fun j => [(1, .i (k + cnt ctM (ms.take j))), (5, .i j)]) (fun j => [(0, .live false 3 (E true (mkq mkM ctM k ms j)))]) (fun j => j ≤ ms.length) (fun j => ms.length - j) 0 ⟨iE (by simp [cnt]), rfl, trivial⟩ ⟨obE (by rw [mkq_zero]), trivial⟩ (Nat.zero_le _) ?_
  rintro j h2
  have hp := mkq_len mkM ctM (k := k) h2
  have hcl := cnt_le ctM (xs := ms) j
  by_cases hlt : j < ms.length
  · have hg := mkq_get mkM ctM (k := k) hlt
    have hS := mkq_set mkM ctM (k := k) hlt
    have hc2 := cnt_succ ctM hlt
    have hcl2 := cnt_le ctM (xs := ms) (j + 1)
    generalize hL : mkq mkM ctM k ms j = L at hp hg hS ⊢
    generalize hkk : k + ↑(cnt ctM (ms.take j)) = kk at hS ⊢
    have hct : ctM (ms.getD j default) = (ms.getD j default).m.length + 2 := rfl
    repeat' first | refine s1 ?_ | fail
    refine F.stE (α := Mat) (oo := true) ⟨kk, (L.getD j default).c, (L.getD j default).m⟩ rfl rfl rfl rfl (by omega) (by omega) rfl (.at1 rfl .nil) rfl (by rw [Nat.zero_add]; rfl) rfl rfl rfl ?_
    rw [Nat.zero_add j]
    generalize hL1 : L.set j ⟨kk, (L.getD j default).c, (L.getD j default).m⟩ = L1
    have hp1 : L1.length = ms.length := by rw [← hL1]; simp [hp]
    have hg1 : L1.getD j default = ⟨kk, (L.getD j default).c, (L.getD j default).m⟩ := by rw [← hL1, set_get (by omega)]
    repeat' first | refine s1 ?_ | fail
    refine F.stE (α := Mat) (oo := true) ⟨kk, kk + 1, (L.getD j default).m⟩ rfl rfl rfl rfl (by omega) (by omega) rfl (.at1 rfl .nil) rfl (by rw [Nat.zero_add j, hg1]; rfl) rfl rfl rfl ?_
    rw [Nat.zero_add j]
    generalize hL2 : L1.set j ⟨kk, kk + 1, (L.getD j default).m⟩ = L2
    have hp2 : L2.length = ms.length := by rw [← hL2]; simp [hp1]
    have hg2 : L2.getD j default = ⟨kk, kk + 1, (ms.getD j default).m⟩ := by rw [← hL2, set_get (by omega), hg]
    repeat' first | refine s1 ?_ | fail
    refine F.ldTE (α := Mat) (j := 2) rfl rfl (by omega) (by omega) (by rw [Nat.zero_add j, hg2]; rfl) (E_length _ _) rfl rfl ?_
    rw [Nat.zero_add j]
    repeat' first | refine s1 ?_ | fail
    refine F.m [1] (markIntS_m (ms.getD j default).m (kk + 1 + 1) (by omega) (by omega)) ?_
    refine F.put (α := Mat) (o := 0) (o2 := 1) (k := j) (j := 2) (v := mkM kk (ms.getD j default)) (ls := L2) rfl rfl (by rw [E_length, mkL_len]) (E_pure _ _) rfl (by omega) rfl (by rw [hg2]; simp [mkM, enc, Enc.enc, Int.add_assoc]; rfl) ?_
    have e : L2.set j (mkM kk (ms.getD j default)) = mkq mkM ctM k ms (j + 1) := by rw [← hL2, ← hL1, List.set_set, List.set_set, hS]
    rw [e]
    repeat' first | refine s1 ?_ | fail
    exact ⟨j + 1, F.fit ⟨iE (by rw [hc2]; push_cast; omega), rfl, trivial⟩ ⟨rfl, trivial⟩, by omega, by omega⟩
  · obtain rfl : j = ms.length := by omega
    rw [mkq_all] at hp ⊢
    rw [List.take_length]
    repeat' first | refine s1 ?_ | fail
    refine F.retM rfl ?_
    exact ⟨rfl, trivial⟩
theorem heldMatrixS_a (k : Int) (ms : List Mat) (h0 : 0 ≤ k) (h1 : k + cnt ctM ms ≤ 4611686018427387904) : AC Tryz.prog 47 [ar false (mkMS k ms), .i k] [.i (k + cnt ctM ms)] := by
  refine AC.go Tryz.func47 Tryz.ntmps47 rfl rfl fun w0 hw => ?_; simp [WfL, WfA, E_length, Enc.enc, In64] at hw
  have hge := cnt_ge ctM_ge ms
  have hl : (mkMS k ms).length = ms.length := mkA_len _ _ _ _
  repeat' first | refine s1 ?_ | fail
  refine F.loop (σ := Nat) [1, 4, 5, 6, 7, 8, 9, 10, 11, 12, 13, 14, 15, 16, 17, 18, 19, 20, 21, 22, 23, 24, 25, 26, 27, 28, 29, 30, 31, 32, 33, 34, 35, 36, 37, 38] (fun j => [(1, .i (k + cnt ctM (ms.take j))), (5, .i j)]) (fun _ => []) (fun j => j ≤ ms.length) (fun j => ms.length - j) 0 ⟨iE (by simp [cnt]), rfl, trivial⟩ trivial (Nat.zero_le _) ?_
  rintro j h2
  have hcl := cnt_le ctM (xs := ms) j
  by_cases hlt : j < ms.length
  · have hg : (mkMS k ms).getD j default = _ := mkA_get mkM ctM (k := k) hlt
    have hc2 := cnt_succ ctM hlt
    have hcl2 := cnt_le ctM (xs := ms) (j + 1)
    generalize hkk : k + ↑(cnt ctM (ms.take j)) = kk at hg ⊢
    have hct : ctM (ms.getD j default) = (ms.getD j default).m.length + 2 := rfl
    generalize hx : ms.getD j default = x at hg hc2 hct
    have hA := heldIntS_a (kk + 1 + 1) x.m.length (by omega) (by omega)
    have e0 : ((mkMS k ms).getD j default).r = kk := by rw [hg]; rfl
    have e1 : ((mkMS k ms).getD j default).c = kk + 1 := by rw [hg]; rfl
    have e2 : ((mkMS k ms).getD j default).m = mkL (kk + 1 + 1) x.m.length := by rw [hg]; simp [mkM, Int.add_assoc]
    rw [← e2] at hA
    repeat' first | refine s1 ?_ | (refine kR ?_; first | refine F.c (hA) ?_) | fail
    exact ⟨j + 1, F.fit ⟨iE (by rw [hc2]; push_cast; omega), rfl, trivial⟩ trivial, by omega, by omega⟩
  · obtain rfl : j = ms.length := by omega
    rw [List.take_length]
    repeat' first | refine s1 ?_ | fail
    exact F.ret rfl
def ctR (r : Rep) : Nat := totQ r.q + r.d.length + cnt ctM r.m
def mkR (k : Int) (r : Rep) : Rep := ⟨r.p, mkQ k r.q, mkL (k + totQ r.q) r.d.length, mkMS (k + totQ r.q + r.d.length) r.m⟩
theorem markRep_m (r : Rep) (k : Int) (h0 : 0 ≤ k) (h1 : k + ctR r ≤ 4611686018427387904) :
    AM Tryz.prog 26 [.agg [.i r.p, .i r.q.n, .sl 0 r.q.fr.length 0 r.q.fr.length, .sl 1 r.q.to.length 0 r.q.to.length, .sl 2 r.d.length 0 r.d.length, .sl 3 r.m.length 0 r.m.length], .i k] [(1, E true r.q.fr), (1, E true r.q.to), (1, E true r.d), (3, E true r.m)] [.i (k + ctR r)] [(1, E true (mkR k r).q.fr), (1, E true (mkR k r).q.to), (1, E true (mkR k r).d), (3, E true (mkR k r).m)] := by
  refine AM.go Tryz.func26 Tryz.ntmps26 rfl rfl fun w0 mp hw => ?_; simp [WfL, WfA, E_length, Enc.enc, In64] at hw
  unfold ctR at *
  push_cast at *
  have hA := markQuiver_m r.q k h0 (by omega)
  have hB := markIntS_m r.d (k + totQ r.q) (by omega) (by omega)
  have hC := markMatrixS_m r.m (k + totQ r.q + r.d.length) (by omega) (by omega)
  repeat' first | refine s1 ?_ | (refine kR ?_; first | refine F.m [0, 1] (hA) ?_ | refine F.m [2] (hB) ?_ | refine F.m [3] (hC) ?_) | fail
  refine F.retM (by rw [← Int.add_assoc, ← Int.add_assoc]) ?_
  exact ⟨rfl, rfl, rfl, rfl, trivial⟩
theorem heldRep_a (k : Int) (r : Rep) (h0 : 0 ≤ k) (h1 : k + ctR r ≤ 4611686018427387904) : AC Tryz.prog 46 [.agg (enc false (mkR k r)), .i k] [.i (k + ctR r)] := by
  refine AC.go Tryz.func46 Tryz.ntmps46 rfl rfl fun w0 hw => ?_; simp [WfL, WfA, E_length, Enc.enc, In64] at hw
  unfold ctR at *
  push_cast at *
  have hA := heldQuiver_a k r.q h0 (by omega)
  have hB := heldIntS_a (k + totQ r.q) r.d.length (by omega) (by omega)
  have hC := heldMatrixS_a (k + totQ r.q + r.d.length) r.m (by omega) (by omega)
  repeat' first | refine s1 ?_ | (refine kR ?_; first | refine F.c (hA) ?_ | refine F.c (hB) ?_ | refine F.c (hC) ?_) | fail
  exact F.ret (by rw [← Int.add_assoc, ← Int.add_assoc])
/-! ### lists of lists of numbers -/
def ctL (xs : List Int) : Nat := xs.length
def mkI (k : Int) (xs : List Int) : List Int := mkL k xs.length
def mkSS (k : Int) (ms : List (List Int)) : List (List Int) := mkA mkI ctL k ms
theorem markIntSS_m (ms : List (List Int)) (k : Int) (h0 : 0 ≤ k) (h1 : k + ms.length + cnt ctL ms ≤ 4611686018427387904) : AM Tryz.prog 41 [.sl 0 ms.length 0 ms.length, .i k] [(1, E true ms)] [.i (k + cnt ctL ms)] [(1, E true (mkSS k ms))] := by
  refine AM.go Tryz.func41 Tryz.ntmps41 rfl rfl fun w0 mp hw => ?_; simp [WfL, WfA, E_length, Enc.enc, In64] at hw
  repeat' first | refine s1 ?_ | fail
  refine F.loop (σ := Nat) [1, 5, 6, 7, 8, 9, 10, 11, 12, 13, 14, 15, 16, 17] (fun j => [(1, .i (k + cnt ctL (ms.take j))), (5, .i j)]) (fun j => [(0, .live false 1 (E true (mkq mkI ctL k ms j)))]) (fun j => j ≤ ms.length) (fun j => ms.length - j) 0 ⟨iE (by simp [cnt]), rfl, trivial⟩ ⟨obE (by rw [mkq_zero]), trivial⟩ (Nat.zero_le _) ?_
  rintro j h2
  have hp := mkq_len mkI ctL (k := k) h2
  have hcl := cnt_le ctL (xs := ms) j
  by_cases hlt : j < ms.length
  · have hg := mkq_get mkI ctL (k := k) hlt
    have hS := mkq_set mkI ctL (k := k) hlt
    have hc2 := cnt_succ ctL hlt
    have hcl2 := cnt_le ctL (xs := ms) (j + 1)
    generalize hL : mkq mkI ctL k ms j = L at hp hg hS ⊢
    generalize hkk : k + ↑(cnt ctL (ms.take j)) = kk at hS ⊢
    have hct : ctL (ms.getD j default) = (ms.getD j default).length := rfl
    repeat' first | refine s1 ?_ | fail
    refine F.ldTE (α := List Int) (j := 0) rfl rfl (by omega) (by omega) (by rw [Nat.zero_add j, hg]; rfl) (E_length _ _) rfl rfl ?_
    rw [Nat.zero_add j]
    repeat' first | refine s1 ?_ | fail
    refine F.m [1] (markIntS_m (ms.getD j default) kk (by omega) (by omega)) ?_
    refine F.put (α := List Int) (o := 0) (o2 := 1) (k := j) (j := 0) (v := mkI kk (ms.getD j default)) (ls := L) rfl rfl (by rw [E_length, mkL_len]) (E_pure _ _) rfl (by omega) rfl (by rw [hg]; rfl) ?_
    rw [hS]
    repeat' first | refine s1 ?_ | fail
    exact ⟨j + 1, F.fit ⟨iE (by rw [hc2]; push_cast; omega), rfl, trivial⟩ ⟨rfl, trivial⟩, by omega, by omega⟩
  · obtain rfl : j = ms.length := by omega
    rw [mkq_all] at hp ⊢
    rw [List.take_length]
    repeat' first | refine s1 ?_ | fail
    refine F.retM rfl ?_
    exact ⟨rfl, trivial⟩
theorem heldIntSS_a (k : Int) (ms : List (List Int)) (h0 : 0 ≤ k) (h1 : k + ms.length + cnt ctL ms ≤ 4611686018427387904) : AC Tryz.prog 42 [ar false (mkSS k ms), .i k] [.i (k + cnt ctL ms)] := by
  refine AC.go Tryz.func42 Tryz.ntmps42 rfl rfl fun w0 hw => ?_; simp [WfL, WfA, E_length, Enc.enc, In64] at hw
  have hl : (mkSS k ms).length = ms.length := mkA_len _ _ _ _
  repeat' first | refine s1 ?_ | fail
  refine F.loop (σ := Nat) [1, 4, 5, 6, 7, 8, 9, 10, 11, 12, 13, 14, 15, 16, 17, 18, 19] (fun j => [(1, .i (k + cnt ctL (ms.take j))), (5, .i j)]) (fun _ => []) (fun j => j ≤ ms.length) (fun j => ms.length - j) 0 ⟨iE (by simp [cnt]), rfl, trivial⟩ trivial (Nat.zero_le _) ?_
  rintro j h2
  have hcl := cnt_le ctL (xs := ms) j
  by_cases hlt : j < ms.length
  · have hg : (mkSS k ms).getD j default = _ := mkA_get mkI ctL (k := k) hlt
    have hc2 := cnt_succ ctL hlt
    have hcl2 := cnt_le ctL (xs := ms) (j + 1)
    generalize hkk : k + ↑(cnt ctL (ms.take j)) = kk at hg ⊢
    have hct : ctL (ms.getD j default) = (ms.getD j default).length := rfl
    have hA := heldIntS_a kk (ms.getD j default).length (by omega) (by omega)
    rw [show mkL kk (ms.getD j default).length = (mkSS k ms).getD j default from hg.symm] at hA
    repeat' first | refine s1 ?_ | (refine kR ?_; first | refine F.c (hA) ?_) | fail
    exact ⟨j + 1, F.fit ⟨iE (by rw [hc2]; push_cast; omega), rfl, trivial⟩ trivial, by omega, by omega⟩
  · obtain rfl : j = ms.length := by omega
    rw [List.take_length]
    repeat' first | refine s1 ?_ | fail
    exact F.ret rfl
end Go.Proofs.YtedjajokbdokhaaGreat.V

/- How the laws' matrices and representations are read; marks as they are used. -/
namespace Go.Proofs.YtedjajokbdokhaaGreat.V
open Go.RowKit G D
set_option linter.unusedVariables false
set_option linter.unusedSimpArgs false
instance : RdE quivR := ⟨rfl, fun h => by
  obtain ⟨v1, v2, F1, F2, h1, h2, rfl, rfl⟩ := h
  obtain ⟨v3, v4, F3, F4, h3, h4, rfl, rfl⟩ := h2
  exact (RdE.h h1).append ((RdE.h h3).append (RdE.h h4))⟩
def matR : Rp Mat := mapR (fun m => (m.r, m.c, m.m)) (seqR intR (seqR intR (listR intR)))
instance : RdE matR := ⟨rfl, fun h => by
  obtain ⟨v1, v2, F1, F2, h1, h2, rfl, rfl⟩ := h
  obtain ⟨v3, v4, F3, F4, h3, h4, rfl, rfl⟩ := h2
  exact (RdE.h h1).append ((RdE.h h3).append (RdE.h h4))⟩
def repR : Rp Rep := mapR (fun r => (r.p, r.q, r.d, r.m)) (seqR intR (seqR quivR (seqR (listR intR) (listR matR))))
instance : RdE repR := ⟨rfl, fun h => by
  obtain ⟨v1, v2, F1, F2, h1, h2, rfl, rfl⟩ := h
  obtain ⟨v3, v4, F3, F4, h3, h4, rfl, rfl⟩ := h2
  obtain ⟨v5, v6, F5, F6, h5, h6, rfl, rfl⟩ := h4
  exact (RdE.h h1).append ((RdE.h h3).append ((RdE.h h5).append (RdE.h h6)))⟩
instance : Rds Tryz.prog 67 matR := Rds.struct (fun x => ⟨x.1, x.2.1, x.2.2⟩) (fun _ => rfl) Tryz.underlying67 (by kernel_rfl) (RdsF.cons rfl (inferInstance : Rds Tryz.prog 3 intR) rfl (RdsF.cons rfl (inferInstance : Rds Tryz.prog 3 intR) rfl (RdsF.one rfl (inferInstance : Rds Tryz.prog 22 (listR intR)))))
instance : Rds Tryz.prog 25 (listR matR) := Rds.slice Tryz.underlying25 (by kernel_rfl) inferInstance (by decide)
instance : Rds Tryz.prog 27 repR := Rds.struct (fun x => ⟨x.1, x.2.1, x.2.2.1, x.2.2.2⟩) (fun _ => rfl) Tryz.underlying27 (by kernel_rfl) (RdsF.cons rfl (inferInstance : Rds Tryz.prog 3 intR) rfl (RdsF.cons rfl (inferInstance : Rds Tryz.prog 24 quivR) rfl (RdsF.cons rfl (inferInstance : Rds Tryz.prog 22 (listR intR)) rfl (RdsF.one rfl (inferInstance : Rds Tryz.prog 25 (listR matR))))))
theorem markQ_x (q : Quiv) (h : totQ q ≤ 1000000000) : ∃ f t : List Int, f.length = q.fr.length ∧ t.length = q.to.length ∧
    AM Tryz.prog 76 [.agg [.i q.n, .sl 0 q.fr.length 0 q.fr.length, .sl 1 q.to.length 0 q.to.length], .i 1] [(1, E true q.fr), (1, E true q.to)] [.i (1 + totQ q)] [(1, E true f), (1, E true t)] :=
  ⟨_, _, mkL_len _ _, mkL_len _ _, markQuiver_m q 1 (by omega) (by omega)⟩
theorem markI_x (xs : List Int) (h : xs.length ≤ 1000000000) : ∃ ys : List Int, ys.length = xs.length ∧
    AM Tryz.prog 34 [.sl 0 xs.length 0 xs.length, .i 1] [(1, E true xs)] [.i (1 + xs.length)] [(1, E true ys)] ∧ AC Tryz.prog 35 [ar false ys, .i 1] [.i (1 + xs.length)] :=
  ⟨_, mkL_len _ _, markIntS_m xs 1 (by omega) (by omega), heldIntS_a 1 xs.length (by omega) (by omega)⟩
theorem markSS_x (xs : List (List Int)) (h : xs.length + cnt ctL xs ≤ 1000000000) : ∃ ys : List (List Int), ys.length = xs.length ∧
    AM Tryz.prog 41 [.sl 0 xs.length 0 xs.length, .i 1] [(1, E true xs)] [.i (1 + cnt ctL xs)] [(1, E true ys)] ∧ AC Tryz.prog 42 [ar false ys, .i 1] [.i (1 + cnt ctL xs)] :=
  ⟨_, mkA_len _ _ _ _, markIntSS_m xs 1 (by omega) (by omega), heldIntSS_a 1 xs (by omega) (by omega)⟩
theorem markR_x (r : Rep) (h : ctR r ≤ 1000000000) : ∃ (f t d : List Int) (m : List Mat), f.length = r.q.fr.length ∧ t.length = r.q.to.length ∧ d.length = r.d.length ∧ m.length = r.m.length ∧
    AM Tryz.prog 26 [.agg [.i r.p, .i r.q.n, .sl 0 r.q.fr.length 0 r.q.fr.length, .sl 1 r.q.to.length 0 r.q.to.length, .sl 2 r.d.length 0 r.d.length, .sl 3 r.m.length 0 r.m.length], .i 1] [(1, E true r.q.fr), (1, E true r.q.to), (1, E true r.d), (3, E true r.m)] [.i (1 + ctR r)] [(1, E true f), (1, E true t), (1, E true d), (3, E true m)] ∧
    AC Tryz.prog 46 [.agg [.i r.p, .i r.q.n, ar false f, ar false t, ar false d, ar false m], .i 1] [.i (1 + ctR r)] :=
  ⟨_, _, _, _, mkL_len _ _, mkL_len _ _, mkL_len _ _, mkA_len _ _ _ _, markRep_m r 1 (by omega) (by omega), heldRep_a 1 r (by omega) (by omega)⟩
theorem markQ_k (q : Quiv) (k : Int) (h0 : 0 ≤ k) (h : k + totQ q ≤ 4611686018427387904) : ∃ f t : List Int, f.length = q.fr.length ∧ t.length = q.to.length ∧
    AM Tryz.prog 76 [.agg [.i q.n, .sl 0 q.fr.length 0 q.fr.length, .sl 1 q.to.length 0 q.to.length], .i k] [(1, E true q.fr), (1, E true q.to)] [.i (k + totQ q)] [(1, E true f), (1, E true t)] ∧
    AC Tryz.prog 101 [.agg [.i q.n, ar false f, ar false t], .i k] [.i (k + totQ q)] :=
  ⟨_, _, mkL_len _ _, mkL_len _ _, markQuiver_m q k h0 h, heldQuiver_a k q h0 h⟩
theorem markQ_o (q : Quiv) (k : Int) (h0 : 0 ≤ k) (h : k + totQ q ≤ 4611686018427387904) : ∃ f t : List Int, f.length = q.fr.length ∧ t.length = q.to.length ∧
    AM Tryz.prog 76 [.agg [.i q.n, .sl 0 q.fr.length 0 q.fr.length, .sl 1 q.to.length 0 q.to.length], .i k] [(1, E true q.fr), (1, E true q.to)] [.i (k + totQ q)] [(1, E true f), (1, E true t)] ∧
    True :=
  ⟨_, _, mkL_len _ _, mkL_len _ _, markQuiver_m q k h0 h, trivial⟩
theorem markI_k (xs : List Int) (k : Int) (h0 : 0 ≤ k) (h : k + xs.length ≤ 4611686018427387904) : ∃ ys : List Int, ys.length = xs.length ∧
    AM Tryz.prog 34 [.sl 0 xs.length 0 xs.length, .i k] [(1, E true xs)] [.i (k + xs.length)] [(1, E true ys)] ∧ AC Tryz.prog 35 [ar false ys, .i k] [.i (k + xs.length)] :=
  ⟨_, mkL_len _ _, markIntS_m xs k h0 h, heldIntS_a k xs.length h0 h⟩
theorem markI_o (xs : List Int) (k : Int) (h0 : 0 ≤ k) (h : k + xs.length ≤ 4611686018427387904) : ∃ ys : List Int, ys.length = xs.length ∧
    AM Tryz.prog 34 [.sl 0 xs.length 0 xs.length, .i k] [(1, E true xs)] [.i (k + xs.length)] [(1, E true ys)] ∧ True :=
  ⟨_, mkL_len _ _, markIntS_m xs k h0 h, trivial⟩
theorem markSS_k (xs : List (List Int)) (k : Int) (h0 : 0 ≤ k) (h : k + xs.length + cnt ctL xs ≤ 4611686018427387904) : ∃ ys : List (List Int), ys.length = xs.length ∧
    AM Tryz.prog 41 [.sl 0 xs.length 0 xs.length, .i k] [(1, E true xs)] [.i (k + cnt ctL xs)] [(1, E true ys)] ∧ AC Tryz.prog 42 [ar false ys, .i k] [.i (k + cnt ctL xs)] :=
  ⟨_, mkA_len _ _ _ _, markIntSS_m xs k h0 h, heldIntSS_a k xs h0 h⟩
theorem markSS_o (xs : List (List Int)) (k : Int) (h0 : 0 ≤ k) (h : k + xs.length + cnt ctL xs ≤ 4611686018427387904) : ∃ ys : List (List Int), ys.length = xs.length ∧
    AM Tryz.prog 41 [.sl 0 xs.length 0 xs.length, .i k] [(1, E true xs)] [.i (k + cnt ctL xs)] [(1, E true ys)] ∧ True :=
  ⟨_, mkA_len _ _ _ _, markIntSS_m xs k h0 h, trivial⟩
theorem markMS_k (xs : List Mat) (k : Int) (h0 : 0 ≤ k) (h : k + cnt ctM xs ≤ 4611686018427387904) : ∃ ys : List Mat, ys.length = xs.length ∧
    AM Tryz.prog 45 [.sl 0 xs.length 0 xs.length, .i k] [(3, E true xs)] [.i (k + cnt ctM xs)] [(3, E true ys)] ∧ AC Tryz.prog 47 [ar false ys, .i k] [.i (k + cnt ctM xs)] :=
  ⟨_, mkA_len _ _ _ _, markMatrixS_m xs k h0 h, heldMatrixS_a k xs h0 h⟩
theorem markMS_o (xs : List Mat) (k : Int) (h0 : 0 ≤ k) (h : k + cnt ctM xs ≤ 4611686018427387904) : ∃ ys : List Mat, ys.length = xs.length ∧
    AM Tryz.prog 45 [.sl 0 xs.length 0 xs.length, .i k] [(3, E true xs)] [.i (k + cnt ctM xs)] [(3, E true ys)] ∧ True :=
  ⟨_, mkA_len _ _ _ _, markMatrixS_m xs k h0 h, trivial⟩
theorem markR_k (r : Rep) (k : Int) (h0 : 0 ≤ k) (h : k + ctR r ≤ 4611686018427387904) : ∃ (f t d : List Int) (m : List Mat), f.length = r.q.fr.length ∧ t.length = r.q.to.length ∧ d.length = r.d.length ∧ m.length = r.m.length ∧
    AM Tryz.prog 26 [.agg [.i r.p, .i r.q.n, .sl 0 r.q.fr.length 0 r.q.fr.length, .sl 1 r.q.to.length 0 r.q.to.length, .sl 2 r.d.length 0 r.d.length, .sl 3 r.m.length 0 r.m.length], .i k] [(1, E true r.q.fr), (1, E true r.q.to), (1, E true r.d), (3, E true r.m)] [.i (k + ctR r)] [(1, E true f), (1, E true t), (1, E true d), (3, E true m)] ∧
    AC Tryz.prog 46 [.agg [.i r.p, .i r.q.n, ar false f, ar false t, ar false d, ar false m], .i k] [.i (k + ctR r)] :=
  ⟨_, _, _, _, mkL_len _ _, mkL_len _ _, mkL_len _ _, mkA_len _ _ _ _, markRep_m r k h0 h, heldRep_a k r h0 h⟩
theorem markR_o (r : Rep) (k : Int) (h0 : 0 ≤ k) (h : k + ctR r ≤ 4611686018427387904) : ∃ (f t d : List Int) (m : List Mat), f.length = r.q.fr.length ∧ t.length = r.q.to.length ∧ d.length = r.d.length ∧ m.length = r.m.length ∧
    AM Tryz.prog 26 [.agg [.i r.p, .i r.q.n, .sl 0 r.q.fr.length 0 r.q.fr.length, .sl 1 r.q.to.length 0 r.q.to.length, .sl 2 r.d.length 0 r.d.length, .sl 3 r.m.length 0 r.m.length], .i k] [(1, E true r.q.fr), (1, E true r.q.to), (1, E true r.d), (3, E true r.m)] [.i (k + ctR r)] [(1, E true f), (1, E true t), (1, E true d), (3, E true m)] ∧
    True :=
  ⟨_, _, _, _, mkL_len _ _, mkL_len _ _, mkL_len _ _, mkA_len _ _ _ _, markRep_m r k h0 h, trivial⟩
theorem ctMS_le : ∀ ms : List Mat, cnt ctM ms ≤ 2 * totMS ms
  | [] => by simp [cnt]
  | m :: ms => by
    have := ctMS_le ms
    simp only [totMS, cnt, List.map_cons, List.sum_cons, List.length_cons, ctM, totM] at *; omega
theorem ctR_le (r : Rep) : ctR r ≤ 2 * totR r := by
  have := ctMS_le r.m
  unfold ctR totR; omega
theorem cnt_bd {α : Type} {c : α → Nat} {B : Nat} : ∀ {xs : List α}, (∀ x ∈ xs, c x ≤ B) → cnt c xs ≤ xs.length * B
  | [], _ => by simp [cnt]
  | x :: xs, h => by
    have h1 := h x (by simp)
    have h2 := cnt_bd (xs := xs) fun y hy => h y (by simp [hy])
    simp only [cnt, List.map_cons, List.sum_cons, List.length_cons, Nat.add_mul, Nat.one_mul] at *; omega
end Go.Proofs.YtedjajokbdokhaaGreat.V
