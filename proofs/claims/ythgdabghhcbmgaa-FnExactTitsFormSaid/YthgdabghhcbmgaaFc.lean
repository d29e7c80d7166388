/- Contracts of slices.IndexFunc and slices.ContainsFunc at the types that the program uses. -/
import Derived.Test.YthgdabghhcbmgaaFa
import Derived.Test.YthgdabghhcbmgaaPa
namespace Go.Proofs.Ythgdabghhcbmgaa.F
open Go.RowKit G D
set_option linter.unusedVariables false

/-- the first place from k on at which p holds; -1 -/
def idxFrom {α : Type} (p : α → Bool) : List α → Nat → Int
  | [], _ => -1
  | x :: l, k => bif p x then (k : Int) else idxFrom p l (k + 1)
theorem idxFrom_any {α : Type} (p : α → Bool) : ∀ (l : List α) (k : Nat), decide (0 ≤ idxFrom p l k) = l.any p
  | [], k => by simp [idxFrom]
  | x :: l, k => by
    cases hp : p x with
    | true => simp [idxFrom, hp]
    | false => simp only [idxFrom, hp, cond_false, List.any_cons, Bool.false_or]; exact idxFrom_any p l (k + 1)
theorem idxFrom_drop {α : Type} (p : α → Bool) (l : List α) {k : Nat} (hk : k < l.length) : idxFrom p (l.drop k) k = bif p l[k] then (k : Int) else idxFrom p (l.drop (k + 1)) (k + 1) := by
  rw [List.drop_eq_getElem_cons hk]; rfl
theorem idxFrom_le {α : Type} (p : α → Bool) : ∀ (l : List α) (k : Nat), -1 ≤ idxFrom p l k ∧ idxFrom p l k < k + l.length + 1
  | [], k => by simp [idxFrom]; omega
  | x :: l, k => by
    cases hp : p x with
    | true => simp [idxFrom, hp]; omega
    | false => have := idxFrom_le p l (k + 1); simp only [idxFrom, hp, cond_false, List.length_cons]; omega

theorem IndexFunc1_c (xs : List Int) (va : Value) (Fa : List Nat) (w : World) (ha : intsR.V w xs [va] Fa) (f : Nat) [IsFn Try.prog f] (cs : List Value) (p : Int → Bool)
    (hf : ∀ x ∈ xs, In64 x → ∀ w', Later w w' → Run Try.prog f ([.int .i64 x] ++ cs) w' fun v w'' => v = .bool (p x) ∧ Later w' w'') :
    Run Try.prog 53 [va, .func (.func f) #[] cs.toArray] w fun v w' => v = .int .i64 (idxFrom p xs 0) ∧ Later w w' := by
  obtain ⟨q, c, rfl, hpc, hcm, hp⟩ := listR.open1 ha
  refine Run.go Try.func53 Try.ntmps53 rfl rfl ?_
  repeat' first | refine go1 ?_ | (refine go2 ?_ ?_ <;> intro hc)
  refine Wp.loopS (σ := Nat) [4, 5, 8, 9, 10, 11, 12, 13, 14, 15, 16, 17, 18] (fun k => [(8, .int .i64 (k : Int))]) (fun k wr => k ≤ xs.length ∧ Later w wr ∧ idxFrom p xs 0 = idxFrom p (xs.drop k) k) (fun k => xs.length - k) 0 ⟨rfl, trivial⟩ ⟨Nat.zero_le _, Later.refl _, rfl⟩ ?_
  rintro k wr h ⟨hk, hl, hi⟩
  repeat' first | refine go1 ?_ | (refine go2 ?_ ?_ <;> intro hc)
  · obtain ⟨b, o, rfl, hc1, hin, _⟩ := hp.int (k := k) (by omega)
    have hc2 := hl.cell hc1
    rw [idxFrom_drop p xs (by omega)] at hi
    repeat' first | refine go1 ?_ | (refine go2 ?_ ?_ <;> intro hc)
    refine Rg.callV rfl (hf xs[k] (List.getElem_mem _) hin _ hl) rfl rfl rfl ?_
    rintro v w1 ⟨rfl, hl1⟩
    cases hpx : p xs[k] with
    | true =>
      rw [hpx] at hi
      repeat' first | refine go1 ?_ | (refine go2 ?_ ?_ <;> intro hc)
      exact Fin.oneI rfl rfl ⟨by rw [hi]; rfl, hl.trans hl1⟩
    | false =>
      rw [hpx] at hi
      repeat' first | refine go1 ?_ | (refine go2 ?_ ?_ <;> intro hc)
      exact ⟨k + 1, ⟨rfl, trivial⟩, agr, ⟨by omega, hl.trans hl1, hi⟩, by omega⟩
  · have e : k = xs.length := by omega
    subst e
    exact Fin.oneI rfl rfl ⟨by rw [hi, List.drop_length]; rfl, hl⟩

theorem ContainsFunc1_c (xs : List Int) (va : Value) (Fa : List Nat) (w : World) (ha : intsR.V w xs [va] Fa) (f : Nat) [IsFn Try.prog f] (cs : List Value) (p : Int → Bool)
    (hf : ∀ x ∈ xs, In64 x → ∀ w', Later w w' → Run Try.prog f ([.int .i64 x] ++ cs) w' fun v w'' => v = .bool (p x) ∧ Later w' w'') :
    Run Try.prog 49 [va, .func (.func f) #[] cs.toArray] w fun v w' => v = .bool (xs.any p) ∧ Later w w' := by
  obtain ⟨q, c, rfl, hpc, hcm, hp⟩ := listR.open1 ha
  refine Run.go Try.func49 Try.ntmps49 rfl rfl ?_
  repeat' first | refine go1 ?_ | (refine jR ?_; first | (refine Rg.call (IndexFunc1_c xs _ _ _ ha f cs p hf) rfl rfl rfl ?_; rintro v w1 ⟨rfl, hl1⟩)) | (refine go2 ?_ ?_ <;> intro hc)
  exact Fin.oneB rfl rfl ⟨by rw [idxFrom_any], hl1⟩

theorem IndexFunc2_c (xs : List (List Int)) (va : Value) (Fa : List Nat) (w : World) (ha : (listR intsR).V w xs [va] Fa) (f : Nat) [IsFn Try.prog f] (cs : List Value) (p : List Int → Bool)
    (hf : ∀ x ∈ xs, ∀ v F w', Later w w' → intsR.V w' x [v] F → Run Try.prog f ([v] ++ cs) w' fun v w'' => v = .bool (p x) ∧ Later w' w'') :
    Run Try.prog 48 [va, .func (.func f) #[] cs.toArray] w fun v w' => v = .int .i64 (idxFrom p xs 0) ∧ Later w w' := by
  obtain ⟨q, c, rfl, hpc, hcm, hp⟩ := listR.open1 ha
  refine Run.go Try.func48 Try.ntmps48 rfl rfl ?_
  repeat' first | refine go1 ?_ | (refine go2 ?_ ?_ <;> intro hc)
  refine Wp.loopS (σ := Nat) [4, 5, 8, 9, 10, 11, 12, 13, 14, 15, 16, 17, 18] (fun k => [(8, .int .i64 (k : Int))]) (fun k wr => k ≤ xs.length ∧ Later w wr ∧ idxFrom p xs 0 = idxFrom p (xs.drop k) k) (fun k => xs.length - k) 0 ⟨rfl, trivial⟩ ⟨Nat.zero_le _, Later.refl _, rfl⟩ ?_
  rintro k wr h ⟨hk, hl, hi⟩
  repeat' first | refine go1 ?_ | (refine go2 ?_ ?_ <;> intro hc)
  · obtain ⟨b, o, v1, Fk, rfl, hc1, hV, _⟩ := hp.slc (k := k) (by omega)
    have hc2 := hl.cell hc1
    rw [idxFrom_drop p xs (by omega)] at hi
    obtain ⟨q1, c1, rfl, _⟩ := listR.open1 hV
    repeat' first | refine go1 ?_ | (refine go2 ?_ ?_ <;> intro hc)
    refine Rg.callV rfl (hf xs[k] (List.getElem_mem _) _ _ _ hl (intsR.later hV hl)) rfl rfl rfl ?_
    rintro v w1 ⟨rfl, hl1⟩
    cases hpx : p xs[k] with
    | true =>
      rw [hpx] at hi
      repeat' first | refine go1 ?_ | (refine go2 ?_ ?_ <;> intro hc)
      exact Fin.oneI rfl rfl ⟨by rw [hi]; rfl, hl.trans hl1⟩
    | false =>
      rw [hpx] at hi
      repeat' first | refine go1 ?_ | (refine go2 ?_ ?_ <;> intro hc)
      exact ⟨k + 1, ⟨rfl, trivial⟩, agr, ⟨by omega, hl.trans hl1, hi⟩, by omega⟩
  · have e : k = xs.length := by omega
    subst e
    exact Fin.oneI rfl rfl ⟨by rw [hi, List.drop_length]; rfl, hl⟩

theorem ContainsFunc2_c (xs : List (List Int)) (va : Value) (Fa : List Nat) (w : World) (ha : (listR intsR).V w xs [va] Fa) (f : Nat) [IsFn Try.prog f] (cs : List Value) (p : List Int → Bool)
    (hf : ∀ x ∈ xs, ∀ v F w', Later w w' → intsR.V w' x [v] F → Run Try.prog f ([v] ++ cs) w' fun v w'' => v = .bool (p x) ∧ Later w' w'') :
    Run Try.prog 38 [va, .func (.func f) #[] cs.toArray] w fun v w' => v = .bool (xs.any p) ∧ Later w w' := by
  obtain ⟨q, c, rfl, hpc, hcm, hp⟩ := listR.open1 ha
  refine Run.go Try.func38 Try.ntmps38 rfl rfl ?_
  repeat' first | refine go1 ?_ | (refine jR ?_; first | (refine Rg.call (IndexFunc2_c xs _ _ _ ha f cs p hf) rfl rfl rfl ?_; rintro v w1 ⟨rfl, hl1⟩)) | (refine go2 ?_ ?_ <;> intro hc)
  exact Fin.oneB rfl rfl ⟨by rw [idxFrom_any], hl1⟩

theorem allWithin1_c (x lo hi : Int) (b1 b2 : Nat) (w : World) (h1 : w.cell? ⟨b1, 0, none⟩ = some (.int .i64 lo)) (h2 : w.cell? ⟨b2, 0, none⟩ = some (.int .i64 hi)) :
    Run Try.prog 50 [.int .i64 x, .pointer (some ⟨b1, 0, none⟩), .pointer (some ⟨b2, 0, none⟩)] w fun v w' => v = .bool (!(decide (lo ≤ x) && decide (x ≤ hi))) ∧ Later w w' := by
  refine Run.go Try.func50 Try.ntmps50 rfl rfl ?_
  repeat' first | refine go1 ?_ | (refine jR ?_; first | (refine Rg.call (within_c _ _ _ _) rfl rfl rfl ?_; rintro v w1 ⟨rfl, rfl⟩)) | (refine go2 ?_ ?_ <;> intro hc)
  exact Fin.oneB rfl rfl ⟨rfl, Later.refl _⟩
theorem allWithin_c (xs : List Int) (lo hi : Int) (va : Value) (Fa : List Nat) (w : World) (ha : intsR.V w xs [va] Fa) :
    Run Try.prog 40 [va, .int .i64 lo, .int .i64 hi] w fun v w' => v = .bool (allIn lo hi xs) ∧ Later w w' := by
  obtain ⟨q, c, rfl, hpc, hcm, hp⟩ := listR.open1 ha
  have hH := Hp.init w
  refine Run.go Try.func40 Try.ntmps40 rfl rfl ?_
  repeat' first | refine go1 ?_ | (refine go2 ?_ ?_ <;> intro hc) | (clear hH; intro b w1 hH) | (clear hH; intro w1 hH)
  refine Rg.call (ContainsFunc1_c xs _ _ _ (intsR.later ha hH.low) 50 _ (fun x => !(decide (lo ≤ x) && decide (x ≤ hi))) ?_) rfl rfl rfl ?_
  · intro x hx hin w' hl
    exact allWithin1_c x lo hi _ _ w' (hl.cell ((hH.blk 1 rfl).cell rfl)) (hl.cell ((hH.blk 0 rfl).cell rfl))
  rintro v w1 ⟨rfl, hl1⟩
  repeat' first | refine go1 ?_ | (refine go2 ?_ ?_ <;> intro hc)
  refine Fin.oneB rfl rfl ⟨?_, hH.low.trans hl1⟩
  rw [allIn, List.not_any_eq_all_not]
  simp
end Go.Proofs.Ythgdabghhcbmgaa.F
