/- The data of the program as Lean's own: quivers. No program is spoken of. -/
import Derived.Test.YtcalkmlaodjpaaaGd
namespace Go.Proofs.Ytcalkmlaodjpaaa.D
open Go.RowKit G
set_option linter.unusedVariables false

structure Quiv where
  n : Int
  fr : List Int
  to : List Int
/-- a quiver's three fields beside each other -/
def quivR : Rp Quiv := mapR (fun q => (q.n, q.fr, q.to)) (seqR intR (seqR intsR intsR))

theorem quivR.open {w : World} {q : Quiv} {vs : List Value} {F : List Nat} (h : quivR.V w q vs F) :
    ∃ v1 v2 F1 F2, vs = [.int .i64 q.n, v1, v2] ∧ F = F1 ++ F2 ∧ In64 q.n ∧ intsR.V w q.fr [v1] F1 ∧ intsR.V w q.to [v2] F2 := by
  obtain ⟨a1, a2, F1, F2, ⟨rfl, rfl, hn⟩, ⟨b1, b2, G1, G2, h1, h2, rfl, rfl⟩, rfl, rfl⟩ := h
  obtain ⟨p, c, rfl, h3⟩ := id h1
  obtain ⟨q', c', rfl, h4⟩ := id h2
  exact ⟨_, _, G1, G2, rfl, by simp, hn, h1, h2⟩
theorem quivR.mk {w : World} {q : Quiv} {v1 v2 : Value} {F1 F2 : List Nat} (hn : In64 q.n) (h1 : intsR.V w q.fr [v1] F1) (h2 : intsR.V w q.to [v2] F2) : quivR.V w q [.int .i64 q.n, v1, v2] (F1 ++ F2) :=
  ⟨[.int .i64 q.n], [v1, v2], [], F1 ++ F2, ⟨rfl, rfl, hn⟩, ⟨[v1], [v2], F1, F2, h1, h2, rfl, rfl⟩, rfl, rfl⟩
/-- all numbers of a list lie in a range -/
def allIn (lo hi : Int) (xs : List Int) : Bool := xs.all fun x => decide (lo ≤ x) && decide (x ≤ hi)
theorem allIn_spec {lo hi : Int} {xs : List Int} (h : allIn lo hi xs = true) {k : Nat} (hk : k < xs.length) : lo ≤ xs.getD k 0 ∧ xs.getD k 0 ≤ hi := by
  unfold allIn at h
  rw [List.all_eq_true] at h
  have := h xs[k] (List.getElem_mem hk)
  rw [Bool.and_eq_true, decide_eq_true_eq, decide_eq_true_eq] at this
  simpa [hk] using this
theorem allIn_of {lo hi : Int} {xs : List Int} (h : ∀ k, k < xs.length → lo ≤ xs.getD k 0 ∧ xs.getD k 0 ≤ hi) : allIn lo hi xs = true := by
  unfold allIn
  rw [List.all_eq_true]
  intro x hx
  obtain ⟨k, hk, rfl⟩ := List.getElem_of_mem hx
  have := h k hk
  rw [Bool.and_eq_true, decide_eq_true_eq, decide_eq_true_eq]
  simpa [hk] using this
theorem allIn_take {lo hi : Int} {xs : List Int} {k : Nat} (hk : k < xs.length) : allIn lo hi (xs.take (k + 1)) = (allIn lo hi (xs.take k) && (decide (lo ≤ xs.getD k 0) && decide (xs.getD k 0 ≤ hi))) := by
  unfold allIn
  rw [List.take_succ_eq_append_getElem hk, List.all_append]
  simp [hk]
theorem allIn_false {lo hi : Int} {xs : List Int} {k : Nat} (hk : k < xs.length) (h : (decide (lo ≤ xs.getD k 0) && decide (xs.getD k 0 ≤ hi)) = false) : allIn lo hi xs = false := by
  cases ha : allIn lo hi xs with
  | false => rfl
  | true =>
    obtain ⟨h1, h2⟩ := allIn_spec ha hk
    simp only [h1, h2, decide_true, Bool.and_self] at h
    cases h

/-- a valid quiver -/
def okQ (q : Quiv) : Bool := decide (1 ≤ q.n) && decide (q.n ≤ 5) && decide (q.fr.length = q.to.length) && decide (q.fr.length ≤ 6) && allIn 0 (q.n - 1) q.fr && allIn 0 (q.n - 1) q.to
theorem okQ_spec {q : Quiv} (h : okQ q = true) : 1 ≤ q.n ∧ q.n ≤ 5 ∧ q.fr.length = q.to.length ∧ q.fr.length ≤ 6 ∧ allIn 0 (q.n - 1) q.fr = true ∧ allIn 0 (q.n - 1) q.to = true := by
  unfold okQ at h
  simp only [Bool.and_eq_true, decide_eq_true_eq] at h
  exact ⟨h.1.1.1.1.1, h.1.1.1.1.2, h.1.1.1.2, h.1.1.2, h.1.2, h.2⟩
theorem okQ_fr {q : Quiv} (h : okQ q = true) {k : Nat} (hk : k < q.fr.length) : 0 ≤ q.fr.getD k 0 ∧ q.fr.getD k 0 < q.n := by
  have := allIn_spec (okQ_spec h).2.2.2.2.1 hk; omega
theorem okQ_to {q : Quiv} (h : okQ q = true) {k : Nat} (hk : k < q.fr.length) : 0 ≤ q.to.getD k 0 ∧ q.to.getD k 0 < q.n := by
  have := allIn_spec (okQ_spec h).2.2.2.2.2 (by have := (okQ_spec h).2.2.1; omega : k < q.to.length); omega

theorem mul_bd {a b A B : Int} (h1 : -A ≤ a) (h2 : a ≤ A) (h3 : -B ≤ b) (h4 : b ≤ B) : -(A * B) ≤ a * b ∧ a * b ≤ A * B := by
  have hA : 0 ≤ A := by omega
  have hB : 0 ≤ B := by omega
  have e1 : 0 ≤ (A - a) * (B - b) := Int.mul_nonneg (by omega) (by omega)
  have e2 : 0 ≤ (A + a) * (B + b) := Int.mul_nonneg (by omega) (by omega)
  have e3 : 0 ≤ (A - a) * (B + b) := Int.mul_nonneg (by omega) (by omega)
  have e4 : 0 ≤ (A + a) * (B - b) := Int.mul_nonneg (by omega) (by omega)
  simp only [Int.sub_mul, Int.mul_sub, Int.add_mul, Int.mul_add] at e1 e2 e3 e4
  constructor <;> omega

/-- sums of products -/
def dotK (x y : List Int) : Nat → Int
  | 0 => 0
  | k + 1 => dotK x y k + x.getD k 0 * y.getD k 0
def arrK (q : Quiv) (x y : List Int) : Nat → Int
  | 0 => 0
  | k + 1 => arrK q x y k + x.getD (q.fr.getD k 0).toNat 0 * y.getD (q.to.getD k 0).toNat 0
/-- the form of Euler -/
def eulV (q : Quiv) (x y : List Int) : Int := dotK x y x.length - arrK q x y q.fr.length
/-- a number from -100 to 100 for each vertex -/
def numsQ (q : Quiv) (x : List Int) : Bool := okQ q && decide ((x.length : Int) = q.n) && allIn (-100) 100 x
def eulF (q : Quiv) (x y : List Int) : Int := bif numsQ q x && numsQ q y then eulV q x y else 0
theorem numsQ_spec {q : Quiv} {x : List Int} (h : numsQ q x = true) : okQ q = true ∧ (x.length : Int) = q.n ∧ allIn (-100) 100 x = true := by
  unfold numsQ at h
  simp only [Bool.and_eq_true, decide_eq_true_eq] at h
  exact ⟨h.1.1, h.1.2, h.2⟩
theorem dotK_bd {x y : List Int} (hx : allIn (-100) 100 x = true) (hy : allIn (-100) 100 y = true) : ∀ k, k ≤ x.length → k ≤ y.length → -(10000 * (k : Int)) ≤ dotK x y k ∧ dotK x y k ≤ 10000 * (k : Int)
  | 0, _, _ => by simp [dotK]
  | k + 1, h1, h2 => by
    have ih := dotK_bd hx hy k (by omega) (by omega)
    have a := allIn_spec hx (k := k) (by omega)
    have b := allIn_spec hy (k := k) (by omega)
    have m := mul_bd (A := 100) (B := 100) (by omega) a.2 (by omega) b.2
    simp only [dotK]
    omega
theorem arrK_bd {q : Quiv} {x y : List Int} (hx : numsQ q x = true) (hy : numsQ q y = true) : ∀ k, k ≤ q.fr.length → -(10000 * (k : Int)) ≤ arrK q x y k ∧ arrK q x y k ≤ 10000 * (k : Int)
  | 0, _ => by simp [arrK]
  | k + 1, h1 => by
    have ih := arrK_bd hx hy k (by omega)
    obtain ⟨hq, lx, ax⟩ := numsQ_spec hx
    obtain ⟨_, ly, ay⟩ := numsQ_spec hy
    have f := okQ_fr hq (k := k) (by omega)
    have t := okQ_to hq (k := k) (by omega)
    have a := allIn_spec ax (k := (q.fr.getD k 0).toNat) (by omega)
    have b := allIn_spec ay (k := (q.to.getD k 0).toNat) (by omega)
    have m := mul_bd (A := 100) (B := 100) (by omega) a.2 (by omega) b.2
    simp only [arrK]
    omega
end Go.Proofs.Ytcalkmlaodjpaaa.D
