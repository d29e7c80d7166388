/- Joined: Contracts: copies of lists and quivers, zero matrices, zero and simple representations. Contracts: remainders, inverses, reduced form by rows (the reference's). Contracts: searches in lists of matrices and of paths.. -/
import Derived.Test.YtoilkinagffhiaaA6
import Derived.Test.YtoilkinagffhiaaUc
import Derived.Test.YtoilkinagffhiaaUq
import Derived.Test.YtoilkinagffhiaaUd
/- Contracts: copies of lists and quivers, zero matrices, zero and simple representations. -/
namespace Go.Proofs.Ytoilkinagffhiaa.V
open Go.RowKit G D
set_option linter.unusedVariables false
set_option linter.unusedSimpArgs false
set_option maxHeartbeats 400000
attribute [local irreducible] AW ARg ARA ARet MRet ASil AC AM

theorem clone_a (xs : List Int) (h : xs.length ≤ 1048576) : AC Try.prog 44 [ar false xs] [.dt true 1 (E true xs)] := by
  refine AC.go Try.func44 Try.ntmps44 rfl rfl fun w0 hw => ?_; simp [WfL, WfA, E_length, Enc.enc, In64] at hw
  repeat' first | refine s1 ?_ | refine q1 ?_ | fail
  refine F.eqD (xs := E false xs) rfl rfl rfl fun b hb => ?_
  rw [E_length] at hb
  cases b with
  | true =>
    obtain rfl := List.eq_nil_of_length_eq_zero (hb rfl)
    repeat' first | refine s1 ?_ | refine q1 ?_ | fail
    exact F.ret rfl
  | false =>
    repeat' first | refine s1 ?_ | refine q1 ?_ | (refine kR ?_; first | refine F.aLN (α := Int) ?_) | fail
    exact F.ret rfl
abbrev zeroM (r c : Int) : Mat := ⟨r, c, List.replicate (r * c).toNat 0⟩
theorem mulB {a b : Int} (ha : 0 ≤ a ∧ a ≤ 1024) (hb : 0 ≤ b ∧ b ≤ 1024) : 0 ≤ a * b ∧ a * b ≤ 1048576 := by
  refine ⟨Int.mul_nonneg ha.1 hb.1, ?_⟩
  have := Int.mul_le_mul ha.2 hb.2 hb.1 (by omega : (0 : Int) ≤ 1024)
  omega
theorem hasVertex_a (q : Quiv) (v : Int) (h : okQ q = true) : AC Try.prog 91 [.agg (enc false q), .i v] [.b (decide (0 ≤ v ∧ v ≤ q.n - 1))] := by
  refine AC.go Try.func91 Try.ntmps91 rfl rfl fun w0 hw => ?_; simp [WfL, WfA, E_length, Enc.enc, In64] at hw
  have h5 := okQ_spec h
  repeat' first | refine s1 ?_ | refine q1 ?_ | (refine kR ?_; first | (refine jCf 72 ?_; refine F.c (within_a _ _ _) ?_)) | fail
  exact F.ret rfl
/-- the i-th number of a list, by a number -/
def gI (l : List Int) (i : Int) : Int := l.getD i.toNat default
def zeroMs (q : Quiv) (d : List Int) : List Mat := (List.range q.fr.length).map fun i => zeroM (gI d (q.to.getD i default)) (gI d (q.fr.getD i default))
abbrev zeroR (p : Int) (q : Quiv) (d : List Int) : Rep := ⟨p, q, d, zeroMs q d⟩
theorem range_take {n k : Nat} (h : k < n) : (List.range n).take (k + 1) = (List.range n).take k ++ [k] := by
  rw [List.take_succ_eq_append_getElem (by simpa using h)]; simp
theorem zeroMs_len (q : Quiv) (d : List Int) : (zeroMs q d).length = q.fr.length := by simp [zeroMs]
theorem zeroMs_take {q : Quiv} {d : List Int} {k : Nat} (h : k < q.fr.length) : (zeroMs q d).take (k + 1) = (zeroMs q d).take k ++ [zeroM (gI d (q.to.getD k default)) (gI d (q.fr.getD k default))] := by
  simp only [zeroMs, ← List.map_take, range_take h, List.map_append, List.map_cons, List.map_nil]
end Go.Proofs.Ytoilkinagffhiaa.V

/- Contracts: remainders, inverses, reduced form by rows (the reference's). -/
namespace Go.Proofs.Ytoilkinagffhiaa.V
open Go.RowKit G D
set_option linter.unusedVariables false
set_option linter.unusedSimpArgs false
set_option maxHeartbeats 400000
set_option maxRecDepth 4000
attribute [local irreducible] AW ARg ARA ARet MRet ASil AC AM

theorem tmod_bd {x p : Int} (hp : 0 < p) : -p < x.tmod p ∧ x.tmod p < p := by
  have h1 := Int.natAbs_tmod x p
  have h2 : x.natAbs % p.natAbs < p.natAbs := Nat.mod_lt _ (by omega)
  omega
theorem emod_tmod {x p : Int} (hp : 0 < p) : x % p = if x.tmod p < 0 then x.tmod p + p else x.tmod p := by
  have h := Int.mul_tdiv_add_tmod x p
  have hb := tmod_bd (x := x) hp
  have e : x % p = x.tmod p % p := by
    conv => lhs; rw [← h]
    rw [Int.add_comm, Int.add_mul_emod_self_left]
  rw [e]
  split
  · rw [← Int.add_emod_right, Int.emod_eq_of_lt (by omega) (by omega)]
  · rw [Int.emod_eq_of_lt (by omega) (by omega)]
theorem isF_pos {p : Int} (h : isF p = true) : 2 ≤ p ∧ p ≤ 5 := by
  have := isF_spec.mp h; omega
/-- inverses, by a look at all -/
theorem inv_tab : ∀ p ∈ [2, 3, 5], ∀ x ∈ [0, 1, 2, 3, 4], ∀ y ∈ [1, 2, 3, 4], x < p → y < p → x * y % p = 1 → invP (p : Int) x = y := by decide
theorem inv_none : ∀ p ∈ [2, 3, 5], ∀ x ∈ [0, 1, 2, 3, 4], x < p → (∀ y ∈ [1, 2, 3, 4], y < p → x * y % p ≠ 1) → invP (p : Int) x = 0 := by decide
theorem inv_bd : ∀ p ∈ [2, 3, 5], ∀ x ∈ [0, 1, 2, 3, 4], x < p → 0 ≤ invP (p : Int) x ∧ invP p x ≤ p - 1 := by decide
theorem mem5 {x : Int} (h : 0 ≤ x ∧ x ≤ 4) : x ∈ [0, 1, 2, 3, 4] := by
  have : x = 0 ∨ x = 1 ∨ x = 2 ∨ x = 3 ∨ x = 4 := by omega
  rcases this with rfl | rfl | rfl | rfl | rfl <;> decide
theorem mem4 {x : Int} (h : 1 ≤ x ∧ x ≤ 4) : x ∈ [1, 2, 3, 4] := by
  have : x = 1 ∨ x = 2 ∨ x = 3 ∨ x = 4 := by omega
  rcases this with rfl | rfl | rfl | rfl <;> decide
theorem memF {p : Int} (h : isF p = true) : p ∈ [2, 3, 5] := by
  rcases isF_spec.mp h with rfl | rfl | rfl <;> decide
theorem invP_bd {p x : Int} (h : isF p = true) (hx : 0 ≤ x ∧ x ≤ p - 1) : 0 ≤ invP p x ∧ invP p x ≤ p - 1 := by
  have := isF_pos h
  exact inv_bd p (memF h) x (mem5 (by omega)) (by omega)
end Go.Proofs.Ytoilkinagffhiaa.V

/- Contracts: searches in lists of matrices and of paths. -/
namespace Go.Proofs.Ytoilkinagffhiaa.V
open Go.RowKit G D
set_option linter.unusedVariables false
set_option linter.unusedSimpArgs false
set_option maxHeartbeats 400000
set_option maxRecDepth 4000
attribute [local irreducible] AW ARg ARA ARet MRet ASil AC AM

theorem IndexFuncP_a (xs : List Pth) (f : Nat) [IsFn Try.prog f] (cs : List AV) (p : Pth → Bool) (hcs : ∀ hp, SnapL hp cs cs) (hf : ∀ x ∈ xs, AC Try.prog f (.agg (enc false x) :: cs) [.b (p x)]) :
    AC Try.prog 108 [ar false xs, .fn f cs] [.i (idxFrom p xs 0)] := by
  refine AC.go Try.func108 Try.ntmps108 rfl rfl fun w0 hw => ?_; simp [WfL, WfA, E_length, Enc.enc, In64] at hw
  repeat' first | refine s1 ?_ | refine q1 ?_ | (refine s2 ?_ ?_ <;> intro hc <;> (try simp only [decide_eq_true_eq, decide_eq_false_iff_not, Bool.not_eq_true', Bool.not_eq_false'] at hc)) | fail
  refine F.loop (σ := Nat) [4, 5, 8, 9, 10, 11, 12, 13, 14, 15, 16, 17, 18] (fun k => [(8, .i k)]) (fun _ => []) (fun k => k ≤ xs.length ∧ idxFrom p xs 0 = idxFrom p (xs.drop k) k) (fun k => xs.length - k) 0 ⟨rfl, trivial⟩ trivial ⟨Nat.zero_le _, rfl⟩ ?_
  rintro k ⟨hk, hi⟩
  by_cases hlt : k < xs.length
  · rw [idxFrom_drop p xs hlt] at hi
    have h1 := hf (xs.getD k default) (gm hlt)
    cases hpx : p (xs.getD k default) with
    | true =>
      rw [hpx] at hi h1
      repeat' first | refine s1 ?_ | refine q1 ?_ | (refine kR ?_; first | refine F.cv (h1) ?_) | (refine s2 ?_ ?_ <;> intro hc <;> (try simp only [decide_eq_true_eq, decide_eq_false_iff_not, Bool.not_eq_true', Bool.not_eq_false'] at hc)) | fail
      refine F.ret ?_
      simp [hi]
    | false =>
      rw [hpx] at hi h1
      repeat' first | refine s1 ?_ | refine q1 ?_ | (refine kR ?_; first | refine F.cv (h1) ?_) | (refine s2 ?_ ?_ <;> intro hc <;> (try simp only [decide_eq_true_eq, decide_eq_false_iff_not, Bool.not_eq_true', Bool.not_eq_false'] at hc)) | fail
      exact ⟨k + 1, F.fit ⟨rfl, trivial⟩ trivial, ⟨by omega, hi⟩, by omega⟩
  · have e : k = xs.length := by omega
    subst e
    repeat' first | refine s1 ?_ | refine q1 ?_ | (refine s2 ?_ ?_ <;> intro hc <;> (try simp only [decide_eq_true_eq, decide_eq_false_iff_not, Bool.not_eq_true', Bool.not_eq_false'] at hc)) | fail
    refine F.ret ?_
    simp [hi, idxFrom]
end Go.Proofs.Ytoilkinagffhiaa.V
