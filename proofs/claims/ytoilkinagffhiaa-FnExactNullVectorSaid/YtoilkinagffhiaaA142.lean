/- Contracts: a list of one number, repeated. -/
import Derived.Test.YtoilkinagffhiaaA141
namespace Go.Proofs.Ytoilkinagffhiaa.V
open Go.RowKit G D
set_option linter.unusedVariables false
set_option linter.unusedSimpArgs false
set_option maxHeartbeats 4000000
set_option maxRecDepth 4000
attribute [local irreducible] AW ARg ARA ARet MRet ASil AC AM
theorem E_cell2 (o : Bool) : ∀ l : List Int, (V.E o l).flatten.all cellB = true
  | [] => rfl
  | x :: l => by
    have h := E_cell2 o l
    simp only [V.E, List.map_cons, List.flatten_cons, List.all_append, Bool.and_eq_true] at h ⊢
    exact ⟨rfl, h⟩
theorem repeat_a (x n : Int) (hn : 1 ≤ n ∧ n ≤ 5) : AC Try.prog 41 [ar false [x], .i n] [.dt true 1 (E true (List.replicate n.toNat x))] := by
  refine AC.go Try.func41 Try.ntmps41 rfl rfl fun w0 hw => ?_; simp [WfL, WfA, E_length, Enc.enc, In64] at hw
  have hM := mul_1 n hn
  obtain ⟨m, rfl⟩ : ∃ m : Nat, n = m := ⟨n.toNat, by omega⟩
  rw [Int.toNat_natCast]
  have hw1 : IntKind.wrap .u64 (m : Int) = m := by
    have : m = 1 ∨ m = 2 ∨ m = 3 ∨ m = 4 ∨ m = 5 := by omega
    rcases this with e | e | e | e | e <;> subst e <;> rfl
  have hw2 : IntKind.wrap .u64 (1 : Int) = 1 := rfl
  have hrep : ∀ k, k ≤ m → (List.replicate k x ++ List.replicate (m - k) 0).length = m := fun k hk => by simp; omega
  repeat' first | refine s1 ?_ | (refine kR ?_; first | refine F.sil (A.cvTo rfl hw2) rfl rfl ?_ | refine F.sil (A.cvTo rfl hw1) rfl rfl ?_ | refine F.c (hM) ?_ | refine F.sil (A.gtrF rfl rfl rfl) rfl rfl ?_ | refine F.sil (A.gtrF rfl rfl (by simp; omega)) rfl rfl ?_ | refine F.sil (A.cvQI rfl (In64.mk (by omega))) rfl rfl ?_ | refine F.mk (m := m) Int rfl rfl rfl (mkB (by omega)) (by omega) rfl rfl ?_ | refine F.cpy (ys := [x]) (k := 1) (ls' := List.replicate 1 x ++ List.replicate (m - 1) 0) rfl rfl (by simp) rfl .imm (by simp; omega) (by simp) rfl rfl rfl ?_) | fail
  refine F.loop (σ := Nat) [8, 34, 35, 36, 37, 38, 39, 40, 41, 42, 43, 44, 45, 46] (fun k => [(8, .i k)]) (fun k => [(0, .live false 1 (E true (List.replicate k x ++ List.replicate (m - k) 0)))]) (fun k => 1 ≤ k ∧ k ≤ m) (fun k => m - k) 1 ⟨rfl, trivial⟩ ⟨rfl, trivial⟩ ⟨Nat.le_refl _, by omega⟩ ?_
  rintro k ⟨k1, k2⟩
  have hl := hrep k k2
  by_cases hk : k < m
  · have htk : (List.replicate k x ++ List.replicate (m - k) 0).take k = List.replicate k x := by rw [List.take_append_of_le_length (by simp), List.take_of_length_le (by simp)]
    have hnew : (List.replicate k x ++ List.replicate (m - k) 0).take k ++ ((List.replicate k x).take (min k (m - k)) ++ (List.replicate k x ++ List.replicate (m - k) 0).drop (k + min k (m - k))) = List.replicate (k + min k (m - k)) x ++ List.replicate (m - (k + min k (m - k))) 0 := by
      rw [htk, List.take_replicate, List.drop_append, List.drop_of_length_le (by simp), List.nil_append, ← List.append_assoc, List.replicate_append_replicate, List.drop_replicate]
      congr 2
      · omega
      · simp; omega
    generalize hL : List.replicate k x ++ List.replicate (m - k) 0 = L at hl htk hnew ⊢
    generalize hj : min k (m - k) = j at hnew
    repeat' first | refine s1 ?_ | fail
    refine AW.draw 7 G.mixed (by kernel_rfl) ?_
    refine dP 0 ?_
    refine dP 1 ?_
    refine dP 2 ?_
    first | refine dP 3 ?_ | refine dP 3 ?_ (hs := by exact (A.slcS rfl rfl (by rw [E_length]; exact hl) rfl rfl (by omega) (by omega)))
    refine dP 4 ?_
    refine dP 5 ?_
    first | refine dP 6 ?_ | refine dP 6 ?_ (hs := by exact (A.slcS rfl rfl (by rw [E_length]; exact hl) rfl rfl (by omega) (by omega)))
    refine dO 7 false ?_
    first | refine s1 ?_ | refine F.cpy (ys := List.replicate k x) (k := j) (ls' := List.replicate (k + j) x ++ List.replicate (m - (k + j)) 0) rfl rfl hl rfl (.view rfl (by rw [E_length]; exact hl) (by rw [List.drop_zero, E_take, Nat.sub_zero, htk]) (E_cell2 _ _)) (by simp; omega) (by rw [Nat.zero_add]; exact hnew) rfl rfl rfl ?_
    refine ARg.nil (ATh.normal ?_)
    refine dP 8 ?_
    refine dP 9 ?_
    refine dN ?_
    rotate_left
    all_goals
      repeat' first | refine s1 ?_ | fail
      exact ⟨k + j, F.fit ⟨iE (by simp), trivial⟩ ⟨rfl, trivial⟩, ⟨by omega, by omega⟩, by omega⟩
  · obtain rfl : k = m := by omega
    have e : List.replicate k x ++ List.replicate (k - k) (0 : Int) = List.replicate k x := by simp
    rw [e]
    repeat' first | refine s1 ?_ | fail
    (refine kZ ?_; exact F.ret rfl)
end Go.Proofs.Ytoilkinagffhiaa.V
