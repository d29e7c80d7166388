/- Texts that the proof needs: A4. -/
import Derived.Test.YtoilkinagffhiaaQffUv
import Derived.Test.YtoilkinagffhiaaQffUd
namespace Go.Proofs.Ytoilkinagffhiaa.V
open Go.RowKit G D
set_option linter.unusedVariables false
set_option linter.unusedSimpArgs false
set_option maxHeartbeats 400000
theorem implDet_a : ∀ (n : Nat), n ≤ 5 → ∀ m : List (List Int), Rows n n m → AC Try.prog 51 [.dt false 1 (E false m)] [.i (det n m)]
 | 0, hn, m, hm => by
  refine AC.go Try.func51 Try.ntmps51 rfl rfl fun w0 hw => ?_; simp [WfL, WfA, E_length, Enc.enc, In64] at hw
  have hl := hm.1
  repeat' first | refine s1 ?_ | fail
  exact F.ret rfl
 | n + 1, hn, m, hm => by
  have ih := implDet_a n (by omega)
  refine AC.go Try.func51 Try.ntmps51 rfl rfl fun w0 hw => ?_; simp [WfL, WfA, E_length, Enc.enc, In64] at hw
  have hl := hm.1
  have hrow := (hm.row (k := 0) (by omega)).1
  have hval := (hm.row (k := 0) (by omega)).2
  have hb := bnd_le (n := n) (by omega)
  have hb0 := bnd_pos n
  have hds := dsum_bnd hm (fun k hk => det_bnd n _ (hm.minor hk))
  repeat' first | refine s1 ?_ | fail
  refine F.loop (σ := Nat) [3, 4, 5, 6, 7, 9, 17, 18, 19, 20, 21, 22, 23, 24, 25, 26, 27, 28, 29, 30, 31, 32, 33, 34, 35, 36, 37, 38, 39, 40, 41, 42, 43, 44, 45, 46, 47, 48, 49, 50, 51, 52] (fun k => [(3, .i (dsum n m k)), (4, .i (sg k)), (17, .i k)]) (fun _ => []) (fun k => k ≤ n + 1) (fun k => n + 1 - k) 0 ⟨rfl, rfl, rfl, trivial⟩ trivial (Nat.zero_le _) ?_
  rintro k h1
  by_cases hlt : k < n + 1
  ·have hsg := sg_abs k
   have hv := hval k hlt
   repeat' first | refine s1 ?_ | (refine kR ?_; first | refine F.sil (A.slcD (α := List Int) (lo := 1) rfl rfl rfl (by omega) (by omega)) rfl rfl ?_) | fail
   refine AW.open 7 1 (.inl rfl) ?_
   refine F.loop (σ := Nat) [7, 9, 25, 26, 27, 28, 29, 30, 31, 32, 33, 34, 35, 36, 37, 38, 39, 40, 41] (fun i => [(7, .sl 0 i 0 i), (25, .i i)]) (fun i => [(0, .live false 1 (E true ((minor m k).take i)))]) (fun i => i ≤ n) (fun i => n - i) 0 ⟨rfl, rfl, trivial⟩ ⟨rfl, trivial⟩ (Nat.zero_le _) ?_
   rintro i h2
   have hml := (hm.minor hlt).1
   have hdl : ((m.take m.length).drop 1).length = n := by simp; omega
   by_cases hli : i < n
   ·have hR : (((m.take m.length).drop 1).getD i default).length = n + 1 := by
     have := (hm.row (k := i + 1) (by omega)).1
     simpa [Nat.add_comm] using this
    generalize hRe : ((m.take m.length).drop 1).getD i default = R at hR
    repeat' first | refine s1 ?_ | fail
    rw [hRe]
    refine AW.draw 11 G.mixed (by kernel_rfl) ?_
    refine dP 0 ?_
    refine dP 1 ?_
    refine dP 2 ?_
    first | refine dP 3 ?_ (hs := by exact (A.slcD (α := Int) rfl rfl rfl (by omega) (by omega))) | refine dP 3 ?_
    refine dP 4 ?_
    refine dP 5 ?_
    refine dP 6 ?_
    first | refine dP 7 ?_ (hs := by exact (A.slcD (α := Int) (lo := k + 1) rfl rfl rfl (by omega) (by omega))) | refine dP 7 ?_
    refine dO 8 true ?_
    refine s1 ?_
    refine tN ?_
    refine dO 9 true ?_
    first | refine s1 ?_ | (refine jCf 73 ?_; refine F.c (concat_a [(R.take k).drop 0, (R.take R.length).drop (k + 1)] (by simp; omega)) ?_)
    refine tN ?_
    refine dO 10 true ?_
    refine s1 ?_
    refine tN ?_
    refine dO 11 false ?_
    first | refine s1 ?_ | refine F.a1 (List Int) (oo := true) ?_
    refine tN ?_
    refine dP 12 ?_
    refine dN ?_
    repeat' first | refine s1 ?_ | fail
    refine ⟨i + 1, F.fit ⟨rfl, rfl, trivial⟩ ⟨obE ?_, trivial⟩, by omega, by omega⟩
    refine congrArg _ ?_
    rw [List.take_succ_eq_append_getElem (by omega)]
    congr 2
    subst hRe
    have hi1 : i + 1 < m.length := by omega
    simp [minor, hi1]
   ·have hin : i = n := by omega
    subst hin
    rw [show (minor m k).take i = minor m k from List.take_of_length_le (by omega)]
    have hdb := det_bnd i _ (hm.minor hlt)
    have htb := term_bnd hm hlt hdb
    have hs1 := hds k (by omega)
    have hk100 : (k : Int) * (100 * bnd i) ≤ 5 * (100 * bnd i) := Int.mul_le_mul_of_nonneg_right (by omega) (by omega)
    have hm1 : In64 (sg k * (m.getD 0 default).getD k default) := by rcases hsg with e | e <;> rw [e] <;> unfold In64 <;> omega
    have hm2 : In64 (sg k * (m.getD 0 default).getD k default * det i (minor m k)) := by unfold In64; omega
    have hm3 : In64 (dsum i m k + sg k * (m.getD 0 default).getD k default * det i (minor m k)) := by unfold In64; omega
    have hm4 : In64 (-(sg k)) := by unfold In64; omega
    repeat' first | refine s1 ?_ | (refine kR ?_; first | refine F.c (ih (minor m k) (hm.minor hlt)) ?_) | fail
    refine ⟨k + 1, F.fit ⟨iE (dsum_succ _ _ _).symm, iE rfl, rfl, trivial⟩ trivial, by omega, by omega⟩
  ·obtain rfl : k = n + 1 := by omega
   repeat' first | refine s1 ?_ | fail
   exact F.ret rfl
theorem specDet_a : ∀ (n : Nat), n ≤ 5 → ∀ m : List (List Int), Rows n n m → AC Try.prog 52 [.dt false 1 (E false m)] [.i (det n m)]
 | 0, hn, m, hm => by
  refine AC.go Try.func52 Try.ntmps52 rfl rfl fun w0 hw => ?_; simp [WfL, WfA, E_length, Enc.enc, In64] at hw
  have hl := hm.1
  repeat' first | refine s1 ?_ | fail
  exact F.ret rfl
 | n + 1, hn, m, hm => by
  have ih := specDet_a n (by omega)
  refine AC.go Try.func52 Try.ntmps52 rfl rfl fun w0 hw => ?_; simp [WfL, WfA, E_length, Enc.enc, In64] at hw
  have hl := hm.1
  have hrow := (hm.row (k := 0) (by omega)).1
  have hval := (hm.row (k := 0) (by omega)).2
  have hb := bnd_le (n := n) (by omega)
  have hb0 := bnd_pos n
  have hds := dsum_bnd hm (fun k hk => det_bnd n _ (hm.minor hk))
  repeat' first | refine s1 ?_ | fail
  refine F.loop (σ := Nat) [3, 4, 5, 6, 7, 11, 12, 13, 14, 15, 16, 17, 18, 19, 20, 21, 22, 23, 24, 25, 26, 27, 28, 29, 30, 31, 32, 33, 34, 35, 36, 37, 38, 39, 40, 41, 42, 43, 44, 45, 46, 47, 48, 49, 50, 51, 52, 53, 54, 55, 56, 57] (fun k => [(3, .i (dsum n m k)), (4, .i (sg k)), (5, .i k)]) (fun _ => []) (fun k => k ≤ n + 1) (fun k => n + 1 - k) 0 ⟨rfl, rfl, rfl, trivial⟩ trivial (Nat.zero_le _) ?_
  rintro k h1
  by_cases hlt : k < n + 1
  ·have hsg := sg_abs k
   have hv := hval k hlt
   repeat' first | refine s1 ?_ | fail
   refine AW.open 6 1 (.inr rfl) ?_
   refine F.loop (σ := Nat) [6, 7, 18, 19, 20, 21, 22, 23, 24, 25, 26, 27, 28, 29, 30, 31, 32, 33, 34, 35, 36, 37, 38, 39, 40, 41, 42] (fun i => [(6, .sl 0 i 0 i), (7, .i ((i + 1 : Nat) : Int))]) (fun i => [(0, .live false 1 (E true ((minor m k).take i)))]) (fun i => i ≤ n) (fun i => n - i) 0 ⟨rfl, rfl, trivial⟩ ⟨rfl, trivial⟩ (Nat.zero_le _) ?_
   rintro i h2
   have hml := (hm.minor hlt).1
   by_cases hli : i < n
   ·have hR := (hm.row (k := i + 1) (by omega)).1
    repeat' first | refine s1 ?_ | fail
    refine AW.draw 16 G.mixed (by kernel_rfl) ?_
    refine dP 0 ?_
    refine dP 2 ?_
    refine dP 3 ?_
    first | refine dP 4 ?_ (hs := by exact (A.idxF (k := i + 1) rfl rfl rfl (by omega))) | refine dP 4 ?_
    refine dL 5 ?_
    refine dP 6 ?_
    first | refine dP 7 ?_ (hs := by exact (A.slcD (α := Int) rfl rfl rfl (by omega) (by omega))) | refine dP 7 ?_
    refine dP 9 ?_
    refine dP 10 ?_
    first | refine dP 11 ?_ (hs := by exact (A.idxF (k := i + 1) rfl rfl rfl (by omega))) | refine dP 11 ?_
    refine dL 12 ?_
    refine dP 13 ?_
    refine dP 14 ?_
    first | refine dP 15 ?_ (hs := by exact (A.slcD (α := Int) (lo := k + 1) rfl rfl rfl (by omega) (by omega))) | refine dP 15 ?_
    refine dO 1 true ?_
    refine s1 ?_
    refine tN ?_
    refine dO 8 true ?_
    first | refine s1 ?_ | refine F.a1 (List Int) (oo := true) ?_ | refine F.aLN Int (oo := true) ?_ | refine F.aL Int (oo := true) ?_
    refine tN ?_
    refine dO 16 false ?_
    first | refine s1 ?_ | refine F.a1 (List Int) (oo := true) ?_ | refine F.aLN Int (oo := true) ?_ | refine F.aL Int (oo := true) ?_
    refine tN ?_
    refine dO 17 true ?_
    refine s1 ?_
    refine tN ?_
    refine dO 18 false ?_
    first | refine s1 ?_ | refine F.a1 (List Int) (oo := true) ?_ | refine F.aLN Int (oo := true) ?_ | refine F.aL Int (oo := true) ?_
    refine tN ?_
    refine dP 19 ?_
    refine dN ?_
    repeat' first | refine s1 ?_ | fail
    refine ⟨i + 1, F.fit ⟨rfl, rfl, trivial⟩ ⟨obE ?_, trivial⟩, by omega, by omega⟩
    refine congrArg _ ?_
    rw [List.take_succ_eq_append_getElem (by omega)]
    congr 2
    have hi1 : i + 1 < m.length := by omega
    simp [minor, hi1]
   ·have hin : i = n := by omega
    subst hin
    rw [show (minor m k).take i = minor m k from List.take_of_length_le (by omega)]
    have hdb := det_bnd i _ (hm.minor hlt)
    have htb := term_bnd hm hlt hdb
    have hs1 := hds k (by omega)
    have hk100 : (k : Int) * (100 * bnd i) ≤ 5 * (100 * bnd i) := Int.mul_le_mul_of_nonneg_right (by omega) (by omega)
    have hm1 : In64 (sg k * (m.getD 0 default).getD k default) := by rcases hsg with e | e <;> rw [e] <;> unfold In64 <;> omega
    have hm2 : In64 (sg k * (m.getD 0 default).getD k default * det i (minor m k)) := by unfold In64; omega
    have hm3 : In64 (dsum i m k + sg k * (m.getD 0 default).getD k default * det i (minor m k)) := by unfold In64; omega
    have hm4 : In64 (-(sg k)) := by unfold In64; omega
    repeat' first | refine s1 ?_ | fail
    refine AW.draw 14 G.mixed (by kernel_rfl) ?_
    refine dP 0 ?_
    refine dP 1 ?_
    refine dP 2 ?_
    refine dP 3 ?_
    refine dL 4 ?_
    refine dP 5 ?_
    refine dP 6 ?_
    refine dL 7 ?_
    refine dP 8 ?_
    refine dP 9 ?_
    refine dO 10 true ?_
    first | refine s1 ?_ | refine F.c (ih (minor m k) (hm.minor hlt)) ?_
    refine tN ?_
    refine dP 11 ?_
    refine dP 12 ?_
    refine dP 13 ?_
    refine dN ?_
    repeat' first | refine s1 ?_ | fail
    refine ⟨k + 1, F.fit ⟨iE (dsum_succ _ _ _).symm, iE rfl, rfl, trivial⟩ trivial, by omega, by omega⟩
  ·obtain rfl : k = n + 1 := by omega
   repeat' first | refine s1 ?_ | fail
   exact F.ret rfl
end Go.Proofs.Ytoilkinagffhiaa.V
