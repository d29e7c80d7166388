/- Joined: Contract: a multiple of one row of a matrix is added to another row of the same one. Rules: the larger and the smaller of two numbers. Over any program; nothing is claimed of the given one. Contracts: the program's inverses, powers, reduced form by rows, rank.. -/
import Derived.Test.YtedjajokbdokhaaGreatA23
import Derived.Test.YtedjajokbdokhaaGreatUc
import Derived.Lib.MinMax
import Derived.Test.YtedjajokbdokhaaGreatUq
import Derived.Test.YtedjajokbdokhaaGreatA15
/- Contract: a multiple of one row of a matrix is added to another row of the same one. -/
namespace Go.Proofs.YtedjajokbdokhaaGreat.V
open Go.RowKit G D
set_option linter.unusedVariables false
set_option linter.unusedSimpArgs false
set_option maxHeartbeats 2000000
set_option maxRecDepth 4000
attribute [local irreducible] AW ARg ARA ARet MRet ASil AC AM

theorem addK_out (p k : Int) (off : Nat) (b xs : List Int) (j : Nat) {t : Nat} (h : t < off ∨ off + j ≤ t) (ht : t < xs.length) : (addK p k off b xs j).getD t default = xs.getD t default := by
  have : ¬ (off ≤ t ∧ t < off + j) := by omega
  simp [addK, ht, this]
theorem addMulS_m (p k : Int) (xs b : List Int) (off off2 : Nat) (hp : 0 < p ∧ p ≤ 1024) (hk : 0 ≤ k ∧ k ≤ 1024) (hx : ∀ t, t < xs.length → 0 ≤ xs.getD t default ∧ xs.getD t default ≤ 1024) (hb : ∀ t, t < b.length → b.getD t default = xs.getD (off2 + t) default) (hl : off + b.length ≤ xs.length) (hl2 : off2 + b.length ≤ xs.length) (hn : xs.length ≤ 1048576) (hd : off2 + b.length ≤ off ∨ off + b.length ≤ off2) :
    AM Tryz.prog 131 [.i p, .sl 0 xs.length off b.length, .i k, .sl 0 xs.length off2 b.length] [(1, E true xs)] [.sl 0 xs.length off b.length] [(1, E true (addK p k off b xs b.length))] := by
  refine AM.go Tryz.func131 Tryz.ntmps131 rfl rfl fun w0 mp hw => ?_; simp [WfL, WfA, E_length, Enc.enc, In64] at hw
  repeat' first | refine s1 ?_ | refine q1 ?_ | fail
  refine F.loop (σ := Nat) [9, 10, 13, 14, 15, 16, 17, 18, 19, 20, 21, 22, 23, 24, 25, 26, 27, 28, 29, 30, 31] (fun j => [(13, .i j)]) (fun j => [(0, .live false 1 (E true (addK p k off b xs j)))]) (fun j => j ≤ b.length) (fun j => b.length - j) 0 ⟨rfl, trivial⟩ ⟨obE (by rw [addK_zero]), trivial⟩ (Nat.zero_le _) ?_
  rintro j h1
  by_cases hlt : j < b.length
  · have e1 := addK_at p k off b xs (j := j) (by omega)
    have e2 := addK_set p k off b xs (j := j) (by omega)
    have e3 := addK_out p k off b xs j (t := off2 + j) (by omega) (by omega)
    have b1 := hx (off + j) (by omega)
    have b2 := hx (off2 + j) (by omega)
    rw [hb j hlt] at e2
    have b3 : 0 ≤ k * xs.getD (off2 + j) default ∧ k * xs.getD (off2 + j) default ≤ 1024 * 1024 := ⟨Int.mul_nonneg hk.1 b2.1, Int.mul_le_mul hk.2 b2.2 b2.1 (by omega)⟩
    have hlen := addK_len p k off b xs j
    generalize addK p k off b xs j = L at e1 e2 e3 hlen ⊢
    rw [← e1] at b1 e2
    rw [← e3] at b2 b3 e2
    have hi1 : In64 (k * L.getD (off2 + j) default) := by unfold In64; omega
    have hi2 : In64 (L.getD (off + j) default + k * L.getD (off2 + j) default) := by unfold In64; omega
    repeat' first | refine s1 ?_ | refine q1 ?_ | fail
    exact ⟨j + 1, F.fit ⟨rfl, trivial⟩ ⟨obE (by rw [e2]), trivial⟩, by omega, by omega⟩
  · obtain rfl : j = b.length := by omega
    repeat' first | refine s1 ?_ | refine q1 ?_ | fail
    refine kM ?_
    exact F.retM rfl ⟨rfl, trivial⟩
end Go.Proofs.YtedjajokbdokhaaGreat.V

/- Rules: the larger and the smaller of two numbers. Over any program; nothing is claimed of the given one. -/
namespace Go.Proofs.YtedjajokbdokhaaGreat.V
open Go.RowKit G D
set_option linter.unusedVariables false
set_option linter.unusedSimpArgs false
section
variable {P : Program} {w0 : World} {MP : Fr} {st : St} {d : Option Tmp} {ty : TypeId} {pos : String} {af : Array Edge} {g : Option (Nat × Bool)} {x y z : Operand}
theorem Sil.max2 {E : Env} {w : World} {t t' : TypeId} {a b : Int} (hx : G.ev E x = .int .i64 a) (hy : G.ev E y = .int .i64 b) : Sil P E ⟨d, .call ⟨.builtin .max, #[x, y], #[t, t']⟩, ty, pos, af, g⟩ (.int .i64 (max a b)) w := by
  unfold Sil
  intro w' _
  simp [execOp, resolve, hx, hy, invoke, builtin, Go.Lib.run_max_ints]
theorem Sil.min2 {E : Env} {w : World} {t t' : TypeId} {a b : Int} (hx : G.ev E x = .int .i64 a) (hy : G.ev E y = .int .i64 b) : Sil P E ⟨d, .call ⟨.builtin .min, #[x, y], #[t, t']⟩, ty, pos, af, g⟩ (.int .i64 (min a b)) w := by
  unfold Sil
  intro w' _
  simp [execOp, resolve, hx, hy, invoke, builtin, Go.Lib.run_min_ints]
theorem max_in {a b : Int} (ha : In64 a) (hb : In64 b) : In64 (max a b) ∧ In64 (min a b) := by unfold In64 at *; omega
theorem A.max2 {t t' : TypeId} {a b : Int} (hx : evA st x = .i a) (hy : evA st y = .i b) : ASil true P w0 MP st ⟨d, .call ⟨.builtin .max, #[x, y], #[t, t']⟩, ty, pos, af, g⟩ (.i (max a b)) := fun C Im E w hm =>
  ⟨.int .i64 (max a b), fun w' => Sil.max2 (hm.evI hx).1 (hm.evI hy).1, rfl, (max_in (hm.evI hx).2 (hm.evI hy).2).1⟩
theorem A.min2 {t t' : TypeId} {a b : Int} (hx : evA st x = .i a) (hy : evA st y = .i b) : ASil true P w0 MP st ⟨d, .call ⟨.builtin .min, #[x, y], #[t, t']⟩, ty, pos, af, g⟩ (.i (min a b)) := fun C Im E w hm =>
  ⟨.int .i64 (min a b), fun w' => Sil.min2 (hm.evI hx).1 (hm.evI hy).1, rfl, (max_in (hm.evI hx).2 (hm.evI hy).2).2⟩
end
end Go.Proofs.YtedjajokbdokhaaGreat.V

/- Contracts: the program's inverses, powers, reduced form by rows, rank. -/
namespace Go.Proofs.YtedjajokbdokhaaGreat.V
open V.Enc (enc)
open Go.RowKit G D
set_option linter.unusedVariables false
set_option linter.unusedSimpArgs false
set_option maxHeartbeats 4000000
set_option maxRecDepth 4000
attribute [local irreducible] AW ARg ARA ARet MRet ASil AC AM

theorem implReduceMod_a (p x : Int) (hf : isF p = true) (hx : 0 ≤ x ∧ x ≤ p - 1) : AC Tryz.prog 221 [.i p, .i x] [.i ((x % p + p) % p)] := by
  refine AC.go Tryz.func221 Tryz.ntmps221 rfl rfl fun w0 hw => ?_; simp [WfL, WfA, E_length, Enc.enc, In64] at hw
  have h5 := isF_pos hf
  have hF := implIsField_a p
  rw [hf] at hF
  have e : x % p = x := Int.emod_eq_of_lt hx.1 (by omega)
  have hi : In64 (x % p + p) := by unfold In64; omega
  repeat' first | refine s1 ?_ | refine q1 ?_ | (refine kR ?_; first | refine F.c (hF) ?_) | fail
  (refine kZ ?_; exact F.ret rfl)
theorem reduceMod_eq {p x : Int} (hx : 0 ≤ x ∧ x ≤ p - 1) : (x % p + p) % p = x := by
  rw [Int.emod_eq_of_lt hx.1 (by omega), Int.add_emod_right, Int.emod_eq_of_lt hx.1 (by omega)]
theorem powP_bd {p : Int} (hp : 2 ≤ p) (x : Int) : ∀ n, 0 ≤ powP p x n ∧ powP p x n ≤ p - 1
  | 0 => by simp [powP]; omega
  | n + 1 => mod_bd (by omega)
theorem implPowerMod_a (p x : Int) (n : Nat) (hf : isF p = true) (hx : 0 ≤ x ∧ x ≤ p - 1) (hn : n ≤ 1000) : AC Tryz.prog 214 [.i p, .i x, .i (n : Int)] [.i (powP p x n)] := by
  refine AC.go Tryz.func214 Tryz.ntmps214 rfl rfl fun w0 hw => ?_; simp [WfL, WfA, E_length, Enc.enc, In64] at hw
  have h5 := isF_pos hf
  have hF := implIsField_a p
  rw [hf] at hF
  have hW := within_a (n : Int) 0 1000
  rw [decide_eq_true (show 0 ≤ (n : Int) ∧ (n : Int) ≤ 1000 by omega)] at hW
  have hR := implReduceMod_a p x hf hx
  rw [reduceMod_eq hx] at hR
  repeat' first | refine s1 ?_ | refine q1 ?_ | (refine kR ?_; first | refine F.c (hF) ?_ | refine F.c (hW) ?_) | fail
  refine F.loop (σ := Nat) [7, 17, 18, 19, 20, 21, 22, 23, 24, 25, 26] (fun k => [(7, .i (powP p x k)), (17, .i k)]) (fun _ => []) (fun k => k ≤ n) (fun k => n - k) 0 ⟨rfl, rfl, trivial⟩ trivial (Nat.zero_le _) ?_
  rintro k k1
  by_cases hk : k < n
  · have hb := powP_bd h5.1 x k
    have hst : powP p x (k + 1) = powP p x k * x % p := rfl
    have hm := in64_4 (x := powP p x k) (y := x) (by omega) (by omega)
    generalize powP p x k = y at hb hst hm ⊢
    have hi : In64 (y * x) := by unfold In64; omega
    repeat' first | refine s1 ?_ | refine q1 ?_ | (refine kR ?_; first | refine F.c (hR) ?_) | fail
    exact ⟨k + 1, F.fit ⟨iE hst.symm, rfl, trivial⟩ trivial, by omega, by omega⟩
  · obtain rfl : k = n := by omega
    repeat' first | refine s1 ?_ | refine q1 ?_ | fail
    (refine kZ ?_; exact F.ret rfl)
theorem implInverseMod_a (p x : Int) (hf : isF p = true) (hx : 0 ≤ x ∧ x ≤ p - 1) : AC Tryz.prog 201 [.i p, .i x] [.i (invP p x)] := by
  refine AC.go Tryz.func201 Tryz.ntmps201 rfl rfl fun w0 hw => ?_; simp [WfL, WfA, E_length, Enc.enc, In64] at hw
  have h5 := isF_pos hf
  have hF := implIsField_a p
  rw [hf] at hF
  have hP := implPowerMod_a p x (max (p - 2) 1).toNat hf hx (by omega)
  rw [Int.toNat_of_nonneg (by omega)] at hP
  rw [show powP p x (max (p - 2) 1).toNat = invP p x from rfl] at hP
  repeat' first | refine s1 ?_ | refine q1 ?_ | (refine kR ?_; first | refine F.c (hF) ?_ | refine F.sil (A.max2 rfl rfl) rfl rfl ?_ | refine F.c (hP) ?_) | fail
  (refine kZ ?_; exact F.ret rfl)
theorem addMulQS_m (p k : Int) (r c i t N : Nat) (F : Nat → Nat → Int) (hN : N = r * c) (hi : i < r) (ht : t < r) (hne : i ≠ t) (hp : 0 < p ∧ p ≤ 1024) (hk : 0 ≤ k ∧ k ≤ 1024) (hF : BdF p r c F) (hn : N ≤ 1048576) :
    AM Tryz.prog 131 [.i p, .sl 0 N (i * c) c, .i k, .sl 0 N (t * c) c] [(1, E true (tab r c F))] [.sl 0 N (i * c) c] [(1, E true (tab r c (addR p k i F (F t))))] := by
  have hle : (i + 1) * c ≤ r * c := Nat.mul_le_mul_right c hi
  have hlt : (t + 1) * c ≤ r * c := Nat.mul_le_mul_right c ht
  have hd : t * c + c ≤ i * c ∨ i * c + c ≤ t * c := by
    rcases Nat.lt_or_gt_of_ne hne with h | h
    · right; have := Nat.mul_le_mul_right c (show i + 1 ≤ t from h); rw [Nat.add_mul, Nat.one_mul] at this; exact this
    · left; have := Nat.mul_le_mul_right c (show t + 1 ≤ i from h); rw [Nat.add_mul, Nat.one_mul] at this; exact this
  rw [Nat.add_mul, Nat.one_mul] at hle hlt
  have h := addMulS_m p k (tab r c F) (rowL c (F t)) (i * c) (t * c) hp hk (tab_bd hF hp.2) (fun s hs => by rw [rowL_len] at hs; rw [rowL_get _ hs, tab_get F ht hs]) (by simp; omega) (by simp; omega) (by simp; omega) (by simp; omega)
  rw [rowL_len, addK_tab p k F (F t) hi, tab_len, ← hN] at h
  exact h
theorem clK_addR (p : Int) (f : Nat → Nat → Int) (t k i : Nat) (h : i ≠ t) : addR p (p - clK p f t k i 0 i k) i (clK p f t k i 0) (clK p f t k i 0 t) = clK p f t k (i + 1) 0 := by
  funext i' j
  unfold addR
  rw [clK_top, clK_row, clK_row]
  by_cases e : i' = i
  · subst e; simp [clK, h]
  · have e2 : (i' ≠ t ∧ (i' < i ∨ i' = i ∧ j < 0)) ↔ (i' ≠ t ∧ (i' < i + 1 ∨ i' = i + 1 ∧ j < 0)) := by omega
    simp only [if_neg e, clK, e2]
theorem clK_bd {p : Int} {r c : Nat} {f : Nat → Nat → Int} (h : BdF p r c f) (hp : 0 < p) (t k i0 c0 : Nat) : BdF p r c (clK p f t k i0 c0) := fun i hi j hj => by
  unfold clK
  split
  · exact mod_bd hp
  · exact h i hi j hj
theorem implReduce_a (p : Int) (r c : Nat) (f : Nat → Nat → Int) (hf : isF p = true) (hr : r ≤ 1024) (hc : c ≤ 1024) (hb : BdF p r c f) :
    AC Tryz.prog 166 [.i p, .agg (enc false (tm r c f))] [.agg (enc true (tm r c (redK p r f c).1)), .dt true 1 (E true (ints (redK p r f c).2))] := by
  refine AC.go Tryz.func166 Tryz.ntmps166 rfl rfl fun w0 hw => ?_; simp [WfL, WfA, E_length, Enc.enc, In64] at hw
  have h5 := isF_pos hf
  have hC := cloneM_a (tm r c f) (by rw [tab_len]; exact tab_le hr hc)
  have hN := tab_len r c f
  have hNb := tab_le hr hc
  repeat' first | refine s1 ?_ | refine q1 ?_ | (refine kR ?_; first | refine F.c (hC) ?_) | fail
  refine AW.open 6 1 (.inl rfl) ?_
  refine F.loop (σ := Nat) [6, 7, 8, 9, 10, 11, 12, 13, 18, 19, 20, 21, 22, 23, 24, 25, 26, 27, 28, 29, 30, 31, 32, 33, 34, 35, 36, 37, 38, 39, 40, 41, 42, 43, 44, 45, 46, 47, 48, 49, 50, 51, 52, 53, 54, 55, 56, 57, 58, 59, 60, 61, 62, 63, 64, 65, 66, 67, 68, 69, 70, 71, 72, 73, 74, 75, 76, 77, 78, 79, 80, 81, 82, 83, 84, 85, 86, 87, 88, 89, 90, 91, 92, 93, 94, 95, 96, 97, 98, 99, 100, 101, 102, 103, 104, 105, 106, 107, 108, 109, 110, 111, 112, 113, 114, 115, 116, 117, 118, 119, 120, 121] (fun k => [(6, .sl 3 (redK p r f k).2.length 0 (redK p r f k).2.length), (18, .i k)]) (fun k => [(2, .live false 1 (E true (tab r c (redK p r f k).1))), (3, .live false 1 (E true (ints (redK p r f k).2)))]) (fun k => k ≤ c) (fun k => c - k) 0 ⟨rfl, rfl, trivial⟩ ⟨rfl, rfl, trivial⟩ (Nat.zero_le _) ?_
  rintro k h1
  obtain ⟨b1, b2, b3, b4⟩ := redK_bd (by omega) hb k
  have hstep : redK p r f (k + 1) = stepE p r (redK p r f k) k := rfl
  generalize hRR : redK p r f k = R at b1 b2 b3 b4 hstep ⊢
  obtain ⟨g, piv⟩ := R
  dsimp only at b1 b2 b3 b4 ⊢
  have hpl := ints_len piv
  by_cases hk : k < c
  · generalize htt : piv.length = t at b2 b3 hpl ⊢
    have hfb := findR_bd g k (r - t) t
    repeat' first | refine s1 ?_ | refine q1 ?_ | fail
    refine F.loop (σ := Nat) [8, 23, 24, 25, 26, 27, 28, 29, 30, 31, 32, 33, 34, 35, 36, 37] (fun u => [(8, .i u)]) (fun _ => [(2, .live false 1 (E true (tab r c g)))]) (fun u => t ≤ u ∧ u ≤ r ∧ findR g k (r - u) u = findR g k (r - t) t) (fun u => r - u) t ⟨rfl, trivial⟩ ⟨rfl, trivial⟩ ⟨Nat.le_refl _, b2, rfl⟩ ?_
    rintro u ⟨u1, u2, u3⟩
    by_cases hu : u < r
    · have hR := row_m r c u g _ hN hu hr hc
      by_cases hz : g u k = 0
      · have hu3 : findR g k (r - (u + 1)) (u + 1) = findR g k (r - t) t := by
          rw [← u3, show r - u = (r - (u + 1)) + 1 by omega, findR, if_pos hz]
        repeat' first | refine s1 ?_ | refine q1 ?_ | (refine kR ?_; first | refine F.m [2] (hR) ?_) | fail
        exact ⟨u + 1, F.fit ⟨rfl, trivial⟩ ⟨rfl, trivial⟩, ⟨by omega, by omega, hu3⟩, by omega⟩
      · have hu3 : findR g k (r - t) t = u := by
          rw [← u3, show r - u = (r - (u + 1)) + 1 by omega, findR, if_neg hz]
        have hs : redK p r f (k + 1) = (clearF p (scaleF p (swapF g t u) t (invP p (swapF g t u t k))) t k, piv ++ [k]) := by
          rw [hstep, stepE]; simp only [htt, hu3]; rw [if_neg (by omega)]
        have hsw := b1.swap (t := t) (a := u) (by omega) hu
        have htr : t < r := by omega
        have hT := row_m r c t g _ hN htr hr hc
        repeat' first | refine s1 ?_ | refine q1 ?_ | fail
        refine kR ?_
        refine F.m [2] hR ?_
        repeat' first | refine s1 ?_ | refine q1 ?_ | fail
        refine kR ?_
        refine F.m [2] hT ?_
        repeat' first | refine s1 ?_ | refine q1 ?_ | fail
        refine F.loop (σ := Nat) [10, 48, 49, 50, 51, 52, 53, 54, 55, 56, 57, 58, 59, 60, 61, 62, 63, 64, 65, 66, 67, 68, 69] (fun j => [(48, .i j)]) (fun j => [(2, .live false 1 (E true (tab r c (swK g t u j))))]) (fun j => j ≤ c) (fun j => c - j) 0 ⟨rfl, trivial⟩ ⟨obE (by rw [swK_zero]), trivial⟩ (Nat.zero_le _) ?_
        rintro j j1
        by_cases hj : j < c
        · have hR2 := row_m r c u (swK g t u j) _ hN hu hr hc
          repeat' first | refine s1 ?_ | refine q1 ?_ | fail
          refine AW.draw 1 G.mixed (by kernel_rfl) ?_
          refine dP 0 ?_
          refine dP 1 ?_
          refine dP 3 ?_
          refine dP 5 ?_
          refine dP 7 ?_
          refine dP 9 ?_
          refine dP 12 ?_
          refine dP 13 ?_
          first | refine dP 14 ?_ | refine dQ 14 ?_
          refine ARA.any [2, 6, 15] (by kernel_rfl) (by simp) ?_
          intro k hk
          simp only [List.mem_cons, List.not_mem_nil, or_false] at hk
          rcases hk with rfl | rfl | rfl
          · refine ⟨_, true, rfl, rfl, ?_⟩
            first | refine s1 ?_ | refine q1 ?_
            refine ARg.nil (ATh.normal ?_)
            refine ARA.any [4, 6, 15] (by kernel_rfl) (by simp) ?_
            intro k hk
            simp only [List.mem_cons, List.not_mem_nil, or_false] at hk
            rcases hk with rfl | rfl | rfl
            · refine ⟨_, false, rfl, rfl, ?_⟩
              first | refine s1 ?_ | refine F.m [2] (hR2) ?_
              refine ARg.nil (ATh.normal ?_)
              refine ARA.any [6, 15] (by kernel_rfl) (by simp) ?_
              intro k hk
              simp only [List.mem_cons, List.not_mem_nil, or_false] at hk
              rcases hk with rfl | rfl
              · refine ⟨_, true, rfl, rfl, ?_⟩
                first | refine s1 ?_ | refine q1 ?_
                refine ARg.nil (ATh.normal ?_)
                refine ARA.any [8, 15] (by kernel_rfl) (by simp) ?_
                intro k hk
                simp only [List.mem_cons, List.not_mem_nil, or_false] at hk
                rcases hk with rfl | rfl
                · refine ⟨_, false, rfl, rfl, ?_⟩
                  first | refine s1 ?_ | refine F.m [2] (hR2) ?_
                  refine ARg.nil (ATh.normal ?_)
                  first | refine dP 10 ?_ | refine dQ 10 ?_
                  refine ARA.any [11, 15] (by kernel_rfl) (by simp) ?_
                  intro k hk
                  simp only [List.mem_cons, List.not_mem_nil, or_false] at hk
                  rcases hk with rfl | rfl
                  · refine ⟨_, true, rfl, rfl, ?_⟩
                    first | refine s1 ?_ | refine q1 ?_
                    refine ARg.nil (ATh.normal ?_)
                    refine dO 15 true ?_
                    first | refine s1 ?_ | refine q1 ?_
                    refine ARg.nil (ATh.normal ?_)
                    first | refine dP 16 ?_ | refine dQ 16 ?_
                    refine dO 17 false ?_
                    first | refine s1 ?_ | refine q1 ?_
                    refine ARg.nil (ATh.normal ?_)
                    first | refine dP 18 ?_ | refine dQ 18 ?_
                    refine dO 19 false ?_
                    first | refine s1 ?_ | refine q1 ?_
                    refine ARg.nil (ATh.normal ?_)
                    refine dN ?_
                    repeat' first | refine s1 ?_ | refine q1 ?_ | fail
                    exact ⟨j + 1, F.fit ⟨rfl, trivial⟩ ⟨obE (by rw [swK_at, swK_at, swK_set]), trivial⟩, by omega, by omega⟩
                  · refine ⟨_, true, rfl, rfl, ?_⟩
                    first | refine s1 ?_ | refine q1 ?_
                    refine ARg.nil (ATh.normal ?_)
                    refine dO 11 true ?_
                    first | refine s1 ?_ | refine q1 ?_
                    refine ARg.nil (ATh.normal ?_)
                    first | refine dP 16 ?_ | refine dQ 16 ?_
                    refine dO 17 false ?_
                    first | refine s1 ?_ | refine q1 ?_
                    refine ARg.nil (ATh.normal ?_)
                    first | refine dP 18 ?_ | refine dQ 18 ?_
                    refine dO 19 false ?_
                    first | refine s1 ?_ | refine q1 ?_
                    refine ARg.nil (ATh.normal ?_)
                    refine dN ?_
                    repeat' first | refine s1 ?_ | refine q1 ?_ | fail
                    exact ⟨j + 1, F.fit ⟨rfl, trivial⟩ ⟨obE (by rw [swK_at, swK_at, swK_set]), trivial⟩, by omega, by omega⟩
                · refine ⟨_, true, rfl, rfl, ?_⟩
                  first | refine s1 ?_ | refine q1 ?_
                  refine ARg.nil (ATh.normal ?_)
                  refine dO 8 false ?_
                  first | refine s1 ?_ | refine F.m [2] (hR2) ?_
                  refine ARg.nil (ATh.normal ?_)
                  first | refine dP 10 ?_ | refine dQ 10 ?_
                  refine dO 11 true ?_
                  first | refine s1 ?_ | refine q1 ?_
                  refine ARg.nil (ATh.normal ?_)
                  first | refine dP 16 ?_ | refine dQ 16 ?_
                  refine dO 17 false ?_
                  first | refine s1 ?_ | refine q1 ?_
                  refine ARg.nil (ATh.normal ?_)
                  first | refine dP 18 ?_ | refine dQ 18 ?_
                  refine dO 19 false ?_
                  first | refine s1 ?_ | refine q1 ?_
                  refine ARg.nil (ATh.normal ?_)
                  refine dN ?_
                  repeat' first | refine s1 ?_ | refine q1 ?_ | fail
                  exact ⟨j + 1, F.fit ⟨rfl, trivial⟩ ⟨obE (by rw [swK_at, swK_at, swK_set]), trivial⟩, by omega, by omega⟩
              · refine ⟨_, true, rfl, rfl, ?_⟩
                first | refine s1 ?_ | refine q1 ?_
                refine ARg.nil (ATh.normal ?_)
                refine dO 6 true ?_
                first | refine s1 ?_ | refine q1 ?_
                refine ARg.nil (ATh.normal ?_)
                refine dO 8 false ?_
                first | refine s1 ?_ | refine F.m [2] (hR2) ?_
                refine ARg.nil (ATh.normal ?_)
                first | refine dP 10 ?_ | refine dQ 10 ?_
                refine dO 11 true ?_
                first | refine s1 ?_ | refine q1 ?_
                refine ARg.nil (ATh.normal ?_)
                first | refine dP 16 ?_ | refine dQ 16 ?_
                refine dO 17 false ?_
                first | refine s1 ?_ | refine q1 ?_
                refine ARg.nil (ATh.normal ?_)
                first | refine dP 18 ?_ | refine dQ 18 ?_
                refine dO 19 false ?_
                first | refine s1 ?_ | refine q1 ?_
                refine ARg.nil (ATh.normal ?_)
                refine dN ?_
                repeat' first | refine s1 ?_ | refine q1 ?_ | fail
                exact ⟨j + 1, F.fit ⟨rfl, trivial⟩ ⟨obE (by rw [swK_at, swK_at, swK_set]), trivial⟩, by omega, by omega⟩
            · refine ⟨_, true, rfl, rfl, ?_⟩
              first | refine s1 ?_ | refine q1 ?_
              refine ARg.nil (ATh.normal ?_)
              refine ARA.any [4, 15] (by kernel_rfl) (by simp) ?_
              intro k hk
              simp only [List.mem_cons, List.not_mem_nil, or_false] at hk
              rcases hk with rfl | rfl
              · refine ⟨_, false, rfl, rfl, ?_⟩
                first | refine s1 ?_ | refine F.m [2] (hR2) ?_
                refine ARg.nil (ATh.normal ?_)
                refine ARA.any [8, 15] (by kernel_rfl) (by simp) ?_
                intro k hk
                simp only [List.mem_cons, List.not_mem_nil, or_false] at hk
                rcases hk with rfl | rfl
                · refine ⟨_, false, rfl, rfl, ?_⟩
                  first | refine s1 ?_ | refine F.m [2] (hR2) ?_
                  refine ARg.nil (ATh.normal ?_)
                  first | refine dP 10 ?_ | refine dQ 10 ?_
                  refine ARA.any [11, 15] (by kernel_rfl) (by simp) ?_
                  intro k hk
                  simp only [List.mem_cons, List.not_mem_nil, or_false] at hk
                  rcases hk with rfl | rfl
                  · refine ⟨_, true, rfl, rfl, ?_⟩
                    first | refine s1 ?_ | refine q1 ?_
                    refine ARg.nil (ATh.normal ?_)
                    refine dO 15 true ?_
                    first | refine s1 ?_ | refine q1 ?_
                    refine ARg.nil (ATh.normal ?_)
                    first | refine dP 16 ?_ | refine dQ 16 ?_
                    refine dO 17 false ?_
                    first | refine s1 ?_ | refine q1 ?_
                    refine ARg.nil (ATh.normal ?_)
                    first | refine dP 18 ?_ | refine dQ 18 ?_
                    refine dO 19 false ?_
                    first | refine s1 ?_ | refine q1 ?_
                    refine ARg.nil (ATh.normal ?_)
                    refine dN ?_
                    repeat' first | refine s1 ?_ | refine q1 ?_ | fail
                    exact ⟨j + 1, F.fit ⟨rfl, trivial⟩ ⟨obE (by rw [swK_at, swK_at, swK_set]), trivial⟩, by omega, by omega⟩
                  · refine ⟨_, true, rfl, rfl, ?_⟩
                    first | refine s1 ?_ | refine q1 ?_
                    refine ARg.nil (ATh.normal ?_)
                    refine dO 11 true ?_
                    first | refine s1 ?_ | refine q1 ?_
                    refine ARg.nil (ATh.normal ?_)
                    first | refine dP 16 ?_ | refine dQ 16 ?_
                    refine dO 17 false ?_
                    first | refine s1 ?_ | refine q1 ?_
                    refine ARg.nil (ATh.normal ?_)
                    first | refine dP 18 ?_ | refine dQ 18 ?_
                    refine dO 19 false ?_
                    first | refine s1 ?_ | refine q1 ?_
                    refine ARg.nil (ATh.normal ?_)
                    refine dN ?_
                    repeat' first | refine s1 ?_ | refine q1 ?_ | fail
                    exact ⟨j + 1, F.fit ⟨rfl, trivial⟩ ⟨obE (by rw [swK_at, swK_at, swK_set]), trivial⟩, by omega, by omega⟩
                · refine ⟨_, true, rfl, rfl, ?_⟩
                  first | refine s1 ?_ | refine q1 ?_
                  refine ARg.nil (ATh.normal ?_)
                  refine dO 8 false ?_
                  first | refine s1 ?_ | refine F.m [2] (hR2) ?_
                  refine ARg.nil (ATh.normal ?_)
                  first | refine dP 10 ?_ | refine dQ 10 ?_
                  refine dO 11 true ?_
                  first | refine s1 ?_ | refine q1 ?_
                  refine ARg.nil (ATh.normal ?_)
                  first | refine dP 16 ?_ | refine dQ 16 ?_
                  refine dO 17 false ?_
                  first | refine s1 ?_ | refine q1 ?_
                  refine ARg.nil (ATh.normal ?_)
                  first | refine dP 18 ?_ | refine dQ 18 ?_
                  refine dO 19 false ?_
                  first | refine s1 ?_ | refine q1 ?_
                  refine ARg.nil (ATh.normal ?_)
                  refine dN ?_
                  repeat' first | refine s1 ?_ | refine q1 ?_ | fail
                  exact ⟨j + 1, F.fit ⟨rfl, trivial⟩ ⟨obE (by rw [swK_at, swK_at, swK_set]), trivial⟩, by omega, by omega⟩
              · refine ⟨_, true, rfl, rfl, ?_⟩
                first | refine s1 ?_ | refine q1 ?_
                refine ARg.nil (ATh.normal ?_)
                refine dO 4 false ?_
                first | refine s1 ?_ | refine F.m [2] (hR2) ?_
                refine ARg.nil (ATh.normal ?_)
                refine dO 8 false ?_
                first | refine s1 ?_ | refine F.m [2] (hR2) ?_
                refine ARg.nil (ATh.normal ?_)
                first | refine dP 10 ?_ | refine dQ 10 ?_
                refine dO 11 true ?_
                first | refine s1 ?_ | refine q1 ?_
                refine ARg.nil (ATh.normal ?_)
                first | refine dP 16 ?_ | refine dQ 16 ?_
                refine dO 17 false ?_
                first | refine s1 ?_ | refine q1 ?_
                refine ARg.nil (ATh.normal ?_)
                first | refine dP 18 ?_ | refine dQ 18 ?_
                refine dO 19 false ?_
                first | refine s1 ?_ | refine q1 ?_
                refine ARg.nil (ATh.normal ?_)
                refine dN ?_
                repeat' first | refine s1 ?_ | refine q1 ?_ | fail
                exact ⟨j + 1, F.fit ⟨rfl, trivial⟩ ⟨obE (by rw [swK_at, swK_at, swK_set]), trivial⟩, by omega, by omega⟩
            · refine ⟨_, true, rfl, rfl, ?_⟩
              first | refine s1 ?_ | refine q1 ?_
              refine ARg.nil (ATh.normal ?_)
              refine ARA.any [4, 6] (by kernel_rfl) (by simp) ?_
              intro k hk
              simp only [List.mem_cons, List.not_mem_nil, or_false] at hk
              rcases hk with rfl | rfl
              · refine ⟨_, false, rfl, rfl, ?_⟩
                first | refine s1 ?_ | refine F.m [2] (hR2) ?_
                refine ARg.nil (ATh.normal ?_)
                refine dO 6 true ?_
                first | refine s1 ?_ | refine q1 ?_
                refine ARg.nil (ATh.normal ?_)
                refine dO 8 false ?_
                first | refine s1 ?_ | refine F.m [2] (hR2) ?_
                refine ARg.nil (ATh.normal ?_)
                first | refine dP 10 ?_ | refine dQ 10 ?_
                refine dO 11 true ?_
                first | refine s1 ?_ | refine q1 ?_
                refine ARg.nil (ATh.normal ?_)
                first | refine dP 16 ?_ | refine dQ 16 ?_
                refine dO 17 false ?_
                first | refine s1 ?_ | refine q1 ?_
                refine ARg.nil (ATh.normal ?_)
                first | refine dP 18 ?_ | refine dQ 18 ?_
                refine dO 19 false ?_
                first | refine s1 ?_ | refine q1 ?_
                refine ARg.nil (ATh.normal ?_)
                refine dN ?_
                repeat' first | refine s1 ?_ | refine q1 ?_ | fail
                exact ⟨j + 1, F.fit ⟨rfl, trivial⟩ ⟨obE (by rw [swK_at, swK_at, swK_set]), trivial⟩, by omega, by omega⟩
              · refine ⟨_, true, rfl, rfl, ?_⟩
                first | refine s1 ?_ | refine q1 ?_
                refine ARg.nil (ATh.normal ?_)
                refine dO 4 false ?_
                first | refine s1 ?_ | refine F.m [2] (hR2) ?_
                refine ARg.nil (ATh.normal ?_)
                refine dO 8 false ?_
                first | refine s1 ?_ | refine F.m [2] (hR2) ?_
                refine ARg.nil (ATh.normal ?_)
                first | refine dP 10 ?_ | refine dQ 10 ?_
                refine dO 11 true ?_
                first | refine s1 ?_ | refine q1 ?_
                refine ARg.nil (ATh.normal ?_)
                first | refine dP 16 ?_ | refine dQ 16 ?_
                refine dO 17 false ?_
                first | refine s1 ?_ | refine q1 ?_
                refine ARg.nil (ATh.normal ?_)
                first | refine dP 18 ?_ | refine dQ 18 ?_
                refine dO 19 false ?_
                first | refine s1 ?_ | refine q1 ?_
                refine ARg.nil (ATh.normal ?_)
                refine dN ?_
                repeat' first | refine s1 ?_ | refine q1 ?_ | fail
                exact ⟨j + 1, F.fit ⟨rfl, trivial⟩ ⟨obE (by rw [swK_at, swK_at, swK_set]), trivial⟩, by omega, by omega⟩
          · refine ⟨_, true, rfl, rfl, ?_⟩
            first | refine s1 ?_ | refine q1 ?_
            refine ARg.nil (ATh.normal ?_)
            refine ARA.any [2, 15] (by kernel_rfl) (by simp) ?_
            intro k hk
            simp only [List.mem_cons, List.not_mem_nil, or_false] at hk
            rcases hk with rfl | rfl
            · refine ⟨_, true, rfl, rfl, ?_⟩
              first | refine s1 ?_ | refine q1 ?_
              refine ARg.nil (ATh.normal ?_)
              refine ARA.any [4, 15] (by kernel_rfl) (by simp) ?_
              intro k hk
              simp only [List.mem_cons, List.not_mem_nil, or_false] at hk
              rcases hk with rfl | rfl
              · refine ⟨_, false, rfl, rfl, ?_⟩
                first | refine s1 ?_ | refine F.m [2] (hR2) ?_
                refine ARg.nil (ATh.normal ?_)
                refine ARA.any [8, 15] (by kernel_rfl) (by simp) ?_
                intro k hk
                simp only [List.mem_cons, List.not_mem_nil, or_false] at hk
                rcases hk with rfl | rfl
                · refine ⟨_, false, rfl, rfl, ?_⟩
                  first | refine s1 ?_ | refine F.m [2] (hR2) ?_
                  refine ARg.nil (ATh.normal ?_)
                  first | refine dP 10 ?_ | refine dQ 10 ?_
                  refine ARA.any [11, 15] (by kernel_rfl) (by simp) ?_
                  intro k hk
                  simp only [List.mem_cons, List.not_mem_nil, or_false] at hk
                  rcases hk with rfl | rfl
                  · refine ⟨_, true, rfl, rfl, ?_⟩
                    first | refine s1 ?_ | refine q1 ?_
                    refine ARg.nil (ATh.normal ?_)
                    refine dO 15 true ?_
                    first | refine s1 ?_ | refine q1 ?_
                    refine ARg.nil (ATh.normal ?_)
                    first | refine dP 16 ?_ | refine dQ 16 ?_
                    refine dO 17 false ?_
                    first | refine s1 ?_ | refine q1 ?_
                    refine ARg.nil (ATh.normal ?_)
                    first | refine dP 18 ?_ | refine dQ 18 ?_
                    refine dO 19 false ?_
                    first | refine s1 ?_ | refine q1 ?_
                    refine ARg.nil (ATh.normal ?_)
                    refine dN ?_
                    repeat' first | refine s1 ?_ | refine q1 ?_ | fail
                    exact ⟨j + 1, F.fit ⟨rfl, trivial⟩ ⟨obE (by rw [swK_at, swK_at, swK_set]), trivial⟩, by omega, by omega⟩
                  · refine ⟨_, true, rfl, rfl, ?_⟩
                    first | refine s1 ?_ | refine q1 ?_
                    refine ARg.nil (ATh.normal ?_)
                    refine dO 11 true ?_
                    first | refine s1 ?_ | refine q1 ?_
                    refine ARg.nil (ATh.normal ?_)
                    first | refine dP 16 ?_ | refine dQ 16 ?_
                    refine dO 17 false ?_
                    first | refine s1 ?_ | refine q1 ?_
                    refine ARg.nil (ATh.normal ?_)
                    first | refine dP 18 ?_ | refine dQ 18 ?_
                    refine dO 19 false ?_
                    first | refine s1 ?_ | refine q1 ?_
                    refine ARg.nil (ATh.normal ?_)
                    refine dN ?_
                    repeat' first | refine s1 ?_ | refine q1 ?_ | fail
                    exact ⟨j + 1, F.fit ⟨rfl, trivial⟩ ⟨obE (by rw [swK_at, swK_at, swK_set]), trivial⟩, by omega, by omega⟩
                · refine ⟨_, true, rfl, rfl, ?_⟩
                  first | refine s1 ?_ | refine q1 ?_
                  refine ARg.nil (ATh.normal ?_)
                  refine dO 8 false ?_
                  first | refine s1 ?_ | refine F.m [2] (hR2) ?_
                  refine ARg.nil (ATh.normal ?_)
                  first | refine dP 10 ?_ | refine dQ 10 ?_
                  refine dO 11 true ?_
                  first | refine s1 ?_ | refine q1 ?_
                  refine ARg.nil (ATh.normal ?_)
                  first | refine dP 16 ?_ | refine dQ 16 ?_
                  refine dO 17 false ?_
                  first | refine s1 ?_ | refine q1 ?_
                  refine ARg.nil (ATh.normal ?_)
                  first | refine dP 18 ?_ | refine dQ 18 ?_
                  refine dO 19 false ?_
                  first | refine s1 ?_ | refine q1 ?_
                  refine ARg.nil (ATh.normal ?_)
                  refine dN ?_
                  repeat' first | refine s1 ?_ | refine q1 ?_ | fail
                  exact ⟨j + 1, F.fit ⟨rfl, trivial⟩ ⟨obE (by rw [swK_at, swK_at, swK_set]), trivial⟩, by omega, by omega⟩
              · refine ⟨_, true, rfl, rfl, ?_⟩
                first | refine s1 ?_ | refine q1 ?_
                refine ARg.nil (ATh.normal ?_)
                refine dO 4 false ?_
                first | refine s1 ?_ | refine F.m [2] (hR2) ?_
                refine ARg.nil (ATh.normal ?_)
                refine dO 8 false ?_
                first | refine s1 ?_ | refine F.m [2] (hR2) ?_
                refine ARg.nil (ATh.normal ?_)
                first | refine dP 10 ?_ | refine dQ 10 ?_
                refine dO 11 true ?_
                first | refine s1 ?_ | refine q1 ?_
                refine ARg.nil (ATh.normal ?_)
                first | refine dP 16 ?_ | refine dQ 16 ?_
                refine dO 17 false ?_
                first | refine s1 ?_ | refine q1 ?_
                refine ARg.nil (ATh.normal ?_)
                first | refine dP 18 ?_ | refine dQ 18 ?_
                refine dO 19 false ?_
                first | refine s1 ?_ | refine q1 ?_
                refine ARg.nil (ATh.normal ?_)
                refine dN ?_
                repeat' first | refine s1 ?_ | refine q1 ?_ | fail
                exact ⟨j + 1, F.fit ⟨rfl, trivial⟩ ⟨obE (by rw [swK_at, swK_at, swK_set]), trivial⟩, by omega, by omega⟩
            · refine ⟨_, true, rfl, rfl, ?_⟩
              first | refine s1 ?_ | refine q1 ?_
              refine ARg.nil (ATh.normal ?_)
              refine dO 2 true ?_
              first | refine s1 ?_ | refine q1 ?_
              refine ARg.nil (ATh.normal ?_)
              refine dO 4 false ?_
              first | refine s1 ?_ | refine F.m [2] (hR2) ?_
              refine ARg.nil (ATh.normal ?_)
              refine dO 8 false ?_
              first | refine s1 ?_ | refine F.m [2] (hR2) ?_
              refine ARg.nil (ATh.normal ?_)
              first | refine dP 10 ?_ | refine dQ 10 ?_
              refine dO 11 true ?_
              first | refine s1 ?_ | refine q1 ?_
              refine ARg.nil (ATh.normal ?_)
              first | refine dP 16 ?_ | refine dQ 16 ?_
              refine dO 17 false ?_
              first | refine s1 ?_ | refine q1 ?_
              refine ARg.nil (ATh.normal ?_)
              first | refine dP 18 ?_ | refine dQ 18 ?_
              refine dO 19 false ?_
              first | refine s1 ?_ | refine q1 ?_
              refine ARg.nil (ATh.normal ?_)
              refine dN ?_
              repeat' first | refine s1 ?_ | refine q1 ?_ | fail
              exact ⟨j + 1, F.fit ⟨rfl, trivial⟩ ⟨obE (by rw [swK_at, swK_at, swK_set]), trivial⟩, by omega, by omega⟩
          · refine ⟨_, true, rfl, rfl, ?_⟩
            first | refine s1 ?_ | refine q1 ?_
            refine ARg.nil (ATh.normal ?_)
            refine ARA.any [2, 6] (by kernel_rfl) (by simp) ?_
            intro k hk
            simp only [List.mem_cons, List.not_mem_nil, or_false] at hk
            rcases hk with rfl | rfl
            · refine ⟨_, true, rfl, rfl, ?_⟩
              first | refine s1 ?_ | refine q1 ?_
              refine ARg.nil (ATh.normal ?_)
              refine ARA.any [4, 6] (by kernel_rfl) (by simp) ?_
              intro k hk
              simp only [List.mem_cons, List.not_mem_nil, or_false] at hk
              rcases hk with rfl | rfl
              · refine ⟨_, false, rfl, rfl, ?_⟩
                first | refine s1 ?_ | refine F.m [2] (hR2) ?_
                refine ARg.nil (ATh.normal ?_)
                refine dO 6 true ?_
                first | refine s1 ?_ | refine q1 ?_
                refine ARg.nil (ATh.normal ?_)
                refine dO 8 false ?_
                first | refine s1 ?_ | refine F.m [2] (hR2) ?_
                refine ARg.nil (ATh.normal ?_)
                first | refine dP 10 ?_ | refine dQ 10 ?_
                refine dO 11 true ?_
                first | refine s1 ?_ | refine q1 ?_
                refine ARg.nil (ATh.normal ?_)
                first | refine dP 16 ?_ | refine dQ 16 ?_
                refine dO 17 false ?_
                first | refine s1 ?_ | refine q1 ?_
                refine ARg.nil (ATh.normal ?_)
                first | refine dP 18 ?_ | refine dQ 18 ?_
                refine dO 19 false ?_
                first | refine s1 ?_ | refine q1 ?_
                refine ARg.nil (ATh.normal ?_)
                refine dN ?_
                repeat' first | refine s1 ?_ | refine q1 ?_ | fail
                exact ⟨j + 1, F.fit ⟨rfl, trivial⟩ ⟨obE (by rw [swK_at, swK_at, swK_set]), trivial⟩, by omega, by omega⟩
              · refine ⟨_, true, rfl, rfl, ?_⟩
                first | refine s1 ?_ | refine q1 ?_
                refine ARg.nil (ATh.normal ?_)
                refine dO 4 false ?_
                first | refine s1 ?_ | refine F.m [2] (hR2) ?_
                refine ARg.nil (ATh.normal ?_)
                refine dO 8 false ?_
                first | refine s1 ?_ | refine F.m [2] (hR2) ?_
                refine ARg.nil (ATh.normal ?_)
                first | refine dP 10 ?_ | refine dQ 10 ?_
                refine dO 11 true ?_
                first | refine s1 ?_ | refine q1 ?_
                refine ARg.nil (ATh.normal ?_)
                first | refine dP 16 ?_ | refine dQ 16 ?_
                refine dO 17 false ?_
                first | refine s1 ?_ | refine q1 ?_
                refine ARg.nil (ATh.normal ?_)
                first | refine dP 18 ?_ | refine dQ 18 ?_
                refine dO 19 false ?_
                first | refine s1 ?_ | refine q1 ?_
                refine ARg.nil (ATh.normal ?_)
                refine dN ?_
                repeat' first | refine s1 ?_ | refine q1 ?_ | fail
                exact ⟨j + 1, F.fit ⟨rfl, trivial⟩ ⟨obE (by rw [swK_at, swK_at, swK_set]), trivial⟩, by omega, by omega⟩
            · refine ⟨_, true, rfl, rfl, ?_⟩
              first | refine s1 ?_ | refine q1 ?_
              refine ARg.nil (ATh.normal ?_)
              refine dO 2 true ?_
              first | refine s1 ?_ | refine q1 ?_
              refine ARg.nil (ATh.normal ?_)
              refine dO 4 false ?_
              first | refine s1 ?_ | refine F.m [2] (hR2) ?_
              refine ARg.nil (ATh.normal ?_)
              refine dO 8 false ?_
              first | refine s1 ?_ | refine F.m [2] (hR2) ?_
              refine ARg.nil (ATh.normal ?_)
              first | refine dP 10 ?_ | refine dQ 10 ?_
              refine dO 11 true ?_
              first | refine s1 ?_ | refine q1 ?_
              refine ARg.nil (ATh.normal ?_)
              first | refine dP 16 ?_ | refine dQ 16 ?_
              refine dO 17 false ?_
              first | refine s1 ?_ | refine q1 ?_
              refine ARg.nil (ATh.normal ?_)
              first | refine dP 18 ?_ | refine dQ 18 ?_
              refine dO 19 false ?_
              first | refine s1 ?_ | refine q1 ?_
              refine ARg.nil (ATh.normal ?_)
              refine dN ?_
              repeat' first | refine s1 ?_ | refine q1 ?_ | fail
              exact ⟨j + 1, F.fit ⟨rfl, trivial⟩ ⟨obE (by rw [swK_at, swK_at, swK_set]), trivial⟩, by omega, by omega⟩
        · obtain rfl : j = c := by omega
          rw [swK_all]
          generalize swapF g t u = f1 at hs hsw ⊢
          have hx := hsw t htr k hk
          have hV := implInverseMod_a p (f1 t k) hf hx
          have hvb := invP_bd hf hx
          generalize invP p (f1 t k) = s at hs hV hvb
          repeat' first | refine s1 ?_ | refine q1 ?_ | (refine kR ?_; first | refine F.c (hV) ?_) | fail
          refine F.loop (σ := Nat) [12, 78, 79, 80, 81, 82, 83, 84, 85, 86, 87, 88, 89, 90, 91, 92] (fun l => [(78, .i l)]) (fun l => [(2, .live false 1 (E true (tab r j (scK p f1 t s l))))]) (fun l => l ≤ j) (fun l => j - l) 0 ⟨rfl, trivial⟩ ⟨obE (by rw [scK_zero]), trivial⟩ (Nat.zero_le _) ?_
          rintro l l1
          by_cases hl : l < j
          · have hy := hsw t htr l hl
            have hm := in64_4 (x := f1 t l) (y := s) (by omega) (by omega)
            have e1 := scK_at p f1 t s l t
            have hmi : In64 (scK p f1 t s l t l * s) := by rw [e1]; unfold In64; omega
            have hmn : 0 ≤ scK p f1 t s l t l * s := by rw [e1]; omega
            repeat' first | refine s1 ?_ | refine q1 ?_ | fail
            exact ⟨l + 1, F.fit ⟨rfl, trivial⟩ ⟨obE (by rw [e1, scK_set]), trivial⟩, by omega, by omega⟩
          · obtain rfl : l = j := by omega
            rw [scK_all]
            have hsc := hsw.scale (s := s) (t := t) (show 0 < p by omega)
            generalize scaleF p f1 t s = f2 at hs hsc ⊢
            repeat' first | refine s1 ?_ | refine q1 ?_ | fail
            refine F.loop (σ := Nat) [13, 95, 96, 97, 98, 99, 100, 101, 102, 103, 104, 105, 106, 107, 108, 109, 110, 111, 112, 113, 114, 115, 116] (fun i => [(95, .i i)]) (fun i => [(2, .live false 1 (E true (tab r l (clK p f2 t k i 0))))]) (fun i => i ≤ r) (fun i => r - i) 0 ⟨rfl, trivial⟩ ⟨obE (by rw [clK_zero]), trivial⟩ (Nat.zero_le _) ?_
            rintro i i3
            by_cases hi : i < r
            · by_cases hit : i = t
              · repeat' first | refine s1 ?_ | refine q1 ?_ | fail
                exact ⟨i + 1, F.fit ⟨rfl, trivial⟩ ⟨obE (by rw [← hit, clK_own]), trivial⟩, by omega, by omega⟩
              · have hR3 := row_m r l i (clK p f2 t k i 0) _ hN hi hr hc
                have hcb := clK_bd hsc (show 0 < p by omega) t k i 0
                have hx2 := hcb i hi k hk
                have hA := addMulQS_m p (p - clK p f2 t k i 0 i k) r l i t (tab r l f).length (clK p f2 t k i 0) hN hi htr hit (by omega) (by omega) hcb (by rw [hN]; exact hNb)
                rw [clK_addR p f2 t k i hit] at hA
                repeat' first | refine s1 ?_ | refine q1 ?_ | fail
                refine AW.draw 1 G.mixed (by kernel_rfl) ?_
                refine dP 0 ?_
                refine dP 2 ?_
                refine dP 4 ?_
                refine dP 6 ?_
                refine dP 8 ?_
                refine dP 12 ?_
                refine ARA.any [1, 5] (by kernel_rfl) (by simp) ?_
                intro k hk
                simp only [List.mem_cons, List.not_mem_nil, or_false] at hk
                rcases hk with rfl | rfl
                · refine ⟨_, true, rfl, rfl, ?_⟩
                  first | refine s1 ?_ | refine q1 ?_
                  refine ARg.nil (ATh.normal ?_)
                  refine ARA.any [3, 5] (by kernel_rfl) (by simp) ?_
                  intro k hk
                  simp only [List.mem_cons, List.not_mem_nil, or_false] at hk
                  rcases hk with rfl | rfl
                  · refine ⟨_, false, rfl, rfl, ?_⟩
                    first | refine s1 ?_ | refine F.m [2] (hR3) ?_
                    refine ARg.nil (ATh.normal ?_)
                    refine dO 5 true ?_
                    first | refine s1 ?_ | refine q1 ?_
                    refine ARg.nil (ATh.normal ?_)
                    refine dO 7 false ?_
                    first | refine s1 ?_ | refine F.m [2] (hR3) ?_
                    refine ARg.nil (ATh.normal ?_)
                    first | refine dP 9 ?_ | refine dQ 9 ?_
                    refine dO 10 true ?_
                    first | refine s1 ?_ | refine q1 ?_
                    refine ARg.nil (ATh.normal ?_)
                    refine dP 11 ?_
                    refine dO 13 false ?_
                    first | refine s1 ?_ | refine F.m [2] (hA) ?_
                    refine ARg.nil (ATh.normal ?_)
                    refine dN ?_
                    repeat' first | refine s1 ?_ | refine q1 ?_ | fail
                    exact ⟨i + 1, F.fit ⟨rfl, trivial⟩ ⟨rfl, trivial⟩, by omega, by omega⟩
                  · refine ⟨_, true, rfl, rfl, ?_⟩
                    first | refine s1 ?_ | refine q1 ?_
                    refine ARg.nil (ATh.normal ?_)
                    refine dO 3 false ?_
                    first | refine s1 ?_ | refine F.m [2] (hR3) ?_
                    refine ARg.nil (ATh.normal ?_)
                    refine dO 7 false ?_
                    first | refine s1 ?_ | refine F.m [2] (hR3) ?_
                    refine ARg.nil (ATh.normal ?_)
                    first | refine dP 9 ?_ | refine dQ 9 ?_
                    refine dO 10 true ?_
                    first | refine s1 ?_ | refine q1 ?_
                    refine ARg.nil (ATh.normal ?_)
                    refine dP 11 ?_
                    refine dO 13 false ?_
                    first | refine s1 ?_ | refine F.m [2] (hA) ?_
                    refine ARg.nil (ATh.normal ?_)
                    refine dN ?_
                    repeat' first | refine s1 ?_ | refine q1 ?_ | fail
                    exact ⟨i + 1, F.fit ⟨rfl, trivial⟩ ⟨rfl, trivial⟩, by omega, by omega⟩
                · refine ⟨_, true, rfl, rfl, ?_⟩
                  first | refine s1 ?_ | refine q1 ?_
                  refine ARg.nil (ATh.normal ?_)
                  refine dO 1 true ?_
                  first | refine s1 ?_ | refine q1 ?_
                  refine ARg.nil (ATh.normal ?_)
                  refine dO 3 false ?_
                  first | refine s1 ?_ | refine F.m [2] (hR3) ?_
                  refine ARg.nil (ATh.normal ?_)
                  refine dO 7 false ?_
                  first | refine s1 ?_ | refine F.m [2] (hR3) ?_
                  refine ARg.nil (ATh.normal ?_)
                  first | refine dP 9 ?_ | refine dQ 9 ?_
                  refine dO 10 true ?_
                  first | refine s1 ?_ | refine q1 ?_
                  refine ARg.nil (ATh.normal ?_)
                  refine dP 11 ?_
                  refine dO 13 false ?_
                  first | refine s1 ?_ | refine F.m [2] (hA) ?_
                  refine ARg.nil (ATh.normal ?_)
                  refine dN ?_
                  repeat' first | refine s1 ?_ | refine q1 ?_ | fail
                  exact ⟨i + 1, F.fit ⟨rfl, trivial⟩ ⟨rfl, trivial⟩, by omega, by omega⟩
            · obtain rfl : i = r := by omega
              rw [clK_all]
              repeat' first | refine s1 ?_ | refine q1 ?_ | (refine kR ?_; first | refine F.a1 Int ?_) | fail
              exact ⟨k + 1, F.fit ⟨slE (by rw [hs]; simp; omega), rfl, trivial⟩ ⟨obE (by rw [hs]), obE (by rw [hs, ints_snoc]), trivial⟩, by omega, by omega⟩
    · have hur : u = r := by omega
      have hs : redK p r f (k + 1) = (g, piv) := by
        have : findR g k (r - t) t = r := by rw [← u3, hur, Nat.sub_self]; rfl
        rw [hstep, stepE]; simp only [htt]; rw [if_pos this]
      repeat' first | refine s1 ?_ | refine q1 ?_ | fail
      exact ⟨k + 1, F.fit ⟨slE (by rw [hs, htt]), rfl, trivial⟩ ⟨obE (by rw [hs]), obE (by rw [hs]), trivial⟩, by omega, by omega⟩
  · obtain rfl : k = c := by omega
    rw [hRR]
    repeat' first | refine s1 ?_ | refine q1 ?_ | fail
    (refine kZ ?_; exact F.ret rfl)
end Go.Proofs.YtedjajokbdokhaaGreat.V
