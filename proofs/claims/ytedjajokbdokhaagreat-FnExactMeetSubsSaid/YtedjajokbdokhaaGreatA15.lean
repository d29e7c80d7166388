/- Contract: the reference's reduced form by rows. -/
import Derived.Test.YtedjajokbdokhaaGreatUq
import Derived.Test.YtedjajokbdokhaaGreatB2
namespace Go.Proofs.YtedjajokbdokhaaGreat.V
open V.Enc (enc)
open Go.RowKit G D
set_option linter.unusedVariables false
set_option linter.unusedSimpArgs false
set_option maxHeartbeats 4000000
set_option maxRecDepth 4000
attribute [local irreducible] AW ARg ARA ARet MRet ASil AC AM

/-- numbers of columns -/
def ints (l : List Nat) : List Int := l.map fun (n : Nat) => (n : Int)
theorem ints_len (l : List Nat) : (ints l).length = l.length := by simp [ints]
attribute [simp] ints_len
theorem ints_snoc (l : List Nat) (k : Nat) : ints (l ++ [k]) = ints l ++ [(k : Int)] := by simp [ints]
theorem ints_get (l : List Nat) {i : Nat} (h : i < l.length) : (ints l).getD i default = ((l.getD i default : Nat) : Int) := by simp [ints, h]
theorem tab_le {r c : Nat} (hr : r ≤ 1024) (hc : c ≤ 1024) : r * c ≤ 1048576 := Nat.mul_le_mul hr hc
/-- where the search stands -/
def atV (f : Nat → Nat → Int) (k r u : Nat) : Int := if findR f k (r - u) u = r then -1 else (findR f k (r - u) u : Nat)
theorem atV_end (f : Nat → Nat → Int) (k r : Nat) : atV f k r r = -1 := by simp [atV, findR]
theorem atV_hit {f : Nat → Nat → Int} {k r i : Nat} (hi : i < r) (h : f i k ≠ 0) : atV f k r i = i := by
  have e : r - i = (r - (i + 1)) + 1 := by omega
  unfold atV
  rw [e, findR, if_neg h, if_neg (by omega)]
theorem atV_miss {f : Nat → Nat → Int} {k r i : Nat} (hi : i < r) (h : f i k = 0) : atV f k r i = atV f k r (i + 1) := by
  have e : r - i = (r - (i + 1)) + 1 := by omega
  unfold atV
  rw [e, findR, if_pos h]
theorem in64_4 {x y : Int} (hx : 0 ≤ x ∧ x ≤ 4) (hy : 0 ≤ y ∧ y ≤ 4) : 0 ≤ x * y ∧ x * y ≤ 16 :=
  ⟨Int.mul_nonneg hx.1 hy.1, Int.le_trans (Int.mul_le_mul hx.2 hy.2 hy.1 (by omega)) (by omega)⟩
theorem l4Reduce_a (p : Int) (r c : Nat) (f : Nat → Nat → Int) (hf : isF p = true) (hr : r ≤ 1024) (hc : c ≤ 1024) (hb : BdF p r c f) :
    AC Tryz.prog 155 [.i p, .agg (enc false (tm r c f))] [.agg (enc true (tm r c (redK p r f c).1)), .dt true 1 (E true (ints (redK p r f c).2))] := by
  refine AC.go Tryz.func155 Tryz.ntmps155 rfl rfl fun w0 hw => ?_; simp [WfL, WfA, E_length, Enc.enc, In64] at hw
  have h5 := isF_pos hf
  have hC := l3Copy_a (tm r c f) (by rw [tab_len]; exact tab_le hr hc)
  repeat' first | refine s1 ?_ | refine q1 ?_ | (refine kR ?_; first | refine F.c (hC) ?_) | fail
  refine AW.open 7 1 (.inr rfl) ?_
  refine F.loop (σ := Nat) [7, 8, 9, 10, 11, 12, 13, 14, 15, 16, 17, 18, 22, 23, 24, 25, 26, 27, 28, 29, 30, 31, 32, 33, 34, 35, 36, 37, 38, 39, 40, 41, 42, 43, 44, 45, 46, 47, 48, 49, 50, 51, 52, 53, 54, 55, 56, 57, 58, 59, 60, 61, 62, 63, 64, 65, 66, 67, 68, 69, 70, 71, 72, 73, 74, 75, 76, 77, 78, 79, 80, 81, 82, 83, 84, 85, 86, 87, 88, 89, 90, 91, 92, 93, 94, 95, 96, 97, 98, 99, 100, 101, 102, 103, 104, 105, 106, 107, 108, 109, 110, 111, 112, 113, 114, 115, 116, 117, 118, 119, 120, 121, 122, 123, 124, 125, 126, 127, 128, 129, 130, 131, 132, 133, 134, 135, 136, 137, 138, 139, 140, 141, 142, 143, 144, 145, 146, 147, 148, 149, 150, 151, 152, 153, 154, 155, 156, 157, 158, 159, 160, 161, 162, 163, 164, 165, 166, 167, 168, 169, 170, 171, 172, 173, 174, 175, 176, 177, 178, 179, 180, 181, 182, 183, 184, 185, 186, 187, 188, 189, 190, 191, 192, 193, 194, 195, 196, 197, 198, 199, 200, 201, 202, 203, 204, 205, 206, 207, 208] (fun k => [(7, .sl 4 (redK p r f k).2.length 0 (redK p r f k).2.length), (8, .i ((redK p r f k).2.length : Nat)), (9, .i k)]) (fun k => [(2, .live false 1 (E true (tab r c (redK p r f k).1))), (4, .live false 1 (E true (ints (redK p r f k).2)))]) (fun k => k ≤ c) (fun k => c - k) 0 ⟨rfl, rfl, rfl, trivial⟩ ⟨rfl, rfl, trivial⟩ (Nat.zero_le _) ?_
  rintro k h1
  obtain ⟨b1, b2, b3, b4⟩ := redK_bd (by omega) hb k
  have hfull := fun h => redK_full (p := p) (r := r) (f := f) (k := k) h
  have hstep : redK p r f (k + 1) = stepE p r (redK p r f k) k := rfl
  generalize hRR : redK p r f k = R at b1 b2 b3 b4 hfull hstep ⊢
  obtain ⟨g, piv⟩ := R
  dsimp only at b1 b2 b3 b4 hfull ⊢
  have hpl := ints_len piv
  by_cases hk : k < c
  · by_cases ht : piv.length < r
    · generalize htt : piv.length = t at b2 b3 ht hpl ⊢
      repeat' first | refine s1 ?_ | refine q1 ?_ | fail
      refine F.loop (σ := Nat) [10, 11, 37, 38, 39, 40, 41, 42, 43, 44, 45, 46, 47, 48, 49, 50, 51, 52, 53] (fun u => [(10, .i (atV g k r u)), (11, .i ((u : Int) - 1))]) (fun _ => []) (fun u => t ≤ u ∧ u ≤ r) (fun u => u) r ⟨iE (atV_end g k r).symm, rfl, trivial⟩ trivial ⟨by omega, Nat.le_refl _⟩ ?_
      rintro u ⟨u1, u2⟩
      by_cases hu : t < u
      · obtain ⟨i, rfl⟩ : ∃ i, u = i + 1 := ⟨u - 1, by omega⟩
        rw [show (((i + 1 : Nat)) : Int) - 1 = (i : Int) by omega]
        have hI := tab_in (i := i) (j := k) (r := r) (c := c) (by omega) hk hr hc
        obtain ⟨hI1, hI2⟩ := hI
        by_cases hz : g i k = 0
        · have ha := atV_miss (f := g) (k := k) (r := r) (i := i) (by omega) hz
          repeat' first | refine s1 ?_ | refine q1 ?_ | fail
          exact ⟨i, F.fit ⟨iE ha.symm, rfl, trivial⟩ trivial, ⟨by omega, by omega⟩, by omega⟩
        · have ha := atV_hit (f := g) (k := k) (r := r) (i := i) (by omega) hz
          repeat' first | refine s1 ?_ | refine q1 ?_ | fail
          exact ⟨i, F.fit ⟨iE ha.symm, rfl, trivial⟩ trivial, ⟨by omega, by omega⟩, by omega⟩
      · obtain rfl : u = t := by omega
        have hfb := findR_bd g k (r - u) u
        by_cases hn : findR g k (r - u) u = r
        · have ha : atV g k r u = -1 := by unfold atV; rw [if_pos hn]
          have hs : redK p r f (k + 1) = (g, piv) := by rw [hstep, stepE]; simp only [htt]; rw [if_pos hn]
          rw [ha]
          repeat' first | refine s1 ?_ | refine q1 ?_ | fail
          exact ⟨k + 1, F.fit ⟨slE (by rw [hs, htt]), iE (by rw [hs, htt]), rfl, trivial⟩ ⟨obE (by rw [hs]), obE (by rw [hs]), trivial⟩, by omega, by omega⟩
        · have ha : atV g k r u = (findR g k (r - u) u : Nat) := by unfold atV; rw [if_neg hn]
          have hs : redK p r f (k + 1) = (clearF p (scaleF p (swapF g u (findR g k (r - u) u)) u (invP p (swapF g u (findR g k (r - u) u) u k))) u k, piv ++ [k]) := by
            rw [hstep, stepE]; simp only [htt]; rw [if_neg hn]
          rw [ha]
          have har : findR g k (r - u) u < r := by omega
          generalize findR g k (r - u) u = a at hs har ⊢
          have hsw := b1.swap ht har
          repeat' first | refine s1 ?_ | refine q1 ?_ | fail
          refine F.loop (σ := Nat) [12, 13, 56, 57, 58, 59, 60, 61, 62, 63, 64, 65, 66, 67, 68, 69, 70, 71, 72, 73, 74, 75, 76, 77, 78, 79, 80, 81, 82, 83, 84, 85, 86, 87, 88, 89, 90, 91, 92, 93, 94, 95, 96, 97, 98, 99, 100] (fun j => [(12, .i j)]) (fun j => [(2, .live false 1 (E true (tab r c (swK g u a j))))]) (fun j => j ≤ c) (fun j => c - j) 0 ⟨rfl, trivial⟩ ⟨obE (by rw [swK_zero]), trivial⟩ (Nat.zero_le _) ?_
          rintro j j1
          by_cases hj : j < c
          · obtain ⟨i1, i2⟩ := tab_in (i := u) (j := j) (r := r) (c := c) ht hj hr hc
            obtain ⟨i3, i4⟩ := tab_in (i := a) (j := j) (r := r) (c := c) har hj hr hc
            repeat' first | refine s1 ?_ | refine q1 ?_ | fail
            refine AW.draw 19 G.mixed (by kernel_rfl) ?_
            refine dP 0 ?_
            first | refine dL 1 ?_ | refine dLQ 1 ?_
            refine dP 2 ?_
            refine dP 3 ?_
            first | refine dL 4 ?_ | refine dLQ 4 ?_
            refine dP 5 ?_
            refine dP 6 ?_
            refine dP 7 ?_
            refine dP 8 ?_
            first | refine dL 9 ?_ | refine dLQ 9 ?_
            refine dP 10 ?_
            refine dP 11 ?_
            first | refine dL 12 ?_ | refine dLQ 12 ?_
            refine dP 13 ?_
            refine dP 14 ?_
            refine dP 15 ?_
            first | refine dP 16 ?_ | refine dQ 16 ?_
            first | refine dL 17 ?_ | refine dLQ 17 ?_
            first | refine dP 18 ?_ | refine dQ 18 ?_
            refine dO 19 false ?_
            first | refine s1 ?_ | refine q1 ?_
            refine ARg.nil (ATh.normal ?_)
            refine dN ?_
            repeat' first | refine s1 ?_ | refine q1 ?_ | fail
            exact ⟨j + 1, F.fit ⟨rfl, trivial⟩ ⟨obE (by rw [swK_at, swK_at, swK_set]), trivial⟩, by omega, by omega⟩
          · obtain rfl : j = c := by omega
            rw [swK_all]
            generalize swapF g u a = f1 at hs hsw ⊢
            obtain ⟨i1, i2⟩ := tab_in (i := u) (j := k) (r := r) (c := j) ht hk hr hc
            have hx := hsw u ht k hk
            have hV := specInverseMod_a p (f1 u k) hf hx
            have hvb := invP_bd hf hx
            generalize invP p (f1 u k) = s at hs hV hvb
            repeat' first | refine s1 ?_ | refine q1 ?_ | (refine kR ?_; first | refine F.c (hV) ?_) | fail
            refine F.loop (σ := Nat) [15, 113, 114, 115, 116, 117, 118, 119, 120, 121, 122, 123, 124, 125, 126, 127, 128, 129, 130, 131, 132, 133, 134, 135, 136, 137, 138, 139, 140, 141] (fun l => [(15, .i l)]) (fun l => [(2, .live false 1 (E true (tab r j (scK p f1 u s l))))]) (fun l => l ≤ j) (fun l => j - l) 0 ⟨rfl, trivial⟩ ⟨obE (by rw [scK_zero]), trivial⟩ (Nat.zero_le _) ?_
            rintro l l1
            by_cases hl : l < j
            · obtain ⟨i3, i4⟩ := tab_in (i := u) (j := l) (r := r) (c := j) ht hl hr hc
              have hy := hsw u ht l hl
              have hm := in64_4 (x := s) (y := f1 u l) (by omega) (by omega)
              have hmi : In64 (s * scK p f1 u s l u l) := by rw [scK_at]; unfold In64; omega
              have hL := l2Mod_a p (s * scK p f1 u s l u l) (by omega)
              repeat' first | refine s1 ?_ | refine q1 ?_ | fail
              refine AW.draw 23 G.mixed (by kernel_rfl) ?_
              refine dP 0 ?_
              first | refine dL 1 ?_ | refine dLQ 1 ?_
              refine dP 2 ?_
              refine dP 3 ?_
              first | refine dL 4 ?_ | refine dLQ 4 ?_
              refine dP 5 ?_
              refine dP 6 ?_
              refine dP 7 ?_
              refine dP 8 ?_
              refine dP 9 ?_
              refine dP 10 ?_
              first | refine dL 11 ?_ | refine dLQ 11 ?_
              refine dP 12 ?_
              refine dP 13 ?_
              first | refine dL 14 ?_ | refine dLQ 14 ?_
              refine dP 15 ?_
              refine dP 16 ?_
              refine dP 17 ?_
              first | refine dP 18 ?_ | refine dQ 18 ?_
              first | refine dL 19 ?_ | refine dLQ 19 ?_
              refine dP 20 ?_
              refine dO 21 true ?_
              first | refine s1 ?_ | refine F.c (hL) ?_
              refine ARg.nil (ATh.normal ?_)
              first | refine dP 22 ?_ | refine dQ 22 ?_
              refine dO 23 false ?_
              first | refine s1 ?_ | refine q1 ?_
              refine ARg.nil (ATh.normal ?_)
              refine dN ?_
              repeat' first | refine s1 ?_ | refine q1 ?_ | fail
              exact ⟨l + 1, F.fit ⟨rfl, trivial⟩ ⟨obE (by rw [scK_at, Int.mul_comm, scK_set]), trivial⟩, by omega, by omega⟩
            · obtain rfl : l = j := by omega
              rw [scK_all]
              have hsc := hsw.scale (s := s) (t := u) (show 0 < p by omega)
              generalize scaleF p f1 u s = f2 at hs hsc ⊢
              repeat' first | refine s1 ?_ | refine q1 ?_ | fail
              refine F.loop (σ := Nat) [16, 17, 18, 142, 143, 144, 145, 146, 147, 148, 149, 150, 151, 152, 153, 154, 155, 156, 157, 158, 159, 160, 161, 162, 163, 164, 165, 166, 167, 168, 169, 170, 171, 172, 173, 174, 175, 176, 177, 178, 179, 180, 181, 182, 183, 184, 185, 186, 187, 188, 189, 190, 191, 192, 193, 194, 195, 196, 197, 198, 199, 200, 201, 202] (fun i => [(16, .i i)]) (fun i => [(2, .live false 1 (E true (tab r l (clK p f2 u k i 0))))]) (fun i => i ≤ r) (fun i => r - i) 0 ⟨rfl, trivial⟩ ⟨obE (by rw [clK_zero]), trivial⟩ (Nat.zero_le _) ?_
              rintro i i3
              by_cases hi : i < r
              · obtain ⟨i4, i5⟩ := tab_in (i := i) (j := k) (r := r) (c := l) hi hk hr hc
                repeat' first | refine s1 ?_ | refine q1 ?_ | fail
                rw [clK_row]
                refine F.loop (σ := Nat) [18, 158, 159, 160, 161, 162, 163, 164, 165, 166, 167, 168, 169, 170, 171, 172, 173, 174, 175, 176, 177, 178, 179, 180, 181, 182, 183, 184, 185, 186, 187, 188, 189, 190, 191, 192, 193, 194, 195, 196, 197, 198, 199, 200, 201, 202] (fun m => [(18, .i m)]) (fun m => [(2, .live false 1 (E true (tab r l (clK p f2 u k i m))))]) (fun m => m ≤ l ∧ (i = u → m = 0)) (fun m => l - m) 0 ⟨rfl, trivial⟩ ⟨rfl, trivial⟩ ⟨Nat.zero_le _, fun _ => rfl⟩ ?_
                rintro m ⟨m1, m2⟩
                by_cases hiu : i = u
                · obtain rfl := m2 hiu
                  repeat' first | refine s1 ?_ | refine q1 ?_ | fail
                  exact ⟨i + 1, F.fit ⟨rfl, trivial⟩ ⟨obE (by rw [← hiu, clK_own]), trivial⟩, by omega, by omega⟩
                · by_cases hm : m < l
                  · obtain ⟨i6, i7⟩ := tab_in (i := i) (j := m) (r := r) (c := l) hi hm hr hc
                    obtain ⟨i8, i9⟩ := tab_in (i := u) (j := m) (r := r) (c := l) ht hm hr hc
                    have y1 := hsc i hi k hk
                    have y2 := hsc u ht m hm
                    have y3 := hsc i hi m hm
                    have hmm := in64_4 (x := f2 i k) (y := f2 u m) (by omega) (by omega)
                    have e1 := clK_top p f2 u k i m m
                    have e2 := clK_at p f2 u k i m
                    have hm1 : In64 (f2 i k * clK p f2 u k i m u m) := by rw [e1]; unfold In64; omega
                    have hm2 : In64 (clK p f2 u k i m i m - f2 i k * clK p f2 u k i m u m) := by rw [e1, e2]; unfold In64; omega
                    have hL := l2Mod_a p (clK p f2 u k i m i m - f2 i k * clK p f2 u k i m u m) (by omega)
                    repeat' first | refine s1 ?_ | refine q1 ?_ | fail
                    refine AW.draw 34 G.mixed (by kernel_rfl) ?_
                    refine dP 0 ?_
                    first | refine dL 1 ?_ | refine dLQ 1 ?_
                    refine dP 2 ?_
                    refine dP 3 ?_
                    first | refine dL 4 ?_ | refine dLQ 4 ?_
                    refine dP 5 ?_
                    refine dP 6 ?_
                    refine dP 7 ?_
                    refine dP 8 ?_
                    refine dP 9 ?_
                    first | refine dL 10 ?_ | refine dLQ 10 ?_
                    refine dP 11 ?_
                    refine dP 12 ?_
                    first | refine dL 13 ?_ | refine dLQ 13 ?_
                    refine dP 14 ?_
                    refine dP 15 ?_
                    refine dP 16 ?_
                    first | refine dP 17 ?_ | refine dQ 17 ?_
                    first | refine dL 18 ?_ | refine dLQ 18 ?_
                    refine dP 19 ?_
                    refine dP 20 ?_
                    first | refine dL 21 ?_ | refine dLQ 21 ?_
                    refine dP 22 ?_
                    refine dP 23 ?_
                    first | refine dL 24 ?_ | refine dLQ 24 ?_
                    refine dP 25 ?_
                    refine dP 26 ?_
                    refine dP 27 ?_
                    first | refine dP 28 ?_ | refine dQ 28 ?_
                    first | refine dL 29 ?_ | refine dLQ 29 ?_
                    refine dP 30 ?_
                    refine dP 31 ?_
                    refine dO 32 true ?_
                    first | refine s1 ?_ | refine F.c (hL) ?_
                    refine ARg.nil (ATh.normal ?_)
                    first | refine dP 33 ?_ | refine dQ 33 ?_
                    refine dO 34 false ?_
                    first | refine s1 ?_ | refine q1 ?_
                    refine ARg.nil (ATh.normal ?_)
                    refine dN ?_
                    repeat' first | refine s1 ?_ | refine q1 ?_ | fail
                    exact ⟨m + 1, F.fit ⟨rfl, trivial⟩ ⟨obE (by rw [e1, e2, sub_mod, clK_set _ _ _ _ _ _ hiu]), trivial⟩, ⟨by omega, fun h => absurd h hiu⟩, by omega⟩
                  · obtain rfl : m = l := by omega
                    repeat' first | refine s1 ?_ | refine q1 ?_ | fail
                    exact ⟨i + 1, F.fit ⟨rfl, trivial⟩ ⟨obE (by rw [clK_next]), trivial⟩, by omega, by omega⟩
              · obtain rfl : i = r := by omega
                rw [clK_all]
                repeat' first | refine s1 ?_ | refine q1 ?_ | (refine kR ?_; first | refine F.a1 Int ?_) | fail
                exact ⟨k + 1, F.fit ⟨slE (by rw [hs]; simp; omega), iE (by rw [hs]; simp; omega), rfl, trivial⟩ ⟨obE (by rw [hs]), obE (by rw [hs, ints_snoc]), trivial⟩, by omega, by omega⟩
    · have ht : piv.length = r := by omega
      have hF := hfull ht (c - k)
      rw [show k + (c - k) = c by omega] at hF
      rw [hF]
      repeat' first | refine s1 ?_ | refine q1 ?_ | fail
      (refine kZ ?_; exact F.ret rfl)
  · obtain rfl : k = c := by omega
    rw [hRR]
    repeat' first | refine s1 ?_ | refine q1 ?_ | fail
    (refine kZ ?_; exact F.ret rfl)
end Go.Proofs.YtedjajokbdokhaaGreat.V
