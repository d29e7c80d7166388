/- Contracts: kinds of quivers. -/
import Derived.Test.YtcalkmlaodjpaaaA10
import Derived.Test.YtcalkmlaodjpaaaA4
import Derived.Test.YtcalkmlaodjpaaaHs
namespace Go.Proofs.Ytcalkmlaodjpaaa.V
open V.Enc (enc)
open Go.RowKit G D
set_option linter.unusedVariables false
set_option linter.unusedSimpArgs false
set_option maxHeartbeats 400000
set_option maxRecDepth 4000
attribute [local irreducible] AW ARg ARA ARet MRet ASil AC AM

/-- is a vertex in a set? -/
def bit (s v : Nat) : Bool := decide ((s : Int) / 2 ^ v % 2 = 1)
theorem bit_nn (s v : Nat) : 0 ≤ (s : Int) / 2 ^ v := Int.ediv_nonneg (by omega) (Int.le_of_lt (Int.pow_pos (by omega)))
def sel (s k : Nat) : List Nat := (List.range k).filter (bit s)
theorem sel_pos {s k : Nat} (h : bit s k = true) : sel s (k + 1) = sel s k ++ [k] := by simp [sel, List.range_succ, h]
theorem sel_neg {s k : Nat} (h : bit s k = false) : sel s (k + 1) = sel s k := by simp [sel, List.range_succ, h]
theorem sel_le (s k : Nat) : (sel s k).length ≤ k := by
  have := List.length_filter_le (bit s) (List.range k)
  simpa [sel] using this
theorem sel_lt {s k i : Nat} (h : i ∈ sel s k) : i < k := by simpa using (List.mem_filter.1 h).1
def pickR (s k : Nat) (r : List Int) : List Int := (sel s k).map fun j => r.getD j default
def pickM (s n k : Nat) (m : List (List Int)) : List (List Int) := (sel s k).map fun i => pickR s n (m.getD i default)
theorem pickR_len (s k : Nat) (r : List Int) : (pickR s k r).length = (sel s k).length := by simp [pickR]
theorem pickM_len (s n k : Nat) (m : List (List Int)) : (pickM s n k m).length = (sel s k).length := by simp [pickM]
theorem pickR_pos {s k : Nat} (h : bit s k = true) (r : List Int) : pickR s (k + 1) r = pickR s k r ++ [r.getD k default] := by simp [pickR, sel_pos h]
theorem pickR_neg {s k : Nat} (h : bit s k = false) (r : List Int) : pickR s (k + 1) r = pickR s k r := by simp [pickR, sel_neg h]
theorem pickM_pos {s k n : Nat} (h : bit s k = true) (m : List (List Int)) : pickM s n (k + 1) m = pickM s n k m ++ [pickR s n (m.getD k default)] := by simp [pickM, sel_pos h]
theorem pickM_neg {s k n : Nat} (h : bit s k = false) (m : List (List Int)) : pickM s n (k + 1) m = pickM s n k m := by simp [pickM, sel_neg h]
theorem l18Minor_a (m : List (List Int)) (s n : Nat) (hr : Rows n n m) (hn : n ≤ 5) (hs : s ≤ 64) : AC Try.prog 72 [ar false m, .i s] [.dt true 1 (E true (pickM s n n m))] := by
  refine AC.go Try.func72 Try.ntmps72 rfl rfl fun w0 hw => ?_; simp [WfL, WfA, E_length, Enc.enc, In64] at hw
  have hm := hr.1
  repeat' first | refine s1 ?_ | fail
  refine AW.open 5 1 (.inr rfl) ?_
  refine F.loop (σ := Nat) [5, 6, 7, 8, 10, 11, 12, 13, 14, 15, 16, 17, 18, 19, 20, 21, 22, 23, 24, 25, 26, 27, 28, 29, 30, 31, 32, 33, 34, 35, 36, 37, 38, 39, 40, 41, 42, 43, 44, 45, 46] (fun i => [(5, .sl 0 (sel s i).length 0 (sel s i).length), (6, .i i)]) (fun i => [(0, .live false 1 (E true (pickM s n i m)))]) (fun i => i ≤ n) (fun i => n - i) 0 ⟨rfl, rfl, trivial⟩ ⟨rfl, trivial⟩ (Nat.zero_le _) ?_
  rintro i h1
  have hl := pickM_len s n i m
  have hsl := sel_le s i
  have hnn := bit_nn s i
  by_cases hlt : i < n
  · have hrow := hr.row hlt
    cases hb : bit s i with
    | false =>
      have hb' : ¬ (s : Int) / 2 ^ i % 2 = 1 := by simpa [bit] using hb
      have hb2 : (s : Int) / 2 ^ i % 2 = 0 := by omega
      repeat' first | refine s1 ?_ | (refine kR ?_; first | refine F.sil (A.shr rfl rfl rfl (by omega) (by omega)) rfl rfl ?_ | refine F.sil (A.and1 rfl rfl (by assumption)) rfl rfl ?_) | fail
      exact ⟨i + 1, F.fit ⟨slE (by rw [sel_neg hb]), rfl, trivial⟩ ⟨obE (by rw [pickM_neg hb]), trivial⟩, by omega, by omega⟩
    | true =>
      have hb' : (s : Int) / 2 ^ i % 2 = 1 := by simpa [bit] using hb
      repeat' first | refine s1 ?_ | (refine kR ?_; first | refine F.sil (A.shr rfl rfl rfl (by omega) (by omega)) rfl rfl ?_ | refine F.sil (A.and1 rfl rfl (by assumption)) rfl rfl ?_) | fail
      refine AW.open 7 1 (.inr rfl) ?_
      refine F.loop (σ := Nat) [7, 8, 22, 23, 24, 25, 26, 27, 28, 29, 30, 31, 32, 33, 34, 35, 36, 37, 38, 39, 40, 41, 42] (fun k => [(7, .sl 1 (sel s k).length 0 (sel s k).length), (8, .i k)]) (fun k => [(1, .live false 1 (E true (pickR s k (m.getD i default))))]) (fun k => k ≤ n) (fun k => n - k) 0 ⟨rfl, rfl, trivial⟩ ⟨rfl, trivial⟩ (Nat.zero_le _) ?_
      rintro k h2
      have hl2 := pickR_len s k (m.getD i default)
      have hsl2 := sel_le s k
      have hnn2 := bit_nn s k
      by_cases hk : k < n
      · cases hc2 : bit s k with
        | false =>
          have hd' : ¬ (s : Int) / 2 ^ k % 2 = 1 := by simpa [bit] using hc2
          repeat' first | refine s1 ?_ | (refine kR ?_; first | refine F.sil (A.shr rfl rfl rfl (by omega) (by omega)) rfl rfl ?_ | refine F.sil (A.and1 rfl rfl (by assumption)) rfl rfl ?_) | fail
          exact ⟨k + 1, F.fit ⟨slE (by rw [sel_neg hc2]), rfl, trivial⟩ ⟨obE (by rw [pickR_neg hc2]), trivial⟩, by omega, by omega⟩
        | true =>
          have hd' : (s : Int) / 2 ^ k % 2 = 1 := by simpa [bit] using hc2
          repeat' first | refine s1 ?_ | (refine kR ?_; first | refine F.sil (A.shr rfl rfl rfl (by omega) (by omega)) rfl rfl ?_ | refine F.sil (A.and1 rfl rfl (by assumption)) rfl rfl ?_ | refine F.a1 Int ?_) | fail
          exact ⟨k + 1, F.fit ⟨slE (by rw [sel_pos hc2]; simp), rfl, trivial⟩ ⟨obE (by rw [pickR_pos hc2]), trivial⟩, by omega, by omega⟩
      · obtain rfl : k = n := by omega
        repeat' first | refine s1 ?_ | (refine kR ?_; first | refine F.a1 (List Int) ?_ (hmv := .mv rfl (by simp) (by rw [E_length, pickR_len]) (E_pure _ _) .nil)) | fail
        exact ⟨i + 1, F.fit ⟨slE (by rw [sel_pos hb]; simp), rfl, trivial⟩ ⟨obE (by rw [pickM_pos hb]), trivial⟩, by omega, by omega⟩
  · obtain rfl : i = n := by omega
    repeat' first | refine s1 ?_ | fail
    (refine kZ ?_; exact F.ret rfl)
theorem Rows.pick {n s : Nat} {m : List (List Int)} (h : Rows n n m) : Rows (sel s n).length (sel s n).length (pickM s n n m) := by
  refine ⟨pickM_len s n n m, fun x hx => ?_⟩
  obtain ⟨i, hi, rfl⟩ := List.mem_map.1 hx
  have hr := h.row (sel_lt hi)
  refine ⟨pickR_len s n _, fun y hy => ?_⟩
  obtain ⟨j, hj, rfl⟩ := List.mem_map.1 hy
  exact hr.2 j (sel_lt hj)
theorem Rows.sym {q : Quiv} (hq : okQ q = true) : Rows q.n.toNat q.n.toNat (symM q q.fr.length) := by
  have hs := symM_sq hq q.fr.length (Nat.le_refl _)
  have h5 := okQ_spec hq
  refine ⟨hs.1, fun x hx => ?_⟩
  obtain ⟨i, hi, rfl⟩ := List.mem_iff_getElem.1 hx
  have e : (symM q q.fr.length).getD i [] = (symM q q.fr.length)[i] := by simp [hi]
  have h2 := hs.2 i (by rw [← hs.1]; exact hi)
  unfold get2 at h2
  rw [e] at h2
  refine ⟨h2.1, fun y hy => ?_⟩
  obtain ⟨j, hj, rfl⟩ := List.mem_iff_getElem.1 hy
  have h3 := h2.2 j (by omega)
  have e2 : (symM q q.fr.length)[i].getD j 0 = (symM q q.fr.length)[i][j] := by simp [hj]
  rw [e2] at h3
  omega
/-- the kind, by the determinants of the sets from s on -/
def kindR (d : Nat → Int) : Nat → Nat → Int → Int
  | 0, _, k => k
  | f + 1, s, k => if d s < 0 then 3 else kindR d f (s + 1) (if d s = 0 then 2 else k)
def detQ (q : Quiv) (s : Nat) : Int := det (sel s q.n.toNat).length (pickM s q.n.toNat q.n.toNat (symM q q.fr.length))
def kindQ (q : Quiv) : Int := bif okQ q then kindR (detQ q) (2 ^ q.n.toNat - 1) 1 1 else 0
theorem pow_le32 {n : Nat} (h : n ≤ 5) : 2 ^ n ≤ 32 := by
  have : n = 0 ∨ n = 1 ∨ n = 2 ∨ n = 3 ∨ n = 4 ∨ n = 5 := by omega
  rcases this with rfl | rfl | rfl | rfl | rfl | rfl <;> decide
theorem specKindOfQuiver_a (q : Quiv) : AC Try.prog 28 [.agg (enc false q)] [.i (kindQ q)] := by
  refine AC.go Try.func28 Try.ntmps28 rfl rfl fun w0 hw => ?_; simp [WfL, WfA, E_length, Enc.enc, In64] at hw
  have hQ := specIsQuiver_a q
  cases hq : okQ q with
  | false =>
    rw [hq] at hQ
    rw [kindQ, hq]
    repeat' first | refine s1 ?_ | (refine kR ?_; first | refine F.c (hQ) ?_) | fail
    (refine kZ ?_; exact F.ret rfl)
  | true =>
    rw [hq] at hQ
    have h5 := okQ_spec hq
    have hS := specSymmetricForm_a q
    rw [show symF q = symM q q.fr.length by rw [symF, hq]; rfl] at hS
    have hR := Rows.sym hq
    have hn : ((q.n.toNat : Nat) : Int) = q.n := Int.toNat_of_nonneg (by omega)
    have hp := pow_le32 (n := q.n.toNat) (by omega)
    have hp1 : 1 ≤ 2 ^ q.n.toNat := Nat.one_le_two_pow
    have hpi : (1 : Int) * 2 ^ q.n.toNat = ((2 ^ q.n.toNat : Nat) : Int) := by push_cast; omega
    have hin : In64 ((1 : Int) * 2 ^ q.n.toNat) := by unfold In64; omega
    have hd : ∀ s, detQ q s = det (sel s q.n.toNat).length (pickM s q.n.toNat q.n.toNat (symM q q.fr.length)) := fun _ => rfl
    have hk : kindQ q = kindR (detQ q) (2 ^ q.n.toNat - 1) 1 1 := by rw [kindQ, hq]; rfl
    generalize kindQ q = K at hk ⊢
    generalize detQ q = D at hk hd
    generalize symM q q.fr.length = M at hS hR hd
    repeat' first | refine s1 ?_ | (refine kR ?_; first | refine F.c (hQ) ?_ | refine F.c (hS) ?_) | fail
    refine F.loop (σ := Nat × Int) [2, 4, 5, 6, 12, 13, 14, 15, 16, 17, 18, 19, 20, 21, 22, 23, 24, 25, 26] (fun s => [(4, .i s.2), (5, .i s.1)]) (fun _ => []) (fun s => s.1 ≤ 2 ^ q.n.toNat ∧ In64 s.2 ∧ K = kindR D (2 ^ q.n.toNat - s.1) s.1 s.2) (fun s => 2 ^ q.n.toNat - s.1) (1, 1) ⟨rfl, rfl, trivial⟩ trivial ⟨hp1, by unfold In64; omega, hk⟩ ?_
    rintro ⟨s, kd⟩ ⟨h1, h2, h3⟩
    dsimp only at h1 h2 h3
    by_cases hlt : s < 2 ^ q.n.toNat
    · have hM := l18Minor_a M s q.n.toNat hR (by omega) (by omega)
      have hD := specDet_a (sel s q.n.toNat).length (by have := sel_le s q.n.toNat; omega) _ (V.Rows.pick hR)
      rw [← hd s] at hD
      obtain ⟨f, hf⟩ : ∃ f, 2 ^ q.n.toNat - s = f + 1 := ⟨2 ^ q.n.toNat - s - 1, by omega⟩
      have hf2 : 2 ^ q.n.toNat - (s + 1) = f := by omega
      rw [hf, kindR] at h3
      generalize D s = x at hD h3
      generalize pickM s q.n.toNat q.n.toNat M = M2 at hM hD
      by_cases hx : x < 0
      · rw [if_pos hx] at h3
        subst h3
        repeat' first | refine s1 ?_ | (refine kR ?_; first | refine F.sil (A.shl (a := 1) rfl rfl hn.symm (by omega) hin) rfl rfl ?_ | refine F.c (hM) ?_ | refine F.c (hD) ?_) | fail
        (refine kZ ?_; exact F.ret rfl)
      · rw [if_neg hx] at h3
        by_cases hz : x = 0
        · rw [if_pos hz] at h3
          repeat' first | refine s1 ?_ | (refine kR ?_; first | refine F.sil (A.shl (a := 1) rfl rfl hn.symm (by omega) hin) rfl rfl ?_ | refine F.c (hM) ?_ | refine F.c (hD) ?_) | fail
          exact ⟨(s + 1, 2), F.fit ⟨rfl, rfl, trivial⟩ trivial, ⟨by omega, by unfold In64; omega, by rw [hf2]; exact h3⟩, by simp only; omega⟩
        · rw [if_neg hz] at h3
          repeat' first | refine s1 ?_ | (refine kR ?_; first | refine F.sil (A.shl (a := 1) rfl rfl hn.symm (by omega) hin) rfl rfl ?_ | refine F.c (hM) ?_ | refine F.c (hD) ?_) | fail
          exact ⟨(s + 1, kd), F.fit ⟨rfl, rfl, trivial⟩ trivial, ⟨by omega, h2, by rw [hf2]; exact h3⟩, by simp only; omega⟩
    · obtain rfl : s = 2 ^ q.n.toNat := by omega
      rw [Nat.sub_self, kindR] at h3
      subst h3
      repeat' first | refine s1 ?_ | (refine kR ?_; first | refine F.sil (A.shl (a := 1) rfl rfl hn.symm (by omega) hin) rfl rfl ?_) | fail
      (refine kZ ?_; exact F.ret rfl)
theorem implKindOfQuiver_a (q : Quiv) : AC Try.prog 29 [.agg (enc false q)] [.i (kindQ q)] := by
  refine AC.go Try.func29 Try.ntmps29 rfl rfl fun w0 hw => ?_; simp [WfL, WfA, E_length, Enc.enc, In64] at hw
  have hQ := implIsQuiver_a q
  cases hq : okQ q with
  | false =>
    rw [hq] at hQ
    rw [kindQ, hq]
    repeat' first | refine s1 ?_ | (refine kR ?_; first | refine F.c (hQ) ?_) | fail
    (refine kZ ?_; exact F.ret rfl)
  | true =>
    rw [hq] at hQ
    have h5 := okQ_spec hq
    have hS := symmetric_a q hq
    have hR := Rows.sym hq
    have hn : ((q.n.toNat : Nat) : Int) = q.n := Int.toNat_of_nonneg (by omega)
    have hp := pow_le32 (n := q.n.toNat) (by omega)
    have hp1 : 1 ≤ 2 ^ q.n.toNat := Nat.one_le_two_pow
    have hpi : (1 : Int) * 2 ^ q.n.toNat = ((2 ^ q.n.toNat : Nat) : Int) := by push_cast; omega
    have hin : In64 ((1 : Int) * 2 ^ q.n.toNat) := by unfold In64; omega
    have hd : ∀ s, detQ q s = det (sel s q.n.toNat).length (pickM s q.n.toNat q.n.toNat (symM q q.fr.length)) := fun _ => rfl
    have hk : kindQ q = kindR (detQ q) (2 ^ q.n.toNat - 1) 1 1 := by rw [kindQ, hq]; rfl
    generalize kindQ q = K at hk ⊢
    generalize detQ q = D at hk hd
    generalize symM q q.fr.length = M at hS hR hd
    have hM := hR.1
    repeat' first | refine s1 ?_ | (refine kR ?_; first | refine F.c (hQ) ?_ | refine F.c (hS) ?_) | fail
    refine AW.lend (o := 1) rfl ?_
    refine F.loop (σ := Nat × Int) [2, 3, 5, 6, 7, 8, 9, 10, 11, 12, 18, 19, 20, 21, 22, 23, 24, 25, 26, 27, 28, 29, 30, 31, 32, 33, 34, 35, 36, 37, 38, 39, 40, 41, 42, 43, 44, 45, 46, 47, 48, 49, 50, 51, 52, 53, 54, 55, 56, 57, 58, 59, 60, 61, 62, 63, 64, 65, 66] (fun s => [(3, .i s.2), (5, .i s.1)]) (fun _ => []) (fun s => s.1 ≤ 2 ^ q.n.toNat ∧ In64 s.2 ∧ K = kindR D (2 ^ q.n.toNat - s.1) s.1 s.2) (fun s => 2 ^ q.n.toNat - s.1) (1, 1) ⟨rfl, rfl, trivial⟩ trivial ⟨hp1, by unfold In64; omega, hk⟩ ?_
    rintro ⟨s, kd⟩ ⟨h1, h2, h3⟩
    dsimp only at h1 h2 h3
    by_cases hlt : s < 2 ^ q.n.toNat
    · repeat' first | refine s1 ?_ | (refine kR ?_; first | refine F.sil (A.shl (a := 1) rfl rfl hn.symm (by omega) hin) rfl rfl ?_) | fail
      refine AW.open 6 1 (.inl rfl) ?_
      refine F.loop (σ := Nat) [6, 7, 8, 9, 10, 11, 27, 28, 29, 30, 31, 32, 33, 34, 35, 36, 37, 38, 39, 40, 41, 42, 43, 44, 45, 46, 47, 48, 49, 50, 51, 52, 53, 54, 55, 56, 57, 58] (fun i => [(6, .sl 2 (sel s i).length 0 (sel s i).length), (27, .i i)]) (fun i => [(2, .live false 1 (E true (pickM s q.n.toNat i M)))]) (fun i => i ≤ q.n.toNat) (fun i => q.n.toNat - i) 0 ⟨rfl, rfl, trivial⟩ ⟨rfl, trivial⟩ (Nat.zero_le _) ?_
      rintro i g1
      have hl := pickM_len s q.n.toNat i M
      have hsl := sel_le s i
      have hnn := bit_nn s i
      by_cases hi : i < q.n.toNat
      · have hrow := (hR.row hi).1
        have hrow' : (M.getD (0 + i) default).length = q.n.toNat := by rw [Nat.zero_add]; exact hrow
        cases hb : bit s i with
        | false =>
          have hb' : ¬ (s : Int) / 2 ^ i % 2 = 1 := by simpa [bit] using hb
          have hb2 : (s : Int) / 2 ^ i % 2 = 0 := by omega
          repeat' first | refine s1 ?_ | (refine kR ?_; first | refine F.sil (A.shr rfl rfl rfl (by omega) (by omega)) rfl rfl ?_ | refine F.sil (A.and1 rfl rfl (by assumption)) rfl rfl ?_) | fail
          exact ⟨i + 1, F.fit ⟨slE (by rw [sel_neg hb]), rfl, trivial⟩ ⟨obE (by rw [pickM_neg hb]), trivial⟩, by omega, by omega⟩
        | true =>
          have hb' : (s : Int) / 2 ^ i % 2 = 1 := by simpa [bit] using hb
          repeat' first | refine s1 ?_ | (refine kR ?_; first | refine F.sil (A.shr rfl rfl rfl (by omega) (by omega)) rfl rfl ?_ | refine F.sil (A.and1 rfl rfl (by assumption)) rfl rfl ?_) | fail
          refine AW.open 9 1 (.inl rfl) ?_
          refine F.loop (σ := Nat) [9, 10, 11, 39, 40, 41, 42, 43, 44, 45, 46, 47, 48, 49, 50, 51, 52, 53] (fun k => [(9, .sl 3 (sel s k).length 0 (sel s k).length), (39, .i k)]) (fun k => [(3, .live false 1 (E true (pickR s k (M.getD i default))))]) (fun k => k ≤ q.n.toNat) (fun k => q.n.toNat - k) 0 ⟨rfl, rfl, trivial⟩ ⟨rfl, trivial⟩ (Nat.zero_le _) ?_
          rintro k g2
          have hl2 := pickR_len s k (M.getD i default)
          have hsl2 := sel_le s k
          have hnn2 := bit_nn s k
          by_cases hk2 : k < q.n.toNat
          · cases hc2 : bit s k with
            | false =>
              have hd' : ¬ (s : Int) / 2 ^ k % 2 = 1 := by simpa [bit] using hc2
              repeat' first | refine s1 ?_ | (refine kR ?_; first | refine F.sil (A.shr rfl rfl rfl (by omega) (by omega)) rfl rfl ?_ | refine F.sil (A.and1 rfl rfl (by assumption)) rfl rfl ?_) | fail
              exact ⟨k + 1, F.fit ⟨slE (by rw [sel_neg hc2]), rfl, trivial⟩ ⟨obE (by rw [pickR_neg hc2]), trivial⟩, by omega, by omega⟩
            | true =>
              have hd' : (s : Int) / 2 ^ k % 2 = 1 := by simpa [bit] using hc2
              repeat' first | refine s1 ?_ | (refine kR ?_; first | refine F.sil (A.shr rfl rfl rfl (by omega) (by omega)) rfl rfl ?_ | refine F.sil (A.and1 rfl rfl (by assumption)) rfl rfl ?_ | refine F.a1 Int ?_) | fail
              exact ⟨k + 1, F.fit ⟨slE (by rw [sel_pos hc2]; simp), rfl, trivial⟩ ⟨obE (by rw [pickR_pos hc2, Nat.zero_add]), trivial⟩, by omega, by omega⟩
          · obtain rfl : k = q.n.toNat := by omega
            repeat' first | refine s1 ?_ | (refine kR ?_; first | refine F.a1 (List Int) ?_ (hmv := .mv rfl (by simp) (by rw [E_length, pickR_len]) (E_pure _ _) .nil)) | fail
            exact ⟨i + 1, F.fit ⟨slE (by rw [sel_pos hb]; simp), rfl, trivial⟩ ⟨obE (by rw [pickM_pos hb]), trivial⟩, by omega, by omega⟩
      · obtain rfl : i = q.n.toNat := by omega
        have hD := implDet_a (sel s q.n.toNat).length (by omega) _ (V.Rows.pick hR)
        rw [← hd s] at hD
        obtain ⟨f, hf⟩ : ∃ f, 2 ^ q.n.toNat - s = f + 1 := ⟨2 ^ q.n.toNat - s - 1, by omega⟩
        have hf2 : 2 ^ q.n.toNat - (s + 1) = f := by omega
        rw [hf, kindR] at h3
        generalize D s = x at hD h3
        by_cases hx : x < 0
        · rw [if_pos hx] at h3
          subst h3
          repeat' first | refine s1 ?_ | (refine kR ?_; first | refine F.c (hD) ?_) | fail
          (refine kZ ?_; exact F.ret rfl)
        · rw [if_neg hx] at h3
          by_cases hz : x = 0
          · rw [if_pos hz] at h3
            repeat' first | refine s1 ?_ | (refine kR ?_; first | refine F.c (hD) ?_) | fail
            exact ⟨(s + 1, 2), F.fit ⟨rfl, rfl, trivial⟩ trivial, ⟨by omega, by unfold In64; omega, by rw [hf2]; exact h3⟩, by simp only; omega⟩
          · rw [if_neg hz] at h3
            repeat' first | refine s1 ?_ | (refine kR ?_; first | refine F.c (hD) ?_) | fail
            exact ⟨(s + 1, kd), F.fit ⟨rfl, rfl, trivial⟩ trivial, ⟨by omega, h2, by rw [hf2]; exact h3⟩, by simp only; omega⟩
    · obtain rfl : s = 2 ^ q.n.toNat := by omega
      rw [Nat.sub_self, kindR] at h3
      subst h3
      repeat' first | refine s1 ?_ | (refine kR ?_; first | refine F.sil (A.shl (a := 1) rfl rfl hn.symm (by omega) hin) rfl rfl ?_) | fail
      (refine kZ ?_; exact F.ret rfl)
end Go.Proofs.Ytcalkmlaodjpaaa.V
