/- Contracts of the laws' helpers on lists of spaces: sizes, copies; how laws read them. -/
import Derived.Test.YtedjajokbdokhaaGreatUm
import Derived.Test.YtedjajokbdokhaaGreatC1
namespace Go.Proofs.YtedjajokbdokhaaGreat.V
open V.Enc (enc)
open Go.RowKit G D
set_option linter.unusedVariables false
set_option linter.unusedSimpArgs false
set_option maxHeartbeats 4000000
set_option maxRecDepth 4000
attribute [local irreducible] AW ARg ARA ARet MRet ASil AC AM

def totS (s : Spc) : Nat := s.b.length + (s.b.map List.length).sum
def totSS (ms : List Spc) : Nat := ms.length + cnt totS ms
theorem szRows_eq : ∀ (m : List (List Int)) (l : Int), 0 ≤ l → l ≤ 1048576 → szRows m l = sz1 (m.map List.length).sum l
  | [], l, h, h1 => by simp [szRows, sz1]; omega
  | r :: rs, l, h, h1 => by
    have h2 := sz1_le (n := r.length) h h1
    rw [szRows, List.map_cons, List.sum_cons, sz1_add]
    by_cases e : sz1 r.length l < 0
    · rw [if_pos e, if_pos e]
    · rw [if_neg e, if_neg e, szRows_eq rs _ (by omega) (by omega)]
theorem szSS_eq (m : List (List Int)) (l : Int) (h : 0 ≤ l) (h1 : l ≤ 1048576) : szSS m l = sz1 (m.length + (m.map List.length).sum) l := by
  rw [sz1_add]
  unfold szSS
  by_cases e : l - m.length < 0
  · have e2 : sz1 m.length l = -1 := by unfold sz1; rw [if_pos e]
    rw [if_pos e, e2, if_pos (by omega)]
  · have e2 : sz1 m.length l = l - m.length := by unfold sz1; rw [if_neg e]
    rw [if_neg e, e2, if_neg e, szRows_eq m _ (by omega) (by omega)]
theorem szSpace_a (s : Spc) (l : Int) (h0 : 0 ≤ l) (h1 : l ≤ 1048576) : AC Tryz.prog 67 [.agg (enc false s), .i l] [.i (sz1 (totS s) l)] := by
  refine AC.go Tryz.func67 Tryz.ntmps67 rfl rfl fun w0 hw => ?_; simp [WfL, WfA, E_length, Enc.enc, In64] at hw
  have hA := szIntSS_a s.b l h0 h1
  rw [szSS_eq s.b l h0 h1, show s.b.length + (s.b.map List.length).sum = totS s from rfl] at hA
  have b1 := sz1_le (n := totS s) h0 h1
  generalize sz1 (totS s) l = a at hA b1
  by_cases ha : a < 0
  · obtain rfl : a = -1 := by omega
    repeat' first | refine s1 ?_ | (refine kR ?_; first | refine F.c (hA) ?_) | fail
    exact F.ret rfl
  · repeat' first | refine s1 ?_ | (refine kR ?_; first | refine F.c (hA) ?_) | fail
    exact F.ret rfl
theorem len_sum : ∀ {m : List (List Int)} {x : List Int}, x ∈ m → x.length ≤ (m.map List.length).sum
  | [], _, h => by cases h
  | y :: m, x, h => by
    rw [List.map_cons, List.sum_cons]
    rcases List.mem_cons.1 h with rfl | h
    · omega
    · have := len_sum h; omega
theorem toSpace_a (s : Spc) (h : totS s ≤ 1048576) : AC Tryz.prog 70 [.agg (enc false s)] [.agg (enc true s)] := by
  refine AC.go Tryz.func70 Tryz.ntmps70 rfl rfl fun w0 hw => ?_; simp [WfL, WfA, E_length, Enc.enc, In64] at hw
  unfold totS at h
  have hA := toIntSS_a s.b (by omega) (fun x hx => by have := len_sum hx; omega)
  repeat' first | refine s1 ?_ | (refine kR ?_; first | refine F.c (hA) ?_) | fail
  exact F.ret rfl
theorem szSpaceS_a (ms : List Spc) (l : Int) (h0 : 0 ≤ l) (h1 : l ≤ 1048576) : AC Tryz.prog 21 [ar false ms, .i l] [.i (sz1 (totSS ms) l)] := by
  refine AC.go Tryz.func21 Tryz.ntmps21 rfl rfl fun w0 hw => ?_; simp [WfL, WfA, E_length, Enc.enc, In64] at hw
  by_cases hn : l - ms.length < 0
  · have e : sz1 (totSS ms) l = -1 := by unfold sz1 totSS; push_cast; rw [if_pos (by omega)]
    rw [e]
    repeat' first | refine s1 ?_ | fail
    exact F.ret rfl
  · repeat' first | refine s1 ?_ | fail
    refine F.loop (σ := Nat) [1, 4, 5, 12, 13, 14, 15, 16, 17, 18, 19, 20, 21, 22, 23, 24, 25] (fun j => [(1, .i (l - ms.length - cnt totS (ms.take j))), (5, .i j)]) (fun _ => []) (fun j => j ≤ ms.length ∧ 0 ≤ l - ms.length - cnt totS (ms.take j)) (fun j => ms.length - j) 0 ⟨iE (by simp [cnt]), rfl, trivial⟩ trivial ⟨Nat.zero_le _, by simp [cnt]; omega⟩ ?_
    rintro j ⟨h2, h3⟩
    by_cases hlt : j < ms.length
    · have hA := szSpace_a (ms.getD j default) (l - ms.length - cnt totS (ms.take j)) h3 (by omega)
      have hc := cnt_succ totS hlt
      have hcl := cnt_le totS (xs := ms) (j + 1)
      by_cases ha : l - ms.length - cnt totS (ms.take (j + 1)) < 0
      · have e1 : sz1 (totS (ms.getD j default)) (l - ms.length - cnt totS (ms.take j)) = -1 := by unfold sz1; rw [if_pos (by omega)]
        rw [e1] at hA
        have e : sz1 (totSS ms) l = -1 := by unfold sz1 totSS; push_cast; rw [if_pos (by omega)]
        rw [e]
        repeat' first | refine s1 ?_ | (refine kR ?_; first | refine F.c (hA) ?_) | fail
        exact F.ret rfl
      · have e1 : sz1 (totS (ms.getD j default)) (l - ms.length - cnt totS (ms.take j)) = l - ms.length - cnt totS (ms.take (j + 1)) := by unfold sz1; rw [if_neg (by omega), hc]; push_cast; omega
        rw [e1] at hA
        repeat' first | refine s1 ?_ | (refine kR ?_; first | refine F.c (hA) ?_) | fail
        exact ⟨j + 1, F.fit ⟨rfl, rfl, trivial⟩ trivial, ⟨by omega, by omega⟩, by omega⟩
    · obtain rfl : j = ms.length := by omega
      rw [List.take_length] at h3 ⊢
      have e : sz1 (totSS ms) l = l - ms.length - cnt totS ms := by unfold sz1 totSS; push_cast; rw [if_neg (by omega)]; omega
      rw [e]
      repeat' first | refine s1 ?_ | fail
      exact F.ret rfl
theorem toSpaceS_a (ms : List Spc) (h : totSS ms ≤ 1048576) : AC Tryz.prog 23 [ar false ms] [.dt true (Enc.nc Spc) (E true ms)] := by
  refine AC.go Tryz.func23 Tryz.ntmps23 rfl rfl fun w0 hw => ?_; simp [WfL, WfA, E_length, Enc.enc, In64] at hw
  unfold totSS at h
  repeat' first | refine s1 ?_ | (refine kR ?_; first | refine F.mk (m := ms.length) Spc rfl rfl rfl (mkB (by omega)) (by omega) rfl rfl ?_) | fail
  refine F.loop (σ := Nat) [4, 8, 9, 10, 11, 12, 13, 14, 15, 16, 17, 18, 19, 20, 21] (fun k => [(4, .i k)]) (fun k => [(0, .live false 2 (E true (part ms ⟨0, []⟩ k)))]) (fun k => k ≤ ms.length) (fun k => ms.length - k) 0 ⟨rfl, trivial⟩ ⟨obE (by rw [part_zero]), trivial⟩ (Nat.zero_le _) ?_
  rintro k h1
  have hp := part_len ms ⟨0, []⟩ h1
  by_cases hlt : k < ms.length
  · have hA := toSpace_a (ms.getD k default) (by have := cnt_mem totS (gm (d := default) hlt); omega)
    repeat' first | refine s1 ?_ | (refine kR ?_; first | refine F.c (hA) ?_) | fail
    refine F.stGE (α := Spc) (oo := true) (v := ms.getD k default) rfl rfl rfl rfl rfl (by omega) (by omega) (.at1 rfl (.mv rfl (by simp) (E_length _ _) (E_pure _ _) .nil)) rfl rfl rfl rfl rfl ?_
    repeat' first | refine s1 ?_ | fail
    exact ⟨k + 1, F.fit ⟨rfl, trivial⟩ ⟨obE (by rw [Nat.zero_add, part_set ms _ hlt]), trivial⟩, by omega, by omega⟩
  · obtain rfl : k = ms.length := by omega
    rw [part_all] at hp ⊢
    repeat' first | refine s1 ?_ | fail
    exact F.ret rfl
theorem ctL_sum : ∀ m : List (List Int), cnt ctL m = (m.map List.length).sum
  | [] => rfl
  | x :: m => by
    have := ctL_sum m
    simp only [cnt, List.map_cons, List.sum_cons, ctL] at *
    omega
theorem ctSpS_le : ∀ ms : List Spc, cnt ctS ms + cnt lnS ms ≤ 4 * totSS ms
  | [] => by simp [cnt]
  | s :: ms => by
    have h1 := ctSpS_le ms
    have h2 := ctL_sum s.b
    simp only [totSS, cnt, List.map_cons, List.sum_cons, List.length_cons, ctS, lnS, totS] at *
    omega
def spcR : Rp Spc := mapR (fun m => (m.n, m.b)) (seqR intR (listR (listR intR)))
instance : RdE spcR := ⟨rfl, fun h => by
  obtain ⟨v1, v2, F1, F2, h1, h2, rfl, rfl⟩ := h
  exact (RdE.h h1).append (RdE.h h2)⟩
instance : Rds Tryz.prog 79 spcR := Rds.struct (fun x => ⟨x.1, x.2⟩) (fun _ => rfl) Tryz.underlying79 (by kernel_rfl) (RdsF.cons rfl (inferInstance : Rds Tryz.prog 3 intR) rfl (RdsF.one rfl (inferInstance : Rds Tryz.prog 55 (listR (listR intR)))))
instance : Rds Tryz.prog 40 (listR spcR) := Rds.slice Tryz.underlying40 (by kernel_rfl) inferInstance (by decide)
end Go.Proofs.YtedjajokbdokhaaGreat.V
