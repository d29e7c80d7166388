/- Contracts of the laws' helpers on lists of representations: sizes, copies, equality, marks. -/
import Derived.Test.YtlmenmacepeeaaaUm
namespace Go.Proofs.Ytlmenmacepeeaaa.V
open Go.RowKit G D
set_option linter.unusedVariables false
set_option linter.unusedSimpArgs false
set_option maxHeartbeats 4000000
set_option maxRecDepth 4000
attribute [local irreducible] AW ARg ARA ARet MRet ASil AC AM

def totRS (rs : List Rep) : Nat := rs.length + cnt totR rs
theorem szRepS_a (ms : List Rep) (l : Int) (h0 : 0 ≤ l) (h1 : l ≤ 1048576) : AC Try.prog 49 [ar false ms, .i l] [.i (sz1 (totRS ms) l)] := by
  refine AC.go Try.func49 Try.ntmps49 rfl rfl fun w0 hw => ?_; simp [WfL, WfA, E_length, Enc.enc, In64] at hw
  by_cases hn : l - ms.length < 0
  · have e : sz1 (totRS ms) l = -1 := by unfold sz1 totRS; push_cast; rw [if_pos (by omega)]
    rw [e]
    repeat' first | refine s1 ?_ | fail
    exact F.ret rfl
  · repeat' first | refine s1 ?_ | fail
    refine F.loop (σ := Nat) [1, 4, 5, 12, 13, 14, 15, 16, 17, 18, 19, 20, 21, 22, 23, 24, 25] (fun j => [(1, .i (l - ms.length - cnt totR (ms.take j))), (5, .i j)]) (fun _ => []) (fun j => j ≤ ms.length ∧ 0 ≤ l - ms.length - cnt totR (ms.take j)) (fun j => ms.length - j) 0 ⟨iE (by simp [cnt]), rfl, trivial⟩ trivial ⟨Nat.zero_le _, by simp [cnt]; omega⟩ ?_
    rintro j ⟨h2, h3⟩
    by_cases hlt : j < ms.length
    · have hA := szRep_a (ms.getD j default) (l - ms.length - cnt totR (ms.take j)) h3 (by omega)
      have hc := cnt_succ totR hlt
      have hcl := cnt_le totR (xs := ms) (j + 1)
      by_cases ha : l - ms.length - cnt totR (ms.take (j + 1)) < 0
      · have e1 : sz1 (totR (ms.getD j default)) (l - ms.length - cnt totR (ms.take j)) = -1 := by unfold sz1; rw [if_pos (by omega)]
        rw [e1] at hA
        have e : sz1 (totRS ms) l = -1 := by unfold sz1 totRS; push_cast; rw [if_pos (by omega)]
        rw [e]
        repeat' first | refine s1 ?_ | (refine kR ?_; first | refine F.c (hA) ?_) | fail
        exact F.ret rfl
      · have e1 : sz1 (totR (ms.getD j default)) (l - ms.length - cnt totR (ms.take j)) = l - ms.length - cnt totR (ms.take (j + 1)) := by unfold sz1; rw [if_neg (by omega), hc]; push_cast; omega
        rw [e1] at hA
        repeat' first | refine s1 ?_ | (refine kR ?_; first | refine F.c (hA) ?_) | fail
        exact ⟨j + 1, F.fit ⟨rfl, rfl, trivial⟩ trivial, ⟨by omega, by omega⟩, by omega⟩
    · obtain rfl : j = ms.length := by omega
      rw [List.take_length] at h3 ⊢
      have e : sz1 (totRS ms) l = l - ms.length - cnt totR ms := by unfold sz1 totRS; push_cast; rw [if_neg (by omega)]; omega
      rw [e]
      repeat' first | refine s1 ?_ | fail
      exact F.ret rfl
theorem toRepS_a (ms : List Rep) (h : totRS ms ≤ 1048576) : AC Try.prog 51 [ar false ms] [.dt true (Enc.nc Rep) (E true ms)] := by
  refine AC.go Try.func51 Try.ntmps51 rfl rfl fun w0 hw => ?_; simp [WfL, WfA, E_length, Enc.enc, In64] at hw
  unfold totRS at h
  repeat' first | refine s1 ?_ | (refine kR ?_; first | refine F.mk (m := ms.length) Rep rfl rfl rfl (mkB (by omega)) (by omega) rfl rfl ?_) | fail
  refine F.loop (σ := Nat) [4, 8, 9, 10, 11, 12, 13, 14, 15, 16, 17, 18, 19, 20, 21] (fun k => [(4, .i k)]) (fun k => [(0, .live false 6 (E true (part ms ⟨0, ⟨0, [], []⟩, [], []⟩ k)))]) (fun k => k ≤ ms.length) (fun k => ms.length - k) 0 ⟨rfl, trivial⟩ ⟨obE (by rw [part_zero]), trivial⟩ (Nat.zero_le _) ?_
  rintro k h1
  have hp := part_len ms ⟨0, ⟨0, [], []⟩, [], []⟩ h1
  by_cases hlt : k < ms.length
  · have hA := toRep_a (ms.getD k default) (by have := cnt_mem totR (gm (d := default) hlt); omega)
    repeat' first | refine s1 ?_ | (refine kR ?_; first | refine F.c (hA) ?_) | fail
    refine F.stGE (α := Rep) (oo := true) (v := ms.getD k default) rfl rfl rfl rfl rfl (by omega) (by omega) (.at1 rfl (.at1 rfl (.mv rfl (by simp) (E_length _ _) (E_pure _ _) (.mv rfl (by simp) (E_length _ _) (E_pure _ _) (.mv rfl (by simp) (E_length _ _) (E_pure _ _) (.mv rfl (by simp) (E_length _ _) (E_pure _ _) .nil)))))) rfl rfl rfl rfl rfl ?_
    repeat' first | refine s1 ?_ | fail
    exact ⟨k + 1, F.fit ⟨rfl, trivial⟩ ⟨obE (by rw [Nat.zero_add, part_set ms _ hlt]), trivial⟩, by omega, by omega⟩
  · obtain rfl : k = ms.length := by omega
    rw [part_all] at hp ⊢
    repeat' first | refine s1 ?_ | fail
    exact F.ret rfl
theorem eqRepS_s (ms : List Rep) : AC Try.prog 53 [ar false ms, ar false ms] [.b true] := by
  refine AC.go Try.func53 Try.ntmps53 rfl rfl fun w0 hw => ?_; simp [WfL, WfA, E_length, Enc.enc, In64] at hw
  repeat' first | refine s1 ?_ | fail
  refine F.loop (σ := Nat) [4, 5, 11, 12, 13, 14, 15, 16, 17, 18, 19, 20, 21, 22, 23, 24, 25, 26] (fun k => [(5, .i k)]) (fun _ => []) (fun k => k ≤ ms.length) (fun k => ms.length - k) 0 ⟨rfl, trivial⟩ trivial (Nat.zero_le _) ?_
  rintro k h1
  by_cases hlt : k < ms.length
  · have hA := eqRep_s (ms.getD k default)
    repeat' first | refine s1 ?_ | fail
    refine AW.draw 10 G.mixed (by kernel_rfl) ?_
    refine dP 0 ?_
    refine dP 1 ?_
    refine dP 2 ?_
    refine dL 3 ?_
    refine dP 4 ?_
    refine dP 5 ?_
    refine dP 6 ?_
    refine dL 7 ?_
    refine dO 8 true ?_
    first | refine s1 ?_ | refine F.c (hA) ?_
    refine ARg.nil (ATh.normal ?_)
    refine dP 9 ?_
    refine dN ?_
    repeat' first | refine s1 ?_ | fail
    exact ⟨k + 1, F.fit ⟨rfl, trivial⟩ trivial, by omega, by omega⟩
  · repeat' first | refine s1 ?_ | fail
    exact F.ret rfl
def ctX (r : Rep) : Nat := ctR r + 2
theorem ctX_ge (r : Rep) : 1 ≤ ctX r := by unfold ctX; omega
def mkX (k : Int) (r : Rep) : Rep := ⟨k, ⟨k + 1, (mkQ (k + 2) r.q).fr, (mkQ (k + 2) r.q).to⟩, mkL (k + 2 + totQ r.q) r.d.length, mkMS (k + 2 + totQ r.q + r.d.length) r.m⟩
theorem markRepS_m (ms : List Rep) (k : Int) (h0 : 0 ≤ k) (h1 : k + cnt ctX ms ≤ 4611686018427387904) : AM Try.prog 60 [.sl 0 ms.length 0 ms.length, .i k] [(6, E true ms)] [.i (k + cnt ctX ms)] [(6, E true (mkA mkX ctX k ms))] := by
  refine AM.go Try.func60 Try.ntmps60 rfl rfl fun w0 mp hw => ?_; simp [WfL, WfA, E_length, Enc.enc, In64] at hw
  have hge := cnt_ge ctX_ge ms
  repeat' first | refine s1 ?_ | fail
  refine F.loop (σ := Nat) [1, 5, 6, 7, 8, 9, 10, 11, 12, 13, 14, 15, 16, 17, 18, 19, 20, 21, 22, 23, 24, 25, 26, 27, 28, 29, 30, 31, 32, 33, 34, 35, 36, 37, 38, 39, 40, 41, 42, 43, 44, 45, 46, 47, 48, 49, 50, 51, 52, 53, 54, 55, 56] (fun j => [(1, .i (k + cnt ctX (ms.take j))), (5, .i j)]) (fun j => [(0, .live false 6 (E true (mkq mkX ctX k ms j)))]) (fun j => j ≤ ms.length) (fun j => ms.length - j) 0 ⟨iE (by simp [cnt]), rfl, trivial⟩ ⟨obE (by rw [mkq_zero]), trivial⟩ (Nat.zero_le _) ?_
  rintro j h2
  have hp := mkq_len mkX ctX (k := k) h2
  have hcl := cnt_le ctX (xs := ms) j
  by_cases hlt : j < ms.length
  · have hg := mkq_get mkX ctX (k := k) hlt
    have hS := mkq_set mkX ctX (k := k) hlt
    have hc2 := cnt_succ ctX hlt
    have hcl2 := cnt_le ctX (xs := ms) (j + 1)
    generalize hL : mkq mkX ctX k ms j = L at hp hg hS ⊢
    generalize hkk : k + ↑(cnt ctX (ms.take j)) = kk at hS ⊢
    have hct : ctX (ms.getD j default) = totQ (ms.getD j default).q + (ms.getD j default).d.length + cnt ctM (ms.getD j default).m + 2 := rfl
    have htq : totQ (ms.getD j default).q = (ms.getD j default).q.fr.length + (ms.getD j default).q.to.length := rfl
    generalize hRr : ms.getD j default = R at hg hS hct hc2 htq
    obtain ⟨rp, ⟨rn, rfr, rto⟩, rd, rm⟩ := R
    dsimp only at hct htq
    repeat' first | refine s1 ?_ | fail
    refine F.stE (α := Rep) (oo := true) ⟨kk, ⟨rn, rfr, rto⟩, rd, rm⟩ rfl rfl rfl rfl (by omega) (by omega) rfl (.at1 rfl .nil) rfl (by rw [Nat.zero_add, hg]; rfl) rfl rfl rfl ?_
    rw [Nat.zero_add j]
    generalize hL1 : L.set j ⟨kk, ⟨rn, rfr, rto⟩, rd, rm⟩ = L1
    have hp1 : L1.length = ms.length := by rw [← hL1]; simp [hp]
    have hg1 : L1.getD j default = ⟨kk, ⟨rn, rfr, rto⟩, rd, rm⟩ := by rw [← hL1, set_get (by omega)]
    repeat' first | refine s1 ?_ | fail
    refine F.stE (α := Rep) (oo := true) ⟨kk, ⟨kk + 1, rfr, rto⟩, rd, rm⟩ rfl rfl rfl rfl (by omega) (by omega) rfl (.at1 rfl .nil) rfl (by rw [Nat.zero_add j, hg1]; rfl) rfl rfl rfl ?_
    rw [Nat.zero_add j]
    generalize hL2 : L1.set j ⟨kk, ⟨kk + 1, rfr, rto⟩, rd, rm⟩ = L2
    have hp2 : L2.length = ms.length := by rw [← hL2]; simp [hp1]
    have hg2 : L2.getD j default = ⟨kk, ⟨kk + 1, rfr, rto⟩, rd, rm⟩ := by rw [← hL2, set_get (by omega)]
    repeat' first | refine s1 ?_ | fail
    refine F.ldTE (α := Rep) (j := 2) rfl rfl (by omega) (by omega) (by rw [Nat.zero_add j, hg2]; rfl) (E_length _ _) rfl rfl ?_
    rw [Nat.zero_add j]
    repeat' first | refine s1 ?_ | fail
    refine F.m [1] (markIntS_m rfr (kk + 1 + 1) (by omega) (by omega)) ?_
    refine F.put (α := Rep) (o := 0) (o2 := 1) (k := j) (j := 2) (v := ⟨kk, ⟨kk + 1, mkL (kk + 1 + 1) rfr.length, rto⟩, rd, rm⟩) (ls := L2) rfl rfl (by rw [E_length, mkL_len]) (E_pure _ _) rfl (by omega) rfl (by rw [hg2]; rfl) ?_
    generalize hL3 : L2.set j ⟨kk, ⟨kk + 1, mkL (kk + 1 + 1) rfr.length, rto⟩, rd, rm⟩ = L3
    have hp3 : L3.length = ms.length := by rw [← hL3]; simp [hp2]
    have hg3 : L3.getD j default = ⟨kk, ⟨kk + 1, mkL (kk + 1 + 1) rfr.length, rto⟩, rd, rm⟩ := by rw [← hL3, set_get (by omega)]
    repeat' first | refine s1 ?_ | fail
    refine F.ldTE (α := Rep) (j := 3) rfl rfl (by omega) (by omega) (by rw [Nat.zero_add j, hg3]; rfl) (E_length _ _) rfl rfl ?_
    rw [Nat.zero_add j]
    repeat' first | refine s1 ?_ | fail
    refine F.m [2] (markIntS_m rto (kk + 1 + 1 + rfr.length) (by omega) (by omega)) ?_
    refine F.put (α := Rep) (o := 0) (o2 := 2) (k := j) (j := 3) (v := ⟨kk, ⟨kk + 1, mkL (kk + 1 + 1) rfr.length, mkL (kk + 1 + 1 + rfr.length) rto.length⟩, rd, rm⟩) (ls := L3) rfl rfl (by rw [E_length, mkL_len]) (E_pure _ _) rfl (by omega) rfl (by rw [hg3]; rfl) ?_
    generalize hL4 : L3.set j ⟨kk, ⟨kk + 1, mkL (kk + 1 + 1) rfr.length, mkL (kk + 1 + 1 + rfr.length) rto.length⟩, rd, rm⟩ = L4
    have hp4 : L4.length = ms.length := by rw [← hL4]; simp [hp3]
    have hg4 : L4.getD j default = ⟨kk, ⟨kk + 1, mkL (kk + 1 + 1) rfr.length, mkL (kk + 1 + 1 + rfr.length) rto.length⟩, rd, rm⟩ := by rw [← hL4, set_get (by omega)]
    repeat' first | refine s1 ?_ | fail
    refine F.ldTE (α := Rep) (j := 4) rfl rfl (by omega) (by omega) (by rw [Nat.zero_add j, hg4]; rfl) (E_length _ _) rfl rfl ?_
    rw [Nat.zero_add j]
    repeat' first | refine s1 ?_ | fail
    refine F.m [3] (markIntS_m rd (kk + 1 + 1 + rfr.length + rto.length) (by omega) (by omega)) ?_
    refine F.put (α := Rep) (o := 0) (o2 := 3) (k := j) (j := 4) (v := ⟨kk, ⟨kk + 1, mkL (kk + 1 + 1) rfr.length, mkL (kk + 1 + 1 + rfr.length) rto.length⟩, mkL (kk + 1 + 1 + rfr.length + rto.length) rd.length, rm⟩) (ls := L4) rfl rfl (by rw [E_length, mkL_len]) (E_pure _ _) rfl (by omega) rfl (by rw [hg4]; rfl) ?_
    generalize hL5 : L4.set j ⟨kk, ⟨kk + 1, mkL (kk + 1 + 1) rfr.length, mkL (kk + 1 + 1 + rfr.length) rto.length⟩, mkL (kk + 1 + 1 + rfr.length + rto.length) rd.length, rm⟩ = L5
    have hp5 : L5.length = ms.length := by rw [← hL5]; simp [hp4]
    have hg5 : L5.getD j default = ⟨kk, ⟨kk + 1, mkL (kk + 1 + 1) rfr.length, mkL (kk + 1 + 1 + rfr.length) rto.length⟩, mkL (kk + 1 + 1 + rfr.length + rto.length) rd.length, rm⟩ := by rw [← hL5, set_get (by omega)]
    repeat' first | refine s1 ?_ | fail
    refine F.ldTE (α := Rep) (j := 5) rfl rfl (by omega) (by omega) (by rw [Nat.zero_add j, hg5]; rfl) (E_length _ _) rfl rfl ?_
    rw [Nat.zero_add j]
    repeat' first | refine s1 ?_ | fail
    have hl6 : (mkMS (kk + 1 + 1 + rfr.length + rto.length + rd.length) rm).length = rm.length := mkA_len _ _ _ _
    refine F.m [4] (markMatrixS_m rm (kk + 1 + 1 + rfr.length + rto.length + rd.length) (by omega) (by omega)) ?_
    refine F.put (α := Rep) (o := 0) (o2 := 4) (k := j) (j := 5) (v := ⟨kk, ⟨kk + 1, mkL (kk + 1 + 1) rfr.length, mkL (kk + 1 + 1 + rfr.length) rto.length⟩, mkL (kk + 1 + 1 + rfr.length + rto.length) rd.length, mkMS (kk + 1 + 1 + rfr.length + rto.length + rd.length) rm⟩) (ls := L5) rfl rfl (by rw [E_length, hl6]) (E_pure _ _) rfl (by omega) rfl (by rw [hg5]; rfl) ?_
    have e : L5.set j ⟨kk, ⟨kk + 1, mkL (kk + 1 + 1) rfr.length, mkL (kk + 1 + 1 + rfr.length) rto.length⟩, mkL (kk + 1 + 1 + rfr.length + rto.length) rd.length, mkMS (kk + 1 + 1 + rfr.length + rto.length + rd.length) rm⟩ = mkq mkX ctX k ms (j + 1) := by
      rw [← hL5, ← hL4, ← hL3, ← hL2, ← hL1, List.set_set, List.set_set, List.set_set, List.set_set, List.set_set, ← hS]
      congr 1
      have a1 : kk + 1 + 1 = kk + 2 := by omega
      have a2 : kk + 1 + 1 + (rfr.length : Int) = kk + 2 + rfr.length := by omega
      have a3 : kk + 1 + 1 + (rfr.length : Int) + rto.length = kk + 2 + totQ (⟨rn, rfr, rto⟩ : Quiv) := by simp only [totQ]; push_cast; omega
      have a4 : kk + 1 + 1 + (rfr.length : Int) + rto.length + rd.length = kk + 2 + totQ (⟨rn, rfr, rto⟩ : Quiv) + rd.length := by rw [a3]
      simp only [mkX, mkQ]
      rw [a3, a2, a1]
    rw [e]
    repeat' first | refine s1 ?_ | fail
    exact ⟨j + 1, F.fit ⟨iE (by rw [hc2, hct]; push_cast; omega), rfl, trivial⟩ ⟨rfl, trivial⟩, by omega, by omega⟩
  · obtain rfl : j = ms.length := by omega
    rw [mkq_all] at hp ⊢
    rw [List.take_length]
    repeat' first | refine s1 ?_ | fail
    refine F.retM rfl ?_
    exact ⟨rfl, trivial⟩
theorem markRS_k (xs : List Rep) (k : Int) (h0 : 0 ≤ k) (h : k + cnt ctX xs ≤ 4611686018427387904) : ∃ ys : List Rep, ys.length = xs.length ∧
    AM Try.prog 60 [.sl 0 xs.length 0 xs.length, .i k] [(6, E true xs)] [.i (k + cnt ctX xs)] [(6, E true ys)] ∧ True :=
  ⟨_, mkA_len _ _ _ _, markRepS_m xs k h0 h, trivial⟩
theorem ctRS_le : ∀ ms : List Rep, cnt ctX ms ≤ 2 * totRS ms
  | [] => by simp [cnt]
  | m :: ms => by
    have := ctRS_le ms
    have h := ctR_le m
    simp only [totRS, cnt, List.map_cons, List.sum_cons, List.length_cons, ctX] at *; omega
instance : Rds Try.prog 63 (listR repR) := Rds.slice Try.underlying63 (by kernel_rfl) inferInstance (by decide)
end Go.Proofs.Ytlmenmacepeeaaa.V
