/- Contracts of the laws' helpers on lists of lists, of matrices, and on representations: marks. -/
import Derived.Test.YtcalkmlaodjpaaaM3
namespace Go.Proofs.Ytcalkmlaodjpaaa.V
open V.Enc (enc)
open Go.RowKit G D
set_option linter.unusedVariables false
set_option linter.unusedSimpArgs false
set_option maxHeartbeats 400000

def mkM (k : Int) (m : Mat) : Mat := ⟨k, k + 1, mkL (k + 2) m.m.length⟩
def mkMS (k : Int) (ms : List Mat) : List Mat := mkA mkM ctM k ms
theorem set_get {α : Type} [Inhabited α] {L : List α} {j : Nat} (h : j < L.length) (x : α) : (L.set j x).getD j default = x := by simp [h]
theorem cnt_ge {α : Type} {c : α → Nat} (h : ∀ x, 1 ≤ c x) : ∀ xs : List α, xs.length ≤ cnt c xs
  | [] => Nat.zero_le _
  | x :: xs => by
    have h1 := h x
    have h2 := cnt_ge h xs
    simp only [cnt, List.map_cons, List.sum_cons, List.length_cons] at *; omega
theorem ctM_ge (m : Mat) : 1 ≤ ctM m := by unfold ctM; omega
theorem markMatrixS_m (ms : List Mat) (k : Int) (h0 : 0 ≤ k) (h1 : k + cnt ctM ms ≤ 4611686018427387904) : AM Try.prog 59 [.sl 0 ms.length 0 ms.length, .i k] [(3, E true ms)] [.i (k + cnt ctM ms)] [(3, E true (mkMS k ms))] := by
  refine AM.go Try.func59 Try.ntmps59 rfl rfl fun w0 mp hw => ?_; simp [WfL, WfA, E_length, Enc.enc, In64] at hw
  have hge := cnt_ge ctM_ge ms
  repeat' first | refine s1 ?_ | fail
  refine F.loop (σ := Nat) [1, 5, 6, 7, 8, 9, 10, 11, 12, 13, 14, 15, 16, 17, 18, 19, 20, 21, 22, 23, 24, 25, 26, 27, 28, 29, 30, 31, 32] (fun j => [(1, .i (k + cnt ctM (ms.take j))), (5, .i j)]) (fun j => [(0, .live false 3 (E true (mkq mkM ctM k ms j)))]) (fun j => j ≤ ms.length) (fun j => ms.length - j) 0 ⟨iE (by simp [cnt]), rfl, trivial⟩ ⟨obE (by rw [mkq_zero]), trivial⟩ (Nat.zero_le _) ?_
  rintro j h2
  have hp := mkq_len mkM ctM (k := k) h2
  have hcl := cnt_le ctM (xs := ms) j
  by_cases hlt : j < ms.length
  · have hg := mkq_get mkM ctM (k := k) hlt
    have hS := mkq_set mkM ctM (k := k) hlt
    have hc2 := cnt_succ ctM hlt
    have hcl2 := cnt_le ctM (xs := ms) (j + 1)
    generalize hL : mkq mkM ctM k ms j = L at hp hg hS ⊢
    generalize hkk : k + ↑(cnt ctM (ms.take j)) = kk at hS ⊢
    have hct : ctM (ms.getD j default) = (ms.getD j default).m.length + 2 := rfl
    repeat' first | refine s1 ?_ | fail
    refine F.stE (α := Mat) (oo := true) ⟨kk, (L.getD j default).c, (L.getD j default).m⟩ rfl rfl rfl rfl (by omega) (by omega) rfl (.at1 rfl .nil) rfl (by rw [Nat.zero_add]; rfl) rfl rfl rfl ?_
    rw [Nat.zero_add j]
    generalize hL1 : L.set j ⟨kk, (L.getD j default).c, (L.getD j default).m⟩ = L1
    have hp1 : L1.length = ms.length := by rw [← hL1]; simp [hp]
    have hg1 : L1.getD j default = ⟨kk, (L.getD j default).c, (L.getD j default).m⟩ := by rw [← hL1, set_get (by omega)]
    repeat' first | refine s1 ?_ | fail
    refine F.stE (α := Mat) (oo := true) ⟨kk, kk + 1, (L.getD j default).m⟩ rfl rfl rfl rfl (by omega) (by omega) rfl (.at1 rfl .nil) rfl (by rw [Nat.zero_add j, hg1]; rfl) rfl rfl rfl ?_
    rw [Nat.zero_add j]
    generalize hL2 : L1.set j ⟨kk, kk + 1, (L.getD j default).m⟩ = L2
    have hp2 : L2.length = ms.length := by rw [← hL2]; simp [hp1]
    have hg2 : L2.getD j default = ⟨kk, kk + 1, (ms.getD j default).m⟩ := by rw [← hL2, set_get (by omega), hg]
    repeat' first | refine s1 ?_ | fail
    refine F.ldTE (α := Mat) (j := 2) rfl rfl (by omega) (by omega) (by rw [Nat.zero_add j, hg2]; rfl) (E_length _ _) rfl rfl ?_
    rw [Nat.zero_add j]
    repeat' first | refine s1 ?_ | fail
    refine F.m [1] (markIntS_m (ms.getD j default).m (kk + 1 + 1) (by omega) (by omega)) ?_
    refine F.put (α := Mat) (o := 0) (o2 := 1) (k := j) (j := 2) (v := mkM kk (ms.getD j default)) (ls := L2) rfl rfl (by rw [E_length, mkL_len]) (E_pure _ _) rfl (by omega) rfl (by rw [hg2]; simp [mkM, enc, Enc.enc, Int.add_assoc]; rfl) ?_
    have e : L2.set j (mkM kk (ms.getD j default)) = mkq mkM ctM k ms (j + 1) := by rw [← hL2, ← hL1, List.set_set, List.set_set, hS]
    rw [e]
    repeat' first | refine s1 ?_ | fail
    exact ⟨j + 1, F.fit ⟨iE (by rw [hc2]; push_cast; omega), rfl, trivial⟩ ⟨rfl, trivial⟩, by omega, by omega⟩
  · obtain rfl : j = ms.length := by omega
    rw [mkq_all] at hp ⊢
    rw [List.take_length]
    repeat' first | refine s1 ?_ | fail
    refine F.retM rfl ?_
    exact ⟨rfl, trivial⟩
theorem heldMatrixS_a (k : Int) (ms : List Mat) (h0 : 0 ≤ k) (h1 : k + cnt ctM ms ≤ 4611686018427387904) : AC Try.prog 60 [ar false (mkMS k ms), .i k] [.i (k + cnt ctM ms)] := by
  refine AC.go Try.func60 Try.ntmps60 rfl rfl fun w0 hw => ?_; simp [WfL, WfA, E_length, Enc.enc, In64] at hw
  have hge := cnt_ge ctM_ge ms
  have hl : (mkMS k ms).length = ms.length := mkA_len _ _ _ _
  repeat' first | refine s1 ?_ | fail
  refine F.loop (σ := Nat) [1, 4, 5, 6, 7, 8, 9, 10, 11, 12, 13, 14, 15, 16, 17, 18, 19, 20, 21, 22, 23, 24, 25, 26, 27, 28, 29, 30, 31, 32, 33, 34, 35, 36, 37, 38] (fun j => [(1, .i (k + cnt ctM (ms.take j))), (5, .i j)]) (fun _ => []) (fun j => j ≤ ms.length) (fun j => ms.length - j) 0 ⟨iE (by simp [cnt]), rfl, trivial⟩ trivial (Nat.zero_le _) ?_
  rintro j h2
  have hcl := cnt_le ctM (xs := ms) j
  by_cases hlt : j < ms.length
  · have hg : (mkMS k ms).getD j default = _ := mkA_get mkM ctM (k := k) hlt
    have hc2 := cnt_succ ctM hlt
    have hcl2 := cnt_le ctM (xs := ms) (j + 1)
    generalize hkk : k + ↑(cnt ctM (ms.take j)) = kk at hg ⊢
    have hct : ctM (ms.getD j default) = (ms.getD j default).m.length + 2 := rfl
    generalize hx : ms.getD j default = x at hg hc2 hct
    have hA := heldIntS_a (kk + 1 + 1) x.m.length (by omega) (by omega)
    have e0 : ((mkMS k ms).getD j default).r = kk := by rw [hg]; rfl
    have e1 : ((mkMS k ms).getD j default).c = kk + 1 := by rw [hg]; rfl
    have e2 : ((mkMS k ms).getD j default).m = mkL (kk + 1 + 1) x.m.length := by rw [hg]; simp [mkM, Int.add_assoc]
    rw [← e2] at hA
    repeat' first | refine s1 ?_ | (refine kR ?_; first | refine F.c (hA) ?_) | fail
    exact ⟨j + 1, F.fit ⟨iE (by rw [hc2]; push_cast; omega), rfl, trivial⟩ trivial, by omega, by omega⟩
  · obtain rfl : j = ms.length := by omega
    rw [List.take_length]
    repeat' first | refine s1 ?_ | fail
    exact F.ret rfl
def ctR (r : Rep) : Nat := totQ r.q + r.d.length + cnt ctM r.m
def mkR (k : Int) (r : Rep) : Rep := ⟨r.p, mkQ k r.q, mkL (k + totQ r.q) r.d.length, mkMS (k + totQ r.q + r.d.length) r.m⟩
theorem markRep_m (r : Rep) (k : Int) (h0 : 0 ≤ k) (h1 : k + ctR r ≤ 4611686018427387904) :
    AM Try.prog 33 [.agg [.i r.p, .i r.q.n, .sl 0 r.q.fr.length 0 r.q.fr.length, .sl 1 r.q.to.length 0 r.q.to.length, .sl 2 r.d.length 0 r.d.length, .sl 3 r.m.length 0 r.m.length], .i k] [(1, E true r.q.fr), (1, E true r.q.to), (1, E true r.d), (3, E true r.m)] [.i (k + ctR r)] [(1, E true (mkR k r).q.fr), (1, E true (mkR k r).q.to), (1, E true (mkR k r).d), (3, E true (mkR k r).m)] := by
  refine AM.go Try.func33 Try.ntmps33 rfl rfl fun w0 mp hw => ?_; simp [WfL, WfA, E_length, Enc.enc, In64] at hw
  unfold ctR at *
  push_cast at *
  have hA := markQuiver_m r.q k h0 (by omega)
  have hB := markIntS_m r.d (k + totQ r.q) (by omega) (by omega)
  have hC := markMatrixS_m r.m (k + totQ r.q + r.d.length) (by omega) (by omega)
  repeat' first | refine s1 ?_ | (refine kR ?_; first | refine F.m [0, 1] (hA) ?_ | refine F.m [2] (hB) ?_ | refine F.m [3] (hC) ?_) | fail
  refine F.retM (by rw [← Int.add_assoc, ← Int.add_assoc]) ?_
  exact ⟨rfl, rfl, rfl, rfl, trivial⟩
theorem heldRep_a (k : Int) (r : Rep) (h0 : 0 ≤ k) (h1 : k + ctR r ≤ 4611686018427387904) : AC Try.prog 34 [.agg (enc false (mkR k r)), .i k] [.i (k + ctR r)] := by
  refine AC.go Try.func34 Try.ntmps34 rfl rfl fun w0 hw => ?_; simp [WfL, WfA, E_length, Enc.enc, In64] at hw
  unfold ctR at *
  push_cast at *
  have hA := heldQuiver_a k r.q h0 (by omega)
  have hB := heldIntS_a (k + totQ r.q) r.d.length (by omega) (by omega)
  have hC := heldMatrixS_a (k + totQ r.q + r.d.length) r.m (by omega) (by omega)
  repeat' first | refine s1 ?_ | (refine kR ?_; first | refine F.c (hA) ?_ | refine F.c (hB) ?_ | refine F.c (hC) ?_) | fail
  exact F.ret (by rw [← Int.add_assoc, ← Int.add_assoc])
/-! ### lists of lists of numbers -/
def ctL (xs : List Int) : Nat := xs.length
def mkI (k : Int) (xs : List Int) : List Int := mkL k xs.length
def mkSS (k : Int) (ms : List (List Int)) : List (List Int) := mkA mkI ctL k ms
theorem markIntSS_m (ms : List (List Int)) (k : Int) (h0 : 0 ≤ k) (h1 : k + ms.length + cnt ctL ms ≤ 4611686018427387904) : AM Try.prog 26 [.sl 0 ms.length 0 ms.length, .i k] [(1, E true ms)] [.i (k + cnt ctL ms)] [(1, E true (mkSS k ms))] := by
  refine AM.go Try.func26 Try.ntmps26 rfl rfl fun w0 mp hw => ?_; simp [WfL, WfA, E_length, Enc.enc, In64] at hw
  repeat' first | refine s1 ?_ | fail
  refine F.loop (σ := Nat) [1, 5, 6, 7, 8, 9, 10, 11, 12, 13, 14, 15, 16, 17] (fun j => [(1, .i (k + cnt ctL (ms.take j))), (5, .i j)]) (fun j => [(0, .live false 1 (E true (mkq mkI ctL k ms j)))]) (fun j => j ≤ ms.length) (fun j => ms.length - j) 0 ⟨iE (by simp [cnt]), rfl, trivial⟩ ⟨obE (by rw [mkq_zero]), trivial⟩ (Nat.zero_le _) ?_
  rintro j h2
  have hp := mkq_len mkI ctL (k := k) h2
  have hcl := cnt_le ctL (xs := ms) j
  by_cases hlt : j < ms.length
  · have hg := mkq_get mkI ctL (k := k) hlt
    have hS := mkq_set mkI ctL (k := k) hlt
    have hc2 := cnt_succ ctL hlt
    have hcl2 := cnt_le ctL (xs := ms) (j + 1)
    generalize hL : mkq mkI ctL k ms j = L at hp hg hS ⊢
    generalize hkk : k + ↑(cnt ctL (ms.take j)) = kk at hS ⊢
    have hct : ctL (ms.getD j default) = (ms.getD j default).length := rfl
    repeat' first | refine s1 ?_ | fail
    refine F.ldTE (α := List Int) (j := 0) rfl rfl (by omega) (by omega) (by rw [Nat.zero_add j, hg]; rfl) (E_length _ _) rfl rfl ?_
    rw [Nat.zero_add j]
    repeat' first | refine s1 ?_ | fail
    refine F.m [1] (markIntS_m (ms.getD j default) kk (by omega) (by omega)) ?_
    refine F.put (α := List Int) (o := 0) (o2 := 1) (k := j) (j := 0) (v := mkI kk (ms.getD j default)) (ls := L) rfl rfl (by rw [E_length, mkL_len]) (E_pure _ _) rfl (by omega) rfl (by rw [hg]; rfl) ?_
    rw [hS]
    repeat' first | refine s1 ?_ | fail
    exact ⟨j + 1, F.fit ⟨iE (by rw [hc2]; push_cast; omega), rfl, trivial⟩ ⟨rfl, trivial⟩, by omega, by omega⟩
  · obtain rfl : j = ms.length := by omega
    rw [mkq_all] at hp ⊢
    rw [List.take_length]
    repeat' first | refine s1 ?_ | fail
    refine F.retM rfl ?_
    exact ⟨rfl, trivial⟩
theorem heldIntSS_a (k : Int) (ms : List (List Int)) (h0 : 0 ≤ k) (h1 : k + ms.length + cnt ctL ms ≤ 4611686018427387904) : AC Try.prog 27 [ar false (mkSS k ms), .i k] [.i (k + cnt ctL ms)] := by
  refine AC.go Try.func27 Try.ntmps27 rfl rfl fun w0 hw => ?_; simp [WfL, WfA, E_length, Enc.enc, In64] at hw
  have hl : (mkSS k ms).length = ms.length := mkA_len _ _ _ _
  repeat' first | refine s1 ?_ | fail
  refine F.loop (σ := Nat) [1, 4, 5, 6, 7, 8, 9, 10, 11, 12, 13, 14, 15, 16, 17, 18, 19] (fun j => [(1, .i (k + cnt ctL (ms.take j))), (5, .i j)]) (fun _ => []) (fun j => j ≤ ms.length) (fun j => ms.length - j) 0 ⟨iE (by simp [cnt]), rfl, trivial⟩ trivial (Nat.zero_le _) ?_
  rintro j h2
  have hcl := cnt_le ctL (xs := ms) j
  by_cases hlt : j < ms.length
  · have hg : (mkSS k ms).getD j default = _ := mkA_get mkI ctL (k := k) hlt
    have hc2 := cnt_succ ctL hlt
    have hcl2 := cnt_le ctL (xs := ms) (j + 1)
    generalize hkk : k + ↑(cnt ctL (ms.take j)) = kk at hg ⊢
    have hct : ctL (ms.getD j default) = (ms.getD j default).length := rfl
    have hA := heldIntS_a kk (ms.getD j default).length (by omega) (by omega)
    rw [show mkL kk (ms.getD j default).length = (mkSS k ms).getD j default from hg.symm] at hA
    repeat' first | refine s1 ?_ | (refine kR ?_; first | refine F.c (hA) ?_) | fail
    exact ⟨j + 1, F.fit ⟨iE (by rw [hc2]; push_cast; omega), rfl, trivial⟩ trivial, by omega, by omega⟩
  · obtain rfl : j = ms.length := by omega
    rw [List.take_length]
    repeat' first | refine s1 ?_ | fail
    exact F.ret rfl
end Go.Proofs.Ytcalkmlaodjpaaa.V
