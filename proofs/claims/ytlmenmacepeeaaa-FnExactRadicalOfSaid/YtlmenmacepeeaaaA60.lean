/- Contracts of the laws' helpers on lists of spaces: equality, marks. -/
import Derived.Test.YtlmenmacepeeaaaUm
namespace Go.Proofs.Ytlmenmacepeeaaa.V
open V.Enc (enc)
open Go.RowKit G D
set_option linter.unusedVariables false
set_option linter.unusedSimpArgs false
set_option maxHeartbeats 4000000
set_option maxRecDepth 4000
attribute [local irreducible] AW ARg ARA ARet MRet ASil AC AM

theorem eqSpace_s (s : Spc) : AC Try.prog 118 [.agg (enc false s), .agg (enc false s)] [.b true] := by
  refine AC.go Try.func118 Try.ntmps118 rfl rfl fun w0 hw => ?_; simp [WfL, WfA, E_length, Enc.enc, In64] at hw
  have hA := eqIntSS_a s.b s.b
  rw [decide_eq_true rfl] at hA
  repeat' first | refine s1 ?_ | (refine kR ?_; first | refine F.c (hA) ?_) | fail
  exact F.ret rfl
theorem eqSpaceS_s (ms : List Spc) : AC Try.prog 46 [ar false ms, ar false ms] [.b true] := by
  refine AC.go Try.func46 Try.ntmps46 rfl rfl fun w0 hw => ?_; simp [WfL, WfA, E_length, Enc.enc, In64] at hw
  repeat' first | refine s1 ?_ | fail
  refine F.loop (σ := Nat) [4, 5, 11, 12, 13, 14, 15, 16, 17, 18, 19, 20, 21, 22, 23, 24, 25, 26] (fun k => [(5, .i k)]) (fun _ => []) (fun k => k ≤ ms.length) (fun k => ms.length - k) 0 ⟨rfl, trivial⟩ trivial (Nat.zero_le _) ?_
  rintro k h1
  by_cases hlt : k < ms.length
  · have hA := eqSpace_s (ms.getD k default)
    repeat' first | refine s1 ?_ | fail
    refine AW.draw 10 G.mixed (by kernel_rfl) ?_
    refine dP 0 ?_
    refine dP 1 ?_
    refine dP 2 ?_
    refine dL 3 ?_
    refine dP 4 ?_
    refine dP 5 ?_
    refine dP 6 ?_
    refine dL 7 ?_
    refine dO 8 true ?_
    first | refine s1 ?_ | refine F.c (hA) ?_
    refine ARg.nil (ATh.normal ?_)
    refine dP 9 ?_
    refine dN ?_
    repeat' first | refine s1 ?_ | fail
    exact ⟨k + 1, F.fit ⟨rfl, trivial⟩ trivial, by omega, by omega⟩
  · repeat' first | refine s1 ?_ | fail
    exact F.ret rfl
def ctS (s : Spc) : Nat := cnt ctL s.b + 1
def lnS (s : Spc) : Nat := s.b.length
theorem ctS_ge (s : Spc) : 1 ≤ ctS s := by unfold ctS; omega
def mkSp (k : Int) (s : Spc) : Spc := ⟨k, mkSS (k + 1) s.b⟩
theorem markSpaceS_m (ms : List Spc) (k : Int) (h0 : 0 ≤ k) (h1 : k + cnt ctS ms + cnt lnS ms ≤ 4611686018427387904) : AM Try.prog 47 [.sl 0 ms.length 0 ms.length, .i k] [(2, E true ms)] [.i (k + cnt ctS ms)] [(2, E true (mkA mkSp ctS k ms))] := by
  refine AM.go Try.func47 Try.ntmps47 rfl rfl fun w0 mp hw => ?_; simp [WfL, WfA, E_length, Enc.enc, In64] at hw
  have hge := cnt_ge ctS_ge ms
  repeat' first | refine s1 ?_ | fail
  refine F.loop (σ := Nat) [1, 5, 6, 7, 8, 9, 10, 11, 12, 13, 14, 15, 16, 17, 18, 19, 20, 21, 22, 23, 24, 25] (fun j => [(1, .i (k + cnt ctS (ms.take j))), (5, .i j)]) (fun j => [(0, .live false 2 (E true (mkq mkSp ctS k ms j)))]) (fun j => j ≤ ms.length) (fun j => ms.length - j) 0 ⟨iE (by simp [cnt]), rfl, trivial⟩ ⟨obE (by rw [mkq_zero]), trivial⟩ (Nat.zero_le _) ?_
  rintro j h2
  have hp := mkq_len mkSp ctS (k := k) h2
  have hcl := cnt_le ctS (xs := ms) j
  by_cases hlt : j < ms.length
  · have hg := mkq_get mkSp ctS (k := k) hlt
    have hS := mkq_set mkSp ctS (k := k) hlt
    have hc2 := cnt_succ ctS hlt
    have hcl2 := cnt_le ctS (xs := ms) (j + 1)
    have hln := cnt_mem lnS (gm (d := default) hlt)
    generalize hL : mkq mkSp ctS k ms j = L at hp hg hS ⊢
    generalize hkk : k + ↑(cnt ctS (ms.take j)) = kk at hS ⊢
    have hct : ctS (ms.getD j default) = cnt ctL (ms.getD j default).b + 1 := rfl
    have hlnn : lnS (ms.getD j default) = (ms.getD j default).b.length := rfl
    generalize hRr : ms.getD j default = R at hg hS hct hc2 hln hlnn
    obtain ⟨rn, rb⟩ := R
    dsimp only at hct hlnn
    have hl6 : (mkSS (kk + 1) rb).length = rb.length := mkA_len _ _ _ _
    repeat' first | refine s1 ?_ | fail
    refine F.stE (α := Spc) (oo := true) ⟨kk, rb⟩ rfl rfl rfl rfl (by omega) (by omega) rfl (.at1 rfl .nil) rfl (by rw [Nat.zero_add, hg]; rfl) rfl rfl rfl ?_
    rw [Nat.zero_add j]
    generalize hL1 : L.set j ⟨kk, rb⟩ = L1
    have hp1 : L1.length = ms.length := by rw [← hL1]; simp [hp]
    have hg1 : L1.getD j default = ⟨kk, rb⟩ := by rw [← hL1, set_get (by omega)]
    repeat' first | refine s1 ?_ | fail
    refine F.ldTE (α := Spc) (j := 1) rfl rfl (by omega) (by omega) (by rw [Nat.zero_add j, hg1]; rfl) (E_length _ _) rfl rfl ?_
    rw [Nat.zero_add j]
    repeat' first | refine s1 ?_ | fail
    refine F.m [1] (markIntSS_m rb (kk + 1) (by omega) (by omega)) ?_
    refine F.put (α := Spc) (o := 0) (o2 := 1) (k := j) (j := 1) (v := ⟨kk, mkSS (kk + 1) rb⟩) (ls := L1) rfl rfl (by rw [E_length, hl6]) (E_pure _ _) rfl (by omega) rfl (by rw [hg1]; rfl) ?_
    have e : L1.set j ⟨kk, mkSS (kk + 1) rb⟩ = mkq mkSp ctS k ms (j + 1) := by
      rw [← hL1, List.set_set, ← hS]; rfl
    rw [e]
    repeat' first | refine s1 ?_ | fail
    exact ⟨j + 1, F.fit ⟨iE (by rw [hc2, hct]; push_cast; omega), rfl, trivial⟩ ⟨rfl, trivial⟩, by omega, by omega⟩
  · obtain rfl : j = ms.length := by omega
    rw [mkq_all] at hp ⊢
    rw [List.take_length]
    repeat' first | refine s1 ?_ | fail
    refine F.retM rfl ?_
    exact ⟨rfl, trivial⟩
theorem heldSpaceS_a (k : Int) (ms : List Spc) (h0 : 0 ≤ k) (h1 : k + cnt ctS ms + cnt lnS ms ≤ 4611686018427387904) : AC Try.prog 48 [ar false (mkA mkSp ctS k ms), .i k] [.i (k + cnt ctS ms)] := by
  refine AC.go Try.func48 Try.ntmps48 rfl rfl fun w0 hw => ?_; simp [WfL, WfA, E_length, Enc.enc, In64] at hw
  have hge := cnt_ge ctS_ge ms
  have hl : (mkA mkSp ctS k ms).length = ms.length := mkA_len _ _ _ _
  repeat' first | refine s1 ?_ | fail
  refine F.loop (σ := Nat) [1, 4, 5, 6, 7, 8, 9, 10, 11, 12, 13, 14, 15, 16, 17, 18, 19, 20, 21, 22, 23, 24, 25, 26, 27, 28, 29] (fun j => [(1, .i (k + cnt ctS (ms.take j))), (5, .i j)]) (fun _ => []) (fun j => j ≤ ms.length) (fun j => ms.length - j) 0 ⟨iE (by simp [cnt]), rfl, trivial⟩ trivial (Nat.zero_le _) ?_
  rintro j h2
  have hcl := cnt_le ctS (xs := ms) j
  by_cases hlt : j < ms.length
  · have hg : (mkA mkSp ctS k ms).getD j default = _ := mkA_get mkSp ctS (k := k) hlt
    have hc2 := cnt_succ ctS hlt
    have hcl2 := cnt_le ctS (xs := ms) (j + 1)
    have hln := cnt_mem lnS (gm (d := default) hlt)
    generalize hkk : k + ↑(cnt ctS (ms.take j)) = kk at hg ⊢
    have hct : ctS (ms.getD j default) = cnt ctL (ms.getD j default).b + 1 := rfl
    have hlnn : lnS (ms.getD j default) = (ms.getD j default).b.length := rfl
    generalize hx : ms.getD j default = x at hg hc2 hct hln hlnn
    have hA := heldIntSS_a (kk + 1) x.b (by omega) (by omega)
    have e0 : ((mkA mkSp ctS k ms).getD j default).n = kk := by rw [hg]; rfl
    have e1 : ((mkA mkSp ctS k ms).getD j default).b = mkSS (kk + 1) x.b := by rw [hg]; rfl
    rw [← e1] at hA
    repeat' first | refine s1 ?_ | (refine kR ?_; first | refine F.c (hA) ?_) | fail
    exact ⟨j + 1, F.fit ⟨iE (by rw [hc2, hct]; push_cast; omega), rfl, trivial⟩ trivial, by omega, by omega⟩
  · obtain rfl : j = ms.length := by omega
    rw [List.take_length]
    repeat' first | refine s1 ?_ | fail
    exact F.ret rfl
theorem markSpS_k (xs : List Spc) (k : Int) (h0 : 0 ≤ k) (h : k + cnt ctS xs + cnt lnS xs ≤ 4611686018427387904) : ∃ ys : List Spc, ys.length = xs.length ∧
    AM Try.prog 47 [.sl 0 xs.length 0 xs.length, .i k] [(2, E true xs)] [.i (k + cnt ctS xs)] [(2, E true ys)] ∧ AC Try.prog 48 [ar false ys, .i k] [.i (k + cnt ctS xs)] :=
  ⟨_, mkA_len _ _ _ _, markSpaceS_m xs k h0 h, heldSpaceS_a k xs h0 h⟩
end Go.Proofs.Ytlmenmacepeeaaa.V
