/- Joined: Contracts: the radical, as the reference builds it; both results. Contracts of the laws' helpers on lists of spaces: equality, marks. How much the radical's memory holds. No program is walked. Contracts: dimensions of spaces, and of the top.. -/
import Derived.Test.YtanembgijdkagaaGreatQyB6
import Derived.Test.YtanembgijdkagaaGreatQyB8
import Derived.Test.YtanembgijdkagaaGreatQyUm
namespace Go.Proofs.YtanembgijdkagaaGreat.V
open V.Enc (enc)
open Go.RowKit G D
set_option linter.unusedVariables false
set_option linter.unusedSimpArgs false
set_option maxHeartbeats 4000000
set_option maxRecDepth 4000
attribute [local irreducible] AW ARg ARA ARet MRet ASil AC AM
theorem l12Zero_a (r : Rep) (h : r.d.length ≤ 1000) : AC Tryz.prog 141 [.agg (enc false r)] [.dt true 2 (E true (radK r 0))] := by
  refine AC.go Tryz.func141 Tryz.ntmps141 rfl rfl fun w0 hw => ?_; simp [WfL, WfA, E_length, Enc.enc, In64] at hw
  unfold radK
  repeat' first | refine s1 ?_ | fail
  refine AW.open 3 2 (.inr rfl) ?_
  refine F.loop (σ := Nat) [3, 4, 6, 7, 8, 9, 10, 11, 12, 13, 14, 15, 16, 17, 18, 19, 20, 21, 22] (fun k => [(3, .sl 1 k 0 k), (4, .i k)]) (fun k => [(1, .live false 2 (E true ((r.d.take k).map fun d => (⟨d, []⟩ : Spc))))]) (fun k => k ≤ r.d.length) (fun k => r.d.length - k) 0 ⟨rfl, rfl, trivial⟩ ⟨rfl, trivial⟩ (Nat.zero_le _) ?_
  rintro k k1
  have hp : ((r.d.take k).map fun d => (⟨d, []⟩ : Spc)).length = k := by simp; omega
  by_cases hk : k < r.d.length
  · have hts := zeroS_take hk
    generalize (r.d.take k).map (fun d => (⟨d, []⟩ : Spc)) = X at hts hp ⊢
    repeat' first | refine s1 ?_ | (refine kR ?_; first | refine F.a1 Spc (a := ⟨r.d.getD k default, []⟩) ?_ (hmv := .at1 rfl (.em 1 .nil))) | fail
    exact ⟨k + 1, F.fit ⟨rfl, rfl, trivial⟩ ⟨obE (by rw [hts]), trivial⟩, by omega, by omega⟩
  · obtain rfl : k = r.d.length := by omega
    rw [List.take_length]
    have hml : (r.d.map fun d => (⟨d, []⟩ : Spc)).length = r.d.length := by simp
    rw [← hml]
    repeat' first | refine s1 ?_ | fail
    (refine kZ ?_; exact F.ret rfl)
end Go.Proofs.YtanembgijdkagaaGreat.V
namespace Go.Proofs.YtanembgijdkagaaGreat.V
open V.Enc (enc)
open Go.RowKit G D
set_option linter.unusedVariables false
set_option linter.unusedSimpArgs false
set_option maxHeartbeats 4000000
set_option maxRecDepth 4000
attribute [local irreducible] AW ARg ARA ARet MRet ASil AC AM
theorem eqSpace_s (s : Spc) : AC Tryz.prog 99 [.agg (enc false s), .agg (enc false s)] [.b true] := by
  refine AC.go Tryz.func99 Tryz.ntmps99 rfl rfl fun w0 hw => ?_; simp [WfL, WfA, E_length, Enc.enc, In64] at hw
  have hA := eqIntSS_a s.b s.b
  rw [decide_eq_true rfl] at hA
  repeat' first | refine s1 ?_ | (refine kR ?_; first | refine F.c (hA) ?_) | fail
  exact F.ret rfl
theorem eqSpaceS_s (ms : List Spc) : AC Tryz.prog 33 [ar false ms, ar false ms] [.b true] := by
  refine AC.go Tryz.func33 Tryz.ntmps33 rfl rfl fun w0 hw => ?_; simp [WfL, WfA, E_length, Enc.enc, In64] at hw
  repeat' first | refine s1 ?_ | fail
  refine F.loop (σ := Nat) [4, 5, 11, 12, 13, 14, 15, 16, 17, 18, 19, 20, 21, 22, 23, 24, 25, 26] (fun k => [(5, .i k)]) (fun _ => []) (fun k => k ≤ ms.length) (fun k => ms.length - k) 0 ⟨rfl, trivial⟩ trivial (Nat.zero_le _) ?_
  rintro k h1
  by_cases hlt : k < ms.length
  · have hA := eqSpace_s (ms.getD k default)
    repeat' first | refine s1 ?_ | fail
    refine AW.draw 10 G.mixed (by kernel_rfl) ?_
    refine dP 0 ?_
    refine dP 1 ?_
    refine dP 2 ?_
    refine dL 3 ?_
    refine dP 4 ?_
    refine dP 5 ?_
    refine dP 6 ?_
    refine dL 7 ?_
    refine dO 8 true ?_
    first | refine s1 ?_ | refine F.c (hA) ?_
    refine ARg.nil (ATh.normal ?_)
    refine dP 9 ?_
    refine dN ?_
    repeat' first | refine s1 ?_ | fail
    exact ⟨k + 1, F.fit ⟨rfl, trivial⟩ trivial, by omega, by omega⟩
  · repeat' first | refine s1 ?_ | fail
    exact F.ret rfl
def ctS (s : Spc) : Nat := cnt ctL s.b + 1
def lnS (s : Spc) : Nat := s.b.length
theorem ctS_ge (s : Spc) : 1 ≤ ctS s := by unfold ctS; omega
def mkSp (k : Int) (s : Spc) : Spc := ⟨k, mkSS (k + 1) s.b⟩
theorem markSpaceS_m (ms : List Spc) (k : Int) (h0 : 0 ≤ k) (h1 : k + cnt ctS ms + cnt lnS ms ≤ 4611686018427387904) : AM Tryz.prog 34 [.sl 0 ms.length 0 ms.length, .i k] [(2, E true ms)] [.i (k + cnt ctS ms)] [(2, E true (mkA mkSp ctS k ms))] := by
  refine AM.go Tryz.func34 Tryz.ntmps34 rfl rfl fun w0 mp hw => ?_; simp [WfL, WfA, E_length, Enc.enc, In64] at hw
  have hge := cnt_ge ctS_ge ms
  repeat' first | refine s1 ?_ | fail
  refine F.loop (σ := Nat) [1, 5, 6, 7, 8, 9, 10, 11, 12, 13, 14, 15, 16, 17, 18, 19, 20, 21, 22, 23, 24, 25] (fun j => [(1, .i (k + cnt ctS (ms.take j))), (5, .i j)]) (fun j => [(0, .live false 2 (E true (mkq mkSp ctS k ms j)))]) (fun j => j ≤ ms.length) (fun j => ms.length - j) 0 ⟨iE (by simp [cnt]), rfl, trivial⟩ ⟨obE (by rw [mkq_zero]), trivial⟩ (Nat.zero_le _) ?_
  rintro j h2
  have hp := mkq_len mkSp ctS (k := k) h2
  have hcl := cnt_le ctS (xs := ms) j
  by_cases hlt : j < ms.length
  · have hg := mkq_get mkSp ctS (k := k) hlt
    have hS := mkq_set mkSp ctS (k := k) hlt
    have hc2 := cnt_succ ctS hlt
    have hcl2 := cnt_le ctS (xs := ms) (j + 1)
    have hln := cnt_mem lnS (gm (d := default) hlt)
    generalize hL : mkq mkSp ctS k ms j = L at hp hg hS ⊢
    generalize hkk : k + ↑(cnt ctS (ms.take j)) = kk at hS ⊢
    have hct : ctS (ms.getD j default) = cnt ctL (ms.getD j default).b + 1 := rfl
    have hlnn : lnS (ms.getD j default) = (ms.getD j default).b.length := rfl
    generalize hRr : ms.getD j default = R at hg hS hct hc2 hln hlnn
    obtain ⟨rn, rb⟩ := R
    dsimp only at hct hlnn
    have hl6 : (mkSS (kk + 1) rb).length = rb.length := mkA_len _ _ _ _
    repeat' first | refine s1 ?_ | fail
    refine F.stE (α := Spc) (oo := true) ⟨kk, rb⟩ rfl rfl rfl rfl (by omega) (by omega) rfl (.at1 rfl .nil) rfl (by rw [Nat.zero_add, hg]; rfl) rfl rfl rfl ?_
    rw [Nat.zero_add j]
    generalize hL1 : L.set j ⟨kk, rb⟩ = L1
    have hp1 : L1.length = ms.length := by rw [← hL1]; simp [hp]
    have hg1 : L1.getD j default = ⟨kk, rb⟩ := by rw [← hL1, set_get (by omega)]
    repeat' first | refine s1 ?_ | fail
    refine F.ldTE (α := Spc) (j := 1) rfl rfl (by omega) (by omega) (by rw [Nat.zero_add j, hg1]; rfl) (E_length _ _) rfl rfl ?_
    rw [Nat.zero_add j]
    repeat' first | refine s1 ?_ | fail
    refine F.m [1] (markIntSS_m rb (kk + 1) (by omega) (by omega)) ?_
    refine F.put (α := Spc) (o := 0) (o2 := 1) (k := j) (j := 1) (v := ⟨kk, mkSS (kk + 1) rb⟩) (ls := L1) rfl rfl (by rw [E_length, hl6]) (E_pure _ _) rfl (by omega) rfl (by rw [hg1]; rfl) ?_
    have e : L1.set j ⟨kk, mkSS (kk + 1) rb⟩ = mkq mkSp ctS k ms (j + 1) := by
      rw [← hL1, List.set_set, ← hS]; rfl
    rw [e]
    repeat' first | refine s1 ?_ | fail
    exact ⟨j + 1, F.fit ⟨iE (by rw [hc2, hct]; push_cast; omega), rfl, trivial⟩ ⟨rfl, trivial⟩, by omega, by omega⟩
  · obtain rfl : j = ms.length := by omega
    rw [mkq_all] at hp ⊢
    rw [List.take_length]
    repeat' first | refine s1 ?_ | fail
    refine F.retM rfl ?_
    exact ⟨rfl, trivial⟩
theorem markSpS_o (xs : List Spc) (k : Int) (h0 : 0 ≤ k) (h : k + cnt ctS xs + cnt lnS xs ≤ 4611686018427387904) : ∃ ys : List Spc, ys.length = xs.length ∧
    AM Tryz.prog 34 [.sl 0 xs.length 0 xs.length, .i k] [(2, E true xs)] [.i (k + cnt ctS xs)] [(2, E true ys)] ∧ True :=
  ⟨_, mkA_len _ _ _ _, markSpaceS_m xs k h0 h, trivial⟩
end Go.Proofs.YtanembgijdkagaaGreat.V
namespace Go.Proofs.YtanembgijdkagaaGreat.V
open Go.RowKit G D
set_option linter.unusedVariables false
set_option linter.unusedSimpArgs false
set_option maxHeartbeats 400000
end Go.Proofs.YtanembgijdkagaaGreat.V
namespace Go.Proofs.YtanembgijdkagaaGreat.V
open Go.RowKit G D
set_option linter.unusedVariables false
set_option linter.unusedSimpArgs false
set_option maxHeartbeats 4000000
set_option maxRecDepth 4000
attribute [local irreducible] AW ARg ARA ARet MRet ASil AC AM
def dimS (l : List Spc) : List Int := l.map fun s => (s.b.length : Int)
theorem dimS_take {l : List Spc} {k : Nat} (h : k < l.length) : dimS (l.take (k + 1)) = dimS (l.take k) ++ [((l.getD k default).b.length : Int)] := by
  have e : l.getD k default = l[k] := by simp [h]
  rw [dimS, List.take_succ_eq_append_getElem h, List.map_append, e]
  rfl
theorem dimS_len (l : List Spc) : (dimS l).length = l.length := by simp [dimS]
end Go.Proofs.YtanembgijdkagaaGreat.V
