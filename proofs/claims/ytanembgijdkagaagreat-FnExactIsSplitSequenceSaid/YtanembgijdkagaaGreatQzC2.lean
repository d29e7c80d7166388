/- Joined: Contracts: all of a space, meets, the socle, as the reference builds them. Contracts: meets and the socle, as the reference builds them; dimensions of the socle. How much the socle's memory holds, and that of lists of valid spaces. No program is walked.. -/
import Derived.Test.YtanembgijdkagaaGreatQzUq
import Derived.Test.YtanembgijdkagaaGreatQzB7
import Derived.Test.YtanembgijdkagaaGreatQzB8
import Derived.Test.YtanembgijdkagaaGreatQzB9
import Derived.Test.YtanembgijdkagaaGreatQzUi
import Derived.Test.YtanembgijdkagaaGreatQzC1
namespace Go.Proofs.YtanembgijdkagaaGreat.V
open V.Enc (enc)
open Go.RowKit G D
set_option linter.unusedVariables false
set_option linter.unusedSimpArgs false
set_option maxHeartbeats 4000000
set_option maxRecDepth 4000
attribute [local irreducible] AW ARg ARA ARet MRet ASil AC AM
theorem l3Identity_a (n : Nat) (hn : n ≤ 1000) : AC Tryz.prog 120 [.i (n : Int)] [.agg (enc true (tm n n idF))] := by
  refine AC.go Tryz.func120 Tryz.ntmps120 rfl rfl fun w0 hw => ?_; simp [WfL, WfA, E_length, Enc.enc, In64] at hw
  have hZ := l3ZeroT_a n n (by omega) (by omega)
  repeat' first | refine s1 ?_ | refine q1 ?_ | (refine kR ?_; first | refine F.c (hZ) ?_) | fail
  refine F.loop (σ := Nat) [4, 8, 9, 10, 11, 12, 13, 14, 15, 16, 17, 18, 19, 20] (fun i => [(4, .i i)]) (fun i => [(1, .live false 1 (E true (tab n n (idK i))))]) (fun i => i ≤ n) (fun i => n - i) 0 ⟨rfl, trivial⟩ ⟨obE (by rw [idK_zero]), trivial⟩ (Nat.zero_le _) ?_
  rintro i i1
  by_cases hi : i < n
  · obtain ⟨t1, t2⟩ := tab_in (i := i) (j := i) (r := n) (c := n) hi hi (by omega) (by omega)
    repeat' first | refine s1 ?_ | refine q1 ?_ | fail
    exact ⟨i + 1, F.fit ⟨rfl, trivial⟩ ⟨obE (by rw [idK_set]), trivial⟩, by omega, by omega⟩
  · obtain rfl : i = n := by omega
    rw [idK_all]
    repeat' first | refine s1 ?_ | refine q1 ?_ | fail
    (refine kZ ?_; exact F.ret rfl)
end Go.Proofs.YtanembgijdkagaaGreat.V
namespace Go.Proofs.YtanembgijdkagaaGreat.V
open V.Enc (enc)
open Go.RowKit G D
set_option linter.unusedVariables false
set_option linter.unusedSimpArgs false
set_option maxHeartbeats 4000000
set_option maxRecDepth 4000
attribute [local irreducible] AW ARg ARA ARet MRet ASil AC AM ARI
theorem matL4Ker_a {p : Int} {m : Mat} (h : isMat p m = true) : AC Tryz.prog 103 [.i p, .agg (enc false m)] [.dt true 1 (E true (kerL p m.r.toNat m.c.toNat (ent m)))] := by
  obtain ⟨h0, h1, h2, h3, h4⟩ := isMat_spec h
  have := l4Kernel_a p m.r.toNat m.c.toNat (ent m) h0 (by omega) (by omega) (ent_bd h)
  rw [isMat_tm h] at this
  exact this
theorem kerL5_a {p : Int} {m : Mat} (h : isMat p m = true) : AC Tryz.prog 197 [.i p, .i m.c, ar false (kerL p m.r.toNat m.c.toNat (ent m))] [.agg (enc true (kerS p m))] := by
  obtain ⟨h0, h1, h2, h3, h4⟩ := isMat_spec h
  have hp := isF_pos h0
  have hl := kerL_le p m.r.toNat m.c.toNat (ent m)
  have := l5Span_a p m.c.toNat _ h0 (by omega) (by omega) (kerL_vec (r := m.r.toNat) (c := m.c.toNat) (f := ent m) hp.1)
  rw [Int.toNat_of_nonneg h2.1] at this
  exact this
end Go.Proofs.YtanembgijdkagaaGreat.V
namespace Go.Proofs.YtanembgijdkagaaGreat.V
open Go.RowKit G D
set_option linter.unusedVariables false
set_option linter.unusedSimpArgs false
set_option maxHeartbeats 400000
theorem spcs_ct {p : Int} {l : List Spc} {n : Nat} (hl : l.length ≤ n) (h : ∀ v, v < l.length → isSpc p (l.getD v default) = true) : cnt ctS l + cnt lnS l ≤ 145 * n := by
  have key : ∀ x ∈ l, ctS x ≤ 129 ∧ lnS x ≤ 16 := fun x hx => by
    obtain ⟨v, hv, rfl⟩ := List.getElem_of_mem hx
    have := h v hv
    have e : l.getD v default = l[v] := by simp [hv]
    rw [e] at this
    exact spc_ct this
  have k1 := cnt_bd (c := ctS) (B := 129) (xs := l) fun x hx => (key x hx).1
  have k2 := cnt_bd (c := lnS) (B := 16) (xs := l) fun x hx => (key x hx).2
  omega
end Go.Proofs.YtanembgijdkagaaGreat.V
