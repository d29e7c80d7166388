/- Joined: Contract: the program's matrix of the coboundaries is the matrix of the equations. Contracts: ranks, dimensions of extensions and of morphisms (the program's), rigid representations. Contracts: the reference's kernel, and its list of morphisms.. -/
import Derived.Test.YtanembgijdkagaaGreatQyUq
import Derived.Test.YtanembgijdkagaaGreatQyB4
import Derived.Test.YtanembgijdkagaaGreatQyB5
namespace Go.Proofs.YtanembgijdkagaaGreat.V
open Go.RowKit G D
set_option linter.unusedVariables false
set_option linter.unusedSimpArgs false
set_option maxHeartbeats 4000000
set_option maxRecDepth 4000
attribute [local irreducible] AW ARg ARA ARet MRet ASil AC AM
end Go.Proofs.YtanembgijdkagaaGreat.V
namespace Go.Proofs.YtanembgijdkagaaGreat.V
open Go.RowKit G D
set_option linter.unusedVariables false
set_option linter.unusedSimpArgs false
set_option maxHeartbeats 4000000
set_option maxRecDepth 4000
attribute [local irreducible] AW ARg ARA ARet MRet ASil AC AM
end Go.Proofs.YtanembgijdkagaaGreat.V
namespace Go.Proofs.YtanembgijdkagaaGreat.V
open V.Enc (enc)
open Go.RowKit G D
set_option linter.unusedVariables false
set_option linter.unusedSimpArgs false
set_option maxHeartbeats 4000000
set_option maxRecDepth 4000
attribute [local irreducible] AW ARg ARA ARet MRet ASil AC AM
/-- the vectors of the kernel of the free columns before k -/
def kerK (p : Int) (c : Nat) (g : Nat → Nat → Int) (piv : List Nat) (k : Nat) : List (List Int) := (freeL k piv).map fun k => kerV p c g piv k piv.length
theorem kerK_len (p : Int) (c : Nat) (g : Nat → Nat → Int) (piv : List Nat) (k : Nat) : (kerK p c g piv k).length ≤ k := by
  rw [kerK, List.length_map]; exact freeL_le k piv
theorem kerK_yes {p : Int} {c : Nat} {g : Nat → Nat → Int} {piv : List Nat} {k : Nat} (h : k ∈ piv) : kerK p c g piv (k + 1) = kerK p c g piv k := by
  rw [kerK, freeL_succ, if_pos h]; rfl
theorem kerK_no {p : Int} {c : Nat} {g : Nat → Nat → Int} {piv : List Nat} {k : Nat} (h : k ∉ piv) : kerK p c g piv (k + 1) = kerK p c g piv k ++ [kerV p c g piv k piv.length] := by
  rw [kerK, freeL_succ, if_neg h, List.map_append]; rfl
theorem l4Kernel_a (p : Int) (r c : Nat) (f : Nat → Nat → Int) (hf : isF p = true) (hr : r ≤ 1024) (hc : c ≤ 1024) (hb : BdF p r c f) :
    AC Tryz.prog 103 [.i p, .agg (enc false (tm r c f))] [.dt true 1 (E true (kerL p r c f))] := by
  refine AC.go Tryz.func103 Tryz.ntmps103 rfl rfl fun w0 hw => ?_; simp [WfL, WfA, E_length, Enc.enc, In64] at hw
  have h5 := isF_pos hf
  have hR := l4Reduce_a p r c f hf hr hc hb
  obtain ⟨b1, b2, b3, b4⟩ := redK_bd (p := p) (by omega) hb c
  rw [show kerL p r c f = kerK p c (redK p r f c).1 (redK p r f c).2 c from rfl]
  generalize redK p r f c = R at hR b1 b2 b3 b4 ⊢
  obtain ⟨g, piv⟩ := R
  dsimp only at hR b1 b2 b3 b4 ⊢
  have hpl := ints_len piv
  repeat' first | refine s1 ?_ | refine q1 ?_ | (refine kR ?_; first | refine F.c (hR) ?_) | fail
  refine AW.open 7 1 (.inr rfl) ?_
  refine F.loop (σ := Nat) [7, 8, 9, 10, 18, 19, 20, 21, 22, 23, 24, 25, 26, 27, 28, 29, 30, 31, 32, 33, 34, 35, 36, 37, 38, 39, 40, 41, 42, 43, 44, 45, 46, 47, 48, 49, 50, 51, 52, 53, 54, 55, 56, 57, 58, 59, 60, 61] (fun k => [(7, .sl 4 (kerK p c g piv k).length 0 (kerK p c g piv k).length), (8, .i k)]) (fun k => [(4, .live false 1 (E true (kerK p c g piv k)))]) (fun k => k ≤ c) (fun k => c - k) 0 ⟨rfl, rfl, trivial⟩ ⟨rfl, trivial⟩ (Nat.zero_le _) ?_
  rintro k k1
  have hkl := kerK_len p c g piv k
  by_cases hk : k < c
  · have hH := l4Has_a (ints piv) (k : Int)
    by_cases hm : k ∈ piv
    · rw [decide_eq_true ((ints_mem piv k).mpr hm)] at hH
      have hs := kerK_yes (p := p) (c := c) (g := g) hm
      repeat' first | refine s1 ?_ | refine q1 ?_ | (refine kR ?_; first | refine F.c (hH) ?_) | fail
      exact ⟨k + 1, F.fit ⟨slE (by rw [hs]), rfl, trivial⟩ ⟨obE (by rw [hs]), trivial⟩, by omega, by omega⟩
    · rw [decide_eq_false (fun h => hm ((ints_mem piv k).mp h))] at hH
      have hs := kerK_no (p := p) (c := c) (g := g) hm
      generalize kerK p c g piv k = KK at hs hkl ⊢
      repeat' first | refine s1 ?_ | refine q1 ?_ | (refine kR ?_; first | refine F.c (hH) ?_ | refine F.mk (m := c) Int rfl rfl rfl (mkB (by omega)) (by omega) rfl rfl ?_) | fail
      refine F.loop (σ := Nat) [10, 33, 34, 35, 36, 37, 38, 39, 40, 41, 42, 43, 44, 45, 46, 47, 48, 49, 50, 51, 52, 53, 54, 55, 56, 57] (fun i => [(10, .i i)]) (fun i => [(5, .live false 1 (E true (kerV p c g piv k i)))]) (fun i => i ≤ piv.length) (fun i => piv.length - i) 0 ⟨rfl, trivial⟩ ⟨obE (by rw [Nat.zero_add]; rfl), trivial⟩ (Nat.zero_le _) ?_
      rintro i i1
      by_cases hi : i < piv.length
      · have hpi := ints_get piv hi
        have hq : piv.getD i default < c := b4 _ (by simp [hi])
        rw [← Nat.zero_add i] at hpi
        have hT : ((ints piv).getD (0 + i) default).toNat = piv.getD i 0 := by rw [hpi, Nat.zero_add]; exact Int.toNat_natCast _
        have hpi' : (ints piv).getD (0 + i) default = (piv.getD i default : Nat) := by rw [hpi, Nat.zero_add]
        clear hpi
        have hir : i < r := by omega
        obtain ⟨i4, i5⟩ := tab_in (i := i) (j := k) (r := r) (c := c) hir hk hr hc
        have hx := b1 i hir k hk
        have hL := l2Mod_a p (-(g i k)) (by omega)
        have hng : In64 (-(g i k)) := by unfold In64; omega
        have hst : kerV p c g piv k (i + 1) = (kerV p c g piv k i).set (piv.getD i 0) (-(g i k) % p) := rfl
        have hvl := kerV_len p c g piv k i
        generalize kerV p c g piv k i = X at hst hvl ⊢
        rw [← hT] at hst
        repeat' first | refine s1 ?_ | refine q1 ?_ | fail
        refine AW.draw 19 G.mixed (by kernel_rfl) ?_
        refine dP 0 ?_
        refine dP 1 ?_
        refine dP 2 ?_
        first | refine dP 3 ?_ | refine dQ 3 ?_
        first | refine dL 4 ?_ | refine dLQ 4 ?_
        refine dP 5 ?_
        refine dP 6 ?_
        first | refine dL 7 ?_ | refine dLQ 7 ?_
        refine dP 8 ?_
        refine dP 9 ?_
        first | refine dL 10 ?_ | refine dLQ 10 ?_
        refine dP 11 ?_
        refine dP 12 ?_
        refine dP 13 ?_
        first | refine dP 14 ?_ | refine dQ 14 ?_
        first | refine dL 15 ?_ | refine dLQ 15 ?_
        refine dP 16 ?_
        refine dO 17 true ?_
        first | refine s1 ?_ | refine F.c (hL) ?_
        refine ARg.nil (ATh.normal ?_)
        first | refine dP 18 ?_ | refine dQ 18 ?_
        refine dO 19 false ?_
        first | refine s1 ?_ | refine q1 ?_
        refine ARg.nil (ATh.normal ?_)
        refine dN ?_
        repeat' first | refine s1 ?_ | refine q1 ?_ | fail
        exact ⟨i + 1, F.fit ⟨rfl, trivial⟩ ⟨obE (by rw [hst, Nat.zero_add ((ints piv).getD (0 + i) default).toNat]), trivial⟩, by omega, by omega⟩
      · obtain rfl : i = piv.length := by omega
        have hvl := kerV_len p c g piv k piv.length
        generalize kerV p c g piv k piv.length = X at hs hvl ⊢
        repeat' first | refine s1 ?_ | refine q1 ?_ | (refine kR ?_; first | refine F.a1 (List Int) (a := X) ?_) | fail
        exact ⟨k + 1, F.fit ⟨slE (by rw [hs]; simp), rfl, trivial⟩ ⟨obE (by rw [hs]), trivial⟩, by omega, by omega⟩
  · obtain rfl : k = c := by omega
    repeat' first | refine s1 ?_ | refine q1 ?_ | fail
    (refine kZ ?_; exact F.ret rfl)
end Go.Proofs.YtanembgijdkagaaGreat.V
