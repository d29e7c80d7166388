/- Joined: Contracts: kernels, as the program finds them. Contracts: all of a space, meets, the socle, as the program builds them. Contracts: the socle, as the program builds it.. -/
import Derived.Test.YtanembgijdkagaaGreatQzUq
import Derived.Test.YtanembgijdkagaaGreatQzB4
import Derived.Test.YtanembgijdkagaaGreatQzB5
import Derived.Test.YtanembgijdkagaaGreatQzB6
import Derived.Test.YtanembgijdkagaaGreatQzA64
namespace Go.Proofs.YtanembgijdkagaaGreat.V
open V.Enc (enc)
open Go.RowKit G D
set_option linter.unusedVariables false
set_option linter.unusedSimpArgs false
set_option maxHeartbeats 4000000
set_option maxRecDepth 4000
attribute [local irreducible] AW ARg ARA ARet MRet ASil AC AM
theorem ker_take {p : Int} {c : Nat} {g : Nat → Nat → Int} {piv : List Nat} {j : Nat} (hj : j < (freeL c piv).length) : ((freeL c piv).map fun k => kerV p c g piv k piv.length).take (j + 1) = ((freeL c piv).map fun k => kerV p c g piv k piv.length).take j ++ [kerV p c g piv ((freeL c piv).getD j default) piv.length] := by
  have e : (freeL c piv).getD j default = (freeL c piv)[j] := by simp [hj]
  rw [List.take_succ_eq_append_getElem (by simpa using hj), e]
  simp
theorem kernel_a (p : Int) (r c : Nat) (f : Nat → Nat → Int) (hf : isF p = true) (hr : r ≤ 1024) (hc : c ≤ 1024) (hb : BdF p r c f) :
    AC Tryz.prog 109 [.i p, .agg (enc false (tm r c f))] [.dt true 1 (E true (kerL p r c f))] := by
  refine AC.go Tryz.func109 Tryz.ntmps109 rfl rfl fun w0 hw => ?_; simp [WfL, WfA, E_length, Enc.enc, In64] at hw
  have h5 := isF_pos hf
  have hR := implReduce_a p r c f hf hr hc hb
  obtain ⟨b1, b2, b3, b4⟩ := redK_bd (p := p) (by omega) hb c
  unfold kerL
  generalize redK p r f c = R at hR b1 b2 b3 b4 ⊢
  obtain ⟨g, piv⟩ := R
  dsimp only at hR b1 b2 b3 b4 ⊢
  have hFr := freeColumns_a c piv (by omega)
  have hKt := fun j hj => ker_take (p := p) (c := c) (g := g) (piv := piv) (j := j) hj
  have hKl : ((freeL c piv).map fun k => kerV p c g piv k piv.length).length = (freeL c piv).length := by simp
  have hfl := freeL_le c piv
  have hfm := fun j (hj : j < (freeL c piv).length) => (freeL_lt (c := c) (piv := piv) ((freeL c piv).getD j default) (by simp [hj])).1
  have hfi := ints_len (freeL c piv)
  have hfg := fun j (hj : j < (freeL c piv).length) => ints_get (freeL c piv) hj
  generalize ((freeL c piv).map fun k => kerV p c g piv k piv.length) = KL at hKt hKl ⊢
  generalize freeL c piv = FL at hFr hKt hKl hfl hfm hfi hfg
  generalize ints FL = FI at hFr hfi hfg
  have hpl := ints_len piv
  have hpg := fun i (hi : i < piv.length) => ints_get piv hi
  generalize ints piv = PI at hR hFr hpl hpg
  have hN := tab_len r c g
  repeat' first | refine s1 ?_ | refine q1 ?_ | (refine kR ?_; first | refine F.c (hR) ?_ | refine F.c (hFr) ?_) | fail
  refine AW.open 7 1 (.inl rfl) ?_
  refine F.loop (σ := Nat) [7, 9, 10, 11, 12, 24, 25, 26, 27, 28, 29, 30, 31, 32, 33, 34, 35, 36, 37, 38, 39, 40, 41, 42, 43, 44, 45, 46, 47, 48, 49, 50, 51, 52, 53, 54, 55, 56, 57, 58, 59] (fun j => [(7, .sl 5 j 0 j), (24, .i j)]) (fun j => [(1, .live false 1 (E true (tab r c g))), (5, .live false 1 (E true (KL.take j)))]) (fun j => j ≤ FL.length) (fun j => FL.length - j) 0 ⟨rfl, rfl, trivial⟩ ⟨rfl, rfl, trivial⟩ (Nat.zero_le _) ?_
  rintro j j1
  have hp2 : (KL.take j).length = j := by rw [List.length_take]; omega
  by_cases hj : j < FL.length
  · have hf1 := hfg j hj
    have hq := hfm j hj
    have hts := hKt j hj
    generalize FL.getD j default = q at hf1 hq hts
    have hf2 : FI.getD (0 + j) default = (q : Int) := by rw [Nat.zero_add]; exact hf1
    have hT : (FI.getD (0 + j) default).toNat = q := by rw [hf2]; exact Int.toNat_natCast q
    have hf4 : FI[j]?.getD default = (q : Int) := by rw [← List.getD_eq_getElem?_getD]; exact hf1
    have hf5 : FI[j]?.getD 0 = (q : Int) := hf4
    repeat' first | refine s1 ?_ | refine q1 ?_ | (refine kR ?_; first | refine F.mk (m := c) Int rfl rfl rfl (mkB (by omega)) (by omega) rfl rfl ?_) | fail
    have e0 : (List.replicate c 0).set (0 + (FI.getD (0 + j) default).toNat) (1 : Int) = kerV p c g piv q 0 := by rw [Nat.zero_add, hT]; rfl
    rw [e0]
    clear e0
    refine F.loop (σ := Nat) [11, 12, 36, 37, 38, 39, 40, 41, 42, 43, 44, 45, 46, 47, 48, 49, 50, 51, 52, 53, 54] (fun i => [(36, .i i)]) (fun i => [(1, .live false 1 (E true (tab r c g))), (6, .live false 1 (E true (kerV p c g piv q i)))]) (fun i => i ≤ piv.length) (fun i => piv.length - i) 0 ⟨rfl, trivial⟩ ⟨rfl, rfl, trivial⟩ (Nat.zero_le _) ?_
    rintro i i1
    by_cases hi : i < piv.length
    · have hir : i < r := by omega
      have hpi := hpg i hi
      have hpq : piv.getD i default < c := b4 _ (by simp [hi])
      have hst : kerV p c g piv q (i + 1) = (kerV p c g piv q i).set (piv.getD i 0) (-(g i q) % p) := rfl
      rw [← neg_mod] at hst
      have hvl := kerV_len p c g piv q i
      have hRw := row_m r c i g _ hN hir hr hc
      have hpi' : PI.getD (0 + i) default = (piv.getD i default : Nat) := by rw [Nat.zero_add]; exact hpi
      have hT2 : (PI.getD (0 + i) default).toNat = piv.getD i 0 := by rw [hpi']; exact Int.toNat_natCast _
      have hx := b1 i hir (FI.getD (0 + j) default).toNat (by omega)
      have hxq : g i (FI.getD (0 + j) default).toNat = g i q := by rw [hT]
      have hi64 : In64 (p - g i (FI.getD (0 + j) default).toNat) := by unfold In64; omega
      have hqc : (FI.getD (0 + j) default).toNat < c := by omega
      clear hpi
      generalize kerV p c g piv q i = X at hst hvl ⊢
      rw [← hT2, ← hxq] at hst
      repeat' first | refine s1 ?_ | refine q1 ?_ | (refine kR ?_; first | refine F.m [1] (hRw) ?_) | fail
      exact ⟨i + 1, F.fit ⟨rfl, trivial⟩ ⟨rfl, obE (by rw [hst, Nat.zero_add (PI.getD (0 + i) default).toNat]), trivial⟩, by omega, by omega⟩
    · obtain rfl : i = piv.length := by omega
      have hvl := kerV_len p c g piv q piv.length
      generalize kerV p c g piv q piv.length = X at hts hvl ⊢
      repeat' first | refine s1 ?_ | refine q1 ?_ | (refine kR ?_; first | refine F.a1 (List Int) (a := X) ?_) | fail
      exact ⟨j + 1, F.fit ⟨rfl, rfl, trivial⟩ ⟨rfl, obE (by rw [hts]), trivial⟩, by omega, by omega⟩
  · obtain rfl : j = FL.length := by omega
    have e : KL.take FL.length = KL := List.take_of_length_le (by omega)
    rw [e]
    rw [← hKl]
    clear hp2 e
    repeat' first | refine s1 ?_ | refine q1 ?_ | fail
    (refine kZ ?_; exact F.ret rfl)
end Go.Proofs.YtanembgijdkagaaGreat.V
namespace Go.Proofs.YtanembgijdkagaaGreat.V
open V.Enc (enc)
open Go.RowKit G D
set_option linter.unusedVariables false
set_option linter.unusedSimpArgs false
set_option maxHeartbeats 4000000
set_option maxRecDepth 4000
attribute [local irreducible] AW ARg ARA ARet MRet ASil AC AM
/-- the identity, of which the first k ones are set -/
def idK (k : Nat) : Nat → Nat → Int := fun i j => if i = j ∧ i < k then 1 else 0
theorem idK_zero : idK 0 = fun _ _ => 0 := by funext i j; simp [idK]
theorem idK_set (k : Nat) : updF (idK k) k k 1 = idK (k + 1) := by
  funext i j
  simp only [idK, updF]
  by_cases h1 : i = k
  · subst h1
    by_cases h2 : j = i
    · subst h2; simp
    · have : ¬ i = j := fun h => h2 h.symm
      simp [h2, this]
  · have : i < k + 1 ↔ i < k := by omega
    simp [h1, this]
theorem idK_all (n : Nat) : tab n n (idK n) = tab n n idF := tab_ext fun i hi j hj => by simp [idK, idF, hi]
theorem identity_a (n : Nat) (hn : n ≤ 1000) : AC Tryz.prog 124 [.i (n : Int)] [.agg (enc true (tm n n idF))] := by
  refine AC.go Tryz.func124 Tryz.ntmps124 rfl rfl fun w0 hw => ?_; simp [WfL, WfA, E_length, Enc.enc, In64] at hw
  have hZ := zeroT_a n n (by omega) (by omega)
  repeat' first | refine s1 ?_ | refine q1 ?_ | (refine kR ?_; first | refine F.c (hZ) ?_) | fail
  refine F.loop (σ := Nat) [4, 9, 10, 11, 12, 13, 14, 15, 16, 17, 18, 19, 20] (fun i => [(9, .i i)]) (fun i => [(1, .live false 1 (E true (tab n n (idK i))))]) (fun i => i ≤ n) (fun i => n - i) 0 ⟨rfl, trivial⟩ ⟨obE (by rw [idK_zero]), trivial⟩ (Nat.zero_le _) ?_
  rintro i i1
  by_cases hi : i < n
  · obtain ⟨t1, t2⟩ := tab_in (i := i) (j := i) (r := n) (c := n) hi hi (by omega) (by omega)
    repeat' first | refine s1 ?_ | refine q1 ?_ | fail
    exact ⟨i + 1, F.fit ⟨rfl, trivial⟩ ⟨obE (by rw [idK_set]), trivial⟩, by omega, by omega⟩
  · obtain rfl : i = n := by omega
    rw [idK_all]
    repeat' first | refine s1 ?_ | refine q1 ?_ | fail
    (refine kZ ?_; exact F.ret rfl)
end Go.Proofs.YtanembgijdkagaaGreat.V
namespace Go.Proofs.YtanembgijdkagaaGreat.V
open V.Enc (enc)
open Go.RowKit G D
set_option linter.unusedVariables false
set_option linter.unusedSimpArgs false
set_option maxHeartbeats 4000000
set_option maxRecDepth 4000
attribute [local irreducible] AW ARg ARA ARet MRet ASil AC AM
theorem matKer_a {p : Int} {m : Mat} (h : isMat p m = true) : AC Tryz.prog 109 [.i p, .agg (enc false m)] [.dt true 1 (E true (kerL p m.r.toNat m.c.toNat (ent m)))] := by
  obtain ⟨h0, h1, h2, h3, h4⟩ := isMat_spec h
  have := kernel_a p m.r.toNat m.c.toNat (ent m) h0 (by omega) (by omega) (ent_bd h)
  rw [isMat_tm h] at this
  exact this
theorem kerSpan_a {p : Int} {m : Mat} (h : isMat p m = true) : AC Tryz.prog 183 [.i p, .i m.c, ar false (kerL p m.r.toNat m.c.toNat (ent m))] [.agg (enc true (kerS p m))] := by
  obtain ⟨h0, h1, h2, h3, h4⟩ := isMat_spec h
  have hp := isF_pos h0
  have hl := kerL_le p m.r.toNat m.c.toNat (ent m)
  have := span_a p m.c.toNat _ h0 (by omega) (by omega) (kerL_vec (r := m.r.toNat) (c := m.c.toNat) (f := ent m) hp.1)
  rw [Int.toNat_of_nonneg h2.1] at this
  exact this
end Go.Proofs.YtanembgijdkagaaGreat.V
