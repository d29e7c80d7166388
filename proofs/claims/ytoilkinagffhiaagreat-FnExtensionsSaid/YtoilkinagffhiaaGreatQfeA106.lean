/- Texts that the proof needs: A49, A107, A50, A42, A97, A106. -/
import Derived.Test.YtoilkinagffhiaaGreatQfeA48
import Derived.Test.YtoilkinagffhiaaGreatQfeA98
namespace Go.Proofs.YtoilkinagffhiaaGreat.V
open Go.RowKit G D
set_option linter.unusedVariables false
set_option linter.unusedSimpArgs false
set_option maxHeartbeats 4000000
set_option maxRecDepth 4000
attribute [local irreducible] AW ARg ARA ARet MRet ASil AC AM
def auK (c : Nat) (f : Nat → Nat → Int) (v : List Int) (i k : Nat) : Nat → Nat → Int := fun x y => if x < i ∨ (x = i ∧ y < k) then augF c f v x y else 0
theorem auK_zero (c : Nat) (f : Nat → Nat → Int) (v : List Int) : auK c f v 0 0 = fun _ _ => 0 := by funext x y; simp [auK]
theorem auK_set (c : Nat) (f : Nat → Nat → Int) (v : List Int) (i k : Nat) : updF (auK c f v i k) i k (augF c f v i k) = auK c f v i (k + 1) := by
 funext x y
 simp only [auK, updF]
 by_cases h1 : x = i
 ·subst h1
  by_cases h2 : y = k
  ·subst h2; simp
  ·have : y < k + 1 ↔ y < k := by omega
   simp [h2, this]
 ·simp [h1]
theorem auK_next (c : Nat) (f : Nat → Nat → Int) (v : List Int) (i r : Nat) : tab r (c + 1) (auK c f v i (c + 1)) = tab r (c + 1) (auK c f v (i + 1) 0) := tab_ext fun x hx y hy => by
 have e : (x < i ∨ x = i ∧ y < c + 1) ↔ (x < i + 1 ∨ x = i + 1 ∧ y < 0) := by omega
 simp only [auK, e]
theorem auK_all (c : Nat) (f : Nat → Nat → Int) (v : List Int) (r : Nat) : tab r (c + 1) (auK c f v r 0) = tab r (c + 1) (augF c f v) := tab_ext fun x hx y hy => by simp [auK, hx]
theorem l4Solve_a (p : Int) (r c : Nat) (f : Nat → Nat → Int) (v : List Int) (hf : isF p = true) (hr : r ≤ 1000) (hc : c ≤ 1000) (hb : BdF p r c f) (hvl : v.length = r) (hv : ∀ i, i < r → 0 ≤ v.getD i default ∧ v.getD i default ≤ p - 1) :
  AC Tryz.prog 54 [.i p, .agg (enc false (tm r c f)), ar false v] [.dt true 1 (E true (solL p r c f v).1), .b (solL p r c f v).2] := by
 refine AC.go Tryz.func54 Tryz.ntmps54 rfl rfl fun w0 hw => ?_; simp [WfL, WfA, E_length, Enc.enc, In64] at hw
 have h5 := isF_pos hf
 have hZ := l3ZeroT_a r (c + 1) (by omega) (by omega)
 have hR := l4Reduce_a p r (c + 1) (augF c f v) hf (by omega) (by omega) (augF_bd hb hv)
 obtain ⟨b1, b2, b3, b4⟩ := redK_bd (p := p) (by omega) (augF_bd hb hv) (c + 1)
 have hno0 := fun g piv (hR : redK p r (augF c f v) (c + 1) = (g, piv)) (h : c ∈ piv) => solL_no hR h
 have hyes0 := fun g piv (hR : redK p r (augF c f v) (c + 1) = (g, piv)) (h : c ∉ piv) => solL_yes hR h
 generalize redK p r (augF c f v) (c + 1) = R at hR b1 b2 b3 b4 hno0 hyes0
 obtain ⟨g, piv⟩ := R
 dsimp only at hR b1 b2 b3 b4
 have hno := hno0 g piv rfl
 have hyes := hyes0 g piv rfl
 clear hno0 hyes0
 generalize solL p r c f v = S at hno hyes ⊢
 have hpl := ints_len piv
 have hc1 : ((c + 1 : Nat) : Int) = (c : Int) + 1 := by push_cast; rfl
 rw [hc1] at hZ
 have hi64 : In64 ((tm r c f).c + 1) := by
  show In64 ((c : Int) + 1)
  unfold In64; omega
 repeat' first | refine s1 ?_ | refine q1 ?_ | (refine kR ?_; first | refine F.c (hZ) ?_) | fail
 refine F.loop (σ := Nat) [9, 10, 21, 22, 23, 24, 25, 26, 27, 28, 29, 30, 31, 32, 33, 34, 35, 36, 37, 38, 39, 40, 41, 42, 43, 44, 45, 46, 47, 48, 49, 50, 51, 52, 53, 54, 55, 56, 57, 58, 59, 60, 61, 62, 63, 64, 65] (fun i => [(9, .i i)]) (fun i => [(1, .live false 1 (E true (tab r (c + 1) (auK c f v i 0))))]) (fun i => i ≤ r) (fun i => r - i) 0 ⟨rfl, trivial⟩ ⟨obE (by rw [auK_zero]), trivial⟩ (Nat.zero_le _) ?_
 rintro i i1
 by_cases hi : i < r
 ·repeat' first | refine s1 ?_ | refine q1 ?_ | fail
  refine F.loop (σ := Nat) [10, 27, 28, 29, 30, 31, 32, 33, 34, 35, 36, 37, 38, 39, 40, 41, 42, 43, 44, 45, 46, 47, 48, 49, 50, 51] (fun k => [(10, .i k)]) (fun k => [(1, .live false 1 (E true (tab r (c + 1) (auK c f v i k))))]) (fun k => k ≤ c) (fun k => c - k) 0 ⟨rfl, trivial⟩ ⟨rfl, trivial⟩ (Nat.zero_le _) ?_
  rintro k k1
  by_cases hk : k < c
  ·obtain ⟨t1, t2⟩ := tab_in (i := i) (j := k) (r := r) (c := c) hi hk (by omega) (by omega)
   obtain ⟨t3, t4⟩ := tab_in (i := i) (j := k) (r := r) (c := c + 1) hi (by omega) (by omega) (by omega)
   have hv1 : f i k = augF c f v i k := by unfold augF; rw [if_pos hk]
   repeat' first | refine s1 ?_ | refine q1 ?_ | fail
   refine AW.draw 19 G.mixed (by kernel_rfl) ?_
   refine dP 0 ?_
   first | refine dL 1 ?_ | refine dLQ 1 ?_
   refine dP 2 ?_
   refine dP 3 ?_
   first | refine dL 4 ?_ | refine dLQ 4 ?_
   refine dP 5 ?_
   refine dP 6 ?_
   refine dP 7 ?_
   refine dP 8 ?_
   first | refine dL 9 ?_ | refine dLQ 9 ?_
   refine dP 10 ?_
   refine dP 11 ?_
   first | refine dL 12 ?_ | refine dLQ 12 ?_
   refine dP 13 ?_
   refine dP 14 ?_
   refine dP 15 ?_
   first | refine dP 16 ?_ | refine dQ 16 ?_
   first | refine dL 17 ?_ | refine dLQ 17 ?_
   first | refine dP 18 ?_ | refine dQ 18 ?_
   refine dO 19 false ?_
   first | refine s1 ?_ | refine q1 ?_
   refine tN ?_
   refine dN ?_
   repeat' first | refine s1 ?_ | refine q1 ?_ | fail
   exact ⟨k + 1, F.fit ⟨rfl, trivial⟩ ⟨obE (by rw [hv1, auK_set]), trivial⟩, by omega, by omega⟩
  ·obtain rfl : k = c := by omega
   obtain ⟨t3, t4⟩ := tab_in (i := i) (j := k) (r := r) (c := k + 1) hi (by omega) (by omega) (by omega)
   have hv1 : v.getD i default = augF k f v i k := by unfold augF; rw [if_neg (by omega)]
   repeat' first | refine s1 ?_ | refine q1 ?_ | fail
   refine AW.draw 14 G.mixed (by kernel_rfl) ?_
   refine dP 0 ?_
   first | refine dL 1 ?_ | refine dLQ 1 ?_
   refine dP 2 ?_
   refine dP 3 ?_
   first | refine dL 4 ?_ | refine dLQ 4 ?_
   refine dP 5 ?_
   refine dP 6 ?_
   first | refine dL 7 ?_ | refine dLQ 7 ?_
   refine dP 8 ?_
   refine dP 9 ?_
   refine dP 10 ?_
   first | refine dP 11 ?_ | refine dQ 11 ?_
   first | refine dL 12 ?_ | refine dLQ 12 ?_
   first | refine dP 13 ?_ | refine dQ 13 ?_
   refine dO 14 false ?_
   first | refine s1 ?_ | refine q1 ?_
   refine tN ?_
   refine dN ?_
   repeat' first | refine s1 ?_ | refine q1 ?_ | fail
   exact ⟨i + 1, F.fit ⟨rfl, trivial⟩ ⟨obE (by rw [hv1, auK_set, auK_next]), trivial⟩, by omega, by omega⟩
 ·obtain rfl : i = r := by omega
  have hH := l4Has_a (ints piv) (c : Int)
  rw [auK_all]
  by_cases hm : c ∈ piv
  ·rw [decide_eq_true ((ints_mem piv c).mpr hm)] at hH
   rw [hno hm]
   repeat' first | refine s1 ?_ | refine q1 ?_ | (refine kR ?_; first | refine F.c (hR) ?_ | refine F.c (hH) ?_) | fail
   (refine kZ ?_; exact F.ret rfl)
  ·rw [decide_eq_false (fun h => hm ((ints_mem piv c).mp h))] at hH
   rw [hyes hm]
   repeat' first | refine s1 ?_ | refine q1 ?_ | (refine kR ?_; first | refine F.c (hR) ?_ | refine F.c (hH) ?_ | refine F.mk (m := c) Int rfl rfl rfl (mkB (by omega)) (by omega) rfl rfl ?_) | fail
   refine F.loop (σ := Nat) [14, 80, 81, 82, 83, 84, 85, 86, 87, 88, 89, 90, 91, 92, 93, 94, 95, 96, 97, 98, 99, 100, 101, 102] (fun j => [(14, .i j)]) (fun j => [(6, .live false 1 (E true (solV c g piv j)))]) (fun j => j ≤ piv.length) (fun j => piv.length - j) 0 ⟨rfl, trivial⟩ ⟨rfl, trivial⟩ (Nat.zero_le _) ?_
   rintro j j1
   by_cases hj : j < piv.length
   ·have hpi := ints_get piv hj
    have hq0 : piv.getD j default < c + 1 := b4 _ (by simp [hj])
    have hq : piv.getD j default < c := by
     have : piv.getD j default ≠ c := fun h => hm (by rw [← h]; simp [hj])
     omega
    have hir : j < i := by omega
    have hpi' : (ints piv).getD (0 + j) default = (piv.getD j default : Nat) := by rw [Nat.zero_add]; exact hpi
    have hT : ((ints piv).getD (0 + j) default).toNat = piv.getD j 0 := by rw [hpi']; exact Int.toNat_natCast _
    clear hpi
    obtain ⟨t1, t2⟩ := tab_in (i := j) (j := c) (r := i) (c := c + 1) hir (by omega) (by omega) (by omega)
    have hst : solV c g piv (j + 1) = (solV c g piv j).set (piv.getD j 0) (g j c) := rfl
    have hsl := solV_len c g piv j
    generalize solV c g piv j = X at hst hsl ⊢
    rw [← hT] at hst
    repeat' first | refine s1 ?_ | refine q1 ?_ | fail
    refine AW.draw 17 G.mixed (by kernel_rfl) ?_
    refine dP 0 ?_
    refine dP 1 ?_
    refine dP 2 ?_
    first | refine dP 3 ?_ | refine dQ 3 ?_
    first | refine dL 4 ?_ | refine dLQ 4 ?_
    refine dP 5 ?_
    first | refine dL 6 ?_ | refine dLQ 6 ?_
    refine dP 7 ?_
    refine dP 8 ?_
    first | refine dL 9 ?_ | refine dLQ 9 ?_
    refine dP 10 ?_
    refine dP 11 ?_
    first | refine dL 12 ?_ | refine dLQ 12 ?_
    refine dP 13 ?_
    first | refine dP 14 ?_ | refine dQ 14 ?_
    first | refine dL 15 ?_ | refine dLQ 15 ?_
    first | refine dP 16 ?_ | refine dQ 16 ?_
    refine dO 17 false ?_
    first | refine s1 ?_ | refine q1 ?_
    refine tN ?_
    refine dN ?_
    repeat' first | refine s1 ?_ | refine q1 ?_ | fail
    exact ⟨j + 1, F.fit ⟨rfl, trivial⟩ ⟨obE (by rw [hst, Nat.zero_add ((ints piv).getD (0 + j) default).toNat]), trivial⟩, by omega, by omega⟩
   ·obtain rfl : j = piv.length := by omega
    have hsl := solV_len c g piv piv.length
    generalize solV c g piv piv.length = X at hsl ⊢
    repeat' first | refine s1 ?_ | refine q1 ?_ | fail
    (refine kZ ?_; exact F.ret rfl)
end Go.Proofs.YtoilkinagffhiaaGreat.V
namespace Go.Proofs.YtoilkinagffhiaaGreat.V
open Go.RowKit G D
set_option linter.unusedVariables false
set_option linter.unusedSimpArgs false
set_option maxHeartbeats 4000000
set_option maxRecDepth 4000
attribute [local irreducible] AW ARg ARA ARet MRet ASil AC AM ARI
theorem l4Inverse_a (p : Int) (n : Nat) (f : Nat → Nat → Int) (hF : isF p = true) (hn : n ≤ 8) (hb : BdF p n n f) (hk : (redK p n f n).2.length = n) : AC Tryz.prog 125 [.i p, .agg (enc false (tm n n f))] [.agg (enc true (tm n n (invF p n f))), .b true] := by
 refine AC.go Tryz.func125 Tryz.ntmps125 rfl rfl fun w0 hw => ?_; simp [WfL, WfA, E_length, Enc.enc, In64] at hw
 have hp := isF_pos hF
 have hZ := l3ZeroT_a n n (by omega) (by omega)
 have hS := fun k (h : k < n) => l4Solve_a p n n f (unitL n k) hF (by omega) (by omega) hb (unitL_len n k) (fun i hi => by rw [unitL_get hi]; split <;> omega)
 have hsol := fun k (h : k < n) => inv_sol hF hb hk h
 have hcg : ∀ k, k < n → (rowsL n n fun k i => invF p n f i k).getD k default = rowL n fun i => invF p n f i k := fun k h => rowsL_get _ _ h
 have hcl := rowsL_len n n fun k i => invF p n f i k
 have f0 := fcK_zero (rowsL n n fun k i => invF p n f i k)
 have fs := fun k m => fcK_set (rowsL n n fun k i => invF p n f i k) k m
 have fn := fun k => fcK_next (rowsL n n fun k i => invF p n f i k) k n n
 have fa := fcK_all (rowsL n n fun k i => invF p n f i k) n
 have e : tab n n (fcF (rowsL n n fun k i => invF p n f i k)) = tab n n (invF p n f) := tab_ext fun i hi j hj => by
  unfold fcF
  rw [hcg j hj, rowL_get _ hi]
 rw [hcl] at fa
 rw [e] at fa
 clear e
 generalize (rowsL n n fun k i => invF p n f i k) = CL at *
 generalize fcK CL = FK at *
 repeat' first | refine s1 ?_ | refine q1 ?_ | (refine kR ?_; first | refine F.c (hZ) ?_) | fail
 rw [← f0]
 refine AW.freezeP (α := Mat) (oo := false) (tm n n f) 3 rfl rfl ?_
 refine F.loop (σ := Nat) [5, 7, 8, 9, 10, 11, 23, 24, 25, 26, 27, 28, 29, 30, 31, 32, 33, 34, 35, 36, 37, 38, 39, 40, 41, 42, 43, 44, 45, 46, 47, 48, 49, 50, 51, 52, 53, 54, 55, 56, 57, 58, 59, 60, 61, 62, 63] (fun k => [(7, .i k)]) (fun k => [(2, .live false 1 (E true (tab n n (FK k 0))))]) (fun k => k ≤ n) (fun k => n - k) 0 ⟨rfl, trivial⟩ ⟨rfl, trivial⟩ (Nat.zero_le _) ?_
 rintro k k1
 by_cases h : k < n
 ·have hSk := hS k h
  rw [hsol k h] at hSk
  dsimp only at hSk
  rw [show unitL n k = (List.replicate n 0).set (0 + k) 1 by rw [Nat.zero_add]; rfl] at hSk
  have hck := hcg k h
  have hrl := rowL_len n fun i => invF p n f i k
  have hrg : ∀ i, i < n → (rowL n fun i => invF p n f i k).getD i default = invF p n f i k := fun i hi => rowL_get _ hi
  generalize (rowL n fun i => invF p n f i k) = X at hSk hck hrl hrg
  repeat' first | refine s1 ?_ | refine q1 ?_ | (refine kR ?_; first | refine F.mk (m := n) Int rfl rfl rfl (mkB (by omega)) (by omega) rfl rfl ?_) | fail
  repeat' first | refine s1 ?_ | refine q1 ?_ | (refine kR ?_; first | refine F.c (hSk) ?_) | fail
  refine AW.freezeA (α := Int) 9 rfl rfl rfl ?_
  refine F.loop (σ := Nat) [11, 45, 46, 47, 48, 49, 50, 51, 52, 53, 54, 55, 56, 57, 58, 59, 60, 61, 62, 63] (fun i => [(11, .i i)]) (fun i => [(2, .live false 1 (E true (tab n n (FK k i))))]) (fun i => i ≤ n) (fun i => n - i) 0 ⟨rfl, trivial⟩ ⟨rfl, trivial⟩ (Nat.zero_le _) ?_
  rintro i i1
  by_cases hi : i < n
  ·obtain ⟨t1, t2⟩ := tab_in (i := i) (j := k) (r := n) (c := n) hi h (by omega) (by omega)
   have fsi := fs k i
   rw [hck] at fsi
   generalize FK k i = G0 at fsi ⊢
   repeat' first | refine s1 ?_ | refine q1 ?_ | fail
   refine AW.draw 13 G.mixed (by kernel_rfl) ?_
   refine dP 0 ?_
   first | refine dL 1 ?_ | refine dLQ 1 ?_
   refine dP 2 ?_
   refine dP 3 ?_
   first | refine dL 4 ?_ | refine dLQ 4 ?_
   refine dP 5 ?_
   refine dP 6 ?_
   refine dP 7 ?_
   refine dP 8 ?_
   refine dP 9 ?_
   first | refine dP 10 ?_ | refine dQ 10 ?_
   first | refine dL 11 ?_ | refine dLQ 11 ?_
   first | refine dP 12 ?_ | refine dQ 12 ?_
   refine dO 13 false ?_
   first | refine s1 ?_ | refine q1 ?_
   refine tN ?_
   refine dN ?_
   rotate_left
   all_goals
    repeat' first | refine s1 ?_ | refine q1 ?_ | fail
    exact ⟨i + 1, F.fit ⟨rfl, trivial⟩ ⟨obE (by rw [← fsi]), trivial⟩, by omega, by omega⟩
  ·obtain rfl : i = n := by omega
   rw [fn k]
   repeat' first | refine s1 ?_ | refine q1 ?_ | fail
   exact ⟨k + 1, F.fit ⟨rfl, trivial⟩ ⟨rfl, trivial⟩, by omega, by omega⟩
 ·obtain rfl : k = n := by omega
  rw [fa]
  repeat' first | refine s1 ?_ | refine q1 ?_ | fail
  (refine kZ ?_; exact F.ret rfl)
end Go.Proofs.YtoilkinagffhiaaGreat.V
namespace Go.Proofs.YtoilkinagffhiaaGreat.V
open Go.RowKit G D
set_option linter.unusedVariables false
set_option linter.unusedSimpArgs false
set_option maxHeartbeats 4000000
set_option maxRecDepth 4000
attribute [local irreducible] AW ARg ARA ARet MRet ASil AC AM
theorem isCoc_spec {a b : Rep} {c : List Mat} (h : isCoc a b c = true) : fitR a b = true ∧ c.length = a.m.length ∧ ∀ i, i < c.length → isMat a.p (c.getD i default) = true ∧ (c.getD i default).c = a.d.getD (a.q.fr.getD i default).toNat default ∧ (c.getD i default).r = b.d.getD (a.q.to.getD i default).toNat default := by
 simp only [isCoc, fitC, Bool.and_eq_true, decide_eq_true_eq, List.all_eq_true] at h
 exact ⟨h.1.1, h.1.2, fun i hi => by have := h.2 i (by simpa using hi); exact ⟨this.1.1, this.1.2, this.2⟩⟩
theorem catC_len {a b : Rep} {c : List Mat} (h : isCoc a b c = true) : ∀ i, i ≤ c.length → (catM (c.take i)).length = szA a b i
 | 0, _ => by simp [catM, szA]
 | i + 1, hi => by
  obtain ⟨h1, h2, h3⟩ := isCoc_spec h
  have hh := Fits.of h1
  have h5 := okQ_spec hh.ok
  have hda := hh.da
  have hdb := hh.db
  have hma := hh.ma
  obtain ⟨g1, g2, g3⟩ := h3 i (by omega)
  obtain ⟨m0, m1, m2, m3, m4⟩ := isMat_spec g1
  have f : 0 ≤ a.q.fr.getD i default ∧ a.q.fr.getD i default < a.q.n := okQ_fr hh.ok (by omega)
  have t : 0 ≤ a.q.to.getD i default ∧ a.q.to.getD i default < a.q.n := okQ_to hh.ok (by omega)
  have df := hh.ba (a.q.fr.getD i default).toNat (by omega)
  have dt := hh.bb (a.q.to.getD i default).toNat (by omega)
  obtain ⟨e1, e2⟩ := mul44 dt df
  rw [g2, g3, e1] at m3
  rw [catM_take (by omega), List.length_append, catC_len h i (by omega), szA]
  omega
theorem catC_bd {a b : Rep} {c : List Mat} (h : isCoc a b c = true) : ∀ i, i < (catM c).length → 0 ≤ (catM c).getD i default ∧ (catM c).getD i default ≤ a.p - 1 := fun i hi => by
 have hm : (catM c).getD i default ∈ catM c := gm hi
 simp only [catM, List.mem_flatMap] at hm
 obtain ⟨m, hm1, hm2⟩ := hm
 obtain ⟨v, hv, rfl⟩ := List.getElem_of_mem hm1
 have hM := (isMat_spec ((isCoc_spec h).2.2 v hv).1).2.2.2.2
 obtain ⟨t, ht, e2⟩ := List.getElem_of_mem hm2
 have g1 : c.getD v default = c[v] := by simp [hv]
 rw [g1] at hM
 have := hM t ht
 have e3 : (c[v]).m.getD t default = (c[v]).m[t] := by simp [ht]
 rw [e3, e2] at this
 exact this
def isCob (a b : Rep) (c : List Mat) : Bool := isCoc a b c && (solL a.p (szA a b a.q.fr.length) (szT a b a.d.length) (ent (eqM a b)) (catM c)).2
theorem implIsCoboundary_a (a b : Rep) (c : List Mat) : AC Tryz.prog 11 [.agg (enc false a), .agg (enc false b), ar false c] [.b (isCob a b c)] := by
 refine AC.go Tryz.func11 Tryz.ntmps11 rfl rfl fun w0 hw => ?_; simp [WfL, WfA, E_length, Enc.enc, In64] at hw
 have hF := implIsCocycle_a a b c
 unfold isCob
 cases hf : isCoc a b c with
 | false =>
  rw [hf] at hF
  repeat' first | refine s1 ?_ | refine q1 ?_ | (refine kR ?_; first | refine F.c (hF) ?_) | fail
  (refine kZ ?_; exact F.ret rfl)
 | true =>
  rw [hf] at hF
  obtain ⟨h1, h2, h3⟩ := isCoc_spec hf
  have h := Fits.of h1
  have hp := isF_pos h.f
  have hle := rkE_le a b h1
  have hma := h.ma
  have hl := catC_len hf c.length (Nat.le_refl _)
  rw [List.take_length, h2, hma] at hl
  have hB := boundaries_a a b h1
  have hFl := flat_a c (by omega)
  have hS := solve_a a.p (szA a b a.q.fr.length) (szT a b a.d.length) (ent (eqM a b)) (catM c) h.f (by omega) (by omega) (eqM_bd (by omega)) hl (fun i hi => catC_bd hf i (by omega))
  rw [eqM_tm (by omega)] at hS
  generalize solL a.p (szA a b a.q.fr.length) (szT a b a.d.length) (ent (eqM a b)) (catM c) = S at hS ⊢
  obtain ⟨sl, sb⟩ := S
  dsimp only at hS ⊢
  generalize catM c = CC at hFl hS hl
  generalize eqM a b = EM at hB hS
  repeat' first | refine s1 ?_ | refine q1 ?_ | (refine kR ?_; first | refine F.c (hF) ?_) | fail
  refine AW.draw 13 G.mixed (by kernel_rfl) ?_
  refine dP 0 ?_
  first | refine dL 1 ?_ | refine dLQ 1 ?_
  first | refine dL 2 ?_ | refine dLQ 2 ?_
  first | refine dL 3 ?_ | refine dLQ 3 ?_
  refine dP 5 ?_
  refine dO 4 true ?_
  first | refine s1 ?_ | refine F.c (hB) ?_ | refine F.c (hFl) ?_ | refine F.c (hS) ?_
  refine tN ?_
  refine dO 6 true ?_
  first | refine s1 ?_ | refine F.c (hB) ?_ | refine F.c (hFl) ?_ | refine F.c (hS) ?_
  refine tN ?_
  refine dO 7 true ?_
  first | refine s1 ?_ | refine F.c (hB) ?_ | refine F.c (hFl) ?_ | refine F.c (hS) ?_
  refine tN ?_
  refine dP 8 ?_
  refine dP 9 ?_
  refine dP 10 ?_
  refine dP 11 ?_
  refine dP 12 ?_
  refine dN ?_
  rotate_left
  all_goals
   repeat' first | refine s1 ?_ | refine q1 ?_ | fail
   (refine kZ ?_; exact F.ret rfl)
theorem specIsCoboundary_a (a b : Rep) (c : List Mat) : AC Tryz.prog 20 [.agg (enc false a), .agg (enc false b), ar false c] [.b (isCob a b c)] := by
 refine AC.go Tryz.func20 Tryz.ntmps20 rfl rfl fun w0 hw => ?_; simp [WfL, WfA, E_length, Enc.enc, In64] at hw
 have hF := specIsCocycle_a a b c
 unfold isCob
 cases hf : isCoc a b c with
 | false =>
  rw [hf] at hF
  repeat' first | refine s1 ?_ | refine q1 ?_ | (refine kR ?_; first | refine F.c (hF) ?_) | fail
  (refine kZ ?_; exact F.ret rfl)
 | true =>
  rw [hf] at hF
  obtain ⟨h1, h2, h3⟩ := isCoc_spec hf
  have h := Fits.of h1
  have hp := isF_pos h.f
  have hle := rkE_le a b h1
  have hma := h.ma
  have hl := catC_len hf c.length (Nat.le_refl _)
  rw [List.take_length, h2, hma] at hl
  have hB := l11Equations_a a b h1
  rw [show (⟨(szA a b a.q.fr.length : Nat), (szT a b a.d.length : Nat), eqA a b a.q.fr.length⟩ : Mat) = eqM a b from rfl] at hB
  have hFl := l11Flat_a c (by omega)
  have hS := l4Solve_a a.p (szA a b a.q.fr.length) (szT a b a.d.length) (ent (eqM a b)) (catM c) h.f (by omega) (by omega) (eqM_bd (by omega)) hl (fun i hi => catC_bd hf i (by omega))
  rw [eqM_tm (by omega)] at hS
  generalize solL a.p (szA a b a.q.fr.length) (szT a b a.d.length) (ent (eqM a b)) (catM c) = S at hS ⊢
  obtain ⟨sl, sb⟩ := S
  dsimp only at hS ⊢
  generalize catM c = CC at hFl hS hl
  generalize eqM a b = EM at hB hS
  repeat' first | refine s1 ?_ | refine q1 ?_ | (refine kR ?_; first | refine F.c (hF) ?_) | fail
  refine AW.draw 13 G.mixed (by kernel_rfl) ?_
  refine dP 0 ?_
  first | refine dL 1 ?_ | refine dLQ 1 ?_
  first | refine dL 2 ?_ | refine dLQ 2 ?_
  first | refine dL 3 ?_ | refine dLQ 3 ?_
  refine dP 5 ?_
  refine dO 4 true ?_
  first | refine s1 ?_ | refine F.c (hB) ?_ | refine F.c (hFl) ?_ | refine F.c (hS) ?_
  refine tN ?_
  refine dO 6 true ?_
  first | refine s1 ?_ | refine F.c (hB) ?_ | refine F.c (hFl) ?_ | refine F.c (hS) ?_
  refine tN ?_
  refine dO 7 true ?_
  first | refine s1 ?_ | refine F.c (hB) ?_ | refine F.c (hFl) ?_ | refine F.c (hS) ?_
  refine tN ?_
  refine dP 8 ?_
  refine dP 9 ?_
  refine dP 10 ?_
  refine dP 11 ?_
  refine dP 12 ?_
  refine dN ?_
  rotate_left
  all_goals
   repeat' first | refine s1 ?_ | refine q1 ?_ | fail
   (refine kZ ?_; exact F.ret rfl)
def hkL (a b : Rep) : List (List Int) := kerL a.p (szA a b a.q.fr.length) (szT a b a.d.length) (ent (eqM a b))
theorem fitR_reps {a b : Rep} (h : fitR a b = true) : isRep a = true ∧ isRep b = true := by
 simp only [fitR, Bool.and_eq_true, decide_eq_true_eq] at h
 exact h.1.1
def zerF : Nat → Nat → Int := fun _ _ => 0
def blkF (r c : Nat) (f h g : Nat → Nat → Int) : Nat → Nat → Int := fun i j => if i < r then (if j < c then f i j else h i (j - c)) else (if j < c then 0 else g (i - r) (j - c))
def blkM (x y : Mat) (h : Nat → Nat → Int) : Mat := tm (x.r.toNat + y.r.toNat) (x.c.toNat + y.c.toNat) (blkF x.r.toNat x.c.toNat (ent x) h (ent y))
def sumDs (b a : Rep) : List Int := (List.range b.d.length).map fun v => b.d.getD v default + a.d.getD v default
theorem sumDs_len (b a : Rep) : (sumDs b a).length = b.d.length := by simp [sumDs]
theorem sumDs_take (b a : Rep) {k : Nat} (h : k < b.d.length) : (sumDs b a).take (k + 1) = (sumDs b a).take k ++ [b.d.getD k default + a.d.getD k default] := by
 simp only [sumDs, ← List.map_take, range_take h, List.map_append, List.map_cons, List.map_nil]
def sumMs (b a : Rep) (H : Nat → Nat → Nat → Int) : List Mat := (List.range b.m.length).map fun i => blkM (b.m.getD i default) (a.m.getD i default) (H i)
theorem sumMs_len (b a : Rep) (H : Nat → Nat → Nat → Int) : (sumMs b a H).length = b.m.length := by simp [sumMs]
theorem sumMs_take (b a : Rep) (H : Nat → Nat → Nat → Int) {k : Nat} (h : k < b.m.length) : (sumMs b a H).take (k + 1) = (sumMs b a H).take k ++ [blkM (b.m.getD k default) (a.m.getD k default) (H k)] := by
 simp only [sumMs, ← List.map_take, range_take h, List.map_append, List.map_cons, List.map_nil]
def sumR (b a : Rep) (H : Nat → Nat → Nat → Int) : Rep := ⟨b.p, b.q, sumDs b a, sumMs b a H⟩
def sumP (b a : Rep) : Rep × Bool := if fitR b a = true ∧ isRep (sumR b a fun _ => zerF) = true then (sumR b a fun _ => zerF, true) else (noR, false)
end Go.Proofs.YtoilkinagffhiaaGreat.V
