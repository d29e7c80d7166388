/- Joined: Contract: the program's matrix of the coboundaries is the matrix of the equations. Contracts: ranks, dimensions of extensions and of morphisms (the program's), rigid representations. Contracts: the reference's kernel, and its list of morphisms.. -/
import Derived.Test.YtedjajokbdokhaaGreatUq
import Derived.Test.YtedjajokbdokhaaGreatB4
import Derived.Test.YtedjajokbdokhaaGreatB5
/- Contract: the program's matrix of the coboundaries is the matrix of the equations. -/
namespace Go.Proofs.YtedjajokbdokhaaGreat.V
open Go.RowKit G D
set_option linter.unusedVariables false
set_option linter.unusedSimpArgs false
set_option maxHeartbeats 4000000
set_option maxRecDepth 4000
attribute [local irreducible] AW ARg ARA ARet MRet ASil AC AM

theorem zerL_get {a b : Rep} {k : Nat} (h : k < a.d.length) : (zerL a b).getD k default = zeroM (b.d.getD k default) (a.d.getD k default) := by simp [zerL, h]
theorem zeroM_len {x y : Int} (hx : 0 ≤ x ∧ x ≤ 4) (hy : 0 ≤ y ∧ y ≤ 4) : (zeroM x y).m.length = x.toNat * y.toNat := by
  have := mul44 hx hy
  simp only [zeroM, List.length_replicate]
  rw [this.1, Int.toNat_natCast]
theorem zerL_cat {a b : Rep} (h : Fits a b) : ∀ k, k ≤ a.d.length → (catM ((zerL a b).take k)).length = szT a b k
  | 0, _ => by simp [catM, szT]
  | k + 1, hk => by
    have hda := h.da
    have hdb := h.db
    rw [catM_take (by rw [zerL_len]; omega), List.length_append, zerL_cat h k (by omega), zerL_get (by omega), zeroM_len (h.bb k (by omega)) (h.ba k (by omega)), szT, Nat.mul_comm]
theorem cocZ_cat {a b : Rep} (h : Fits a b) : ∀ k, k ≤ a.q.fr.length → (catM ((cocZ a b).take k)).length = szA a b k
  | 0, _ => by simp [catM, szA]
  | k + 1, hk => by
    have h5 := okQ_spec h.ok
    have hda := h.da
    have hdb := h.db
    have f : 0 ≤ a.q.fr.getD k default ∧ a.q.fr.getD k default < a.q.n := okQ_fr h.ok (by omega)
    have t : 0 ≤ a.q.to.getD k default ∧ a.q.to.getD k default < a.q.n := okQ_to h.ok (by omega)
    rw [catM_take (by rw [cocZ_len]; omega), List.length_append, cocZ_cat h k (by omega), cocZ_get a b (by omega), zeroM_len (h.bb _ (by omega)) (h.ba _ (by omega)), szA]
theorem zerL_shp {a b : Rep} (h : Fits a b) (x : List Int) : shpL (zerL a b) x = cutV a b x := by
  have key : ∀ k, k ≤ a.d.length → shpL ((zerL a b).take k) x = (cutV a b x).take k := fun k => by
    induction k with
    | zero => intro _; simp [shpL]
    | succ k ih =>
      intro hk
      have hda := h.da
      have hdb := h.db
      have hz := zerL_get (a := a) (b := b) (k := k) (by omega)
      have hl := zeroM_len (h.bb k (by omega)) (h.ba k (by omega))
      rw [shpL_take _ _ (by rw [zerL_len]; omega), ih (by omega), hz, zerL_cat h k (by omega), hl]
      have e : (cutV a b x).take (k + 1) = (cutV a b x).take k ++ [⟨b.d.getD k default, a.d.getD k default, (x.take (szT a b (k + 1))).drop (szT a b k)⟩] := by
        simp only [cutV, ← List.map_take, range_take (show k < a.d.length by omega), List.map_append, List.map_cons, List.map_nil]
      rw [e, List.drop_take]
      have hs : szT a b (k + 1) - szT a b k = (b.d.getD k default).toNat * (a.d.getD k default).toNat := by rw [szT, Nat.mul_comm]; omega
      rw [hs]
  have := key a.d.length (Nat.le_refl _)
  rw [show a.d.length = (zerL a b).length from (zerL_len a b).symm, List.take_length, zerL_len, show a.d.length = (cutV a b x).length from (cutV_len a b x).symm, List.take_length] at this
  exact this
theorem cocZ_shp {a b : Rep} (h : Fits a b) (x : List Int) : shpL (cocZ a b) x = cutL a b x := by
  have key : ∀ k, k ≤ a.q.fr.length → shpL ((cocZ a b).take k) x = (cutL a b x).take k := fun k => by
    induction k with
    | zero => intro _; simp [shpL]
    | succ k ih =>
      intro hk
      have h5 := okQ_spec h.ok
      have hda := h.da
      have hdb := h.db
      have f : 0 ≤ a.q.fr.getD k default ∧ a.q.fr.getD k default < a.q.n := okQ_fr h.ok (by omega)
      have t : 0 ≤ a.q.to.getD k default ∧ a.q.to.getD k default < a.q.n := okQ_to h.ok (by omega)
      have hz := cocZ_get a b (i := k) (by omega)
      have hl := zeroM_len (h.bb (a.q.to.getD k default).toNat (by omega)) (h.ba (a.q.fr.getD k default).toNat (by omega))
      rw [shpL_take _ _ (by rw [cocZ_len]; omega), ih (by omega), hz, cocZ_cat h k (by omega), hl, cutL_take a b x (by omega), cutM, List.drop_take]
      have hs : szA a b (k + 1) - szA a b k = (b.d.getD (a.q.to.getD k default).toNat default).toNat * (a.d.getD (a.q.fr.getD k default).toNat default).toNat := by rw [szA]; omega
      rw [hs]
  have := key a.q.fr.length (Nat.le_refl _)
  rw [show a.q.fr.length = (cocZ a b).length from (cocZ_len a b).symm, List.take_length, cocZ_len, show a.q.fr.length = (cutL a b x).length from (cutL_len a b x).symm, List.take_length] at this
  exact this
/-- the columns of the equations -/
def colL (a b : Rep) : List (List Int) := (List.range (szT a b a.d.length)).map fun k => catM (cobL a b (cutV a b (unitL (szT a b a.d.length) k)))
theorem colL_len (a b : Rep) : (colL a b).length = szT a b a.d.length := by simp [colL]
theorem colL_take {a b : Rep} {k : Nat} (h : k < szT a b a.d.length) : (colL a b).take (k + 1) = (colL a b).take k ++ [catM (cobL a b (cutV a b (unitL (szT a b a.d.length) k)))] := by
  simp only [colL, ← List.map_take, range_take h, List.map_append, List.map_cons, List.map_nil]
theorem colL_get {a b : Rep} (hf : fitR a b = true) {k : Nat} (h : k < szT a b a.d.length) : (colL a b).getD k default = tab (szA a b a.q.fr.length) 1 fun t _ => ent (eqM a b) t k := by
  rw [← eq_col hf h]
  simp [colL, h]
theorem colL_tm {a b : Rep} (hf : fitR a b = true) : tm (szA a b a.q.fr.length) (colL a b).length (fcF (colL a b)) = eqM a b := by
  have hp := isF_pos (Fits.of hf).f
  rw [← eqM_tm (a := a) (b := b) (by omega), colL_len]
  unfold tm
  congr 1
  apply tab_ext
  intro i hi j hj
  unfold fcF
  rw [colL_get hf hj]
  have := tab_get (r := szA a b a.q.fr.length) (c := 1) (fun t _ => ent (eqM a b) t j) hi (show 0 < 1 by omega)
  rw [Nat.mul_one, Nat.add_zero] at this
  exact this
end Go.Proofs.YtedjajokbdokhaaGreat.V

/- Contracts: ranks, dimensions of extensions and of morphisms (the program's), rigid representations. -/
namespace Go.Proofs.YtedjajokbdokhaaGreat.V
open V.Enc (enc)
open Go.RowKit G D
set_option linter.unusedVariables false
set_option linter.unusedSimpArgs false
set_option maxHeartbeats 4000000
set_option maxRecDepth 4000
attribute [local irreducible] AW ARg ARA ARet MRet ASil AC AM

theorem rank_a (p : Int) (r c : Nat) (f : Nat → Nat → Int) (hf : isF p = true) (hr : r ≤ 1024) (hc : c ≤ 1024) (hb : BdF p r c f) :
    AC Tryz.prog 173 [.i p, .agg (enc false (tm r c f))] [.i ((redK p r f c).2.length : Nat)] := by
  refine AC.go Tryz.func173 Tryz.ntmps173 rfl rfl fun w0 hw => ?_; simp [WfL, WfA, E_length, Enc.enc, In64] at hw
  have h5 := isF_pos hf
  have hR := implReduce_a p r c f hf hr hc hb
  have hl := ints_len (redK p r f c).2
  repeat' first | refine s1 ?_ | refine q1 ?_ | (refine kR ?_; first | refine F.c (hR) ?_) | fail
  rw [hl]
  repeat' first | refine s1 ?_ | refine q1 ?_ | fail
  (refine kZ ?_; exact F.ret rfl)
/-- the rank of the equations -/
def rkE (a b : Rep) : Nat := (redK a.p (szA a b a.q.fr.length) (ent (eqM a b)) (szT a b a.d.length)).2.length
theorem eq_rank_a (a b : Rep) (hf : fitR a b = true) : AC Tryz.prog 173 [.i a.p, .agg (enc false (eqM a b))] [.i (rkE a b : Nat)] := by
  have h := Fits.of hf
  have h5 := okQ_spec h.ok
  have hda := h.da
  have hp := isF_pos h.f
  have hn := szT_le h a.d.length (Nat.le_refl _)
  have hN := szA_le h a.q.fr.length (Nat.le_refl _)
  have := rank_a a.p (szA a b a.q.fr.length) (szT a b a.d.length) (ent (eqM a b)) h.f (by omega) (by omega) (eqM_bd (by omega))
  rw [eqM_tm (by omega)] at this
  exact this
theorem eq_red_a (a b : Rep) (hf : fitR a b = true) : AC Tryz.prog 155 [.i a.p, .agg (enc false (eqM a b))] [.agg (enc true (tm (szA a b a.q.fr.length) (szT a b a.d.length) (redK a.p (szA a b a.q.fr.length) (ent (eqM a b)) (szT a b a.d.length)).1)), .dt true 1 (E true (ints (redK a.p (szA a b a.q.fr.length) (ent (eqM a b)) (szT a b a.d.length)).2))] := by
  have h := Fits.of hf
  have h5 := okQ_spec h.ok
  have hda := h.da
  have hp := isF_pos h.f
  have hn := szT_le h a.d.length (Nat.le_refl _)
  have hN := szA_le h a.q.fr.length (Nat.le_refl _)
  have := l4Reduce_a a.p (szA a b a.q.fr.length) (szT a b a.d.length) (ent (eqM a b)) h.f (by omega) (by omega) (eqM_bd (by omega))
  rw [eqM_tm (by omega)] at this
  exact this
theorem rkE_le (a b : Rep) (hf : fitR a b = true) : rkE a b ≤ szA a b a.q.fr.length ∧ rkE a b ≤ szT a b a.d.length ∧ szA a b a.q.fr.length ≤ 96 ∧ szT a b a.d.length ≤ 80 := by
  have h := Fits.of hf
  have h5 := okQ_spec h.ok
  have hda := h.da
  have hp := isF_pos h.f
  have hn := szT_le h a.d.length (Nat.le_refl _)
  have hN := szA_le h a.q.fr.length (Nat.le_refl _)
  have := redK_bd (p := a.p) (by omega) (eqM_bd (a := a) (b := b) (by omega)) (szT a b a.d.length)
  exact ⟨this.2.1, this.2.2.1, by omega, by omega⟩
def extD (a b : Rep) : Int := if fitR a b = true then (szA a b a.q.fr.length : Int) - (rkE a b : Int) else -1
end Go.Proofs.YtedjajokbdokhaaGreat.V

/- Contracts: the reference's kernel, and its list of morphisms. -/
namespace Go.Proofs.YtedjajokbdokhaaGreat.V
open V.Enc (enc)
open Go.RowKit G D
set_option linter.unusedVariables false
set_option linter.unusedSimpArgs false
set_option maxHeartbeats 4000000
set_option maxRecDepth 4000
attribute [local irreducible] AW ARg ARA ARet MRet ASil AC AM

/-- the vectors of the kernel of the free columns before k -/
def kerK (p : Int) (c : Nat) (g : Nat → Nat → Int) (piv : List Nat) (k : Nat) : List (List Int) := (freeL k piv).map fun k => kerV p c g piv k piv.length
theorem kerK_len (p : Int) (c : Nat) (g : Nat → Nat → Int) (piv : List Nat) (k : Nat) : (kerK p c g piv k).length ≤ k := by
  rw [kerK, List.length_map]; exact freeL_le k piv
theorem kerK_yes {p : Int} {c : Nat} {g : Nat → Nat → Int} {piv : List Nat} {k : Nat} (h : k ∈ piv) : kerK p c g piv (k + 1) = kerK p c g piv k := by
  rw [kerK, freeL_succ, if_pos h]; rfl
theorem kerK_no {p : Int} {c : Nat} {g : Nat → Nat → Int} {piv : List Nat} {k : Nat} (h : k ∉ piv) : kerK p c g piv (k + 1) = kerK p c g piv k ++ [kerV p c g piv k piv.length] := by
  rw [kerK, freeL_succ, if_neg h, List.map_append]; rfl
theorem l4Kernel_a (p : Int) (r c : Nat) (f : Nat → Nat → Int) (hf : isF p = true) (hr : r ≤ 1024) (hc : c ≤ 1024) (hb : BdF p r c f) :
    AC Tryz.prog 105 [.i p, .agg (enc false (tm r c f))] [.dt true 1 (E true (kerL p r c f))] := by
  refine AC.go Tryz.func105 Tryz.ntmps105 rfl rfl fun w0 hw => ?_; simp [WfL, WfA, E_length, Enc.enc, In64] at hw
  have h5 := isF_pos hf
  have hR := l4Reduce_a p r c f hf hr hc hb
  obtain ⟨b1, b2, b3, b4⟩ := redK_bd (p := p) (by omega) hb c
  rw [show kerL p r c f = kerK p c (redK p r f c).1 (redK p r f c).2 c from rfl]
  generalize redK p r f c = R at hR b1 b2 b3 b4 ⊢
  obtain ⟨g, piv⟩ := R
  dsimp only at hR b1 b2 b3 b4 ⊢
  have hpl := ints_len piv
  repeat' first | refine s1 ?_ | refine q1 ?_ | (refine kR ?_; first | refine F.c (hR) ?_) | fail
  refine AW.open 7 1 (.inr rfl) ?_
  refine F.loop (σ := Nat) [7, 8, 9, 10, 18, 19, 20, 21, 22, 23, 24, 25, 26, 27, 28, 29, 30, 31, 32, 33, 34, 35, 36, 37, 38, 39, 40, 41, 42, 43, 44, 45, 46, 47, 48, 49, 50, 51, 52, 53, 54, 55, 56, 57, 58, 59, 60, 61] (fun k => [(7, .sl 4 (kerK p c g piv k).length 0 (kerK p c g piv k).length), (8, .i k)]) (fun k => [(4, .live false 1 (E true (kerK p c g piv k)))]) (fun k => k ≤ c) (fun k => c - k) 0 ⟨rfl, rfl, trivial⟩ ⟨rfl, trivial⟩ (Nat.zero_le _) ?_
  rintro k k1
  have hkl := kerK_len p c g piv k
  by_cases hk : k < c
  · have hH := l4Has_a (ints piv) (k : Int)
    by_cases hm : k ∈ piv
    · rw [decide_eq_true ((ints_mem piv k).mpr hm)] at hH
      have hs := kerK_yes (p := p) (c := c) (g := g) hm
      repeat' first | refine s1 ?_ | refine q1 ?_ | (refine kR ?_; first | refine F.c (hH) ?_) | fail
      exact ⟨k + 1, F.fit ⟨slE (by rw [hs]), rfl, trivial⟩ ⟨obE (by rw [hs]), trivial⟩, by omega, by omega⟩
    · rw [decide_eq_false (fun h => hm ((ints_mem piv k).mp h))] at hH
      have hs := kerK_no (p := p) (c := c) (g := g) hm
      generalize kerK p c g piv k = KK at hs hkl ⊢
      repeat' first | refine s1 ?_ | refine q1 ?_ | (refine kR ?_; first | refine F.c (hH) ?_ | refine F.mk (m := c) Int rfl rfl rfl (mkB (by omega)) (by omega) rfl rfl ?_) | fail
      refine F.loop (σ := Nat) [10, 33, 34, 35, 36, 37, 38, 39, 40, 41, 42, 43, 44, 45, 46, 47, 48, 49, 50, 51, 52, 53, 54, 55, 56, 57] (fun i => [(10, .i i)]) (fun i => [(5, .live false 1 (E true (kerV p c g piv k i)))]) (fun i => i ≤ piv.length) (fun i => piv.length - i) 0 ⟨rfl, trivial⟩ ⟨obE (by rw [Nat.zero_add]; rfl), trivial⟩ (Nat.zero_le _) ?_
      rintro i i1
      by_cases hi : i < piv.length
      · have hpi := ints_get piv hi
        have hq : piv.getD i default < c := b4 _ (by simp [hi])
        rw [← Nat.zero_add i] at hpi
        have hT : ((ints piv).getD (0 + i) default).toNat = piv.getD i 0 := by rw [hpi, Nat.zero_add]; exact Int.toNat_natCast _
        have hpi' : (ints piv).getD (0 + i) default = (piv.getD i default : Nat) := by rw [hpi, Nat.zero_add]
        clear hpi
        have hir : i < r := by omega
        obtain ⟨i4, i5⟩ := tab_in (i := i) (j := k) (r := r) (c := c) hir hk hr hc
        have hx := b1 i hir k hk
        have hL := l2Mod_a p (-(g i k)) (by omega)
        have hng : In64 (-(g i k)) := by unfold In64; omega
        have hst : kerV p c g piv k (i + 1) = (kerV p c g piv k i).set (piv.getD i 0) (-(g i k) % p) := rfl
        have hvl := kerV_len p c g piv k i
        generalize kerV p c g piv k i = X at hst hvl ⊢
        rw [← hT] at hst
        repeat' first | refine s1 ?_ | refine q1 ?_ | fail
        refine AW.draw 19 G.mixed (by kernel_rfl) ?_
        refine dP 0 ?_
        refine dP 1 ?_
        refine dP 2 ?_
        first | refine dP 3 ?_ | refine dQ 3 ?_
        first | refine dL 4 ?_ | refine dLQ 4 ?_
        refine dP 5 ?_
        refine dP 6 ?_
        first | refine dL 7 ?_ | refine dLQ 7 ?_
        refine dP 8 ?_
        refine dP 9 ?_
        first | refine dL 10 ?_ | refine dLQ 10 ?_
        refine dP 11 ?_
        refine dP 12 ?_
        refine dP 13 ?_
        first | refine dP 14 ?_ | refine dQ 14 ?_
        first | refine dL 15 ?_ | refine dLQ 15 ?_
        refine dP 16 ?_
        refine dO 17 true ?_
        first | refine s1 ?_ | refine F.c (hL) ?_
        refine ARg.nil (ATh.normal ?_)
        first | refine dP 18 ?_ | refine dQ 18 ?_
        refine dO 19 false ?_
        first | refine s1 ?_ | refine q1 ?_
        refine ARg.nil (ATh.normal ?_)
        refine dN ?_
        repeat' first | refine s1 ?_ | refine q1 ?_ | fail
        exact ⟨i + 1, F.fit ⟨rfl, trivial⟩ ⟨obE (by rw [hst, Nat.zero_add ((ints piv).getD (0 + i) default).toNat]), trivial⟩, by omega, by omega⟩
      · obtain rfl : i = piv.length := by omega
        have hvl := kerV_len p c g piv k piv.length
        generalize kerV p c g piv k piv.length = X at hs hvl ⊢
        repeat' first | refine s1 ?_ | refine q1 ?_ | (refine kR ?_; first | refine F.a1 (List Int) (a := X) ?_) | fail
        exact ⟨k + 1, F.fit ⟨slE (by rw [hs]; simp), rfl, trivial⟩ ⟨obE (by rw [hs]), trivial⟩, by omega, by omega⟩
  · obtain rfl : k = c := by omega
    repeat' first | refine s1 ?_ | refine q1 ?_ | fail
    (refine kZ ?_; exact F.ret rfl)
end Go.Proofs.YtedjajokbdokhaaGreat.V
