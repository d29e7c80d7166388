/- Contracts: cocycles. -/
import Derived.Test.YtanembgijdkagaaGreatQzA12
namespace Go.Proofs.YtanembgijdkagaaGreat.V
open V.Enc (enc)
open Go.RowKit G D
set_option linter.unusedVariables false
set_option linter.unusedSimpArgs false
set_option maxHeartbeats 400000
set_option maxRecDepth 4000
attribute [local irreducible] AW ARg ARA ARet MRet ASil AC AM
/-- zero matrices for the arrows -/
def cocZ (a b : Rep) : List Mat := (List.range a.q.fr.length).map fun i => zeroM (b.d.getD (a.q.to.getD i default).toNat default) (a.d.getD (a.q.fr.getD i default).toNat default)
theorem cocZ_len (a b : Rep) : (cocZ a b).length = a.q.fr.length := by simp [cocZ]
theorem cocZ_get (a b : Rep) {i : Nat} (h : i < a.q.fr.length) : (cocZ a b).getD i default = zeroM (b.d.getD (a.q.to.getD i default).toNat default) (a.d.getD (a.q.fr.getD i default).toNat default) := by simp [cocZ, h]
theorem cocZ_take {a b : Rep} {k : Nat} (h : k < a.q.fr.length) : (cocZ a b).take (k + 1) = (cocZ a b).take k ++ [zeroM (b.d.getD (a.q.to.getD k default).toNat default) (a.d.getD (a.q.fr.getD k default).toNat default)] := by
  simp only [cocZ, ← List.map_take, range_take h, List.map_append, List.map_cons, List.map_nil]
/-- what is known of a pair that fits -/
structure Fits (a b : Rep) : Prop where
  q : a.q = b.q
  p : a.p = b.p
  f : isF a.p = true
  ok : okQ a.q = true
  da : (a.d.length : Int) = a.q.n
  db : (b.d.length : Int) = a.q.n
  ba : ∀ j, j < a.d.length → 0 ≤ a.d.getD j default ∧ a.d.getD j default ≤ 4
  bb : ∀ j, j < b.d.length → 0 ≤ b.d.getD j default ∧ b.d.getD j default ≤ 4
  ma : a.m.length = a.q.fr.length
  mb : b.m.length = a.q.fr.length
theorem Fits.of {a b : Rep} (h : fitR a b = true) : Fits a b := by
  obtain ⟨h1, h2, h3, h4⟩ := fitR_spec h
  obtain ⟨a1, a2, a3, a4⟩ := isRep_spec h1
  obtain ⟨b1, b2, b3, b4⟩ := isRep_spec h2
  obtain ⟨c1, c2, c3, c4⟩ := areDims_spec a2
  obtain ⟨d1, d2, d3, d4⟩ := areDims_spec b2
  exact ⟨h4, h3, a1, c1, c2, by rw [h4]; exact d2, fun j hj => allIn_spec c3 hj, fun j hj => allIn_spec d3 hj, a3, by rw [h4]; exact b3⟩
theorem cocycleZeros_a (a b : Rep) (h : Fits a b) : AC Tryz.prog 155 [.agg (enc false a), .agg (enc false b)] [.dt true 3 (E true (cocZ a b))] := by
  refine AC.go Tryz.func155 Tryz.ntmps155 rfl rfl fun w0 hw => ?_; simp [WfL, WfA, E_length, Enc.enc, In64] at hw
  have h5 := okQ_spec h.ok
  have hda := h.da
  have hdb := h.db
  repeat' first | refine s1 ?_ | fail
  refine AW.open 5 3 (.inl rfl) ?_
  refine F.loop (σ := Nat) [5, 6, 7, 12, 13, 14, 15, 16, 17, 18, 19, 20, 21, 22, 23, 24, 25, 26, 27, 28, 29, 30, 31, 32, 33, 34, 35, 36] (fun k => [(5, .sl 2 k 0 k), (12, .i k)]) (fun k => [(2, .live false 3 (E true ((cocZ a b).take k)))]) (fun k => k ≤ a.q.fr.length) (fun k => a.q.fr.length - k) 0 ⟨rfl, rfl, trivial⟩ ⟨rfl, trivial⟩ (Nat.zero_le _) ?_
  rintro k h1
  have hzl := cocZ_len a b
  have hp : ((cocZ a b).take k).length = k := by rw [List.length_take]; omega
  by_cases hlt : k < a.q.fr.length
  · have f := okQ_fr h.ok hlt
    have t := okQ_to h.ok hlt
    have f' : 0 ≤ a.q.fr.getD k default ∧ a.q.fr.getD k default < a.q.n := f
    have t' : 0 ≤ a.q.to.getD k default ∧ a.q.to.getD k default < a.q.n := t
    have df := h.ba (a.q.fr.getD k default).toNat (by omega)
    have dt := h.bb (a.q.to.getD k default).toNat (by omega)
    have hZ := zero_a _ _ ⟨dt.1, by omega⟩ ⟨df.1, by omega⟩
    repeat' first | refine s1 ?_ | fail
    refine AW.draw 18 G.mixed (by kernel_rfl) ?_
    refine dP 0 ?_
    refine dP 1 ?_
    refine dL 2 ?_
    refine dP 3 ?_
    refine dP 4 ?_
    refine dL 5 ?_
    refine dP 6 ?_
    refine dP 7 ?_
    refine dL 8 ?_
    refine dP 9 ?_
    refine dL 10 ?_
    refine dP 11 ?_
    refine dL 12 ?_
    refine dP 13 ?_
    refine dP 14 ?_
    refine dL 15 ?_
    refine dO 16 true ?_
    first | refine s1 ?_ | refine F.c (hZ) ?_
    refine ARg.nil (ATh.normal ?_)
    refine dO 17 true ?_
    refine s1 ?_
    refine ARg.nil (ATh.normal ?_)
    refine dO 18 false ?_
    first | refine s1 ?_ | refine F.a1 Mat ?_
    refine ARg.nil (ATh.normal ?_)
    refine dP 19 ?_
    refine dN ?_
    repeat' first | refine s1 ?_ | fail
    exact ⟨k + 1, F.fit ⟨rfl, rfl, trivial⟩ ⟨obE (by rw [cocZ_take hlt]), trivial⟩, by omega, by omega⟩
  · obtain rfl : k = a.q.fr.length := by omega
    rw [← hzl, List.take_length]
    repeat' first | refine s1 ?_ | fail
    (refine kZ ?_; exact F.ret rfl)
end Go.Proofs.YtanembgijdkagaaGreat.V
