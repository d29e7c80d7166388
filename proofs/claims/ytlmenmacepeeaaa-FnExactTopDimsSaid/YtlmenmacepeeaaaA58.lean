/- Contracts: the radical, as the program builds it. -/
import Derived.Test.YtlmenmacepeeaaaUq
import Derived.Test.YtlmenmacepeeaaaA57
import Derived.Test.YtlmenmacepeeaaaA47
import Derived.Test.YtlmenmacepeeaaaA25
namespace Go.Proofs.Ytlmenmacepeeaaa.V
open V.Enc (enc)
open Go.RowKit G D
set_option linter.unusedVariables false
set_option linter.unusedSimpArgs false
set_option maxHeartbeats 4000000
set_option maxRecDepth 4000
attribute [local irreducible] AW ARg ARA ARet MRet ASil AC AM

section
variable {P : Program} {w0 : World} {MP : Fr} {E : Nat → AV} {hp : Nat → Ob} {nx : Nat} {d : Option Tmp} {ty t : TypeId} {pos : String} {af : Array Edge} {g : Option (Nat × Bool)} {x y : Operand}
/-- an element that was written, all its cells -/
theorem A.ldSG {sz bys : Nat} {zz : Value} [h1 : Agg P t] [hi : HasI P t sz bys zz] {esz o n k k1 : Nat} {l : Bool} {xs : List (List AV)} {c : List AV} (hx : evA ⟨E, hp, nx⟩ x = .pt o n k1 0) (hh : hp o = .live l esz (xs.set k c)) (hn : xs.length = n) (hk1 : k1 = k) (hk : k < xs.length) (hl : c.length = sz) (hs : c.all V.shr = true) :
    ASil false P w0 MP ⟨E, hp, nx⟩ ⟨d, .load t x, ty, pos, af, g⟩ (.agg c) := by
  subst hk1
  exact A.ldRG (c := c) (ds := c) hx hh (by rw [List.length_set, hn]) (by simp [hk]) (by rw [List.drop_zero]; exact List.take_of_length_le (by omega)) hl hs
end
theorem set_self {α : Type} [Inhabited α] {L : List α} {w : Nat} (h : w < L.length) : L.set w (L.getD w default) = L := by
  have e : L.getD w default = L[w] := by simp [h]
  rw [e]; exact List.set_getElem_self h
/-- what is known of an arrow's matrix -/
theorem radical_m {r : Rep} (h : isRep r = true) {k : Nat} (hk : k < r.q.fr.length) : isF r.p = true ∧ isMat r.p (r.m.getD k default) = true ∧ (0 ≤ r.q.to.getD k default ∧ (r.q.to.getD k default).toNat < r.d.length) ∧ (r.m.getD k default).r = r.d.getD (r.q.to.getD k default).toNat default := by
  obtain ⟨h1, h2, h3, h4⟩ := isRep_spec h
  obtain ⟨c1, c2, c3, _⟩ := areDims_spec h2
  have t : 0 ≤ r.q.to.getD k default ∧ r.q.to.getD k default < r.q.n := okQ_to c1 hk
  have hm := h4 k (by omega)
  simp only [fitM, Bool.and_eq_true, decide_eq_true_eq] at hm
  exact ⟨h1, hm.1.1, ⟨t.1, by omega⟩, hm.2⟩
theorem imgSpan_a {p : Int} {m : Mat} (h : isMat p m = true) : AC Try.prog 170 [.i p, .i m.r, ar false (rowsL m.c.toNat m.r.toNat fun k i => ent m i k)] [.agg (enc true (imgS p m))] := by
  obtain ⟨h0, h1, h2, h3, h4⟩ := isMat_spec h
  have hv : VecB p m.r.toNat (rowsL m.c.toNat m.r.toNat fun k i => ent m i k) := VecB.rows fun k hk i hi => ent_bd h i hi k hk
  have := span_a p m.r.toNat _ h0 (by rw [rowsL_len]; omega) (by omega) hv
  rw [Int.toNat_of_nonneg h1.1] at this
  exact this
theorem matCols_a {p : Int} {m : Mat} (h : isMat p m = true) : AC Try.prog 171 [.agg (enc false m)] [.dt true 1 (E true (rowsL m.c.toNat m.r.toNat fun k i => ent m i k))] := by
  obtain ⟨h0, h1, h2, h3, h4⟩ := isMat_spec h
  have := columns_a m.r.toNat m.c.toNat (ent m) (by omega) (by omega)
  rw [isMat_tm h] at this
  exact this
theorem radical_a (r : Rep) (h : isRep r = true) : AC Try.prog 92 [.agg (enc false r)] [.dt true 2 (E true (radL r))] := by
  refine AC.go Try.func92 Try.ntmps92 rfl rfl fun w0 hw => ?_; simp [WfL, WfA, E_length, Enc.enc, In64] at hw
  obtain ⟨r1, r2, r3, r4⟩ := isRep_spec h
  obtain ⟨c1, c2, c3, _⟩ := areDims_spec r2
  have h5 := okQ_spec c1
  have hZ := zeroSub_a r (by omega)
  have hl0 := radK_len r 0
  repeat' first | refine s1 ?_ | (refine kR ?_; first | refine F.c (hZ) ?_) | fail
  refine F.loop (σ := Nat) [4, 5, 6, 12, 13, 14, 15, 16, 17, 18, 19, 20, 21, 22, 23, 24, 25, 26, 27, 28, 29, 30, 31, 32, 33, 34, 35, 36, 37, 38, 39, 40] (fun k => [(12, .i k)]) (fun k => [(1, .live false 2 (E true (radK r k)))]) (fun k => k ≤ r.q.fr.length) (fun k => r.q.fr.length - k) 0 ⟨rfl, trivial⟩ ⟨rfl, trivial⟩ (Nat.zero_le _) ?_
  rintro k k1
  by_cases hk : k < r.q.fr.length
  · obtain ⟨q1', q2, q3, q4⟩ := radical_m h hk
    have hkm : k < r.m.length := by omega
    obtain ⟨o1, o2⟩ := radK_ok h k (by omega) (r.q.to.getD k default).toNat q3.2
    have hL := radK_len r k
    have hCol := matCols_a q2
    have hSp := imgSpan_a q2
    have hSum := sumSpace_a r.p ((radK r k).getD (r.q.to.getD k default).toNat default) (imgS r.p (r.m.getD k default)) o2 (imgS_ok q2) (by rw [o1]; exact q4)
    have hst : radK r (k + 1) = (radK r k).set (r.q.to.getD k default).toNat (addS r.p ((radK r k).getD (r.q.to.getD k default).toNat default) (imgS r.p (r.m.getD k default))) := rfl
    have hwI := (Int.toNat_of_nonneg q3.1).symm
    generalize (r.q.to.getD k default).toNat = w at hwI hst hSum q3
    generalize radK r k = L at hst hSum hL ⊢
    generalize imgS r.p (r.m.getD k default) = IM at hSp hSum hst
    generalize hRL : (rowsL (r.m.getD k default).c.toNat (r.m.getD k default).r.toNat fun k_1 i => ent (r.m.getD k default) i k_1) = RL at hCol hSp
    generalize addS r.p (L.getD w default) IM = AS at hSum hst
    have hwl : w < L.length := by omega
    have hbl : (E true L).length = (radK r 0).length := by rw [E_length, hL, hl0]
    have hself : L.set w (L.getD w default) = L := set_self hwl
    repeat' first | refine s1 ?_ | fail
    refine AW.takeE (α := Spc) (o := 1) (k := w) (j := 1) (ls := L) rfl hwl rfl (E_length _ _) ?_
    refine AW.draw 17 G.mixed (by kernel_rfl) ?_
    refine dP 0 ?_
    refine dP 1 ?_
    refine dP 2 ?_
    refine dL 3 ?_
    refine dP 4 ?_
    refine dP 5 ?_
    first | refine dP 6 ?_ | refine dP 6 ?_ (hs := by exact (A.idxT (k := w) rfl rfl rfl hbl hwI (by omega)))
    first | refine dL 7 ?_ | refine dL 7 ?_ (hs := by exact (A.ldSG (k := w) rfl rfl hbl (by omega) (by omega) rfl rfl))
    refine dP 8 ?_
    refine dL 9 ?_
    refine dP 10 ?_
    refine dL 11 ?_
    refine dL 12 ?_
    refine dO 13 true ?_
    first | refine s1 ?_ | refine F.c (hCol) ?_
    refine ARg.nil (ATh.normal ?_)
    refine dO 14 true ?_
    first | refine s1 ?_ | refine F.c (hSp) ?_
    refine ARg.nil (ATh.normal ?_)
    refine dO 15 true ?_
    first | refine s1 ?_ | refine F.c (hSum) ?_
    refine ARg.nil (ATh.normal ?_)
    first | refine dP 16 ?_ | refine dP 16 ?_ (hs := by exact (A.idxT (k := w) rfl rfl rfl hbl hwI (by omega)))
    refine dO 17 false ?_
    first | refine s1 ?_ | (refine F.put (α := Spc) (o := 1) (o2 := 3) (k := w) (j := 1) (v := L.getD w default) (x := L.getD w default) (ls := L) rfl rfl (E_length _ _) (E_pure _ _) rfl hwl rfl rfl ?_; rw [hself]; refine F.stGE (α := Spc) (oo := true) (v := AS) rfl rfl rfl rfl rfl (by omega) (by omega) (.at1 rfl (.mv rfl (by simp) (E_length _ _) (E_pure _ _) .nil)) rfl rfl rfl rfl rfl ?_)
    refine ARg.nil (ATh.normal ?_)
    refine dN ?_
    rotate_left
    all_goals
      rw [Nat.zero_add w]
      repeat' first | refine s1 ?_ | fail
      exact ⟨k + 1, F.fit ⟨rfl, trivial⟩ ⟨obE (by rw [hst]), trivial⟩, by omega, by omega⟩
  · obtain rfl : k = r.q.fr.length := by omega
    have hL := radK_len r r.q.fr.length
    have e : radK r r.q.fr.length = radL r := rfl
    rw [e] at hL ⊢
    generalize radL r = L at hL ⊢
    repeat' first | refine s1 ?_ | fail
    (refine kZ ?_; exact F.ret rfl)
end Go.Proofs.Ytlmenmacepeeaaa.V
