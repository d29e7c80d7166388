/- Joined: Contracts: all of a space, meets, the socle, as the reference builds them. Contracts: meets and the socle, as the reference builds them; dimensions of the socle. How much the socle's memory holds, and that of lists of valid spaces. No program is walked.. -/
import Derived.Test.YtedjajokbdokhaaGreatUq
import Derived.Test.YtedjajokbdokhaaGreatB7
import Derived.Test.YtedjajokbdokhaaGreatB8
import Derived.Test.YtedjajokbdokhaaGreatB9
import Derived.Test.YtedjajokbdokhaaGreatUi
import Derived.Test.YtedjajokbdokhaaGreatC1
/- Contracts: all of a space, meets, the socle, as the reference builds them. -/
namespace Go.Proofs.YtedjajokbdokhaaGreat.V
open Go.RowKit G D
set_option linter.unusedVariables false
set_option linter.unusedSimpArgs false
set_option maxHeartbeats 4000000
set_option maxRecDepth 4000
attribute [local irreducible] AW ARg ARA ARet MRet ASil AC AM

end Go.Proofs.YtedjajokbdokhaaGreat.V

/- Contracts: meets and the socle, as the reference builds them; dimensions of the socle. -/
namespace Go.Proofs.YtedjajokbdokhaaGreat.V
open V.Enc (enc)
open Go.RowKit G D
set_option linter.unusedVariables false
set_option linter.unusedSimpArgs false
set_option maxHeartbeats 4000000
set_option maxRecDepth 4000
attribute [local irreducible] AW ARg ARA ARet MRet ASil AC AM ARI

theorem meetSpaces_a (p : Int) (a b : Spc) (ha : isSpc p a = true) (hb : isSpc p b = true) (hn : b.n = a.n) : AC Tryz.prog 77 [.i p, .agg (enc false a), .agg (enc false b)] [.agg (enc true (metS p a b)), .b true] := by
  refine AC.go Tryz.func77 Tryz.ntmps77 rfl rfl fun w0 hw => ?_; simp [WfL, WfA, E_length, Enc.enc, In64] at hw
  have hA := specIsSpace_a p a
  have hB := specIsSpace_a p b
  rw [ha] at hA
  rw [hb] at hB
  obtain ⟨h1, h2, h3, h4⟩ := isSpc_spec ha
  obtain ⟨_, _, g3, g4⟩ := isSpc_spec hb
  rw [hn] at g4
  have hp := isF_pos h1
  have hv := h4.app g4
  have hR := l5Rows_a a.n.toNat (a.b ++ b.b) (by rw [List.length_append]; omega) (by omega) hv.len
  rw [Int.toNat_of_nonneg h2.1] at hR
  have hTr := l3Transpose_a (a.b ++ b.b).length a.n.toNat (vecF (a.b ++ b.b)) (by rw [List.length_append]; omega) (by omega)
  have hK := l4Kernel_a p a.n.toNat (a.b ++ b.b).length (fcF (a.b ++ b.b)) h1 (by omega) (by rw [List.length_append]; omega) (fcF_bd hv)
  rw [show kerL p a.n.toNat (a.b ++ b.b).length (fcF (a.b ++ b.b)) = metK p a b from rfl] at hK
  rw [show (fun i j => vecF (a.b ++ b.b) j i) = fcF (a.b ++ b.b) from rfl] at hTr
  have hKl := metK_le p a b
  have hKv := metK_vec (a := a) (b := b) hp.1
  have hMt := fun i hi => metL_take (p := p) (a := a) (b := b) (i := i) hi
  have hMl := metL_len p a b
  have hS := l5Span_a p a.n.toNat (metL p a b) h1 (by omega) (by omega) (metL_vec hp.1)
  rw [Int.toNat_of_nonneg h2.1, show (⟨a.n, spanL p a.n.toNat (metL p a b)⟩ : Spc) = metS p a b from rfl] at hS
  generalize metS p a b = MS at hS ⊢
  generalize metL p a b = ML at hMt hMl hS
  generalize metK p a b = K at hK hKl hKv hMt hMl
  have hal : ∀ j, j < a.b.length → (a.b.getD j default).length = a.n.toNat := h4.len
  have hab : ∀ j, j < a.b.length → ∀ t, t < a.n.toNat → 0 ≤ (a.b.getD j default).getD t default ∧ (a.b.getD j default).getD t default ≤ p - 1 := fun j hj => (h4 _ (gm hj)).2
  have hnn : a.n = (a.n.toNat : Int) := (Int.toNat_of_nonneg h2.1).symm
  rw [List.length_append] at hKv
  generalize hT : tm a.n.toNat (a.b ++ b.b).length (fcF (a.b ++ b.b)) = T at hTr hK
  generalize hT0 : tm (a.b ++ b.b).length a.n.toNat (vecF (a.b ++ b.b)) = T0 at hR hTr
  generalize hN : a.n.toNat = n at *
  repeat' first | refine s1 ?_ | refine q1 ?_ | (refine kR ?_; first | refine F.c (hA) ?_ | refine F.c (hB) ?_) | fail
  refine AW.freezeP (α := Spc) (oo := false) a 4 rfl rfl ?_
  refine AW.freezeP (α := Spc) (oo := false) b 5 rfl rfl ?_
  refine AW.drawI G.mixed (by kernel_rfl) (by rfl) ?_
  intro T w1 MP1 I0
  refine iP 0 ?_
  refine iL 1 ?_
  refine iP 3 ?_
  refine iL 4 ?_
  refine iP 6 ?_
  refine iL 7 ?_
  refine ARI.any [2, 11] (by kernel_rfl) (by simp) ?_
  intro k hk
  simp only [List.mem_cons, List.not_mem_nil, or_false] at hk
  rcases hk with rfl | rfl
  refine ⟨_, rfl, ?_⟩
  refine s1 ?_
  refine ARg.nil (ATh.normal ?_)
  refine ARI.any [5, 11] (by kernel_rfl) (by simp) ?_
  intro k hk
  simp only [List.mem_cons, List.not_mem_nil, or_false] at hk
  rcases hk with rfl | rfl
  refine ⟨_, rfl, ?_⟩
  first | refine s1 ?_ | refine F.aLN (List Int) (oo := false) ?_
  refine ARg.nil (ATh.normal ?_)
  refine ARI.any [8, 11] (by kernel_rfl) (by simp) ?_
  intro k hk
  simp only [List.mem_cons, List.not_mem_nil, or_false] at hk
  rcases hk with rfl | rfl
  refine ⟨_, rfl, ?_⟩
  first | refine s1 ?_ | refine F.aL (List Int) (oo := false) ?_
  refine ARg.nil (ATh.normal ?_)
  refine ARI.any [9, 11] (by kernel_rfl) (by simp) ?_
  intro k hk
  simp only [List.mem_cons, List.not_mem_nil, or_false] at hk
  rcases hk with rfl | rfl
  refine ⟨_, rfl, ?_⟩
  first | refine s1 ?_ | refine F.c (hR) ?_ | refine F.c (hTr) ?_
  refine ARg.nil (ATh.normal ?_)
  refine ARI.any [10, 11] (by kernel_rfl) (by simp) ?_
  intro k hk
  simp only [List.mem_cons, List.not_mem_nil, or_false] at hk
  rcases hk with rfl | rfl
  refine ⟨_, rfl, ?_⟩
  first | refine s1 ?_ | refine F.c (hR) ?_ | refine F.c (hTr) ?_
  refine ARg.nil (ATh.normal ?_)
  refine iO 11 ?_
  refine s1 ?_
  refine ARg.nil (ATh.normal ?_)
  refine iO 12 ?_
  first | refine s1 ?_ | refine q1 ?_
  refine ARg.nil (ATh.normal ?_)
  refine iN ?_
  rotate_left
  refine ⟨_, rfl, ?_⟩
  refine s1 ?_
  refine ARg.nil (ATh.normal ?_)
  refine iO 10 ?_
  first | refine s1 ?_ | refine F.c (hR) ?_ | refine F.c (hTr) ?_
  refine ARg.nil (ATh.normal ?_)
  refine iO 12 ?_
  first | refine s1 ?_ | refine q1 ?_
  refine ARg.nil (ATh.normal ?_)
  refine iN ?_
  rotate_left
  refine ⟨_, rfl, ?_⟩
  refine s1 ?_
  refine ARg.nil (ATh.normal ?_)
  refine iO 9 ?_
  first | refine s1 ?_ | refine F.c (hR) ?_ | refine F.c (hTr) ?_
  refine ARg.nil (ATh.normal ?_)
  refine iO 10 ?_
  first | refine s1 ?_ | refine F.c (hR) ?_ | refine F.c (hTr) ?_
  refine ARg.nil (ATh.normal ?_)
  refine iO 12 ?_
  first | refine s1 ?_ | refine q1 ?_
  refine ARg.nil (ATh.normal ?_)
  refine iN ?_
  rotate_left
  refine ⟨_, rfl, ?_⟩
  refine s1 ?_
  refine ARg.nil (ATh.normal ?_)
  refine iO 8 ?_
  first | refine s1 ?_ | refine F.aL (List Int) (oo := false) ?_
  refine ARg.nil (ATh.normal ?_)
  refine iO 9 ?_
  first | refine s1 ?_ | refine F.c (hR) ?_ | refine F.c (hTr) ?_
  refine ARg.nil (ATh.normal ?_)
  refine iO 10 ?_
  first | refine s1 ?_ | refine F.c (hR) ?_ | refine F.c (hTr) ?_
  refine ARg.nil (ATh.normal ?_)
  refine iO 12 ?_
  first | refine s1 ?_ | refine q1 ?_
  refine ARg.nil (ATh.normal ?_)
  refine iN ?_
  rotate_left
  refine ⟨_, rfl, ?_⟩
  refine s1 ?_
  refine ARg.nil (ATh.normal ?_)
  refine iO 5 ?_
  first | refine s1 ?_ | refine F.aLN (List Int) (oo := false) ?_
  refine ARg.nil (ATh.normal ?_)
  refine iO 8 ?_
  first | refine s1 ?_ | refine F.aL (List Int) (oo := false) ?_
  refine ARg.nil (ATh.normal ?_)
  refine iO 9 ?_
  first | refine s1 ?_ | refine F.c (hR) ?_ | refine F.c (hTr) ?_
  refine ARg.nil (ATh.normal ?_)
  refine iO 10 ?_
  first | refine s1 ?_ | refine F.c (hR) ?_ | refine F.c (hTr) ?_
  refine ARg.nil (ATh.normal ?_)
  refine iO 12 ?_
  first | refine s1 ?_ | refine q1 ?_
  refine ARg.nil (ATh.normal ?_)
  refine iN ?_
  rotate_left
  refine ⟨_, rfl, ?_⟩
  refine s1 ?_
  refine ARg.nil (ATh.normal ?_)
  refine iO 2 ?_
  refine s1 ?_
  refine ARg.nil (ATh.normal ?_)
  refine iO 5 ?_
  first | refine s1 ?_ | refine F.aLN (List Int) (oo := false) ?_
  refine ARg.nil (ATh.normal ?_)
  refine iO 8 ?_
  first | refine s1 ?_ | refine F.aL (List Int) (oo := false) ?_
  refine ARg.nil (ATh.normal ?_)
  refine iO 9 ?_
  first | refine s1 ?_ | refine F.c (hR) ?_ | refine F.c (hTr) ?_
  refine ARg.nil (ATh.normal ?_)
  refine iO 10 ?_
  first | refine s1 ?_ | refine F.c (hR) ?_ | refine F.c (hTr) ?_
  refine ARg.nil (ATh.normal ?_)
  refine iO 12 ?_
  first | refine s1 ?_ | refine q1 ?_
  refine ARg.nil (ATh.normal ?_)
  refine iN ?_
  rotate_left
  all_goals
    repeat' first | refine s1 ?_ | refine q1 ?_ | (refine kR ?_; first | refine F.c (hK) ?_) | fail
    refine AW.lend (o := 7) rfl ?_
    refine AW.open 10 1 (.inr rfl) ?_
    refine F.loop (σ := Nat) [10, 11, 12, 13, 14, 48, 49, 50, 51, 52, 53, 54, 55, 56, 57, 58, 59, 60, 61, 62, 63, 64, 65, 66, 67, 68, 69, 70, 71, 72, 73, 74, 75, 76, 77, 78, 79, 80, 81, 82, 83, 84, 85, 86, 87, 88, 89, 90, 91, 92, 93, 94, 95, 96, 97, 98, 99] (fun i => [(10, .sl 8 i 0 i), (11, .i i)]) (fun i => [(8, .live false 1 (E true (ML.take i)))]) (fun i => i ≤ K.length) (fun i => K.length - i) 0 ⟨rfl, rfl, trivial⟩ ⟨rfl, trivial⟩ (Nat.zero_le _) ?_
    rintro i i1
    have hp2 : (ML.take i).length = i := by rw [List.length_take]; omega
    by_cases hi : i < K.length
    · have hts := hMt i hi
      have hkv := hKv _ (gm (d := default) hi)
      repeat' first | refine s1 ?_ | refine q1 ?_ | (refine kR ?_; first | refine F.mk (m := n) Int rfl rfl hnn (mkB (by omega)) (by omega) rfl rfl ?_) | fail
      rw [show List.replicate n (0 : Int) = cmbV p n a.b (K.getD i default) 0 from rfl]
      refine F.loop (σ := Nat) [13, 14, 57, 58, 59, 60, 61, 62, 63, 64, 65, 66, 67, 68, 69, 70, 71, 72, 73, 74, 75, 76, 77, 78, 79, 80, 81, 82, 83, 84, 85, 86, 87, 88, 89, 90, 91, 92, 93, 94, 95] (fun j => [(13, .i j)]) (fun j => [(9, .live false 1 (E true (cmbV p n a.b (K.getD i default) j)))]) (fun j => j ≤ a.b.length) (fun j => a.b.length - j) 0 ⟨rfl, trivial⟩ ⟨rfl, trivial⟩ (Nat.zero_le _) ?_
      rintro j j1
      have hcl := cmbV_len p n a.b (K.getD i default) j
      by_cases hj : j < a.b.length
      · have hst : cmbV p n a.b (K.getD i default) (j + 1) = addK p ((K.getD i default).getD j default) 0 (a.b.getD j default) (cmbV p n a.b (K.getD i default) j) n := rfl
        have hcb := fun t ht => cmbV_bd (p := p) (n := n) (l := a.b) (k := K.getD i default) hp.1 j t ht
        have hkj := hkv.2 j (by omega)
        have hlj := hal j hj
        have hbj := hab j hj
        have hki : j < (K.getD (0 + i) default).length := by rw [Nat.zero_add, hkv.1]; omega
        rw [← Nat.zero_add i] at hkj
        generalize hX : cmbV p n a.b (K.getD i default) j = X at hcl hst hcb ⊢
        repeat' first | refine s1 ?_ | refine q1 ?_ | fail
        refine F.loop (σ := Nat) [14, 64, 65, 66, 67, 68, 69, 70, 71, 72, 73, 74, 75, 76, 77, 78, 79, 80, 81, 82, 83, 84, 85, 86, 87, 88, 89, 90, 91, 92, 93, 94, 95] (fun t => [(14, .i t)]) (fun t => [(9, .live false 1 (E true (addK p ((K.getD (0 + i) default).getD j default) 0 (a.b.getD j default) X t)))]) (fun t => t ≤ n) (fun t => n - t) 0 ⟨rfl, trivial⟩ ⟨obE (by rw [addK_zero]), trivial⟩ (Nat.zero_le _) ?_
        rintro t t1
        have hkl := addK_len p ((K.getD (0 + i) default).getD j default) 0 (a.b.getD j default) X t
        by_cases ht : t < n
        · have e1 := addK_at p ((K.getD (0 + i) default).getD j default) 0 (a.b.getD j default) X (j := t) (by omega)
          have e2 := addK_set p ((K.getD (0 + i) default).getD j default) 0 (a.b.getD j default) X (j := t) (by omega)
          have b1 := hcb t (by omega)
          have b2 := hbj t ht
          have b3 : 0 ≤ (K.getD (0 + i) default).getD j default * (a.b.getD j default).getD t default ∧ (K.getD (0 + i) default).getD j default * (a.b.getD j default).getD t default ≤ 1024 * 1024 := ⟨Int.mul_nonneg hkj.1 b2.1, Int.mul_le_mul (by omega) (by omega) b2.1 (by omega)⟩
          have htb : t < (a.b.getD j default).length := by omega
          rw [Nat.zero_add t] at e1 e2
          generalize addK p ((K.getD (0 + i) default).getD j default) 0 (a.b.getD j default) X t = L at hkl e1 e2 ⊢
          rw [← e1] at b1 e2
          have hi1 : In64 ((K.getD (0 + i) default).getD j default * (a.b.getD j default).getD t default) := by unfold In64; omega
          have hi2 : In64 (L.getD (0 + t) default + (K.getD (0 + i) default).getD j default * (a.b.getD j default).getD t default) := by rw [Nat.zero_add]; unfold In64; omega
          have hM := l2Mod_a p (L.getD (0 + t) default + (K.getD (0 + i) default).getD j default * (a.b.getD j default).getD t default) (by omega)
          repeat' first | refine s1 ?_ | refine q1 ?_ | fail
          refine AW.draw 26 G.mixed (by kernel_rfl) ?_
          refine dP 0 ?_
          refine dP 1 ?_
          refine dP 2 ?_
          refine dP 3 ?_
          refine dP 4 ?_
          first | refine dP 5 ?_ | refine dQ 5 ?_
          first | refine dL 6 ?_ | refine dLQ 6 ?_
          refine dP 7 ?_
          refine dP 8 ?_
          first | refine dP 9 ?_ | refine dQ 9 ?_
          first | refine dL 10 ?_ | refine dLQ 10 ?_
          refine dP 11 ?_
          first | refine dP 12 ?_ | refine dQ 12 ?_
          first | refine dL 13 ?_ | refine dLQ 13 ?_
          refine dP 14 ?_
          first | refine dL 15 ?_ | refine dLQ 15 ?_
          refine dP 16 ?_
          first | refine dP 17 ?_ | refine dQ 17 ?_
          first | refine dL 18 ?_ | refine dLQ 18 ?_
          refine dP 19 ?_
          first | refine dP 20 ?_ | refine dQ 20 ?_
          first | refine dL 21 ?_ | refine dLQ 21 ?_
          refine dP 22 ?_
          refine dP 23 ?_
          refine dO 24 true ?_
          first | refine s1 ?_ | refine F.c (hM) ?_
          refine ARg.nil (ATh.normal ?_)
          first | refine dP 25 ?_ | refine dQ 25 ?_
          refine dO 26 false ?_
          first | refine s1 ?_ | refine q1 ?_
          refine ARg.nil (ATh.normal ?_)
          refine dN ?_
          repeat' first | refine s1 ?_ | refine q1 ?_ | fail
          exact ⟨t + 1, F.fit ⟨rfl, trivial⟩ ⟨obE (by rw [Nat.zero_add t, e2]), trivial⟩, by omega, by omega⟩
        · obtain rfl : t = n := by omega
          repeat' first | refine s1 ?_ | refine q1 ?_ | fail
          exact ⟨j + 1, F.fit ⟨rfl, trivial⟩ ⟨obE (by rw [hst, Nat.zero_add i]), trivial⟩, by omega, by omega⟩
      · obtain rfl : j = a.b.length := by omega
        generalize cmbV p n a.b (K.getD i default) a.b.length = X at hcl hts ⊢
        repeat' first | refine s1 ?_ | refine q1 ?_ | (refine kR ?_; first | refine F.a1 (List Int) (a := X) ?_) | fail
        exact ⟨i + 1, F.fit ⟨rfl, rfl, trivial⟩ ⟨obE (by rw [hts]), trivial⟩, by omega, by omega⟩
    · obtain rfl : i = K.length := by omega
      have e : ML.take K.length = ML := List.take_of_length_le (by omega)
      rw [e]
      rw [← hMl]
      clear hp2 e
      repeat' first | refine s1 ?_ | refine q1 ?_ | (refine kR ?_; first | refine F.c (hS) ?_) | fail
      (refine kZ ?_; exact F.ret rfl)
theorem matL4Ker_a {p : Int} {m : Mat} (h : isMat p m = true) : AC Tryz.prog 105 [.i p, .agg (enc false m)] [.dt true 1 (E true (kerL p m.r.toNat m.c.toNat (ent m)))] := by
  obtain ⟨h0, h1, h2, h3, h4⟩ := isMat_spec h
  have := l4Kernel_a p m.r.toNat m.c.toNat (ent m) h0 (by omega) (by omega) (ent_bd h)
  rw [isMat_tm h] at this
  exact this
theorem kerL5_a {p : Int} {m : Mat} (h : isMat p m = true) : AC Tryz.prog 103 [.i p, .i m.c, ar false (kerL p m.r.toNat m.c.toNat (ent m))] [.agg (enc true (kerS p m))] := by
  obtain ⟨h0, h1, h2, h3, h4⟩ := isMat_spec h
  have hp := isF_pos h0
  have hl := kerL_le p m.r.toNat m.c.toNat (ent m)
  have := l5Span_a p m.c.toNat _ h0 (by omega) (by omega) (kerL_vec (r := m.r.toNat) (c := m.c.toNat) (f := ent m) hp.1)
  rw [Int.toNat_of_nonneg h2.1] at this
  exact this
def socD (r : Rep) : List Int := if isRep r = true then dimS (socL r) else []
theorem socL_len (r : Rep) : (socL r).length = r.d.length := socK_len r r.q.fr.length
theorem socL_ok {r : Rep} (h : isRep r = true) {v : Nat} (hv : v < r.d.length) : ((socL r).getD v default).n = r.d.getD v default ∧ isSpc r.p ((socL r).getD v default) = true := socK_ok h r.q.fr.length (Nat.le_refl _) v hv
theorem soc_b {r : Rep} (h : isRep r = true) {v : Nat} (hv : v < r.d.length) : ((socL r).getD v default).b.length ≤ 16 := (isSpc_spec (socL_ok h hv).2).2.2.1
theorem socD_len (r : Rep) : (socD r).length ≤ 1000 := by
  unfold socD
  by_cases h : isRep r = true
  · rw [if_pos h, dimS_len]
    obtain ⟨r1, r2, r3, r4⟩ := isRep_spec h
    obtain ⟨c1, c2, c3, _⟩ := areDims_spec r2
    have h5 := okQ_spec c1
    have hl := socL_len r
    omega
  · rw [if_neg h]; simp
end Go.Proofs.YtedjajokbdokhaaGreat.V

/- How much the socle's memory holds, and that of lists of valid spaces. No program is walked. -/
namespace Go.Proofs.YtedjajokbdokhaaGreat.V
open Go.RowKit G D
set_option linter.unusedVariables false
set_option linter.unusedSimpArgs false
set_option maxHeartbeats 400000
theorem spcs_ct {p : Int} {l : List Spc} {n : Nat} (hl : l.length ≤ n) (h : ∀ v, v < l.length → isSpc p (l.getD v default) = true) : cnt ctS l + cnt lnS l ≤ 145 * n := by
  have key : ∀ x ∈ l, ctS x ≤ 129 ∧ lnS x ≤ 16 := fun x hx => by
    obtain ⟨v, hv, rfl⟩ := List.getElem_of_mem hx
    have := h v hv
    have e : l.getD v default = l[v] := by simp [hv]
    rw [e] at this
    exact spc_ct this
  have k1 := cnt_bd (c := ctS) (B := 129) (xs := l) fun x hx => (key x hx).1
  have k2 := cnt_bd (c := lnS) (B := 16) (xs := l) fun x hx => (key x hx).2
  omega
theorem socP_ct (r : Rep) : cnt ctS (socP r).1 + cnt lnS (socP r).1 ≤ 1000 := by
  unfold socP
  by_cases h : isRep r = true
  · rw [if_pos h]
    obtain ⟨r1, r2, r3, r4⟩ := isRep_spec h
    obtain ⟨c1, c2, c3, _⟩ := areDims_spec r2
    have h5 := okQ_spec c1
    have hl := socL_len r
    have := spcs_ct (p := r.p) (l := socL r) (n := 5) (by omega) fun v hv => (socL_ok h (by omega)).2
    show cnt ctS (socL r) + cnt lnS (socL r) ≤ 1000
    omega
  · rw [if_neg h]; simp [cnt]
end Go.Proofs.YtedjajokbdokhaaGreat.V
