/- Joined: Contracts: all of a space, meets, the socle, as the reference builds them. Contracts: meets and the socle, as the reference builds them; dimensions of the socle. How much the socle's memory holds, and that of lists of valid spaces. No program is walked.. -/
import Derived.Test.YtedjajokbdokhaaUq
import Derived.Test.YtedjajokbdokhaaB7
import Derived.Test.YtedjajokbdokhaaB8
import Derived.Test.YtedjajokbdokhaaB9
import Derived.Test.YtedjajokbdokhaaUi
import Derived.Test.YtedjajokbdokhaaC1
/- Contracts: all of a space, meets, the socle, as the reference builds them. -/
namespace Go.Proofs.Ytedjajokbdokhaa.V
open V.Enc (enc)
open Go.RowKit G D
set_option linter.unusedVariables false
set_option linter.unusedSimpArgs false
set_option maxHeartbeats 4000000
set_option maxRecDepth 4000
attribute [local irreducible] AW ARg ARA ARet MRet ASil AC AM

theorem l3Identity_a (n : Nat) (hn : n ≤ 1000) : AC Try.prog 74 [.i (n : Int)] [.agg (enc true (tm n n idF))] := by
  refine AC.go Try.func74 Try.ntmps74 rfl rfl fun w0 hw => ?_; simp [WfL, WfA, E_length, Enc.enc, In64] at hw
  have hZ := l3ZeroT_a n n (by omega) (by omega)
  repeat' first | refine s1 ?_ | refine q1 ?_ | (refine kR ?_; first | refine F.c (hZ) ?_) | fail
  refine F.loop (σ := Nat) [4, 8, 9, 10, 11, 12, 13, 14, 15, 16, 17, 18, 19, 20] (fun i => [(4, .i i)]) (fun i => [(1, .live false 1 (E true (tab n n (idK i))))]) (fun i => i ≤ n) (fun i => n - i) 0 ⟨rfl, trivial⟩ ⟨obE (by rw [idK_zero]), trivial⟩ (Nat.zero_le _) ?_
  rintro i i1
  by_cases hi : i < n
  · obtain ⟨t1, t2⟩ := tab_in (i := i) (j := i) (r := n) (c := n) hi hi (by omega) (by omega)
    repeat' first | refine s1 ?_ | refine q1 ?_ | fail
    exact ⟨i + 1, F.fit ⟨rfl, trivial⟩ ⟨obE (by rw [idK_set]), trivial⟩, by omega, by omega⟩
  · obtain rfl : i = n := by omega
    rw [idK_all]
    repeat' first | refine s1 ?_ | refine q1 ?_ | fail
    (refine kZ ?_; exact F.ret rfl)
theorem wholeSub_a (r : Rep) (h : isRep r = true) : AC Try.prog 49 [.agg (enc false r)] [.dt true 2 (E true (socK r 0)), .b true] := by
  refine AC.go Try.func49 Try.ntmps49 rfl rfl fun w0 hw => ?_; simp [WfL, WfA, E_length, Enc.enc, In64] at hw
  have hR := specIsRep_a r
  rw [h] at hR
  obtain ⟨r1, r2, r3, r4⟩ := isRep_spec h
  obtain ⟨c1, c2, c3, _⟩ := areDims_spec r2
  have h5 := okQ_spec c1
  have hp' := isF_pos r1
  repeat' first | refine s1 ?_ | refine q1 ?_ | fail
  refine AW.open 4 2 (.inr rfl) ?_
  refine F.loop (σ := Nat) [4, 5, 7, 8, 9, 10, 11, 12, 13, 14, 15, 16, 17, 18, 19, 20, 21, 22, 23, 24, 25, 26, 27, 28, 29, 30, 31, 32, 33, 34, 35] (fun k => [(4, .sl 1 k 0 k), (5, .i k)]) (fun k => [(1, .live false 2 (E true ((r.d.take k).map fulS)))]) (fun k => k ≤ r.d.length) (fun k => r.d.length - k) 0 ⟨rfl, rfl, trivial⟩ ⟨rfl, trivial⟩ (Nat.zero_le _) ?_
  rintro k k1
  have hp : ((r.d.take k).map fulS).length = k := by simp; omega
  by_cases hk : k < r.d.length
  · have hd : 0 ≤ r.d.getD k default ∧ r.d.getD k default ≤ 4 := allIn_spec c3 hk
    have hI := l3Identity_a (r.d.getD k default).toNat (by omega)
    have hB := l5Basis_a r.p (r.d.getD k default).toNat (r.d.getD k default).toNat idF r1 (by omega) (by omega) (idF_bd hp'.1 _)
    rw [Int.toNat_of_nonneg hd.1] at hI
    rw [span_id r1] at hB
    have hts := fulS_take hk
    have hfs : fulS (r.d.getD k default) = ⟨r.d.getD k default, rowsL (r.d.getD k default).toNat (r.d.getD k default).toNat idF⟩ := rfl
    rw [hfs] at hts
    generalize (r.d.take k).map fulS = X at hts hp ⊢
    generalize tm _ _ idF = T at hI hB
    generalize rowsL _ _ idF = RL at hB hts
    repeat' first | refine s1 ?_ | refine q1 ?_ | (refine kR ?_; first | refine F.c (hR) ?_) | fail
    refine AW.draw 17 G.mixed (by kernel_rfl) ?_
    refine dP 0 ?_
    refine dP 1 ?_
    first | refine dL 2 ?_ | refine dLQ 2 ?_
    refine dP 3 ?_
    first | refine dP 4 ?_ | refine dQ 4 ?_
    first | refine dL 5 ?_ | refine dLQ 5 ?_
    refine dP 6 ?_
    first | refine dL 7 ?_ | refine dLQ 7 ?_
    refine dP 8 ?_
    first | refine dL 9 ?_ | refine dLQ 9 ?_
    refine dP 10 ?_
    first | refine dP 11 ?_ | refine dQ 11 ?_
    first | refine dL 12 ?_ | refine dLQ 12 ?_
    refine dO 13 true ?_
    first | refine s1 ?_ | refine F.c (hI) ?_ | refine F.c (hB) ?_
    refine ARg.nil (ATh.normal ?_)
    refine dO 14 true ?_
    first | refine s1 ?_ | refine F.c (hI) ?_ | refine F.c (hB) ?_
    refine ARg.nil (ATh.normal ?_)
    refine dP 15 ?_
    refine dO 16 true ?_
    refine s1 ?_
    refine ARg.nil (ATh.normal ?_)
    refine dO 17 false ?_
    first | refine s1 ?_ | refine F.a1 Spc (a := ⟨r.d.getD k default, RL⟩) ?_
    refine ARg.nil (ATh.normal ?_)
    refine dP 18 ?_
    refine dN ?_
    repeat' first | refine s1 ?_ | refine q1 ?_ | fail
    exact ⟨k + 1, F.fit ⟨rfl, rfl, trivial⟩ ⟨obE (by rw [hts]), trivial⟩, by omega, by omega⟩
  · obtain rfl : k = r.d.length := by omega
    clear hp
    rw [List.take_length, show r.d.map fulS = socK r 0 from rfl]
    have hL := socK_len r 0
    generalize socK r 0 = L at hL ⊢
    rw [← hL]
    repeat' first | refine s1 ?_ | refine q1 ?_ | (refine kR ?_; first | refine F.c (hR) ?_) | fail
    (refine kZ ?_; exact F.ret rfl)
theorem wholeSub_no (r : Rep) (h : isRep r = false) : AC Try.prog 49 [.agg (enc false r)] [.dt true 2 (E true ([] : List Spc)), .b false] := by
  refine AC.go Try.func49 Try.ntmps49 rfl rfl fun w0 hw => ?_; simp [WfL, WfA, E_length, Enc.enc, In64] at hw
  have hR := specIsRep_a r
  rw [h] at hR
  repeat' first | refine s1 ?_ | refine q1 ?_ | fail
  refine F.loop (σ := Nat) [4, 5, 7, 8, 9, 10, 11, 12, 13, 14, 15, 16, 17, 18, 19, 20, 21, 22, 23, 24, 25, 26, 27, 28, 29, 30, 31, 32, 33, 34, 35] (fun k => [(4, .em), (5, .i 0)]) (fun _ => []) (fun _ => True) (fun _ => 0) 0 ⟨rfl, rfl, trivial⟩ trivial trivial ?_
  rintro k _
  by_cases hd : 0 < r.d.length
  · repeat' first | refine s1 ?_ | refine q1 ?_ | (refine kR ?_; first | refine F.c (hR) ?_) | fail
    (refine kZ ?_; exact F.ret rfl)
  · repeat' first | refine s1 ?_ | refine q1 ?_ | (refine kR ?_; first | refine F.c (hR) ?_) | fail
    (refine kZ ?_; exact F.ret rfl)
end Go.Proofs.Ytedjajokbdokhaa.V

/- Contracts: meets and the socle, as the reference builds them; dimensions of the socle. -/
namespace Go.Proofs.Ytedjajokbdokhaa.V
open V.Enc (enc)
open Go.RowKit G D
set_option linter.unusedVariables false
set_option linter.unusedSimpArgs false
set_option maxHeartbeats 4000000
set_option maxRecDepth 4000
attribute [local irreducible] AW ARg ARA ARet MRet ASil AC AM ARI

theorem meetSpaces_a (p : Int) (a b : Spc) (ha : isSpc p a = true) (hb : isSpc p b = true) (hn : b.n = a.n) : AC Try.prog 50 [.i p, .agg (enc false a), .agg (enc false b)] [.agg (enc true (metS p a b)), .b true] := by
  refine AC.go Try.func50 Try.ntmps50 rfl rfl fun w0 hw => ?_; simp [WfL, WfA, E_length, Enc.enc, In64] at hw
  have hA := specIsSpace_a p a
  have hB := specIsSpace_a p b
  rw [ha] at hA
  rw [hb] at hB
  obtain ⟨h1, h2, h3, h4⟩ := isSpc_spec ha
  obtain ⟨_, _, g3, g4⟩ := isSpc_spec hb
  rw [hn] at g4
  have hp := isF_pos h1
  have hv := h4.app g4
  have hR := l5Rows_a a.n.toNat (a.b ++ b.b) (by rw [List.length_append]; omega) (by omega) hv.len
  rw [Int.toNat_of_nonneg h2.1] at hR
  have hTr := l3Transpose_a (a.b ++ b.b).length a.n.toNat (vecF (a.b ++ b.b)) (by rw [List.length_append]; omega) (by omega)
  have hK := l4Kernel_a p a.n.toNat (a.b ++ b.b).length (fcF (a.b ++ b.b)) h1 (by omega) (by rw [List.length_append]; omega) (fcF_bd hv)
  rw [show kerL p a.n.toNat (a.b ++ b.b).length (fcF (a.b ++ b.b)) = metK p a b from rfl] at hK
  rw [show (fun i j => vecF (a.b ++ b.b) j i) = fcF (a.b ++ b.b) from rfl] at hTr
  have hKl := metK_le p a b
  have hKv := metK_vec (a := a) (b := b) hp.1
  have hMt := fun i hi => metL_take (p := p) (a := a) (b := b) (i := i) hi
  have hMl := metL_len p a b
  have hS := l5Span_a p a.n.toNat (metL p a b) h1 (by omega) (by omega) (metL_vec hp.1)
  rw [Int.toNat_of_nonneg h2.1, show (⟨a.n, spanL p a.n.toNat (metL p a b)⟩ : Spc) = metS p a b from rfl] at hS
  generalize metS p a b = MS at hS ⊢
  generalize metL p a b = ML at hMt hMl hS
  generalize metK p a b = K at hK hKl hKv hMt hMl
  have hal : ∀ j, j < a.b.length → (a.b.getD j default).length = a.n.toNat := h4.len
  have hab : ∀ j, j < a.b.length → ∀ t, t < a.n.toNat → 0 ≤ (a.b.getD j default).getD t default ∧ (a.b.getD j default).getD t default ≤ p - 1 := fun j hj => (h4 _ (gm hj)).2
  have hnn : a.n = (a.n.toNat : Int) := (Int.toNat_of_nonneg h2.1).symm
  rw [List.length_append] at hKv
  generalize hT : tm a.n.toNat (a.b ++ b.b).length (fcF (a.b ++ b.b)) = T at hTr hK
  generalize hT0 : tm (a.b ++ b.b).length a.n.toNat (vecF (a.b ++ b.b)) = T0 at hR hTr
  generalize hN : a.n.toNat = n at *
  repeat' first | refine s1 ?_ | refine q1 ?_ | (refine kR ?_; first | refine F.c (hA) ?_ | refine F.c (hB) ?_) | fail
  refine AW.freezeP (α := Spc) (oo := false) a 4 rfl rfl ?_
  refine AW.freezeP (α := Spc) (oo := false) b 5 rfl rfl ?_
  refine AW.drawI G.mixed (by kernel_rfl) (by rfl) ?_
  intro T w1 MP1 I0
  refine iP 0 ?_
  refine iL 1 ?_
  refine iP 3 ?_
  refine iL 4 ?_
  refine iP 6 ?_
  refine iL 7 ?_
  refine ARI.any [2, 11] (by kernel_rfl) (by simp) ?_
  intro k hk
  simp only [List.mem_cons, List.not_mem_nil, or_false] at hk
  rcases hk with rfl | rfl
  refine ⟨_, rfl, ?_⟩
  refine s1 ?_
  refine ARg.nil (ATh.normal ?_)
  refine ARI.any [5, 11] (by kernel_rfl) (by simp) ?_
  intro k hk
  simp only [List.mem_cons, List.not_mem_nil, or_false] at hk
  rcases hk with rfl | rfl
  refine ⟨_, rfl, ?_⟩
  first | refine s1 ?_ | refine F.aLN (List Int) (oo := false) ?_
  refine ARg.nil (ATh.normal ?_)
  refine ARI.any [8, 11] (by kernel_rfl) (by simp) ?_
  intro k hk
  simp only [List.mem_cons, List.not_mem_nil, or_false] at hk
  rcases hk with rfl | rfl
  refine ⟨_, rfl, ?_⟩
  first | refine s1 ?_ | refine F.aL (List Int) (oo := false) ?_
  refine ARg.nil (ATh.normal ?_)
  refine ARI.any [9, 11] (by kernel_rfl) (by simp) ?_
  intro k hk
  simp only [List.mem_cons, List.not_mem_nil, or_false] at hk
  rcases hk with rfl | rfl
  refine ⟨_, rfl, ?_⟩
  first | refine s1 ?_ | refine F.c (hR) ?_ | refine F.c (hTr) ?_
  refine ARg.nil (ATh.normal ?_)
  refine ARI.any [10, 11] (by kernel_rfl) (by simp) ?_
  intro k hk
  simp only [List.mem_cons, List.not_mem_nil, or_false] at hk
  rcases hk with rfl | rfl
  refine ⟨_, rfl, ?_⟩
  first | refine s1 ?_ | refine F.c (hR) ?_ | refine F.c (hTr) ?_
  refine ARg.nil (ATh.normal ?_)
  refine iO 11 ?_
  refine s1 ?_
  refine ARg.nil (ATh.normal ?_)
  refine iO 12 ?_
  first | refine s1 ?_ | refine q1 ?_
  refine ARg.nil (ATh.normal ?_)
  refine iN ?_
  rotate_left
  refine ⟨_, rfl, ?_⟩
  refine s1 ?_
  refine ARg.nil (ATh.normal ?_)
  refine iO 10 ?_
  first | refine s1 ?_ | refine F.c (hR) ?_ | refine F.c (hTr) ?_
  refine ARg.nil (ATh.normal ?_)
  refine iO 12 ?_
  first | refine s1 ?_ | refine q1 ?_
  refine ARg.nil (ATh.normal ?_)
  refine iN ?_
  rotate_left
  refine ⟨_, rfl, ?_⟩
  refine s1 ?_
  refine ARg.nil (ATh.normal ?_)
  refine iO 9 ?_
  first | refine s1 ?_ | refine F.c (hR) ?_ | refine F.c (hTr) ?_
  refine ARg.nil (ATh.normal ?_)
  refine iO 10 ?_
  first | refine s1 ?_ | refine F.c (hR) ?_ | refine F.c (hTr) ?_
  refine ARg.nil (ATh.normal ?_)
  refine iO 12 ?_
  first | refine s1 ?_ | refine q1 ?_
  refine ARg.nil (ATh.normal ?_)
  refine iN ?_
  rotate_left
  refine ⟨_, rfl, ?_⟩
  refine s1 ?_
  refine ARg.nil (ATh.normal ?_)
  refine iO 8 ?_
  first | refine s1 ?_ | refine F.aL (List Int) (oo := false) ?_
  refine ARg.nil (ATh.normal ?_)
  refine iO 9 ?_
  first | refine s1 ?_ | refine F.c (hR) ?_ | refine F.c (hTr) ?_
  refine ARg.nil (ATh.normal ?_)
  refine iO 10 ?_
  first | refine s1 ?_ | refine F.c (hR) ?_ | refine F.c (hTr) ?_
  refine ARg.nil (ATh.normal ?_)
  refine iO 12 ?_
  first | refine s1 ?_ | refine q1 ?_
  refine ARg.nil (ATh.normal ?_)
  refine iN ?_
  rotate_left
  refine ⟨_, rfl, ?_⟩
  refine s1 ?_
  refine ARg.nil (ATh.normal ?_)
  refine iO 5 ?_
  first | refine s1 ?_ | refine F.aLN (List Int) (oo := false) ?_
  refine ARg.nil (ATh.normal ?_)
  refine iO 8 ?_
  first | refine s1 ?_ | refine F.aL (List Int) (oo := false) ?_
  refine ARg.nil (ATh.normal ?_)
  refine iO 9 ?_
  first | refine s1 ?_ | refine F.c (hR) ?_ | refine F.c (hTr) ?_
  refine ARg.nil (ATh.normal ?_)
  refine iO 10 ?_
  first | refine s1 ?_ | refine F.c (hR) ?_ | refine F.c (hTr) ?_
  refine ARg.nil (ATh.normal ?_)
  refine iO 12 ?_
  first | refine s1 ?_ | refine q1 ?_
  refine ARg.nil (ATh.normal ?_)
  refine iN ?_
  rotate_left
  refine ⟨_, rfl, ?_⟩
  refine s1 ?_
  refine ARg.nil (ATh.normal ?_)
  refine iO 2 ?_
  refine s1 ?_
  refine ARg.nil (ATh.normal ?_)
  refine iO 5 ?_
  first | refine s1 ?_ | refine F.aLN (List Int) (oo := false) ?_
  refine ARg.nil (ATh.normal ?_)
  refine iO 8 ?_
  first | refine s1 ?_ | refine F.aL (List Int) (oo := false) ?_
  refine ARg.nil (ATh.normal ?_)
  refine iO 9 ?_
  first | refine s1 ?_ | refine F.c (hR) ?_ | refine F.c (hTr) ?_
  refine ARg.nil (ATh.normal ?_)
  refine iO 10 ?_
  first | refine s1 ?_ | refine F.c (hR) ?_ | refine F.c (hTr) ?_
  refine ARg.nil (ATh.normal ?_)
  refine iO 12 ?_
  first | refine s1 ?_ | refine q1 ?_
  refine ARg.nil (ATh.normal ?_)
  refine iN ?_
  rotate_left
  all_goals
    repeat' first | refine s1 ?_ | refine q1 ?_ | (refine kR ?_; first | refine F.c (hK) ?_) | fail
    refine AW.lend (o := 7) rfl ?_
    refine AW.open 10 1 (.inr rfl) ?_
    refine F.loop (σ := Nat) [10, 11, 12, 13, 14, 48, 49, 50, 51, 52, 53, 54, 55, 56, 57, 58, 59, 60, 61, 62, 63, 64, 65, 66, 67, 68, 69, 70, 71, 72, 73, 74, 75, 76, 77, 78, 79, 80, 81, 82, 83, 84, 85, 86, 87, 88, 89, 90, 91, 92, 93, 94, 95, 96, 97, 98, 99] (fun i => [(10, .sl 8 i 0 i), (11, .i i)]) (fun i => [(8, .live false 1 (E true (ML.take i)))]) (fun i => i ≤ K.length) (fun i => K.length - i) 0 ⟨rfl, rfl, trivial⟩ ⟨rfl, trivial⟩ (Nat.zero_le _) ?_
    rintro i i1
    have hp2 : (ML.take i).length = i := by rw [List.length_take]; omega
    by_cases hi : i < K.length
    · have hts := hMt i hi
      have hkv := hKv _ (gm (d := default) hi)
      repeat' first | refine s1 ?_ | refine q1 ?_ | (refine kR ?_; first | refine F.mk (m := n) Int rfl rfl hnn (mkB (by omega)) (by omega) rfl rfl ?_) | fail
      rw [show List.replicate n (0 : Int) = cmbV p n a.b (K.getD i default) 0 from rfl]
      refine F.loop (σ := Nat) [13, 14, 57, 58, 59, 60, 61, 62, 63, 64, 65, 66, 67, 68, 69, 70, 71, 72, 73, 74, 75, 76, 77, 78, 79, 80, 81, 82, 83, 84, 85, 86, 87, 88, 89, 90, 91, 92, 93, 94, 95] (fun j => [(13, .i j)]) (fun j => [(9, .live false 1 (E true (cmbV p n a.b (K.getD i default) j)))]) (fun j => j ≤ a.b.length) (fun j => a.b.length - j) 0 ⟨rfl, trivial⟩ ⟨rfl, trivial⟩ (Nat.zero_le _) ?_
      rintro j j1
      have hcl := cmbV_len p n a.b (K.getD i default) j
      by_cases hj : j < a.b.length
      · have hst : cmbV p n a.b (K.getD i default) (j + 1) = addK p ((K.getD i default).getD j default) 0 (a.b.getD j default) (cmbV p n a.b (K.getD i default) j) n := rfl
        have hcb := fun t ht => cmbV_bd (p := p) (n := n) (l := a.b) (k := K.getD i default) hp.1 j t ht
        have hkj := hkv.2 j (by omega)
        have hlj := hal j hj
        have hbj := hab j hj
        have hki : j < (K.getD (0 + i) default).length := by rw [Nat.zero_add, hkv.1]; omega
        rw [← Nat.zero_add i] at hkj
        generalize hX : cmbV p n a.b (K.getD i default) j = X at hcl hst hcb ⊢
        repeat' first | refine s1 ?_ | refine q1 ?_ | fail
        refine F.loop (σ := Nat) [14, 64, 65, 66, 67, 68, 69, 70, 71, 72, 73, 74, 75, 76, 77, 78, 79, 80, 81, 82, 83, 84, 85, 86, 87, 88, 89, 90, 91, 92, 93, 94, 95] (fun t => [(14, .i t)]) (fun t => [(9, .live false 1 (E true (addK p ((K.getD (0 + i) default).getD j default) 0 (a.b.getD j default) X t)))]) (fun t => t ≤ n) (fun t => n - t) 0 ⟨rfl, trivial⟩ ⟨obE (by rw [addK_zero]), trivial⟩ (Nat.zero_le _) ?_
        rintro t t1
        have hkl := addK_len p ((K.getD (0 + i) default).getD j default) 0 (a.b.getD j default) X t
        by_cases ht : t < n
        · have e1 := addK_at p ((K.getD (0 + i) default).getD j default) 0 (a.b.getD j default) X (j := t) (by omega)
          have e2 := addK_set p ((K.getD (0 + i) default).getD j default) 0 (a.b.getD j default) X (j := t) (by omega)
          have b1 := hcb t (by omega)
          have b2 := hbj t ht
          have b3 : 0 ≤ (K.getD (0 + i) default).getD j default * (a.b.getD j default).getD t default ∧ (K.getD (0 + i) default).getD j default * (a.b.getD j default).getD t default ≤ 1024 * 1024 := ⟨Int.mul_nonneg hkj.1 b2.1, Int.mul_le_mul (by omega) (by omega) b2.1 (by omega)⟩
          have htb : t < (a.b.getD j default).length := by omega
          rw [Nat.zero_add t] at e1 e2
          generalize addK p ((K.getD (0 + i) default).getD j default) 0 (a.b.getD j default) X t = L at hkl e1 e2 ⊢
          rw [← e1] at b1 e2
          have hi1 : In64 ((K.getD (0 + i) default).getD j default * (a.b.getD j default).getD t default) := by unfold In64; omega
          have hi2 : In64 (L.getD (0 + t) default + (K.getD (0 + i) default).getD j default * (a.b.getD j default).getD t default) := by rw [Nat.zero_add]; unfold In64; omega
          have hM := l2Mod_a p (L.getD (0 + t) default + (K.getD (0 + i) default).getD j default * (a.b.getD j default).getD t default) (by omega)
          repeat' first | refine s1 ?_ | refine q1 ?_ | fail
          refine AW.draw 26 G.mixed (by kernel_rfl) ?_
          refine dP 0 ?_
          refine dP 1 ?_
          refine dP 2 ?_
          refine dP 3 ?_
          refine dP 4 ?_
          first | refine dP 5 ?_ | refine dQ 5 ?_
          first | refine dL 6 ?_ | refine dLQ 6 ?_
          refine dP 7 ?_
          refine dP 8 ?_
          first | refine dP 9 ?_ | refine dQ 9 ?_
          first | refine dL 10 ?_ | refine dLQ 10 ?_
          refine dP 11 ?_
          first | refine dP 12 ?_ | refine dQ 12 ?_
          first | refine dL 13 ?_ | refine dLQ 13 ?_
          refine dP 14 ?_
          first | refine dL 15 ?_ | refine dLQ 15 ?_
          refine dP 16 ?_
          first | refine dP 17 ?_ | refine dQ 17 ?_
          first | refine dL 18 ?_ | refine dLQ 18 ?_
          refine dP 19 ?_
          first | refine dP 20 ?_ | refine dQ 20 ?_
          first | refine dL 21 ?_ | refine dLQ 21 ?_
          refine dP 22 ?_
          refine dP 23 ?_
          refine dO 24 true ?_
          first | refine s1 ?_ | refine F.c (hM) ?_
          refine ARg.nil (ATh.normal ?_)
          first | refine dP 25 ?_ | refine dQ 25 ?_
          refine dO 26 false ?_
          first | refine s1 ?_ | refine q1 ?_
          refine ARg.nil (ATh.normal ?_)
          refine dN ?_
          repeat' first | refine s1 ?_ | refine q1 ?_ | fail
          exact ⟨t + 1, F.fit ⟨rfl, trivial⟩ ⟨obE (by rw [Nat.zero_add t, e2]), trivial⟩, by omega, by omega⟩
        · obtain rfl : t = n := by omega
          repeat' first | refine s1 ?_ | refine q1 ?_ | fail
          exact ⟨j + 1, F.fit ⟨rfl, trivial⟩ ⟨obE (by rw [hst, Nat.zero_add i]), trivial⟩, by omega, by omega⟩
      · obtain rfl : j = a.b.length := by omega
        generalize cmbV p n a.b (K.getD i default) a.b.length = X at hcl hts ⊢
        repeat' first | refine s1 ?_ | refine q1 ?_ | (refine kR ?_; first | refine F.a1 (List Int) (a := X) ?_) | fail
        exact ⟨i + 1, F.fit ⟨rfl, rfl, trivial⟩ ⟨obE (by rw [hts]), trivial⟩, by omega, by omega⟩
    · obtain rfl : i = K.length := by omega
      have e : ML.take K.length = ML := List.take_of_length_le (by omega)
      rw [e]
      rw [← hMl]
      clear hp2 e
      repeat' first | refine s1 ?_ | refine q1 ?_ | (refine kR ?_; first | refine F.c (hS) ?_) | fail
      (refine kZ ?_; exact F.ret rfl)
theorem matL4Ker_a {p : Int} {m : Mat} (h : isMat p m = true) : AC Try.prog 51 [.i p, .agg (enc false m)] [.dt true 1 (E true (kerL p m.r.toNat m.c.toNat (ent m)))] := by
  obtain ⟨h0, h1, h2, h3, h4⟩ := isMat_spec h
  have := l4Kernel_a p m.r.toNat m.c.toNat (ent m) h0 (by omega) (by omega) (ent_bd h)
  rw [isMat_tm h] at this
  exact this
theorem kerL5_a {p : Int} {m : Mat} (h : isMat p m = true) : AC Try.prog 40 [.i p, .i m.c, ar false (kerL p m.r.toNat m.c.toNat (ent m))] [.agg (enc true (kerS p m))] := by
  obtain ⟨h0, h1, h2, h3, h4⟩ := isMat_spec h
  have hp := isF_pos h0
  have hl := kerL_le p m.r.toNat m.c.toNat (ent m)
  have := l5Span_a p m.c.toNat _ h0 (by omega) (by omega) (kerL_vec (r := m.r.toNat) (c := m.c.toNat) (f := ent m) hp.1)
  rw [Int.toNat_of_nonneg h2.1] at this
  exact this
theorem specSocleOf_a (r : Rep) : AC Try.prog 25 [.agg (enc false r)] [.dt true 2 (E true (socP r).1), .b (socP r).2] := by
  refine AC.go Try.func25 Try.ntmps25 rfl rfl fun w0 hw => ?_; simp [WfL, WfA, E_length, Enc.enc, In64] at hw
  unfold socP
  cases h : isRep r with
  | false =>
    have hW := wholeSub_no r h
    rw [if_neg (by simp)]
    repeat' first | refine s1 ?_ | refine q1 ?_ | (refine kR ?_; first | refine F.c (hW) ?_) | fail
    refine F.loop (σ := Nat) [6, 7, 13, 14, 15, 16, 17, 18, 19, 20, 21, 22, 23, 24, 25, 26, 27, 28, 29, 30, 31, 32, 33, 34, 35, 36, 37, 38, 39, 40, 41, 42, 43, 44, 45, 46, 47, 48, 49, 50, 51, 52, 53, 54, 55, 56, 57] (fun k => [(6, .i 0)]) (fun _ => []) (fun _ => True) (fun _ => 0) 0 ⟨rfl, trivial⟩ trivial trivial ?_
    rintro k _
    by_cases hd : 0 < r.m.length
    · repeat' first | refine s1 ?_ | refine q1 ?_ | fail
      (refine kZ ?_; exact F.ret rfl)
    · repeat' first | refine s1 ?_ | refine q1 ?_ | fail
      (refine kZ ?_; exact F.ret rfl)
  | true =>
    have hW := wholeSub_a r h
    rw [if_pos rfl]
    obtain ⟨r1, r2, r3, r4⟩ := isRep_spec h
    obtain ⟨c1, c2, c3, _⟩ := areDims_spec r2
    have h5 := okQ_spec c1
    have hl0 := socK_len r 0
    repeat' first | refine s1 ?_ | refine q1 ?_ | (refine kR ?_; first | refine F.c (hW) ?_) | fail
    refine F.loop (σ := Nat) [6, 7, 13, 14, 15, 16, 17, 18, 19, 20, 21, 22, 23, 24, 25, 26, 27, 28, 29, 30, 31, 32, 33, 34, 35, 36, 37, 38, 39, 40, 41, 42, 43, 44, 45, 46, 47, 48, 49, 50, 51, 52, 53, 54, 55, 56, 57] (fun k => [(6, .i k)]) (fun k => [(1, .live false 2 (E true (socK r k)))]) (fun k => k ≤ r.q.fr.length) (fun k => r.q.fr.length - k) 0 ⟨rfl, trivial⟩ ⟨rfl, trivial⟩ (Nat.zero_le _) ?_
    rintro k k1
    by_cases hk : k < r.q.fr.length
    · obtain ⟨q1', q2, q3, q4⟩ := socle_m h hk
      have hkm : k < r.m.length := by omega
      obtain ⟨o1, o2⟩ := socK_ok h k (by omega) (r.q.fr.getD k default).toNat q3.2
      have hL := socK_len r k
      have hKe := matL4Ker_a q2
      have hSp := kerL5_a q2
      generalize hRL : kerL _ _ _ _ = RL at hKe hSp
      rw [q4] at hSp
      have hMe := meetSpaces_a r.p ((socK r k).getD (r.q.fr.getD k default).toNat default) (kerS r.p (r.m.getD k default)) o2 (kerS_ok q2) (by rw [o1]; exact q4)
      have hst : socK r (k + 1) = (socK r k).set (r.q.fr.getD k default).toNat (metS r.p ((socK r k).getD (r.q.fr.getD k default).toNat default) (kerS r.p (r.m.getD k default))) := rfl
      have hwI := (Int.toNat_of_nonneg q3.1).symm
      generalize hww : (r.q.fr.getD k default).toNat = w at hwI hst hMe q3
      generalize socK r k = L at hst hMe hL ⊢
      generalize kerS r.p (r.m.getD k default) = KS at hSp hMe hst
      generalize metS r.p (L.getD w default) KS = MS at hMe hst
      have hwl : w < L.length := by omega
      have hbl : (E true L).length = (socK r 0).length := by rw [E_length, hL, hl0]
      have hself : L.set w (L.getD w default) = L := set_self hwl
      repeat' first | refine s1 ?_ | refine q1 ?_ | fail
      refine AW.takeE (α := Spc) (o := 1) (k := w) (j := 1) (ls := L) rfl hwl rfl (E_length _ _) ?_
      refine AW.draw 29 G.mixed (by kernel_rfl) ?_
      refine dP 0 ?_
      refine dP 1 ?_
      refine dP 2 ?_
      first | refine dL 3 ?_ | refine dLQ 3 ?_
      refine dP 4 ?_
      refine dP 5 ?_
      first | refine dP 6 ?_ | refine dP 6 ?_ (hs := by exact (A.idxT (k := w) rfl rfl rfl hbl hwI (by omega))) | refine dQ 6 ?_
      first | refine dL 7 ?_ | refine dL 7 ?_ (hs := by exact (A.ldSG (k := w) rfl rfl hbl (by omega) (by omega) rfl rfl)) | refine dLQ 7 ?_
      refine dP 8 ?_
      first | refine dL 9 ?_ | refine dLQ 9 ?_
      refine dP 10 ?_
      first | refine dL 11 ?_ | refine dLQ 11 ?_
      refine dP 12 ?_
      first | refine dP 13 ?_ | refine dQ 13 ?_
      first | refine dL 14 ?_ | refine dLQ 14 ?_
      refine dP 15 ?_
      first | refine dL 16 ?_ | refine dLQ 16 ?_
      refine dP 17 ?_
      first | refine dL 18 ?_ | refine dLQ 18 ?_
      refine dP 19 ?_
      first | refine dP 20 ?_ | refine dQ 20 ?_
      first | refine dL 21 ?_ | refine dLQ 21 ?_
      refine dO 22 true ?_
      first | refine s1 ?_ | refine F.c (hKe) ?_
      refine ARg.nil (ATh.normal ?_)
      refine dO 23 true ?_
      first | refine s1 ?_ | refine F.c (hSp) ?_
      refine ARg.nil (ATh.normal ?_)
      refine dO 24 true ?_
      first | refine s1 ?_ | refine F.c (hMe) ?_
      refine ARg.nil (ATh.normal ?_)
      refine dP 25 ?_
      refine dP 26 ?_
      refine dP 27 ?_
      first | refine dP 28 ?_ | refine dP 28 ?_ (hs := by exact (A.idxT (k := w) rfl rfl rfl hbl hwI (by omega))) | refine dQ 28 ?_
      refine dO 29 false ?_
      first | refine s1 ?_ | (refine F.put (α := Spc) (o := 1) (o2 := 2) (k := w) (j := 1) (v := L.getD w default) (x := L.getD w default) (ls := L) rfl rfl (E_length _ _) (E_pure _ _) rfl hwl rfl rfl ?_; rw [hself]; refine F.stGE (α := Spc) (oo := true) (v := MS) rfl rfl rfl rfl rfl (by omega) (by omega) (.at1 rfl (.mv rfl (by simp) (E_length _ _) (E_pure _ _) .nil)) rfl rfl rfl rfl rfl ?_) | refine q1 ?_
      refine ARg.nil (ATh.normal ?_)
      refine dN ?_
      all_goals
        rw [Nat.zero_add w]
        repeat' first | refine s1 ?_ | refine q1 ?_ | fail
        exact ⟨k + 1, F.fit ⟨rfl, trivial⟩ ⟨obE (by rw [hst]), trivial⟩, by omega, by omega⟩
    · obtain rfl : k = r.q.fr.length := by omega
      have hL := socK_len r r.q.fr.length
      have e : socK r r.q.fr.length = socL r := rfl
      rw [e] at hL ⊢
      generalize socL r = L at hL ⊢
      repeat' first | refine s1 ?_ | refine q1 ?_ | fail
      (refine kZ ?_; exact F.ret rfl)
def socD (r : Rep) : List Int := if isRep r = true then dimS (socL r) else []
theorem socL_len (r : Rep) : (socL r).length = r.d.length := socK_len r r.q.fr.length
theorem socL_ok {r : Rep} (h : isRep r = true) {v : Nat} (hv : v < r.d.length) : ((socL r).getD v default).n = r.d.getD v default ∧ isSpc r.p ((socL r).getD v default) = true := socK_ok h r.q.fr.length (Nat.le_refl _) v hv
theorem soc_b {r : Rep} (h : isRep r = true) {v : Nat} (hv : v < r.d.length) : ((socL r).getD v default).b.length ≤ 16 := (isSpc_spec (socL_ok h hv).2).2.2.1
theorem implSocleDims_a (r : Rep) : AC Try.prog 10 [.agg (enc false r)] [.dt true 1 (E true (socD r))] := by
  refine AC.go Try.func10 Try.ntmps10 rfl rfl fun w0 hw => ?_; simp [WfL, WfA, E_length, Enc.enc, In64] at hw
  have hF := implIsRep_a r
  unfold socD
  cases h : isRep r with
  | false =>
    rw [h] at hF
    rw [if_neg (by simp)]
    repeat' first | refine s1 ?_ | refine q1 ?_ | (refine kR ?_; first | refine F.c (hF) ?_) | fail
    (refine kZ ?_; exact F.ret rfl)
  | true =>
    rw [h] at hF
    rw [if_pos rfl]
    obtain ⟨r1, r2, r3, r4⟩ := isRep_spec h
    obtain ⟨c1, c2, c3, _⟩ := areDims_spec r2
    have h5 := okQ_spec c1
    have hR := socle_a r h
    have hl := socL_len r
    have hD := subDims_a (socL r) (by omega) (fun i hi => by have := soc_b h (v := i) (by omega); omega)
    generalize dimS (socL r) = D0 at hD ⊢
    generalize socL r = L at hR hD hl
    repeat' first | refine s1 ?_ | refine q1 ?_ | (refine kR ?_; first | refine F.c (hF) ?_ | refine F.c (hR) ?_ | refine F.c (hD) ?_) | fail
    (refine kZ ?_; exact F.ret rfl)
theorem specSocleDims_a (r : Rep) : AC Try.prog 8 [.agg (enc false r)] [.dt true 1 (E true (socD r))] := by
  refine AC.go Try.func8 Try.ntmps8 rfl rfl fun w0 hw => ?_; simp [WfL, WfA, E_length, Enc.enc, In64] at hw
  have hR := specSocleOf_a r
  unfold socD
  cases h : isRep r with
  | false =>
    rw [show socP r = ([], false) by unfold socP; rw [if_neg (by simp [h])]] at hR
    rw [if_neg (by simp)]
    repeat' first | refine s1 ?_ | refine q1 ?_ | (refine kR ?_; first | refine F.c (hR) ?_) | fail
    refine F.loop (σ := Nat) [5, 6, 13, 14, 15, 16, 17, 18, 19, 20, 21, 22, 23, 24, 25, 26, 27, 28, 29, 30] (fun k => [(5, .em), (6, .i 0)]) (fun _ => []) (fun _ => True) (fun _ => 0) 0 ⟨rfl, rfl, trivial⟩ trivial trivial ?_
    rintro k _
    repeat' first | refine s1 ?_ | refine q1 ?_ | fail
    (refine kZ ?_; exact F.ret rfl)
  | true =>
    rw [show socP r = (socL r, true) by unfold socP; rw [if_pos h]] at hR
    rw [if_pos rfl]
    obtain ⟨r1, r2, r3, r4⟩ := isRep_spec h
    obtain ⟨c1, c2, c3, _⟩ := areDims_spec r2
    have h5 := okQ_spec c1
    have hl := socL_len r
    have hbv := fun v hv => soc_b h (v := v) hv
    have hTl := dimS_len (socL r)
    have hTt := fun k hk => dimS_take (l := socL r) (k := k) hk
    have hTs : ∀ k, dimS ((socL r).take k) = (dimS (socL r)).take k := fun k => by simp [dimS]
    simp only [hTs] at hTt
    generalize dimS (socL r) = T at hTl hTt ⊢
    generalize socL r = L at hR hl hbv hTt hTl
    repeat' first | refine s1 ?_ | refine q1 ?_ | (refine kR ?_; first | refine F.c (hR) ?_) | fail
    refine AW.lend (o := 1) rfl ?_
    refine AW.open 5 1 (.inr rfl) ?_
    refine F.loop (σ := Nat) [5, 6, 13, 14, 15, 16, 17, 18, 19, 20, 21, 22, 23, 24, 25, 26, 27, 28, 29, 30] (fun k => [(5, .sl 2 k 0 k), (6, .i k)]) (fun k => [(2, .live false 1 (E true (T.take k)))]) (fun k => k ≤ L.length) (fun k => L.length - k) 0 ⟨rfl, rfl, trivial⟩ ⟨rfl, trivial⟩ (Nat.zero_le _) ?_
    rintro k k1
    have hp : (T.take k).length = k := by rw [List.length_take]; omega
    by_cases hk : k < L.length
    · have hts := hTt k hk
      have hb := hbv k (by omega)
      rw [← Nat.zero_add k] at hb
      repeat' first | refine s1 ?_ | refine q1 ?_ | (refine kR ?_; first | refine F.a1 Int ?_) | fail
      exact ⟨k + 1, F.fit ⟨rfl, rfl, trivial⟩ ⟨obE (by rw [hts, Nat.zero_add k]), trivial⟩, by omega, by omega⟩
    · obtain rfl : k = L.length := by omega
      have e : T.take L.length = T := List.take_of_length_le (by omega)
      rw [e]
      rw [← hTl]
      clear hp e
      repeat' first | refine s1 ?_ | refine q1 ?_ | fail
      (refine kZ ?_; exact F.ret rfl)
theorem socD_len (r : Rep) : (socD r).length ≤ 1000 := by
  unfold socD
  by_cases h : isRep r = true
  · rw [if_pos h, dimS_len]
    obtain ⟨r1, r2, r3, r4⟩ := isRep_spec h
    obtain ⟨c1, c2, c3, _⟩ := areDims_spec r2
    have h5 := okQ_spec c1
    have hl := socL_len r
    omega
  · rw [if_neg h]; simp
end Go.Proofs.Ytedjajokbdokhaa.V

/- How much the socle's memory holds, and that of lists of valid spaces. No program is walked. -/
namespace Go.Proofs.Ytedjajokbdokhaa.V
open Go.RowKit G D
set_option linter.unusedVariables false
set_option linter.unusedSimpArgs false
set_option maxHeartbeats 400000
theorem spcs_ct {p : Int} {l : List Spc} {n : Nat} (hl : l.length ≤ n) (h : ∀ v, v < l.length → isSpc p (l.getD v default) = true) : cnt ctS l + cnt lnS l ≤ 145 * n := by
  have key : ∀ x ∈ l, ctS x ≤ 129 ∧ lnS x ≤ 16 := fun x hx => by
    obtain ⟨v, hv, rfl⟩ := List.getElem_of_mem hx
    have := h v hv
    have e : l.getD v default = l[v] := by simp [hv]
    rw [e] at this
    exact spc_ct this
  have k1 := cnt_bd (c := ctS) (B := 129) (xs := l) fun x hx => (key x hx).1
  have k2 := cnt_bd (c := lnS) (B := 16) (xs := l) fun x hx => (key x hx).2
  omega
theorem socP_ct (r : Rep) : cnt ctS (socP r).1 + cnt lnS (socP r).1 ≤ 1000 := by
  unfold socP
  by_cases h : isRep r = true
  · rw [if_pos h]
    obtain ⟨r1, r2, r3, r4⟩ := isRep_spec h
    obtain ⟨c1, c2, c3, _⟩ := areDims_spec r2
    have h5 := okQ_spec c1
    have hl := socL_len r
    have := spcs_ct (p := r.p) (l := socL r) (n := 5) (by omega) fun v hv => (socL_ok h (by omega)).2
    show cnt ctS (socL r) + cnt lnS (socL r) ≤ 1000
    omega
  · rw [if_neg h]; simp [cnt]
end Go.Proofs.Ytedjajokbdokhaa.V
