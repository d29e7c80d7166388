/- Contracts: inverses of matrices, idempotents of complements. -/
import Derived.Test.YtanembgijdkagaaGreatQyUi
import Derived.Test.YtanembgijdkagaaGreatQyUg
import Derived.Test.YtanembgijdkagaaGreatQyUf
import Derived.Test.YtanembgijdkagaaGreatQyUj
import Derived.Test.YtanembgijdkagaaGreatQyUq
import Derived.Test.YtanembgijdkagaaGreatQyA98
import Derived.Test.YtanembgijdkagaaGreatQyA49
import Derived.Test.YtanembgijdkagaaGreatQyC2
import Derived.Test.YtanembgijdkagaaGreatQyB7
import Derived.Test.YtanembgijdkagaaGreatQyB8
import Derived.Test.YtanembgijdkagaaGreatQyA84
namespace Go.Proofs.YtanembgijdkagaaGreat.V
open V.Enc (enc)
open Go.RowKit G D
set_option linter.unusedVariables false
set_option linter.unusedSimpArgs false
set_option maxHeartbeats 4000000
set_option maxRecDepth 4000
attribute [local irreducible] AW ARg ARA ARet MRet ASil AC AM ARI
theorem inverse_a (p : Int) (n : Nat) (f : Nat → Nat → Int) (hF : isF p = true) (hn : n ≤ 8) (hb : BdF p n n f) : AC Tryz.prog 98 [.i p, .agg (enc false (tm n n f))] [.agg (enc true (tm n n (invF p n f)))] := by
  refine AC.go Tryz.func98 Tryz.ntmps98 rfl rfl fun w0 hw => ?_; simp [WfL, WfA, E_length, Enc.enc, In64] at hw
  have hp := isF_pos hF
  have hI := identity_a n (by omega)
  have hB := beside_a n n n f idF (by omega) (by omega)
  have hbb : BdF p n (n + n) (besF n f idF) := fun i hi j hj => by
    unfold besF
    by_cases h : j < n
    · rw [if_pos h]; exact hb i hi j h
    · rw [if_neg h]; exact idF_bd hp.1 n i hi (j - n) (by omega)
  have hR := implReduce_a p n (n + n) (besF n f idF) hF (by omega) (by omega) hbb
  have hC := columns_a n (n + n) (redK p n (besF n f idF) (n + n)).1 (by omega) (by omega)
  have hcl := rowsL_len (n + n) n fun k i => (redK p n (besF n f idF) (n + n)).1 i k
  have hcg : ∀ k, k < n → (((rowsL (n + n) n fun k i => (redK p n (besF n f idF) (n + n)).1 i k).take (rowsL (n + n) n fun k i => (redK p n (besF n f idF) (n + n)).1 i k).length).drop n).getD k default = rowL n fun i => invF p n f i k := fun k hk => by
    rw [List.take_length]
    rw [List.getD_eq_getElem?_getD, List.getElem?_drop, ← List.getD_eq_getElem?_getD, rowsL_get _ _ (by omega)]
    rfl
  have hdl : (((rowsL (n + n) n fun k i => (redK p n (besF n f idF) (n + n)).1 i k).take (rowsL (n + n) n fun k i => (redK p n (besF n f idF) (n + n)).1 i k).length).drop n).length = n := by
    rw [List.take_length, List.length_drop, hcl]; omega
  have hFC := fromColumns_a n (((rowsL (n + n) n fun k i => (redK p n (besF n f idF) (n + n)).1 i k).take (rowsL (n + n) n fun k i => (redK p n (besF n f idF) (n + n)).1 i k).length).drop n) (by omega) (by omega) (fun k hk => by
    rw [hdl] at hk
    rw [hcg k hk, rowL_len])
  have e : tm n (((rowsL (n + n) n fun k i => (redK p n (besF n f idF) (n + n)).1 i k).take (rowsL (n + n) n fun k i => (redK p n (besF n f idF) (n + n)).1 i k).length).drop n).length (fcF (((rowsL (n + n) n fun k i => (redK p n (besF n f idF) (n + n)).1 i k).take (rowsL (n + n) n fun k i => (redK p n (besF n f idF) (n + n)).1 i k).length).drop n)) = tm n n (invF p n f) := by
    rw [hdl]
    unfold tm
    congr 1
    apply tab_ext
    intro i hi j hj
    unfold fcF
    rw [hcg j hj, rowL_get _ hi]
  rw [e] at hFC
  clear hcg hdl e
  generalize tm n n (invF p n f) = V at hFC ⊢
  generalize (redK p n (besF n f idF) (n + n)).2 = PV at hR
  generalize (rowsL (n + n) n fun k i => (redK p n (besF n f idF) (n + n)).1 i k) = CL at hC hcl hFC
  generalize hRM : tm n (n + n) (redK p n (besF n f idF) (n + n)).1 = RM at hR hC
  generalize tm n (n + n) (besF n f idF) = BM at hB hR
  generalize tm n n idF = IM at hI hB
  repeat' first | refine s1 ?_ | refine q1 ?_ | fail
  refine AW.freezeP (α := Mat) (oo := false) (tm n n f) 3 rfl rfl ?_
  refine AW.drawI G.mixed (by kernel_rfl) (by rfl) ?_
  intro T w1 MP1 I0
  refine iP 0 ?_
  refine iL 1 ?_
  refine iP 2 ?_
  refine iL 3 ?_
  refine ARI.any [4, 10] (by kernel_rfl) (by simp) ?_
  intro k hk
  simp only [List.mem_cons, List.not_mem_nil, or_false] at hk
  rcases hk with rfl | rfl
  refine ⟨_, rfl, ?_⟩
  first | refine s1 ?_ | refine F.c (hI) ?_ | refine F.c (hB) ?_ | refine F.c (hR) ?_
  refine ARg.nil (ATh.normal ?_)
  refine ARI.any [5, 10] (by kernel_rfl) (by simp) ?_
  intro k hk
  simp only [List.mem_cons, List.not_mem_nil, or_false] at hk
  rcases hk with rfl | rfl
  refine ⟨_, rfl, ?_⟩
  first | refine s1 ?_ | refine F.c (hI) ?_ | refine F.c (hB) ?_ | refine F.c (hR) ?_
  refine ARg.nil (ATh.normal ?_)
  refine ARI.any [6, 10] (by kernel_rfl) (by simp) ?_
  intro k hk
  simp only [List.mem_cons, List.not_mem_nil, or_false] at hk
  rcases hk with rfl | rfl
  refine ⟨_, rfl, ?_⟩
  first | refine s1 ?_ | refine F.c (hI) ?_ | refine F.c (hB) ?_ | refine F.c (hR) ?_
  refine ARg.nil (ATh.normal ?_)
  refine iP 7 ?_
  refine iP 8 ?_
  refine iP 9 ?_
  refine iO 10 ?_
  refine s1 ?_
  refine ARg.nil (ATh.normal ?_)
  refine iO 11 ?_
  first | refine s1 ?_ | refine q1 ?_
  refine ARg.nil (ATh.normal ?_)
  refine iP 12 ?_
  refine iN ?_
  rotate_left
  refine ⟨_, rfl, ?_⟩
  refine s1 ?_
  refine ARg.nil (ATh.normal ?_)
  refine iO 6 ?_
  first | refine s1 ?_ | refine F.c (hI) ?_ | refine F.c (hB) ?_ | refine F.c (hR) ?_
  refine ARg.nil (ATh.normal ?_)
  refine iP 7 ?_
  refine iP 8 ?_
  refine iP 9 ?_
  refine iO 11 ?_
  first | refine s1 ?_ | refine q1 ?_
  refine ARg.nil (ATh.normal ?_)
  refine iP 12 ?_
  refine iN ?_
  rotate_left
  refine ⟨_, rfl, ?_⟩
  refine s1 ?_
  refine ARg.nil (ATh.normal ?_)
  refine iO 5 ?_
  first | refine s1 ?_ | refine F.c (hI) ?_ | refine F.c (hB) ?_ | refine F.c (hR) ?_
  refine ARg.nil (ATh.normal ?_)
  refine iO 6 ?_
  first | refine s1 ?_ | refine F.c (hI) ?_ | refine F.c (hB) ?_ | refine F.c (hR) ?_
  refine ARg.nil (ATh.normal ?_)
  refine iP 7 ?_
  refine iP 8 ?_
  refine iP 9 ?_
  refine iO 11 ?_
  first | refine s1 ?_ | refine q1 ?_
  refine ARg.nil (ATh.normal ?_)
  refine iP 12 ?_
  refine iN ?_
  rotate_left
  refine ⟨_, rfl, ?_⟩
  refine s1 ?_
  refine ARg.nil (ATh.normal ?_)
  refine iO 4 ?_
  first | refine s1 ?_ | refine F.c (hI) ?_ | refine F.c (hB) ?_ | refine F.c (hR) ?_
  refine ARg.nil (ATh.normal ?_)
  refine iO 5 ?_
  first | refine s1 ?_ | refine F.c (hI) ?_ | refine F.c (hB) ?_ | refine F.c (hR) ?_
  refine ARg.nil (ATh.normal ?_)
  refine iO 6 ?_
  first | refine s1 ?_ | refine F.c (hI) ?_ | refine F.c (hB) ?_ | refine F.c (hR) ?_
  refine ARg.nil (ATh.normal ?_)
  refine iP 7 ?_
  refine iP 8 ?_
  refine iP 9 ?_
  refine iO 11 ?_
  first | refine s1 ?_ | refine q1 ?_
  refine ARg.nil (ATh.normal ?_)
  refine iP 12 ?_
  refine iN ?_
  rotate_left
  all_goals
    refine AW.putV 5 2 rfl rfl rfl rfl (E_length _ _) (E_pure _ _) rfl ?_
    refine AW.freezeP (α := Mat) (oo := true) RM 5 rfl rfl ?_
    repeat' first | refine s1 ?_ | refine q1 ?_ | fail
    refine AW.drawI G.mixed (by kernel_rfl) (by rfl) ?_
    intro T w1 MP1 I0
    refine iP 0 ?_
    refine iL 1 ?_
    refine iL 2 ?_
    refine iP 4 ?_
    refine iL 5 ?_
    refine iO 3 ?_
    first | refine s1 ?_ | refine F.c (hC) ?_ | refine F.c (hFC) ?_
    refine ARg.nil (ATh.normal ?_)
    refine iz (α := List Int) (ls := CL) 20 rfl rfl rfl ?_
    first | refine iP 6 ?_ | refine iP 6 ?_ (hs := by exact (A.slcD (α := List Int) (lo := n) (hi' := CL.length) rfl rfl rfl (by omega) (by omega)))
    refine iO 7 ?_
    first | refine s1 ?_ | refine F.c (hC) ?_ | refine F.c (hFC) ?_
    refine ARg.nil (ATh.normal ?_)
    refine iO 8 ?_
    first | refine s1 ?_ | refine q1 ?_
    refine ARg.nil (ATh.normal ?_)
    refine iN ?_
    rotate_left
    repeat' first | refine s1 ?_ | refine q1 ?_ | fail
    (refine kZ ?_; exact F.ret rfl)
theorem l4Inverse_a (p : Int) (n : Nat) (f : Nat → Nat → Int) (hF : isF p = true) (hn : n ≤ 8) (hb : BdF p n n f) (hk : (redK p n f n).2.length = n) : AC Tryz.prog 89 [.i p, .agg (enc false (tm n n f))] [.agg (enc true (tm n n (invF p n f))), .b true] := by
  refine AC.go Tryz.func89 Tryz.ntmps89 rfl rfl fun w0 hw => ?_; simp [WfL, WfA, E_length, Enc.enc, In64] at hw
  have hp := isF_pos hF
  have hZ := l3ZeroT_a n n (by omega) (by omega)
  have hS := fun k (h : k < n) => l4Solve_a p n n f (unitL n k) hF (by omega) (by omega) hb (unitL_len n k) (fun i hi => by rw [unitL_get hi]; split <;> omega)
  have hsol := fun k (h : k < n) => inv_sol hF hb hk h
  have hcg : ∀ k, k < n → (rowsL n n fun k i => invF p n f i k).getD k default = rowL n fun i => invF p n f i k := fun k h => rowsL_get _ _ h
  have hcl := rowsL_len n n fun k i => invF p n f i k
  have f0 := fcK_zero (rowsL n n fun k i => invF p n f i k)
  have fs := fun k m => fcK_set (rowsL n n fun k i => invF p n f i k) k m
  have fn := fun k => fcK_next (rowsL n n fun k i => invF p n f i k) k n n
  have fa := fcK_all (rowsL n n fun k i => invF p n f i k) n
  have e : tab n n (fcF (rowsL n n fun k i => invF p n f i k)) = tab n n (invF p n f) := tab_ext fun i hi j hj => by
    unfold fcF
    rw [hcg j hj, rowL_get _ hi]
  rw [hcl] at fa
  rw [e] at fa
  clear e
  generalize (rowsL n n fun k i => invF p n f i k) = CL at *
  generalize fcK CL = FK at *
  repeat' first | refine s1 ?_ | refine q1 ?_ | (refine kR ?_; first | refine F.c (hZ) ?_) | fail
  rw [← f0]
  refine AW.freezeP (α := Mat) (oo := false) (tm n n f) 3 rfl rfl ?_
  refine F.loop (σ := Nat) [5, 7, 8, 9, 10, 11, 23, 24, 25, 26, 27, 28, 29, 30, 31, 32, 33, 34, 35, 36, 37, 38, 39, 40, 41, 42, 43, 44, 45, 46, 47, 48, 49, 50, 51, 52, 53, 54, 55, 56, 57, 58, 59, 60, 61, 62, 63] (fun k => [(7, .i k)]) (fun k => [(2, .live false 1 (E true (tab n n (FK k 0))))]) (fun k => k ≤ n) (fun k => n - k) 0 ⟨rfl, trivial⟩ ⟨rfl, trivial⟩ (Nat.zero_le _) ?_
  rintro k k1
  by_cases h : k < n
  · have hSk := hS k h
    rw [hsol k h] at hSk
    dsimp only at hSk
    rw [show unitL n k = (List.replicate n 0).set (0 + k) 1 by rw [Nat.zero_add]; rfl] at hSk
    have hck := hcg k h
    have hrl := rowL_len n fun i => invF p n f i k
    have hrg : ∀ i, i < n → (rowL n fun i => invF p n f i k).getD i default = invF p n f i k := fun i hi => rowL_get _ hi
    generalize (rowL n fun i => invF p n f i k) = X at hSk hck hrl hrg
    repeat' first | refine s1 ?_ | refine q1 ?_ | (refine kR ?_; first | refine F.mk (m := n) Int rfl rfl rfl (mkB (by omega)) (by omega) rfl rfl ?_) | fail
    repeat' first | refine s1 ?_ | refine q1 ?_ | (refine kR ?_; first | refine F.c (hSk) ?_) | fail
    refine AW.freezeA (α := Int) 9 rfl rfl rfl ?_
    refine F.loop (σ := Nat) [11, 45, 46, 47, 48, 49, 50, 51, 52, 53, 54, 55, 56, 57, 58, 59, 60, 61, 62, 63] (fun i => [(11, .i i)]) (fun i => [(2, .live false 1 (E true (tab n n (FK k i))))]) (fun i => i ≤ n) (fun i => n - i) 0 ⟨rfl, trivial⟩ ⟨rfl, trivial⟩ (Nat.zero_le _) ?_
    rintro i i1
    by_cases hi : i < n
    · obtain ⟨t1, t2⟩ := tab_in (i := i) (j := k) (r := n) (c := n) hi h (by omega) (by omega)
      have fsi := fs k i
      rw [hck] at fsi
      generalize FK k i = G0 at fsi ⊢
      repeat' first | refine s1 ?_ | refine q1 ?_ | fail
      refine AW.draw 13 G.mixed (by kernel_rfl) ?_
      refine dP 0 ?_
      first | refine dL 1 ?_ | refine dLQ 1 ?_
      refine dP 2 ?_
      refine dP 3 ?_
      first | refine dL 4 ?_ | refine dLQ 4 ?_
      refine dP 5 ?_
      refine dP 6 ?_
      refine dP 7 ?_
      refine dP 8 ?_
      refine dP 9 ?_
      first | refine dP 10 ?_ | refine dQ 10 ?_
      first | refine dL 11 ?_ | refine dLQ 11 ?_
      first | refine dP 12 ?_ | refine dQ 12 ?_
      refine dO 13 false ?_
      first | refine s1 ?_ | refine q1 ?_
      refine ARg.nil (ATh.normal ?_)
      refine dN ?_
      rotate_left
      all_goals
        repeat' first | refine s1 ?_ | refine q1 ?_ | fail
        exact ⟨i + 1, F.fit ⟨rfl, trivial⟩ ⟨obE (by rw [← fsi]), trivial⟩, by omega, by omega⟩
    · obtain rfl : i = n := by omega
      rw [fn k]
      repeat' first | refine s1 ?_ | refine q1 ?_ | fail
      exact ⟨k + 1, F.fit ⟨rfl, trivial⟩ ⟨rfl, trivial⟩, by omega, by omega⟩
  · obtain rfl : k = n := by omega
    rw [fa]
    repeat' first | refine s1 ?_ | refine q1 ?_ | fail
    (refine kZ ?_; exact F.ret rfl)
theorem kep_fc {n : Nat} {s t : Spc} (hl : s.b.length + t.b.length = n) : tm n (rowsL s.b.length n (fun _ _ => 0) ++ t.b).length (fcF (rowsL s.b.length n (fun _ _ => 0) ++ t.b)) = kepM n s t := by
  unfold kepM tm
  rw [List.length_append, rowsL_len, hl]
  congr 1
  apply tab_ext
  intro i hi j hj
  unfold kepF fcF
  rw [app_getD, app_getD, rowsL_len]
  by_cases h : j < s.b.length
  · rw [if_pos h, if_pos h, rowsL_get _ _ h, rowL_get _ hi]
  · rw [if_neg h, if_neg h, if_neg h]
/-- what is known at a vertex of a pair of complements -/
theorem cmp_at {r : Rep} {s t : List Spc} (h : cmpB r s t = true) {v : Nat} (hv : v < r.d.length) : isSpc r.p (s.getD v default) = true ∧ isSpc r.p (t.getD v default) = true ∧ (s.getD v default).b.length + (t.getD v default).b.length = (r.d.getD v default).toNat ∧ (r.d.getD v default = ((r.d.getD v default).toNat : Int)) ∧ (r.d.getD v default).toNat ≤ 4 ∧ VecB r.p (r.d.getD v default).toNat (s.getD v default).b ∧ VecB r.p (r.d.getD v default).toNat (t.getD v default).b ∧ BdF r.p (r.d.getD v default).toNat (r.d.getD v default).toNat (fcF ((s.getD v default).b ++ (t.getD v default).b)) ∧ (redK r.p (r.d.getD v default).toNat (fcF ((s.getD v default).b ++ (t.getD v default).b)) (r.d.getD v default).toNat).2.length = (r.d.getD v default).toNat := by
  obtain ⟨h1, h2, h3⟩ := cmpB_spec h
  obtain ⟨g1, g2, g3, g4⟩ := isSub_spec h1
  obtain ⟨t1, t2, t3, t4⟩ := isSub_spec h2
  obtain ⟨r1, r2, r3, r4⟩ := isRep_spec g1
  obtain ⟨c1, c2, c3, c4⟩ := areDims_spec r2
  have hd : 0 ≤ r.d.getD v default ∧ r.d.getD v default ≤ 4 := allIn_spec c3 hv
  obtain ⟨a1, a2⟩ := g3 v (by omega)
  obtain ⟨b1, b2⟩ := t3 v (by omega)
  obtain ⟨e1, e2⟩ := h3 v hv
  have hvs := (isSpc_spec a1).2.2.2
  have hvt := (isSpc_spec b1).2.2.2
  have hbr := both_rank a1 b1 (by rw [a2, b2]) (by rw [a2]; omega) (by rw [a2]; omega)
  rw [a2] at hvs hbr
  rw [b2] at hvt
  exact ⟨a1, b1, by omega, by omega, by omega, hvs, hvt, hbr.1, hbr.2⟩
def idmP (r : Rep) (s t : List Spc) : List Mat × Bool := if cmpB r s t = true then (idpL r s t, true) else ([], false)
theorem implIdempotentOf_a (r : Rep) (s t : List Spc) : AC Tryz.prog 32 [.agg (enc false r), ar false s, ar false t] [.dt true 3 (E true (idmP r s t).1), .b (idmP r s t).2] := by
  refine AC.go Tryz.func32 Tryz.ntmps32 rfl rfl fun w0 hw => ?_; simp [WfL, WfA, E_length, Enc.enc, In64] at hw
  have hJ := implIsComplementPair_a r s t
  unfold idmP
  cases hc' : cmpB r s t with
  | false =>
    rw [hc'] at hJ
    rw [if_neg (by simp)]
    repeat' first | refine s1 ?_ | refine q1 ?_ | (refine kR ?_; first | refine F.c (hJ) ?_) | fail
    (refine kZ ?_; exact F.ret rfl)
  | true =>
    rw [hc'] at hJ
    rw [if_pos rfl]
    obtain ⟨h1, h2, h3⟩ := cmpB_spec hc'
    obtain ⟨g1, g2, g3, g4⟩ := isSub_spec h1
    obtain ⟨t1, t2, t3, t4⟩ := isSub_spec h2
    obtain ⟨r1, r2, r3, r4⟩ := isRep_spec g1
    obtain ⟨c1, c2, c3, c4⟩ := areDims_spec r2
    have h5 := okQ_spec c1
    have hp := isF_pos r1
    have hat := fun v hv => cmp_at hc' (v := v) hv
    have hll := idpL_len r s t
    have hts := fun k hk => idpL_take r s t (k := k) hk
    generalize idpL r s t = L at hll hts ⊢
    repeat' first | refine s1 ?_ | refine q1 ?_ | (refine kR ?_; first | refine F.c (hJ) ?_) | fail
    refine AW.freezeP (α := Rep) (oo := false) r 3 rfl rfl ?_
    refine AW.open 8 3 (.inl rfl) ?_
    refine F.loop (σ := Nat) [8, 9, 10, 11, 12, 21, 22, 23, 24, 25, 26, 27, 28, 29, 30, 31, 32, 33, 34, 35, 36, 37, 38, 39, 40, 41, 42, 43, 44, 45, 46, 47, 48, 49, 50, 51, 52, 53, 54, 55, 56, 57, 58, 59, 60, 61, 62, 63, 64, 65, 66, 67, 68, 69] (fun k => [(8, .sl 1 k 0 k), (21, .i k)]) (fun k => [(1, .live false 3 (E true (L.take k)))]) (fun k => k ≤ r.d.length) (fun k => r.d.length - k) 0 ⟨rfl, rfl, trivial⟩ ⟨rfl, trivial⟩ (Nat.zero_le _) ?_
    rintro k k1
    have hp2 : (L.take k).length = k := by rw [List.length_take]; omega
    by_cases hk : k < r.d.length
    · obtain ⟨q1, q2, q3, q4, q5, q6, q7, q8, q9⟩ := hat k hk
      have ht := hts k hk
      generalize hS' : s.getD k default = S at *
      generalize hT' : t.getD k default = T at *
      generalize (r.d.getD k default).toNat = n at q3 q4 q5 q6 q7 q8 q9 ht
      have hlen : (S.b ++ T.b).length = n := by rw [List.length_append]; exact q3
      have hC1 := concat2_w [S.b, T.b] (by simp; omega)
      rw [show [S.b, T.b].flatten = S.b ++ T.b by simp] at hC1
      have hC2 := concat2_w [rowsL S.b.length n (fun _ _ => 0), T.b] (by simp [rowsL_len]; omega)
      rw [show [rowsL S.b.length n (fun _ _ => 0), T.b].flatten = rowsL S.b.length n (fun _ _ => 0) ++ T.b by simp] at hC2
      have hF1 := fromColumns_a n (S.b ++ T.b) (by omega) (by omega) (q6.app q7).len
      rw [hlen, show tm n n (fcF (S.b ++ T.b)) = botM n S T from rfl, ← q4] at hF1
      have hF2 := fromColumns_a n (rowsL S.b.length n (fun _ _ => 0) ++ T.b) (by omega) (by rw [List.length_append, rowsL_len]; omega) (fun j hj => by
        rw [List.length_append, rowsL_len] at hj
        rw [app_getD, rowsL_len]
        by_cases h : j < S.b.length
        · rw [if_pos h, rowsL_get _ _ h, rowL_len]
        · rw [if_neg h]; exact q7.len _ (by omega))
      rw [kep_fc q3, ← q4] at hF2
      have hZ := zeroT_a S.b.length n (by omega) (by omega)
      rw [← q4] at hZ
      have hR := rows_a S.b.length n (fun _ _ => 0) (by omega) (by omega)
      have hI := inverse_a r.p n (fcF (S.b ++ T.b)) r1 (by omega) q8
      rw [show tm n n (fcF (S.b ++ T.b)) = botM n S T from rfl] at hI
      have hbk : BdF r.p n n (kepF S T) := fun i hi j hj => by
        unfold kepF
        by_cases h : j < S.b.length
        · rw [if_pos h]; omega
        · rw [if_neg h]; exact q8 i hi j hj
      have hM := timesM_a (isMat_tab r1 (by omega) (by omega) hbk) (isMat_tab r1 (by omega) (by omega) (invF_bd r1 q8)) rfl
      rw [show tm n n (kepF S T) = kepM n S T from rfl, show mulM r.p (kepM n S T) (tm n n (invF r.p n (fcF (S.b ++ T.b)))) = idpM r.p n S T from rfl] at hM
      have hrl := rowsL_len S.b.length n (fun _ _ => 0)
      generalize idpM r.p n S T = Y at hM ht
      generalize tm n n (invF r.p n (fcF (S.b ++ T.b))) = IV at hI hM
      generalize kepM n S T = KM at hF2 hM
      generalize botM n S T = BM at hF1 hI
      generalize tm S.b.length n (fun _ _ => 0) = ZM at hZ hR
      generalize rowsL S.b.length n (fun _ _ => 0) = RL at hR hC2 hF2 hrl
      subst hS' hT'
      repeat' first | refine s1 ?_ | refine q1 ?_ | fail
      refine AW.drawI G.mixed (by kernel_rfl) (by rfl) ?_
      intro T w1 MP1 I0
      refine iP 0 ?_
      refine iP 1 ?_
      refine iP 2 ?_
      first | refine iP 3 ?_ | refine iQ 3 ?_
      refine iP 4 ?_
      refine iL 5 ?_
      refine iP 6 ?_
      refine iP 7 ?_
      first | refine iP 8 ?_ | refine iQ 8 ?_
      refine iP 9 ?_
      refine iL 10 ?_
      refine ARI.any [11, 14] (by kernel_rfl) (by simp) ?_
      intro k hk
      simp only [List.mem_cons, List.not_mem_nil, or_false] at hk
      rcases hk with rfl | rfl
      refine ⟨_, rfl, ?_⟩
      refine s1 ?_
      refine ARg.nil (ATh.normal ?_)
      refine iz (α := List (List Int)) (ls := [(s.getD k default).b, (t.getD k default).b]) 37 rfl rfl rfl ?_
      refine ARI.any [12, 14] (by kernel_rfl) (by simp) ?_
      intro k hk
      simp only [List.mem_cons, List.not_mem_nil, or_false] at hk
      rcases hk with rfl | rfl
      refine ⟨_, rfl, ?_⟩
      first | refine s1 ?_ | refine F.w (hC1) ?_ | refine F.c (hF1) ?_
      refine ARg.nil (ATh.normal ?_)
      refine ARI.any [13, 14] (by kernel_rfl) (by simp) ?_
      intro k hk
      simp only [List.mem_cons, List.not_mem_nil, or_false] at hk
      rcases hk with rfl | rfl
      refine ⟨_, rfl, ?_⟩
      first | refine s1 ?_ | refine F.w (hC1) ?_ | refine F.c (hF1) ?_
      refine ARg.nil (ATh.normal ?_)
      refine iO 14 ?_
      refine s1 ?_
      refine ARg.nil (ATh.normal ?_)
      refine iO 15 ?_
      first | refine s1 ?_ | refine q1 ?_
      refine ARg.nil (ATh.normal ?_)
      refine iN ?_
      rotate_left
      refine ⟨_, rfl, ?_⟩
      refine s1 ?_
      refine ARg.nil (ATh.normal ?_)
      refine iO 13 ?_
      first | refine s1 ?_ | refine F.w (hC1) ?_ | refine F.c (hF1) ?_
      refine ARg.nil (ATh.normal ?_)
      refine iO 15 ?_
      first | refine s1 ?_ | refine q1 ?_
      refine ARg.nil (ATh.normal ?_)
      refine iN ?_
      rotate_left
      refine ⟨_, rfl, ?_⟩
      refine s1 ?_
      refine ARg.nil (ATh.normal ?_)
      refine iO 12 ?_
      first | refine s1 ?_ | refine F.w (hC1) ?_ | refine F.c (hF1) ?_
      refine ARg.nil (ATh.normal ?_)
      refine iO 13 ?_
      first | refine s1 ?_ | refine F.w (hC1) ?_ | refine F.c (hF1) ?_
      refine ARg.nil (ATh.normal ?_)
      refine iO 15 ?_
      first | refine s1 ?_ | refine q1 ?_
      refine ARg.nil (ATh.normal ?_)
      refine iN ?_
      rotate_left
      refine ⟨_, rfl, ?_⟩
      refine s1 ?_
      refine ARg.nil (ATh.normal ?_)
      refine iO 11 ?_
      refine s1 ?_
      refine ARg.nil (ATh.normal ?_)
      refine iz (α := List (List Int)) (ls := [(s.getD k default).b, (t.getD k default).b]) 37 rfl rfl rfl ?_
      refine iO 12 ?_
      first | refine s1 ?_ | refine F.w (hC1) ?_ | refine F.c (hF1) ?_
      refine ARg.nil (ATh.normal ?_)
      refine iO 13 ?_
      first | refine s1 ?_ | refine F.w (hC1) ?_ | refine F.c (hF1) ?_
      refine ARg.nil (ATh.normal ?_)
      refine iO 15 ?_
      first | refine s1 ?_ | refine q1 ?_
      refine ARg.nil (ATh.normal ?_)
      refine iN ?_
      rotate_left
      all_goals
        refine AW.putV 11 2 rfl rfl rfl rfl (E_length _ _) (E_pure _ _) rfl ?_
        refine AW.freezeP (α := Mat) (oo := true) BM 11 rfl rfl ?_
        repeat' first | refine s1 ?_ | refine q1 ?_ | fail
        refine AW.drawI G.mixed (by kernel_rfl) (by rfl) ?_
        intro T w1 MP1 I0
        refine iP 0 ?_
        refine iP 1 ?_
        refine iP 2 ?_
        first | refine iP 3 ?_ | refine iQ 3 ?_
        refine iP 4 ?_
        refine iL 5 ?_
        refine iP 6 ?_
        refine iP 7 ?_
        refine iP 10 ?_
        refine iP 11 ?_
        first | refine iP 12 ?_ | refine iQ 12 ?_
        refine iP 13 ?_
        refine iL 14 ?_
        refine ARI.any [8, 18] (by kernel_rfl) (by simp) ?_
        intro k hk
        simp only [List.mem_cons, List.not_mem_nil, or_false] at hk
        rcases hk with rfl | rfl
        refine ⟨_, rfl, ?_⟩
        first | refine s1 ?_ | refine F.c (hZ) ?_ | refine F.c (hR) ?_ | refine F.w (hC2) ?_ | refine F.c (hF2) ?_
        refine ARg.nil (ATh.normal ?_)
        refine ARI.any [9, 18] (by kernel_rfl) (by simp) ?_
        intro k hk
        simp only [List.mem_cons, List.not_mem_nil, or_false] at hk
        rcases hk with rfl | rfl
        refine ⟨_, rfl, ?_⟩
        first | refine s1 ?_ | refine F.c (hZ) ?_ | refine F.c (hR) ?_ | refine F.w (hC2) ?_ | refine F.c (hF2) ?_
        refine ARg.nil (ATh.normal ?_)
        refine iz (α := List Int) (ls := RL) 49 rfl rfl rfl ?_
        refine ARI.any [15, 18] (by kernel_rfl) (by simp) ?_
        intro k hk
        simp only [List.mem_cons, List.not_mem_nil, or_false] at hk
        rcases hk with rfl | rfl
        refine ⟨_, rfl, ?_⟩
        refine s1 ?_
        refine ARg.nil (ATh.normal ?_)
        refine iz (α := List (List Int)) (ls := [RL, (t.getD k default).b]) 55 rfl rfl rfl ?_
        refine ARI.any [16, 18] (by kernel_rfl) (by simp) ?_
        intro k hk
        simp only [List.mem_cons, List.not_mem_nil, or_false] at hk
        rcases hk with rfl | rfl
        refine ⟨_, rfl, ?_⟩
        first | refine s1 ?_ | refine F.c (hZ) ?_ | refine F.c (hR) ?_ | refine F.w (hC2) ?_ | refine F.c (hF2) ?_
        refine ARg.nil (ATh.normal ?_)
        refine ARI.any [17, 18] (by kernel_rfl) (by simp) ?_
        intro k hk
        simp only [List.mem_cons, List.not_mem_nil, or_false] at hk
        rcases hk with rfl | rfl
        refine ⟨_, rfl, ?_⟩
        first | refine s1 ?_ | refine F.c (hZ) ?_ | refine F.c (hR) ?_ | refine F.w (hC2) ?_ | refine F.c (hF2) ?_
        refine ARg.nil (ATh.normal ?_)
        refine iO 18 ?_
        refine s1 ?_
        refine ARg.nil (ATh.normal ?_)
        refine iO 19 ?_
        first | refine s1 ?_ | refine q1 ?_
        refine ARg.nil (ATh.normal ?_)
        refine iN ?_
        rotate_left
        refine ⟨_, rfl, ?_⟩
        refine s1 ?_
        refine ARg.nil (ATh.normal ?_)
        refine iO 17 ?_
        first | refine s1 ?_ | refine F.c (hZ) ?_ | refine F.c (hR) ?_ | refine F.w (hC2) ?_ | refine F.c (hF2) ?_
        refine ARg.nil (ATh.normal ?_)
        refine iO 19 ?_
        first | refine s1 ?_ | refine q1 ?_
        refine ARg.nil (ATh.normal ?_)
        refine iN ?_
        rotate_left
        refine ⟨_, rfl, ?_⟩
        refine s1 ?_
        refine ARg.nil (ATh.normal ?_)
        refine iO 16 ?_
        first | refine s1 ?_ | refine F.c (hZ) ?_ | refine F.c (hR) ?_ | refine F.w (hC2) ?_ | refine F.c (hF2) ?_
        refine ARg.nil (ATh.normal ?_)
        refine iO 17 ?_
        first | refine s1 ?_ | refine F.c (hZ) ?_ | refine F.c (hR) ?_ | refine F.w (hC2) ?_ | refine F.c (hF2) ?_
        refine ARg.nil (ATh.normal ?_)
        refine iO 19 ?_
        first | refine s1 ?_ | refine q1 ?_
        refine ARg.nil (ATh.normal ?_)
        refine iN ?_
        rotate_left
        refine ⟨_, rfl, ?_⟩
        refine s1 ?_
        refine ARg.nil (ATh.normal ?_)
        refine iO 15 ?_
        refine s1 ?_
        refine ARg.nil (ATh.normal ?_)
        refine iz (α := List (List Int)) (ls := [RL, (t.getD k default).b]) 55 rfl rfl rfl ?_
        refine iO 16 ?_
        first | refine s1 ?_ | refine F.c (hZ) ?_ | refine F.c (hR) ?_ | refine F.w (hC2) ?_ | refine F.c (hF2) ?_
        refine ARg.nil (ATh.normal ?_)
        refine iO 17 ?_
        first | refine s1 ?_ | refine F.c (hZ) ?_ | refine F.c (hR) ?_ | refine F.w (hC2) ?_ | refine F.c (hF2) ?_
        refine ARg.nil (ATh.normal ?_)
        refine iO 19 ?_
        first | refine s1 ?_ | refine q1 ?_
        refine ARg.nil (ATh.normal ?_)
        refine iN ?_
        rotate_left
        refine ⟨_, rfl, ?_⟩
        refine s1 ?_
        refine ARg.nil (ATh.normal ?_)
        refine iO 9 ?_
        first | refine s1 ?_ | refine F.c (hZ) ?_ | refine F.c (hR) ?_ | refine F.w (hC2) ?_ | refine F.c (hF2) ?_
        refine ARg.nil (ATh.normal ?_)
        refine iz (α := List Int) (ls := RL) 49 rfl rfl rfl ?_
        refine iO 15 ?_
        refine s1 ?_
        refine ARg.nil (ATh.normal ?_)
        refine iz (α := List (List Int)) (ls := [RL, (t.getD k default).b]) 55 rfl rfl rfl ?_
        refine iO 16 ?_
        first | refine s1 ?_ | refine F.c (hZ) ?_ | refine F.c (hR) ?_ | refine F.w (hC2) ?_ | refine F.c (hF2) ?_
        refine ARg.nil (ATh.normal ?_)
        refine iO 17 ?_
        first | refine s1 ?_ | refine F.c (hZ) ?_ | refine F.c (hR) ?_ | refine F.w (hC2) ?_ | refine F.c (hF2) ?_
        refine ARg.nil (ATh.normal ?_)
        refine iO 19 ?_
        first | refine s1 ?_ | refine q1 ?_
        refine ARg.nil (ATh.normal ?_)
        refine iN ?_
        rotate_left
        refine ⟨_, rfl, ?_⟩
        refine s1 ?_
        refine ARg.nil (ATh.normal ?_)
        refine iO 8 ?_
        first | refine s1 ?_ | refine F.c (hZ) ?_ | refine F.c (hR) ?_ | refine F.w (hC2) ?_ | refine F.c (hF2) ?_
        refine ARg.nil (ATh.normal ?_)
        refine iO 9 ?_
        first | refine s1 ?_ | refine F.c (hZ) ?_ | refine F.c (hR) ?_ | refine F.w (hC2) ?_ | refine F.c (hF2) ?_
        refine ARg.nil (ATh.normal ?_)
        refine iz (α := List Int) (ls := RL) 49 rfl rfl rfl ?_
        refine iO 15 ?_
        refine s1 ?_
        refine ARg.nil (ATh.normal ?_)
        refine iz (α := List (List Int)) (ls := [RL, (t.getD k default).b]) 55 rfl rfl rfl ?_
        refine iO 16 ?_
        first | refine s1 ?_ | refine F.c (hZ) ?_ | refine F.c (hR) ?_ | refine F.w (hC2) ?_ | refine F.c (hF2) ?_
        refine ARg.nil (ATh.normal ?_)
        refine iO 17 ?_
        first | refine s1 ?_ | refine F.c (hZ) ?_ | refine F.c (hR) ?_ | refine F.w (hC2) ?_ | refine F.c (hF2) ?_
        refine ARg.nil (ATh.normal ?_)
        refine iO 19 ?_
        first | refine s1 ?_ | refine q1 ?_
        refine ARg.nil (ATh.normal ?_)
        refine iN ?_
        rotate_left
        all_goals
          refine AW.putV 12 2 rfl rfl rfl rfl (E_length _ _) (E_pure _ _) rfl ?_
          refine AW.freezeP (α := Mat) (oo := true) KM 12 rfl rfl ?_
          repeat' first | refine s1 ?_ | refine q1 ?_ | fail
          refine AW.drawI G.mixed (by kernel_rfl) (by rfl) ?_
          intro T w1 MP1 I0
          refine iP 0 ?_
          refine iP 1 ?_
          refine iL 2 ?_
          refine iL 3 ?_
          refine iP 4 ?_
          refine iL 5 ?_
          refine iL 6 ?_
          refine iO 7 ?_
          first | refine s1 ?_ | refine F.c (hI) ?_ | refine F.c (hM) ?_
          refine ARg.nil (ATh.normal ?_)
          refine iO 8 ?_
          first | refine s1 ?_ | refine F.c (hI) ?_ | refine F.c (hM) ?_
          refine ARg.nil (ATh.normal ?_)
          refine iO 9 ?_
          refine s1 ?_
          refine ARg.nil (ATh.normal ?_)
          refine iO 10 ?_
          first | refine s1 ?_ | refine F.a1 Mat (a := Y) ?_
          refine ARg.nil (ATh.normal ?_)
          refine iP 11 ?_
          refine iN ?_
          rotate_left
          all_goals
            repeat' first | refine s1 ?_ | refine q1 ?_ | fail
            exact ⟨k + 1, F.fit ⟨rfl, rfl, trivial⟩ ⟨obE (by rw [ht]), trivial⟩, by omega, by omega⟩
    · obtain rfl : k = r.d.length := by omega
      have e : L.take r.d.length = L := List.take_of_length_le (by omega)
      rw [e]
      clear hp2 e
      rw [← hll]
      repeat' first | refine s1 ?_ | refine q1 ?_ | fail
      (refine kZ ?_; exact F.ret rfl)
end Go.Proofs.YtanembgijdkagaaGreat.V
