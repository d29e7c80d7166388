/- Contracts: extensions. -/
import Derived.Test.YtanembgijdkagaaQeUi
import Derived.Test.YtanembgijdkagaaQeUg
import Derived.Test.YtanembgijdkagaaQeUq
import Derived.Test.YtanembgijdkagaaQeA109
import Derived.Test.YtanembgijdkagaaQeA111
import Derived.Test.YtanembgijdkagaaQeB7
import Derived.Test.YtanembgijdkagaaQeC2
namespace Go.Proofs.Ytanembgijdkagaa.V
open V.Enc (enc)
open Go.RowKit G D
set_option linter.unusedVariables false
set_option linter.unusedSimpArgs false
set_option maxHeartbeats 4000000
set_option maxRecDepth 4000
attribute [local irreducible] AW ARg ARA ARet MRet ASil AC AM ARI
theorem inc_bel (b a : Nat) : tm (b + a) b (belF b idF zerF) = tm (b + a) b idF := by
  unfold tm
  congr 1
  apply tab_ext
  intro i hi j hj
  unfold belF zerF idF
  by_cases h : i < b
  · rw [if_pos h]
  · rw [if_neg h, if_neg (by omega)]
theorem inc_blk (b a : Nat) : tm (b + a) (b + 0) (blkF b b idF zerF zerF) = tm (b + a) b idF := by
  unfold tm
  congr 1
  apply tab_ext
  intro i hi j hj
  unfold blkF zerF idF
  have hj : j < b := hj
  by_cases h : i < b
  · rw [if_pos h, if_pos hj]
  · rw [if_neg h, if_pos hj, if_neg (by omega)]
theorem prj_bes (b a : Nat) : tm a (b + a) (besF b zerF idF) = tm a (b + a) fun i j => idF (i + b) j := by
  unfold tm
  congr 1
  apply tab_ext
  intro i hi j hj
  unfold besF zerF idF
  by_cases h : j < b
  · rw [if_pos h, if_neg (by omega)]
  · rw [if_neg h]
    by_cases e : i = j - b
    · rw [if_pos e, if_pos (by omega)]
    · rw [if_neg e, if_neg (by omega)]
theorem prj_blk (b a : Nat) : tm (0 + a) (b + a) (blkF 0 b zerF zerF idF) = tm a (b + a) fun i j => idF (i + b) j := by
  rw [Nat.zero_add]
  unfold tm
  congr 1
  apply tab_ext
  intro i hi j hj
  unfold blkF zerF idF
  rw [if_neg (by omega)]
  by_cases h : j < b
  · rw [if_pos h, if_neg (by omega)]
  · rw [if_neg h]
    by_cases e : i - 0 = j - b
    · rw [if_pos e, if_pos (by omega)]
    · rw [if_neg e, if_neg (by omega)]
theorem incE_len (b a : Rep) : (incE b a).length = a.d.length := by simp [incE]
theorem prjE_len (b a : Rep) : (prjE b a).length = a.d.length := by simp [prjE]
theorem incE_take (b a : Rep) {k : Nat} (h : k < a.d.length) : (incE b a).take (k + 1) = (incE b a).take k ++ [tm ((b.d.getD k default).toNat + (a.d.getD k default).toNat) (b.d.getD k default).toNat idF] := by
  simp only [incE, ← List.map_take, range_take h, List.map_append, List.map_cons, List.map_nil]
theorem prjE_take (b a : Rep) {k : Nat} (h : k < a.d.length) : (prjE b a).take (k + 1) = (prjE b a).take k ++ [tm (a.d.getD k default).toNat ((b.d.getD k default).toNat + (a.d.getD k default).toNat) fun i j => idF (i + (b.d.getD k default).toNat) j] := by
  simp only [prjE, ← List.map_take, range_take h, List.map_append, List.map_cons, List.map_nil]
def cocH (c : List Mat) : Nat → Nat → Nat → Int := fun i => ent (c.getD i default)
def extP (a b : Rep) (c : List Mat) : Rep × List Mat × List Mat × Bool := if isCoc a b c = true ∧ (sumP b a).2 = true then (sumR b a (cocH c), incE b a, prjE b a, true) else (noR, [], [], false)
/-- what is known of an arrow -/
theorem ext_at {a b : Rep} {c : List Mat} (h : isCoc a b c = true) {i : Nat} (hi : i < a.m.length) : isMat a.p (b.m.getD i default) = true ∧ isMat a.p (c.getD i default) = true ∧ isMat a.p (a.m.getD i default) = true ∧ (c.getD i default).r = (b.m.getD i default).r ∧ (c.getD i default).c = (a.m.getD i default).c ∧ (b.m.getD i default).c = b.d.getD (b.q.fr.getD i default).toNat default ∧ (0 ≤ b.q.fr.getD i default ∧ (b.q.fr.getD i default).toNat < b.d.length) := by
  obtain ⟨h1, h2, h3⟩ := isCoc_spec h
  have hh := Fits.of h1
  obtain ⟨ra, rb⟩ := fitR_reps h1
  have hmb : b.m.length = a.m.length := by rw [(isRep_spec ra).2.2.1, (isRep_spec rb).2.2.1, hh.q]
  obtain ⟨a1, a2, a3, a4, a5⟩ := arrow_ok ra hi
  obtain ⟨b1, b2, b3, b4, b5⟩ := arrow_ok rb (i := i) (by omega)
  obtain ⟨c1, c2, c3⟩ := h3 i (by omega)
  rw [← hh.p] at b1
  refine ⟨b1, c1, a1, ?_, ?_, b4, b2⟩
  · rw [c3, b5, hh.q]
  · rw [c2, a4]
theorem implExtensionOf_a (a b : Rep) (c : List Mat) : AC Try.prog 24 [.agg (enc false a), .agg (enc false b), ar false c] [.agg (enc true (extP a b c).1), .dt true 3 (E true (extP a b c).2.1), .dt true 3 (E true (extP a b c).2.2.1), .b (extP a b c).2.2.2] := by
  refine AC.go Try.func24 Try.ntmps24 rfl rfl fun w0 hw => ?_; simp [WfL, WfA, E_length, Enc.enc, In64] at hw
  have hJ := implIsCocycle_a a b c
  unfold extP
  cases hc' : isCoc a b c with
  | false =>
    rw [hc'] at hJ
    rw [if_neg (by simp)]
    repeat' first | refine s1 ?_ | refine q1 ?_ | (refine kR ?_; first | refine F.c (hJ) ?_) | fail
    (refine kZ ?_; exact F.ret rfl)
  | true =>
    rw [hc'] at hJ
    have hS := implDirectSum_a b a
    obtain ⟨h1, h2, h3⟩ := isCoc_spec hc'
    have hfb := fitR_symm h1
    cases hs : isRep (sumR b a fun _ => zerF) with
    | false =>
      have e : sumP b a = (noR, false) := by unfold sumP; rw [if_neg (by simp [hs])]
      rw [e] at hS ⊢
      rw [if_neg (by simp)]
      dsimp only at hS
      repeat' first | refine s1 ?_ | refine q1 ?_ | (refine kR ?_; first | refine F.c (hJ) ?_ | refine F.c (hS) ?_) | fail
      (refine kZ ?_; exact F.ret rfl)
    | true =>
      have e : sumP b a = (sumR b a fun _ => zerF, true) := by unfold sumP; rw [if_pos ⟨hfb, hs⟩]
      rw [e] at hS ⊢
      rw [if_pos ⟨rfl, rfl⟩]
      dsimp only at hS ⊢
      have hh := Fits.of h1
      obtain ⟨ra, rb⟩ := fitR_reps h1
      have h5 := okQ_spec hh.ok
      have hda := hh.da
      have hdb := hh.db
      have hba := hh.ba
      have hbb := hh.bb
      have hma := (isRep_spec ra).2.2.1
      have hmb : b.m.length = a.m.length := by rw [hma, (isRep_spec rb).2.2.1, hh.q]
      have hat := fun i hi => ext_at hc' (i := i) hi
      have hdl := sumDs_len b a
      have hl0 := sumMs_len b a fun _ => zerF
      have hl1 := sumMs_len b a (cocH c)
      have hmg := fun i hi => sumMs_get b a (cocH c) (i := i) hi
      have il := incE_len b a
      have pl := prjE_len b a
      have it := fun k hk => incE_take b a (k := k) hk
      have pt := fun k hk => prjE_take b a (k := k) hk
      unfold sumR at hS ⊢
      generalize sumDs b a = SD at hS hdl ⊢
      generalize sumMs b a (fun _ => zerF) = S0 at hS hl0
      generalize sumMs b a (cocH c) = SM at hl1 hmg ⊢
      generalize incE b a = IL at il it ⊢
      generalize prjE b a = PL at pl pt ⊢
      have hll : SM.length = S0.length := by omega
      have mlen := mixL_len (x := SM) (y := S0) hll
      have mset := fun k hk => mixL_set (x := SM) (y := S0) hll (k := k) hk
      have m0 := mixL_zero SM S0
      have mall := mixL_all (x := SM) (y := S0) hll
      repeat' first | refine s1 ?_ | refine q1 ?_ | (refine kR ?_; first | refine F.c (hJ) ?_ | refine F.c (hS) ?_) | fail
      refine F.loop (σ := Nat) [12, 13, 35, 36, 37, 38, 39, 40, 41, 42, 43, 44, 45, 46, 47, 48, 49, 50, 51, 52, 53, 54, 55, 56] (fun k => [(35, .i k)]) (fun k => [(6, .live false 3 (E true (mixL SM S0 k)))]) (fun k => k ≤ c.length) (fun k => c.length - k) 0 ⟨rfl, trivial⟩ ⟨obE (by rw [m0]), trivial⟩ (Nat.zero_le _) ?_
      rintro i i1
      have hli := mlen i
      by_cases hi : i < c.length
      · obtain ⟨a1, a2, a3, a4, a5, a6, a7⟩ := hat i (by omega)
        have hB := blocksM_a a1 a2 a3 a4 a5
        have hs := mset i (by omega)
        rw [hmg i (by omega), show cocH c i = ent (c.getD i default) from rfl] at hs
        generalize blkM (b.m.getD i default) (a.m.getD i default) (ent (c.getD i default)) = SA at hB hs
        generalize mixL SM S0 i = X at hli hs ⊢
        repeat' first | refine s1 ?_ | refine q1 ?_ | fail
        refine AW.draw 16 G.mixed (by kernel_rfl) ?_
        refine dP 0 ?_
        first | refine dL 1 ?_ | refine dLQ 1 ?_
        refine dP 2 ?_
        refine dP 3 ?_
        first | refine dL 4 ?_ | refine dLQ 4 ?_
        refine dP 5 ?_
        first | refine dP 6 ?_ | refine dQ 6 ?_
        first | refine dL 7 ?_ | refine dLQ 7 ?_
        first | refine dL 8 ?_ | refine dLQ 8 ?_
        refine dP 9 ?_
        first | refine dL 10 ?_ | refine dLQ 10 ?_
        refine dP 11 ?_
        first | refine dP 12 ?_ | refine dQ 12 ?_
        first | refine dL 13 ?_ | refine dLQ 13 ?_
        refine dO 14 true ?_
        first | refine s1 ?_ | refine F.c (hB) ?_
        refine ARg.nil (ATh.normal ?_)
        first | refine dP 15 ?_ | refine dQ 15 ?_
        refine dO 16 false ?_
        first | refine s1 ?_ | (refine F.stGE (α := Mat) (oo := true) (v := SA) rfl rfl rfl rfl rfl (by omega) (by omega) (.at1 rfl (.at1 rfl (.mv rfl (by simp) (E_length _ _) (E_pure _ _) .nil))) rfl rfl rfl rfl rfl ?_) | refine q1 ?_
        refine ARg.nil (ATh.normal ?_)
        refine dN ?_
        rotate_left
        all_goals
          rw [Nat.zero_add i]
          repeat' first | refine s1 ?_ | refine q1 ?_ | fail
          exact ⟨i + 1, F.fit ⟨rfl, trivial⟩ ⟨obE (by rw [hs]), trivial⟩, by omega, by omega⟩
      · obtain rfl : i = c.length := by omega
        have e : mixL SM S0 c.length = SM := by rw [show c.length = SM.length by omega]; exact mall
        rw [e]
        clear e hli
        repeat' first | refine s1 ?_ | refine q1 ?_ | fail
        refine AW.open 14 3 (.inl rfl) ?_
        refine AW.open 15 3 (.inl rfl) ?_
        refine F.loop (σ := Nat) [14, 15, 16, 17, 60, 61, 62, 63, 64, 65, 66, 67, 68, 69, 70, 71, 72, 73, 74, 75, 76, 77, 78, 79, 80, 81, 82, 83, 84, 85, 86, 87, 88, 89, 90, 91, 92, 93, 94, 95] (fun k => [(14, .sl 8 k 0 k), (15, .sl 9 k 0 k), (60, .i k)]) (fun k => [(8, .live false 3 (E true (IL.take k))), (9, .live false 3 (E true (PL.take k)))]) (fun k => k ≤ a.d.length) (fun k => a.d.length - k) 0 ⟨rfl, rfl, rfl, trivial⟩ ⟨rfl, rfl, trivial⟩ (Nat.zero_le _) ?_
        rintro v v1
        have hp3 : (IL.take v).length = v := by rw [List.length_take]; omega
        have hp4 : (PL.take v).length = v := by rw [List.length_take]; omega
        by_cases hv : v < a.d.length
        · have da := hba v hv
          have db := hbb v (by omega)
          have ti := it v hv
          have tp := pt v hv
          have ea := Int.toNat_of_nonneg da.1
          have eb := Int.toNat_of_nonneg db.1
          generalize (a.d.getD v default).toNat = na at ea ti tp
          generalize (b.d.getD v default).toNat = nb at eb ti tp
          have hI := identity_a nb (by omega)
          have hIa := identity_a na (by omega)
          have hZ := zeroT_a na nb (by omega) (by omega)
          have hBl := below_a nb na nb idF zerF (by omega) (by omega)
          rw [inc_bel, show tm na nb zerF = tm na nb (fun _ _ => 0) from rfl] at hBl
          have hBs := beside_a na nb na zerF idF (by omega) (by omega)
          rw [prj_bes, show tm na nb zerF = tm na nb (fun _ _ => 0) from rfl] at hBs
          rw [eb] at hI
          rw [ea] at hIa
          rw [ea, eb] at hZ
          generalize tm (nb + na) nb idF = I1 at hBl ti
          generalize (tm na (nb + na) fun i j => idF (i + nb) j) = P1 at hBs tp
          generalize tm na nb (fun _ _ => 0) = Z1 at hZ hBl hBs
          generalize tm nb nb idF = D1 at hI hBl
          generalize tm na na idF = D2 at hIa hBs
          repeat' first | refine s1 ?_ | refine q1 ?_ | fail
          refine AW.draw 16 G.mixed (by kernel_rfl) ?_
          refine dP 0 ?_
          refine dP 1 ?_
          first | refine dL 2 ?_ | refine dLQ 2 ?_
          refine dP 3 ?_
          first | refine dP 4 ?_ | refine dQ 4 ?_
          first | refine dL 5 ?_ | refine dLQ 5 ?_
          refine dP 7 ?_
          refine dP 8 ?_
          first | refine dL 9 ?_ | refine dLQ 9 ?_
          refine dP 10 ?_
          first | refine dP 11 ?_ | refine dQ 11 ?_
          first | refine dL 12 ?_ | refine dLQ 12 ?_
          refine dO 6 true ?_
          first | refine s1 ?_ | refine F.c (hI) ?_
          refine ARg.nil (ATh.normal ?_)
          refine dO 13 true ?_
          first | refine s1 ?_ | refine F.c (hZ) ?_
          refine ARg.nil (ATh.normal ?_)
          refine dO 14 true ?_
          first | refine s1 ?_ | refine F.c (hBl) ?_
          refine ARg.nil (ATh.normal ?_)
          refine dO 15 true ?_
          refine s1 ?_
          refine ARg.nil (ATh.normal ?_)
          refine dO 16 false ?_
          first | refine s1 ?_ | refine F.a1 Mat (a := I1) ?_
          refine ARg.nil (ATh.normal ?_)
          refine dP 17 ?_
          refine dN ?_
          rotate_left
          all_goals
            repeat' first | refine s1 ?_ | refine q1 ?_ | (refine kR ?_; first | refine F.c (hZ) ?_ | refine F.c (hIa) ?_ | refine F.c (hBs) ?_ | refine F.a1 Mat (a := P1) ?_) | fail
            exact ⟨v + 1, F.fit ⟨rfl, rfl, rfl, trivial⟩ ⟨obE (by rw [ti]), obE (by rw [tp]), trivial⟩, by omega, by omega⟩
        · obtain rfl : v = a.d.length := by omega
          have e1 : IL.take a.d.length = IL := List.take_of_length_le (by omega)
          have e2 : PL.take a.d.length = PL := List.take_of_length_le (by omega)
          rw [e1, e2]
          clear hp3 hp4 e1 e2
          repeat' first | refine s1 ?_ | refine q1 ?_ | fail
          (refine kZ ?_; exact F.ret rfl)
/-- the cocycle's rows below x are written, and y numbers of row x -/
def wrF (r1 c1 : Nat) (h base : Nat → Nat → Int) (x y : Nat) : Nat → Nat → Int := fun i j => if i < r1 ∧ c1 ≤ j ∧ (i < x ∨ (i = x ∧ j < c1 + y)) then h i (j - c1) else base i j
theorem wrF_zero (r1 c1 : Nat) (h base : Nat → Nat → Int) : wrF r1 c1 h base 0 0 = base := by
  funext i j; unfold wrF; rw [if_neg (by omega)]
theorem wrF_set {r1 c1 : Nat} (h base : Nat → Nat → Int) {x y : Nat} (hx : x < r1) : updF (wrF r1 c1 h base x y) x (c1 + y) (h x y) = wrF r1 c1 h base x (y + 1) := by
  funext i j
  unfold updF wrF
  by_cases e : i = x ∧ j = c1 + y
  · obtain ⟨rfl, rfl⟩ := e
    rw [if_pos ⟨rfl, rfl⟩, if_pos (by omega), Nat.add_sub_cancel_left]
  · rw [if_neg e]
    by_cases e2 : i < r1 ∧ c1 ≤ j ∧ (i < x ∨ (i = x ∧ j < c1 + y))
    · rw [if_pos e2, if_pos (by omega)]
    · rw [if_neg e2, if_neg (by omega)]
theorem wrF_next (r1 c1 R c2 : Nat) (h base : Nat → Nat → Int) (x : Nat) : tab R (c1 + c2) (wrF r1 c1 h base x c2) = tab R (c1 + c2) (wrF r1 c1 h base (x + 1) 0) := tab_ext fun i hi j hj => by
  unfold wrF
  by_cases e2 : i < r1 ∧ c1 ≤ j ∧ (i < x ∨ (i = x ∧ j < c1 + c2))
  · rw [if_pos e2, if_pos (by omega)]
  · rw [if_neg e2, if_neg (by omega)]
theorem wrF_all (r1 c1 R C : Nat) (f g h : Nat → Nat → Int) : tab R C (wrF r1 c1 h (blkF r1 c1 f zerF g) r1 0) = tab R C (blkF r1 c1 f h g) := tab_ext fun i hi j hj => by
  unfold wrF blkF zerF
  by_cases h1 : i < r1
  · by_cases h2 : j < c1
    · rw [if_neg (by omega), if_pos h1, if_pos h2, if_pos h1, if_pos h2]
    · rw [if_pos (by omega), if_pos h1, if_neg h2]
  · rw [if_neg (by omega), if_neg h1, if_neg h1]
theorem specExtensionOf_a (a b : Rep) (c : List Mat) : AC Try.prog 21 [.agg (enc false a), .agg (enc false b), ar false c] [.agg (enc true (extP a b c).1), .dt true 3 (E true (extP a b c).2.1), .dt true 3 (E true (extP a b c).2.2.1), .b (extP a b c).2.2.2] := by
  refine AC.go Try.func21 Try.ntmps21 rfl rfl fun w0 hw => ?_; simp [WfL, WfA, E_length, Enc.enc, In64] at hw
  have hJ := specIsCocycle_a a b c
  unfold extP
  cases hc' : isCoc a b c with
  | false =>
    rw [hc'] at hJ
    rw [if_neg (by simp)]
    repeat' first | refine s1 ?_ | refine q1 ?_ | (refine kR ?_; first | refine F.c (hJ) ?_) | fail
    (refine kZ ?_; exact F.ret rfl)
  | true =>
    rw [hc'] at hJ
    have hS := specDirectSum_a b a
    obtain ⟨h1, h2, h3⟩ := isCoc_spec hc'
    have hfb := fitR_symm h1
    cases hs : isRep (sumR b a fun _ => zerF) with
    | false =>
      have e : sumP b a = (noR, false) := by unfold sumP; rw [if_neg (by simp [hs])]
      rw [e] at hS ⊢
      rw [if_neg (by simp)]
      dsimp only at hS
      repeat' first | refine s1 ?_ | refine q1 ?_ | (refine kR ?_; first | refine F.c (hJ) ?_ | refine F.c (hS) ?_) | fail
      (refine kZ ?_; exact F.ret rfl)
    | true =>
      have e : sumP b a = (sumR b a fun _ => zerF, true) := by unfold sumP; rw [if_pos ⟨hfb, hs⟩]
      rw [e] at hS ⊢
      rw [if_pos ⟨rfl, rfl⟩]
      dsimp only at hS ⊢
      have hh := Fits.of h1
      obtain ⟨ra, rb⟩ := fitR_reps h1
      have h5 := okQ_spec hh.ok
      have hda := hh.da
      have hdb := hh.db
      have hba := hh.ba
      have hbb := hh.bb
      have hma := (isRep_spec ra).2.2.1
      have hqq := hh.q
      have hmb : b.m.length = a.m.length := by rw [hma, (isRep_spec rb).2.2.1, hh.q]
      have hfrl : b.q.fr.length = a.m.length := by rw [hma, hh.q]
      have hat := fun i hi => ext_at hc' (i := i) hi
      have hdl := sumDs_len b a
      have hl0 := sumMs_len b a fun _ => zerF
      have hl1 := sumMs_len b a (cocH c)
      have hmg := fun i hi => sumMs_get b a (cocH c) (i := i) hi
      have hmg0 := fun i hi => sumMs_get b a (fun _ => zerF) (i := i) hi
      have il := incE_len b a
      have pl := prjE_len b a
      have it := fun k hk => incE_take b a (k := k) hk
      have pt := fun k hk => prjE_take b a (k := k) hk
      unfold sumR at hS ⊢
      generalize sumDs b a = SD at hS hdl ⊢
      generalize sumMs b a (fun _ => zerF) = S0 at hS hl0 hmg0
      generalize sumMs b a (cocH c) = SM at hl1 hmg ⊢
      generalize incE b a = IL at il it ⊢
      generalize prjE b a = PL at pl pt ⊢
      have hll : SM.length = S0.length := by omega
      have mlen := mixL_len (x := SM) (y := S0) hll
      have mset := fun k hk => mixL_set (x := SM) (y := S0) hll (k := k) hk
      have mget := fun k hk => mixL_get (x := SM) (y := S0) hll (k := k) hk
      have m0 := mixL_zero SM S0
      have mall := mixL_all (x := SM) (y := S0) hll
      repeat' first | refine s1 ?_ | refine q1 ?_ | (refine kR ?_; first | refine F.c (hJ) ?_ | refine F.c (hS) ?_) | fail
      refine F.loop (σ := Nat) [12, 13, 14, 15, 38, 39, 40, 41, 42, 43, 44, 45, 46, 47, 48, 49, 50, 51, 52, 53, 54, 55, 56, 57, 58, 59, 60, 61, 62, 63, 64, 65, 66, 67, 68, 69, 70, 71, 72, 73, 74, 75, 76, 77, 78, 79, 80, 81, 82, 83, 84, 85, 86, 87, 88, 89, 90, 91, 92, 93, 94, 95, 96, 97, 98, 99, 100, 101, 102] (fun k => [(12, .i k)]) (fun k => [(6, .live false 3 (E true (mixL SM S0 k)))]) (fun k => k ≤ c.length) (fun k => c.length - k) 0 ⟨rfl, trivial⟩ ⟨obE (by rw [m0]), trivial⟩ (Nat.zero_le _) ?_
      rintro i i1
      have hli := mlen i
      by_cases hi : i < c.length
      · obtain ⟨a1, a2, a3, a4, a5, a6, a7⟩ := hat i (by omega)
        obtain ⟨_, x1, x2, _, _⟩ := isMat_spec a1
        obtain ⟨_, y1, y2, y3, _⟩ := isMat_spec a2
        obtain ⟨_, z1, z2, _, _⟩ := isMat_spec a3
        have hsm := mset i (by omega)
        rw [hmg i (by omega), show cocH c i = ent (c.getD i default) from rfl] at hsm
        have hgm := mget i (by omega)
        rw [hmg0 i (by omega)] at hgm
        have hcm : (c.getD i default).m = tab (b.m.getD i default).r.toNat (a.m.getD i default).c.toNat (ent (c.getD i default)) := by
          have e := isMat_tm a2
          rw [a4, a5] at e
          exact (congrArg Mat.m e).symm
        have ec1 : b.d.getD (b.q.fr.getD i default).toNat default = ((b.m.getD i default).c.toNat : Int) := by rw [← a6]; exact (Int.toNat_of_nonneg x2.1).symm
        have er1 : (c.getD i default).r = ((b.m.getD i default).r.toNat : Int) := by rw [a4]; exact (Int.toNat_of_nonneg x1.1).symm
        have ec2 : (c.getD i default).c = ((a.m.getD i default).c.toNat : Int) := by rw [a5]; exact (Int.toNat_of_nonneg z2.1).symm
        have b1 : (b.m.getD i default).r.toNat ≤ 8 := by omega
        have b2 : (b.m.getD i default).c.toNat ≤ 8 := by omega
        have b3 : (a.m.getD i default).r.toNat ≤ 8 := by omega
        have b4 : (a.m.getD i default).c.toNat ≤ 8 := by omega
        unfold blkM at hsm hgm
        generalize ent (b.m.getD i default) = fb at hsm hgm
        generalize ent (a.m.getD i default) = fa at hsm hgm
        generalize ent (c.getD i default) = fc at hsm hcm
        generalize (b.m.getD i default).r.toNat = r1 at *
        generalize (b.m.getD i default).c.toNat = c1 at *
        generalize (a.m.getD i default).r.toNat = r2 at *
        generalize (a.m.getD i default).c.toNat = c2 at *
        have w0 := wrF_zero r1 c1 fc (blkF r1 c1 fb zerF fa)
        have ws := fun x y (hx : x < r1) => wrF_set (c1 := c1) fc (blkF r1 c1 fb zerF fa) (y := y) hx
        have wn := wrF_next r1 c1 (r1 + r2) c2 fc (blkF r1 c1 fb zerF fa)
        have wa := wrF_all r1 c1 (r1 + r2) (c1 + c2) fb fa fc
        generalize mixL SM S0 i = X at hli hsm hgm ⊢
        have hbX : (E true X).length = S0.length := by rw [E_length, hli]
        generalize hBA : blkF r1 c1 fb zerF fa = BA at *
        generalize hBC : blkF r1 c1 fb fc fa = BC at *
        generalize wrF r1 c1 fc BA = WR at *
        generalize hRR : r1 + r2 = RR at *
        generalize hCC : c1 + c2 = CC at *
        have hiS : i < S0.length := by omega
        refine AW.takeE (α := Mat) (o := 6) (k := i) (j := 2) (ls := X) rfl (by omega) rfl (E_length _ _) ?_
        rw [hgm]
        repeat' first | refine s1 ?_ | refine q1 ?_ | (refine kR ?_; first | refine F.sil (A.idxT (k := i) rfl rfl rfl hbX rfl hiS) rfl rfl ?_ | refine F.sil (A.ldSG (k := i) rfl rfl hbX (Nat.zero_add i) (by omega) rfl rfl) rfl rfl ?_) | fail
        refine F.loop (σ := Nat) [14, 15, 49, 50, 51, 52, 53, 54, 55, 56, 57, 58, 59, 60, 61, 62, 63, 64, 65, 66, 67, 68, 69, 70, 71, 72, 73, 74, 75, 76, 77, 78, 79, 80, 81, 82, 83, 84, 85, 86, 87, 88, 89, 90, 91, 92, 93, 94, 95, 96, 97, 98, 99, 100, 101, 102] (fun x => [(14, .i x)]) (fun x => [(8, .live false 1 (E true (tab RR CC (WR x 0))))]) (fun x => x ≤ r1) (fun x => r1 - x) 0 ⟨rfl, trivial⟩ ⟨obE (by rw [w0]), trivial⟩ (Nat.zero_le _) ?_
        rintro x xb
        by_cases hx : x < r1
        · repeat' first | refine s1 ?_ | refine q1 ?_ | fail
          refine F.loop (σ := Nat) [15, 58, 59, 60, 61, 62, 63, 64, 65, 66, 67, 68, 69, 70, 71, 72, 73, 74, 75, 76, 77, 78, 79, 80, 81, 82, 83, 84, 85, 86, 87, 88, 89, 90, 91, 92, 93, 94, 95, 96, 97, 98, 99, 100, 101, 102] (fun y => [(15, .i y)]) (fun y => [(8, .live false 1 (E true (tab RR CC (WR x y))))]) (fun y => y ≤ c2) (fun y => c2 - y) 0 ⟨rfl, trivial⟩ ⟨rfl, trivial⟩ (Nat.zero_le _) ?_
          rintro y yb
          by_cases hy : y < c2
          · have hws := ws x y hx
            obtain ⟨u1, u2⟩ := tab_in (i := x) (j := c1 + y) (r := RR) (c := CC) (by omega) (by omega) (by omega) (by omega)
            obtain ⟨u3, u4⟩ := tab_in (i := x) (j := y) (r := r1) (c := c2) hx hy (by omega) (by omega)
            have hix : (x : Int) * (CC : Int) + b.d.getD (b.q.fr.getD i default).toNat default + (y : Int) = (x : Int) * (CC : Int) + ((c1 + y : Nat) : Int) := by rw [ec1]; push_cast; omega
            have hiy : (x : Int) * (c.getD i default).c + (y : Int) = (x : Int) * (c2 : Int) + (y : Int) := by rw [ec2]
            rw [← hix] at u2
            have u5 : In64 ((x : Int) * (CC : Int) + b.d.getD (b.q.fr.getD i default).toNat default) := by
              rw [hix] at u2
              rw [ec1]; unfold In64 at u1 u2 ⊢; omega
            rw [← ec2] at u3 u4
            generalize WR x y = G0 at hws ⊢
            repeat' first | refine s1 ?_ | refine q1 ?_ | fail
            refine AW.draw 36 G.mixed (by kernel_rfl) ?_
            refine dP 0 ?_
            first | refine dL 1 ?_ | refine dLQ 1 ?_
            refine dP 2 ?_
            refine dP 3 ?_
            first | refine dL 4 ?_ | refine dLQ 4 ?_
            refine dP 5 ?_
            refine dP 6 ?_
            first | refine dL 7 ?_ | refine dLQ 7 ?_
            refine dP 8 ?_
            refine dP 9 ?_
            first | refine dL 10 ?_ | refine dLQ 10 ?_
            refine dP 11 ?_
            first | refine dP 12 ?_ | refine dQ 12 ?_
            first | refine dL 13 ?_ | refine dLQ 13 ?_
            first | refine dP 14 ?_ | refine dQ 14 ?_
            first | refine dL 15 ?_ | refine dLQ 15 ?_
            refine dP 16 ?_
            refine dP 17 ?_
            refine dP 18 ?_
            refine dP 19 ?_
            refine dP 20 ?_
            first | refine dP 21 ?_ | refine dQ 21 ?_
            refine dP 22 ?_
            first | refine dL 23 ?_ | refine dLQ 23 ?_
            refine dP 24 ?_
            refine dP 25 ?_
            refine dP 26 ?_
            first | refine dP 27 ?_ | refine dQ 27 ?_
            refine dP 28 ?_
            first | refine dL 29 ?_ | refine dLQ 29 ?_
            refine dP 30 ?_
            refine dP 31 ?_
            refine dP 32 ?_
            first | refine dP 33 ?_ (hs := by exact (A.idxQD (r := r1) (c := c2) (i := x) (j := y) (f := fc) (congrArg (fun l => AV.dt false 1 (V.E false l)) hcm) (congrArg AV.i hiy) hx hy)) | refine dP 33 ?_ | refine dQ 33 ?_
            first | refine dL 34 ?_ | refine dLQ 34 ?_
            first | refine dP 35 ?_ (hs := by exact (A.idxQ (r := RR) (c := CC) (i := x) (j := c1 + y) rfl (congrArg AV.i hix) rfl (by omega) (by omega) (by first | rfl | (simp [tab_len]; done)) (by first | rfl | (simp [tab_len]; done)))) | refine dP 35 ?_ | refine dQ 35 ?_
            refine dO 36 false ?_
            first | refine s1 ?_ | refine q1 ?_
            refine ARg.nil (ATh.normal ?_)
            refine dN ?_
            rotate_left
            all_goals
              repeat' first | refine s1 ?_ | refine q1 ?_ | fail
              exact ⟨y + 1, F.fit ⟨rfl, trivial⟩ ⟨obE (by rw [← hws]), trivial⟩, by omega, by omega⟩
          · obtain rfl : y = c2 := by omega
            rw [wn x]
            repeat' first | refine s1 ?_ | refine q1 ?_ | fail
            exact ⟨x + 1, F.fit ⟨rfl, trivial⟩ ⟨rfl, trivial⟩, by omega, by omega⟩
        · obtain rfl : x = r1 := by omega
          rw [wa]
          refine AW.put (α := Mat) (o := 6) (o2 := 8) (k := i) (j := 2) (v := tm RR CC BC) (x := tm RR CC BA) (m := (tab RR CC BA).length) (ls := X) rfl rfl (by rw [E_length, tab_len, tab_len]) (E_pure _ _) rfl (by omega) rfl rfl ?_
          rw [hsm]
          repeat' first | refine s1 ?_ | refine q1 ?_ | fail
          exact ⟨i + 1, F.fit ⟨rfl, trivial⟩ ⟨rfl, trivial⟩, by omega, by omega⟩
      · obtain rfl : i = c.length := by omega
        have e : mixL SM S0 c.length = SM := by rw [show c.length = SM.length by omega]; exact mall
        rw [e]
        clear e hli
        repeat' first | refine s1 ?_ | refine q1 ?_ | fail
        refine AW.open 16 3 (.inr rfl) ?_
        refine AW.open 17 3 (.inr rfl) ?_
        refine F.loop (σ := Nat) [16, 17, 18, 105, 106, 107, 108, 109, 110, 111, 112, 113, 114, 115, 116, 117, 118, 119, 120, 121, 122, 123, 124, 125, 126, 127, 128, 129, 130, 131, 132, 133, 134, 135, 136, 137, 138, 139, 140, 141, 142, 143] (fun k => [(16, .sl 8 k 0 k), (17, .sl 9 k 0 k), (18, .i k)]) (fun k => [(8, .live false 3 (E true (IL.take k))), (9, .live false 3 (E true (PL.take k)))]) (fun k => k ≤ a.d.length) (fun k => a.d.length - k) 0 ⟨rfl, rfl, rfl, trivial⟩ ⟨rfl, rfl, trivial⟩ (Nat.zero_le _) ?_
        rintro v v1
        have hp3 : (IL.take v).length = v := by rw [List.length_take]; omega
        have hp4 : (PL.take v).length = v := by rw [List.length_take]; omega
        by_cases hv : v < a.d.length
        · have da := hba v hv
          have db := hbb v (by omega)
          have ti := it v hv
          have tp := pt v hv
          have ea := Int.toNat_of_nonneg da.1
          have eb := Int.toNat_of_nonneg db.1
          generalize (a.d.getD v default).toNat = na at ea ti tp
          generalize (b.d.getD v default).toNat = nb at eb ti tp
          have hI := l3Identity_a nb (by omega)
          have hIa := l3Identity_a na (by omega)
          have hZ : AC Try.prog 63 [.i (na : Int), .i 0] [.agg (enc true (tm na 0 (fun _ _ => 0)))] := l3ZeroT_a na 0 (by omega) (by omega)
          have hZ2 : AC Try.prog 63 [.i 0, .i (nb : Int)] [.agg (enc true (tm 0 nb (fun _ _ => 0)))] := l3ZeroT_a 0 nb (by omega) (by omega)
          have hBl := l3Block_a nb nb na 0 idF zerF (by omega) (by omega)
          rw [inc_blk, show tm na 0 zerF = tm na 0 (fun _ _ => 0) from rfl] at hBl
          have hBs := l3Block_a 0 nb na na zerF idF (by omega) (by omega)
          rw [prj_blk, show tm 0 nb zerF = tm 0 nb (fun _ _ => 0) from rfl] at hBs
          rw [eb] at hI hZ2
          rw [ea] at hIa hZ
          generalize tm (nb + na) nb idF = I1 at hBl ti
          generalize (tm na (nb + na) fun i j => idF (i + nb) j) = P1 at hBs tp
          generalize tm na 0 (fun _ _ => 0) = Z1 at hZ hBl
          generalize tm 0 nb (fun _ _ => 0) = Z2 at hZ2 hBs
          generalize tm nb nb idF = D1 at hI hBl
          generalize tm na na idF = D2 at hIa hBs
          repeat' first | refine s1 ?_ | refine q1 ?_ | fail
          refine AW.draw 15 G.mixed (by kernel_rfl) ?_
          refine dP 0 ?_
          refine dP 1 ?_
          first | refine dL 2 ?_ | refine dLQ 2 ?_
          refine dP 3 ?_
          first | refine dP 4 ?_ | refine dQ 4 ?_
          first | refine dL 5 ?_ | refine dLQ 5 ?_
          refine dP 7 ?_
          first | refine dL 8 ?_ | refine dLQ 8 ?_
          refine dP 9 ?_
          first | refine dP 10 ?_ | refine dQ 10 ?_
          first | refine dL 11 ?_ | refine dLQ 11 ?_
          refine dO 6 true ?_
          first | refine s1 ?_ | refine F.c (hI) ?_
          refine ARg.nil (ATh.normal ?_)
          refine dO 12 true ?_
          first | refine s1 ?_ | refine F.c (hZ) ?_
          refine ARg.nil (ATh.normal ?_)
          refine dO 13 true ?_
          first | refine s1 ?_ | refine F.c (hBl) ?_
          refine ARg.nil (ATh.normal ?_)
          refine dO 14 true ?_
          refine s1 ?_
          refine ARg.nil (ATh.normal ?_)
          refine dO 15 false ?_
          first | refine s1 ?_ | refine F.a1 Mat (a := I1) ?_
          refine ARg.nil (ATh.normal ?_)
          refine dP 16 ?_
          refine dN ?_
          rotate_left
          all_goals
            repeat' first | refine s1 ?_ | refine q1 ?_ | fail
            refine AW.draw 15 G.mixed (by kernel_rfl) ?_
            refine dP 0 ?_
            refine dP 1 ?_
            first | refine dL 2 ?_ | refine dLQ 2 ?_
            refine dP 3 ?_
            first | refine dP 4 ?_ | refine dQ 4 ?_
            first | refine dL 5 ?_ | refine dLQ 5 ?_
            refine dP 7 ?_
            first | refine dL 8 ?_ | refine dLQ 8 ?_
            refine dP 9 ?_
            first | refine dP 10 ?_ | refine dQ 10 ?_
            first | refine dL 11 ?_ | refine dLQ 11 ?_
            refine dO 6 true ?_
            first | refine s1 ?_ | refine F.c (hZ2) ?_
            refine ARg.nil (ATh.normal ?_)
            refine dO 12 true ?_
            first | refine s1 ?_ | refine F.c (hIa) ?_
            refine ARg.nil (ATh.normal ?_)
            refine dO 13 true ?_
            first | refine s1 ?_ | refine F.c (hBs) ?_
            refine ARg.nil (ATh.normal ?_)
            refine dO 14 true ?_
            refine s1 ?_
            refine ARg.nil (ATh.normal ?_)
            refine dO 15 false ?_
            first | refine s1 ?_ | refine F.a1 Mat (a := P1) ?_
            refine ARg.nil (ATh.normal ?_)
            refine dP 16 ?_
            refine dN ?_
            rotate_left
            all_goals
              repeat' first | refine s1 ?_ | refine q1 ?_ | fail
              exact ⟨v + 1, F.fit ⟨rfl, rfl, rfl, trivial⟩ ⟨obE (by rw [ti]), obE (by rw [tp]), trivial⟩, by omega, by omega⟩
        · obtain rfl : v = a.d.length := by omega
          have e1 : IL.take a.d.length = IL := List.take_of_length_le (by omega)
          have e2 : PL.take a.d.length = PL := List.take_of_length_le (by omega)
          rw [e1, e2]
          clear hp3 hp4 e1 e2
          repeat' first | refine s1 ?_ | refine q1 ?_ | fail
          (refine kZ ?_; exact F.ret rfl)
theorem extP_ct (a b : Rep) (c : List Mat) : ctR (extP a b c).1 + cnt ctM (extP a b c).2.1 + cnt ctM (extP a b c).2.2.1 ≤ 4000 := by
  unfold extP
  by_cases h : isCoc a b c = true ∧ (sumP b a).2 = true
  · rw [if_pos h]
    obtain ⟨h1, h2, h3⟩ := isCoc_spec h.1
    have hh := Fits.of h1
    obtain ⟨ra, rb⟩ := fitR_reps h1
    have h5 := okQ_spec hh.ok
    have hda := hh.da
    have hdb := hh.db
    have hba := hh.ba
    have hbb := hh.bb
    have hma := (isRep_spec ra).2.2.1
    have hq := hh.q
    have hmb : b.m.length = a.m.length := by rw [hma, (isRep_spec rb).2.2.1, hh.q]
    have hA : cnt ctM (sumMs b a (cocH c)) ≤ (sumMs b a (cocH c)).length * 258 := cnt_bd fun x hx => by
      simp only [sumMs, List.mem_map] at hx
      obtain ⟨i, hi, rfl⟩ := hx
      have hi : i < b.m.length := by rw [List.mem_range] at hi; exact hi
      obtain ⟨a1, a2, a3, a4, a5, a6, a7⟩ := ext_at h.1 (i := i) (by omega)
      obtain ⟨_, x1, x2, _, _⟩ := isMat_spec a1
      obtain ⟨_, z1, z2, _, _⟩ := isMat_spec a3
      have := Nat.mul_le_mul (show (b.m.getD i default).r.toNat + (a.m.getD i default).r.toNat ≤ 16 by omega) (show (b.m.getD i default).c.toNat + (a.m.getD i default).c.toNat ≤ 16 by omega)
      simp only [ctM, blkM, tm, tab_len]
      omega
    have hI : cnt ctM (incE b a) ≤ (incE b a).length * 66 := cnt_bd fun x hx => by
      simp only [incE, List.mem_map] at hx
      obtain ⟨v, hv, rfl⟩ := hx
      have hv : v < a.d.length := by rw [List.mem_range] at hv; exact hv
      have da := hba v hv
      have db := hbb v (by omega)
      have := Nat.mul_le_mul (show (b.d.getD v default).toNat + (a.d.getD v default).toNat ≤ 8 by omega) (show (b.d.getD v default).toNat ≤ 8 by omega)
      simp only [ctM, tm, tab_len]
      omega
    have hP : cnt ctM (prjE b a) ≤ (prjE b a).length * 66 := cnt_bd fun x hx => by
      simp only [prjE, List.mem_map] at hx
      obtain ⟨v, hv, rfl⟩ := hx
      have hv : v < a.d.length := by rw [List.mem_range] at hv; exact hv
      have da := hba v hv
      have db := hbb v (by omega)
      have := Nat.mul_le_mul (show (a.d.getD v default).toNat ≤ 8 by omega) (show (b.d.getD v default).toNat + (a.d.getD v default).toNat ≤ 8 by omega)
      simp only [ctM, tm, tab_len]
      omega
    have e1 := sumMs_len b a (cocH c)
    have e2 := incE_len b a
    have e3 := prjE_len b a
    have e4 := sumDs_len b a
    have e5 : b.q.fr.length = a.q.fr.length := by rw [hq]
    have e6 : b.q.to.length = a.q.to.length := by rw [hq]
    show totQ b.q + (sumDs b a).length + cnt ctM (sumMs b a (cocH c)) + cnt ctM (incE b a) + cnt ctM (prjE b a) ≤ 4000
    unfold totQ
    omega
  · rw [if_neg h]; simp [cnt, ctR, totQ, noR]
end Go.Proofs.Ytanembgijdkagaa.V
