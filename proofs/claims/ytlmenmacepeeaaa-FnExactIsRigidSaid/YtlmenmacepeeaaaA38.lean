/- Contracts: the program's lists of cells, matrices from columns, and the matrix of the coboundaries. -/
import Derived.Test.YtlmenmacepeeaaaA31
import Derived.Test.YtlmenmacepeeaaaA33
import Derived.Test.YtlmenmacepeeaaaA23
namespace Go.Proofs.Ytlmenmacepeeaaa.V
open V.Enc (enc)
open Go.RowKit G D
set_option linter.unusedVariables false
set_option linter.unusedSimpArgs false
set_option maxHeartbeats 4000000
set_option maxRecDepth 4000
attribute [local irreducible] AW ARg ARA ARet MRet ASil AC AM

theorem flat_a (f : List Mat) (hb : (catM f).length ≤ 1048576) : AC Try.prog 112 [ar false f] [.dt true 1 (E true (catM f))] := by
  refine AC.go Try.func112 Try.ntmps112 rfl rfl fun w0 hw => ?_; simp [WfL, WfA, E_length, Enc.enc, In64] at hw
  repeat' first | refine s1 ?_ | (refine kR ?_; first | refine F.sil (A.idxQ rfl rfl rfl (by omega) (by omega) (by first | rfl | (simp [tab_len]; done)) (by first | rfl | (simp [tab_len]; done))) rfl rfl ?_ | refine F.sil (A.ldQ rfl rfl (by omega) (by omega) (by first | rfl | (simp [tab_len]; done))) rfl rfl ?_ | refine F.sil (A.idxQD rfl rfl (by omega) (by omega)) rfl rfl ?_ | refine F.sil (A.idxRD rfl rfl (by omega)) rfl rfl ?_ | refine F.stQ rfl rfl rfl (by omega) (by omega) (by first | rfl | (simp [tab_len]; done)) rfl rfl rfl ?_) | fail
  refine AW.open 3 1 (.inl rfl) ?_
  refine F.loop (σ := Nat) [3, 5, 8, 9, 10, 11, 12, 13, 14, 15, 16] (fun k => [(3, .sl 0 (catM (f.take k)).length 0 (catM (f.take k)).length), (8, .i k)]) (fun k => [(0, .live false 1 (E true (catM (f.take k))))]) (fun k => k ≤ f.length) (fun k => f.length - k) 0 ⟨rfl, rfl, trivial⟩ ⟨rfl, trivial⟩ (Nat.zero_le _) ?_
  rintro k h1
  by_cases hlt : k < f.length
  · have hs := catM_take hlt
    have hl := catM_take_le f (k + 1)
    rw [hs, List.length_append] at hl
    generalize catM (f.take k) = L at hs hl ⊢
    have hl' : L.length + (f.getD (0 + k) default).m.length ≤ 1048576 := by rw [Nat.zero_add]; omega
    repeat' first | refine s1 ?_ | (refine kR ?_; first | refine F.aL Int (oo := true) ?_ | refine F.sil (A.idxQ rfl rfl rfl (by omega) (by omega) (by first | rfl | (simp [tab_len]; done)) (by first | rfl | (simp [tab_len]; done))) rfl rfl ?_ | refine F.sil (A.ldQ rfl rfl (by omega) (by omega) (by first | rfl | (simp [tab_len]; done))) rfl rfl ?_ | refine F.sil (A.idxQD rfl rfl (by omega) (by omega)) rfl rfl ?_ | refine F.sil (A.idxRD rfl rfl (by omega)) rfl rfl ?_ | refine F.stQ rfl rfl rfl (by omega) (by omega) (by first | rfl | (simp [tab_len]; done)) rfl rfl rfl ?_) | fail
    exact ⟨k + 1, F.fit ⟨slE (by rw [hs, List.length_append]), rfl, trivial⟩ ⟨obE (by rw [hs]), trivial⟩, by omega, by omega⟩
  · obtain rfl : k = f.length := by omega
    rw [List.take_length]
    repeat' first | refine s1 ?_ | (refine kR ?_; first | refine F.sil (A.idxQ rfl rfl rfl (by omega) (by omega) (by first | rfl | (simp [tab_len]; done)) (by first | rfl | (simp [tab_len]; done))) rfl rfl ?_ | refine F.sil (A.ldQ rfl rfl (by omega) (by omega) (by first | rfl | (simp [tab_len]; done))) rfl rfl ?_ | refine F.sil (A.idxQD rfl rfl (by omega) (by omega)) rfl rfl ?_ | refine F.sil (A.idxRD rfl rfl (by omega)) rfl rfl ?_ | refine F.stQ rfl rfl rfl (by omega) (by omega) (by first | rfl | (simp [tab_len]; done)) rfl rfl rfl ?_) | fail
    (refine kZ ?_; exact F.ret rfl)
/-- matrices of zeros by the vertices -/
def zerL (a b : Rep) : List Mat := (List.range a.d.length).map fun v => zeroM (b.d.getD v default) (a.d.getD v default)
theorem zerL_len (a b : Rep) : (zerL a b).length = a.d.length := by simp [zerL]
theorem zerL_take {a b : Rep} {k : Nat} (h : k < a.d.length) : (zerL a b).take (k + 1) = (zerL a b).take k ++ [zeroM (b.d.getD k default) (a.d.getD k default)] := by
  simp only [zerL, ← List.map_take, range_take h, List.map_append, List.map_cons, List.map_nil]
theorem zeros_a (a b : Rep) (h : Fits a b) : AC Try.prog 175 [.agg (enc false a), .agg (enc false b)] [.dt true 3 (E true (zerL a b))] := by
  refine AC.go Try.func175 Try.ntmps175 rfl rfl fun w0 hw => ?_; simp [WfL, WfA, E_length, Enc.enc, In64] at hw
  have h5 := okQ_spec h.ok
  have hda := h.da
  have hdb := h.db
  repeat' first | refine s1 ?_ | (refine kR ?_; first | refine F.sil (A.idxQ rfl rfl rfl (by omega) (by omega) (by first | rfl | (simp [tab_len]; done)) (by first | rfl | (simp [tab_len]; done))) rfl rfl ?_ | refine F.sil (A.ldQ rfl rfl (by omega) (by omega) (by first | rfl | (simp [tab_len]; done))) rfl rfl ?_ | refine F.sil (A.idxQD rfl rfl (by omega) (by omega)) rfl rfl ?_ | refine F.sil (A.idxRD rfl rfl (by omega)) rfl rfl ?_ | refine F.stQ rfl rfl rfl (by omega) (by omega) (by first | rfl | (simp [tab_len]; done)) rfl rfl rfl ?_) | fail
  refine AW.open 5 3 (.inl rfl) ?_
  refine F.loop (σ := Nat) [5, 6, 7, 11, 12, 13, 14, 15, 16, 17, 18, 19, 20, 21, 22, 23, 24, 25, 26] (fun k => [(5, .sl 2 k 0 k), (11, .i k)]) (fun k => [(2, .live false 3 (E true ((zerL a b).take k)))]) (fun k => k ≤ a.d.length) (fun k => a.d.length - k) 0 ⟨rfl, rfl, trivial⟩ ⟨rfl, trivial⟩ (Nat.zero_le _) ?_
  rintro k h1
  have hzl := zerL_len a b
  have hp : ((zerL a b).take k).length = k := by rw [List.length_take]; omega
  by_cases hlt : k < a.d.length
  · have df := h.ba k hlt
    have dt := h.bb k (by omega)
    have hZ := zero_a _ _ ⟨dt.1, by omega⟩ ⟨df.1, by omega⟩
    repeat' first | refine s1 ?_ | (refine kR ?_; first | refine F.c (hZ) ?_ | refine F.a1 Mat ?_ | refine F.sil (A.idxQ rfl rfl rfl (by omega) (by omega) (by first | rfl | (simp [tab_len]; done)) (by first | rfl | (simp [tab_len]; done))) rfl rfl ?_ | refine F.sil (A.ldQ rfl rfl (by omega) (by omega) (by first | rfl | (simp [tab_len]; done))) rfl rfl ?_ | refine F.sil (A.idxQD rfl rfl (by omega) (by omega)) rfl rfl ?_ | refine F.sil (A.idxRD rfl rfl (by omega)) rfl rfl ?_ | refine F.stQ rfl rfl rfl (by omega) (by omega) (by first | rfl | (simp [tab_len]; done)) rfl rfl rfl ?_) | fail
    exact ⟨k + 1, F.fit ⟨rfl, rfl, trivial⟩ ⟨obE (by rw [zerL_take hlt]), trivial⟩, by omega, by omega⟩
  · obtain rfl : k = a.d.length := by omega
    rw [← hzl, List.take_length]
    repeat' first | refine s1 ?_ | (refine kR ?_; first | refine F.sil (A.idxQ rfl rfl rfl (by omega) (by omega) (by first | rfl | (simp [tab_len]; done)) (by first | rfl | (simp [tab_len]; done))) rfl rfl ?_ | refine F.sil (A.ldQ rfl rfl (by omega) (by omega) (by first | rfl | (simp [tab_len]; done))) rfl rfl ?_ | refine F.sil (A.idxQD rfl rfl (by omega) (by omega)) rfl rfl ?_ | refine F.sil (A.idxRD rfl rfl (by omega)) rfl rfl ?_ | refine F.stQ rfl rfl rfl (by omega) (by omega) (by first | rfl | (simp [tab_len]; done)) rfl rfl rfl ?_) | fail
    (refine kZ ?_; exact F.ret rfl)
/-- cells cut into matrices of the sizes of others -/
def shpL : List Mat → List Int → List Mat
  | [], _ => []
  | m :: l, x => ⟨m.r, m.c, x.take m.m.length⟩ :: shpL l (x.drop m.m.length)
theorem shpL_len : ∀ (l : List Mat) (x : List Int), (shpL l x).length = l.length
  | [], _ => rfl
  | m :: l, x => by simp [shpL, shpL_len l]
theorem shpL_snoc (m : Mat) : ∀ (l : List Mat) (x : List Int), shpL (l ++ [m]) x = shpL l x ++ [⟨m.r, m.c, (x.drop (catM l).length).take m.m.length⟩]
  | [], x => by simp [shpL, catM]
  | n :: l, x => by
    have e : catM (n :: l) = n.m ++ catM l := by simp [catM]
    simp only [List.cons_append, shpL]
    rw [shpL_snoc m l, e, List.length_append, List.drop_drop]
theorem shpL_take (l : List Mat) (x : List Int) {k : Nat} (h : k < l.length) : shpL (l.take (k + 1)) x = shpL (l.take k) x ++ [⟨(l.getD k default).r, (l.getD k default).c, (x.drop (catM (l.take k)).length).take (l.getD k default).m.length⟩] := by
  rw [← shpL_snoc, List.take_add_one]
  congr 2
  simp [h]
/-- every matrix of such sizes -/
theorem shaped_a (l : List Mat) (x : List Int) (hll : l.length ≤ 1000000) (hx : (catM l).length ≤ x.length) (hb : x.length ≤ 1048576) : AC Try.prog 138 [ar false l, ar false x] [.dt true 3 (E true (shpL l x))] := by
  refine AC.go Try.func138 Try.ntmps138 rfl rfl fun w0 hw => ?_; simp [WfL, WfA, E_length, Enc.enc, In64] at hw
  repeat' first | refine s1 ?_ | (refine kR ?_; first | refine F.sil (A.idxQ rfl rfl rfl (by omega) (by omega) (by first | rfl | (simp [tab_len]; done)) (by first | rfl | (simp [tab_len]; done))) rfl rfl ?_ | refine F.sil (A.ldQ rfl rfl (by omega) (by omega) (by first | rfl | (simp [tab_len]; done))) rfl rfl ?_ | refine F.sil (A.idxQD rfl rfl (by omega) (by omega)) rfl rfl ?_ | refine F.sil (A.idxRD rfl rfl (by omega)) rfl rfl ?_ | refine F.stQ rfl rfl rfl (by omega) (by omega) (by first | rfl | (simp [tab_len]; done)) rfl rfl rfl ?_) | fail
  refine AW.open 5 3 (.inl rfl) ?_
  refine F.loop (σ := Nat) [1, 5, 7, 8, 11, 12, 13, 14, 15, 16, 17, 18, 19, 20, 21, 22, 23, 24, 25, 26, 27, 28, 29, 30, 31, 32, 33] (fun k => [(1, ar false (x.drop (catM (l.take k)).length)), (5, .sl 0 k 0 k), (11, .i k)]) (fun k => [(0, .live false 3 (E true (shpL (l.take k) x)))]) (fun k => k ≤ l.length) (fun k => l.length - k) 0 ⟨rfl, rfl, rfl, trivial⟩ ⟨rfl, trivial⟩ (Nat.zero_le _) ?_
  rintro k h1
  have hp : (shpL (l.take k) x).length = k := by rw [shpL_len, List.length_take]; omega
  by_cases hlt : k < l.length
  · have hts := shpL_take l x hlt
    have hs := catM_take hlt
    have hl := catM_take_le l (k + 1)
    have hn : (catM (l.take (k + 1))).length = (catM (l.take k)).length + (l.getD k default).m.length := by rw [hs, List.length_append]
    have hd : x.drop (catM (l.take (k + 1))).length = (x.drop (catM (l.take k)).length).drop (l.getD k default).m.length := by rw [hn, List.drop_drop]
    have hyl : (l.getD k default).m.length ≤ (x.drop (catM (l.take k)).length).length := by rw [List.length_drop]; omega
    have hyb : (x.drop (catM (l.take k)).length).length ≤ 1048576 := by rw [List.length_drop]; omega
    generalize x.drop (catM (l.take k)).length = y at hts hd hyl hyb ⊢
    generalize shpL (l.take k) x = L at hts hp ⊢
    have hC := clone_a (y.take (l.getD k default).m.length) (by rw [List.length_take]; omega)
    repeat' first | refine s1 ?_ | (refine kR ?_; first | refine F.sil (A.idxQ rfl rfl rfl (by omega) (by omega) (by first | rfl | (simp [tab_len]; done)) (by first | rfl | (simp [tab_len]; done))) rfl rfl ?_ | refine F.sil (A.ldQ rfl rfl (by omega) (by omega) (by first | rfl | (simp [tab_len]; done))) rfl rfl ?_ | refine F.sil (A.idxQD rfl rfl (by omega) (by omega)) rfl rfl ?_ | refine F.sil (A.idxRD rfl rfl (by omega)) rfl rfl ?_ | refine F.stQ rfl rfl rfl (by omega) (by omega) (by first | rfl | (simp [tab_len]; done)) rfl rfl rfl ?_) | fail
    refine AW.draw 11 G.mixed (by kernel_rfl) ?_
    refine dP 0 ?_
    refine dP 1 ?_
    first | refine dL 2 ?_ | refine dL 2 ?_ (hs := by exact (A.ldQ rfl rfl (by omega) (by omega) (by first | rfl | (simp [tab_len]; done))))
    refine dP 3 ?_
    first | refine dL 4 ?_ | refine dL 4 ?_ (hs := by exact (A.ldQ rfl rfl (by omega) (by omega) (by first | rfl | (simp [tab_len]; done))))
    refine dP 5 ?_
    refine dP 6 ?_
    first | refine dP 7 ?_ | refine dP 7 ?_ (hs := by exact (A.slcD (α := Int) (lo := 0) (hi' := (l.getD k default).m.length) rfl rfl rfl (by omega) (by omega)))
    refine dO 8 true ?_
    first | refine s1 ?_ | refine F.c (hC) ?_
    refine ARg.nil (ATh.normal ?_)
    refine dP 9 ?_
    refine dO 10 true ?_
    refine s1 ?_
    refine ARg.nil (ATh.normal ?_)
    refine dO 11 false ?_
    first | refine s1 ?_ | refine F.a1 Mat (a := ⟨(l.getD k default).r, (l.getD k default).c, y.take (l.getD k default).m.length⟩) ?_
    refine ARg.nil (ATh.normal ?_)
    refine dP 12 ?_
    refine dN ?_
    repeat' first | refine s1 ?_ | (refine kR ?_; first | refine F.sil (A.slcD (α := Int) (lo := (l.getD k default).m.length) (hi' := y.length) rfl rfl rfl (by omega) (by omega)) rfl rfl ?_ | refine F.sil (A.idxQ rfl rfl rfl (by omega) (by omega) (by first | rfl | (simp [tab_len]; done)) (by first | rfl | (simp [tab_len]; done))) rfl rfl ?_ | refine F.sil (A.ldQ rfl rfl (by omega) (by omega) (by first | rfl | (simp [tab_len]; done))) rfl rfl ?_ | refine F.sil (A.idxQD rfl rfl (by omega) (by omega)) rfl rfl ?_ | refine F.sil (A.idxRD rfl rfl (by omega)) rfl rfl ?_ | refine F.stQ rfl rfl rfl (by omega) (by omega) (by first | rfl | (simp [tab_len]; done)) rfl rfl rfl ?_) | fail
    exact ⟨k + 1, F.fit ⟨by rw [hd, List.take_length]; rfl, rfl, rfl, trivial⟩ ⟨obE (by rw [hts]), trivial⟩, by omega, by omega⟩
  · obtain rfl : k = l.length := by omega
    rw [List.take_length]
    rw [← shpL_len l x]
    repeat' first | refine s1 ?_ | (refine kR ?_; first | refine F.sil (A.idxQ rfl rfl rfl (by omega) (by omega) (by first | rfl | (simp [tab_len]; done)) (by first | rfl | (simp [tab_len]; done))) rfl rfl ?_ | refine F.sil (A.ldQ rfl rfl (by omega) (by omega) (by first | rfl | (simp [tab_len]; done))) rfl rfl ?_ | refine F.sil (A.idxQD rfl rfl (by omega) (by omega)) rfl rfl ?_ | refine F.sil (A.idxRD rfl rfl (by omega)) rfl rfl ?_ | refine F.stQ rfl rfl rfl (by omega) (by omega) (by first | rfl | (simp [tab_len]; done)) rfl rfl rfl ?_) | fail
    (refine kZ ?_; exact F.ret rfl)
/-! ### matrices from columns -/
/-- the columns before k are set, and of column k the first n numbers -/
def fcK (cs : List (List Int)) (k n : Nat) : Nat → Nat → Int := fun i j => if j < k ∨ (j = k ∧ i < n) then (cs.getD j default).getD i default else 0
def fcF (cs : List (List Int)) : Nat → Nat → Int := fun i j => (cs.getD j default).getD i default
theorem fcK_zero (cs : List (List Int)) : fcK cs 0 0 = fun _ _ => 0 := by funext i j; simp [fcK]
theorem fcK_set (cs : List (List Int)) (k n : Nat) : updF (fcK cs k n) n k ((cs.getD k default).getD n default) = fcK cs k (n + 1) := by
  funext i j
  simp only [fcK, updF]
  by_cases h1 : j = k
  · subst h1
    by_cases h2 : i = n
    · subst h2; simp
    · have : i < n + 1 ↔ i < n := by omega
      simp [h2, this]
  · simp [h1]
theorem fcK_next (cs : List (List Int)) (k r c : Nat) : tab r c (fcK cs k r) = tab r c (fcK cs (k + 1) 0) := tab_ext fun i hi j hj => by
  have e : (j < k ∨ j = k ∧ i < r) ↔ (j < k + 1 ∨ j = k + 1 ∧ i < 0) := by omega
  simp only [fcK, e]
theorem fcK_all (cs : List (List Int)) (r : Nat) : tab r cs.length (fcK cs cs.length 0) = tab r cs.length (fcF cs) := tab_ext fun i hi j hj => by simp [fcK, fcF, hj]
theorem fromColumns_a (r : Nat) (cs : List (List Int)) (hr : r ≤ 1024) (hc : cs.length ≤ 1024) (hl : ∀ k, k < cs.length → (cs.getD k default).length = r) : AC Try.prog 135 [.i (r : Int), ar false cs] [.agg (enc true (tm r cs.length (fcF cs)))] := by
  refine AC.go Try.func135 Try.ntmps135 rfl rfl fun w0 hw => ?_; simp [WfL, WfA, E_length, Enc.enc, In64] at hw
  have hZ := zeroT_a r cs.length hr hc
  repeat' first | refine s1 ?_ | (refine kR ?_; first | refine F.c (hZ) ?_ | refine F.sil (A.idxQ rfl rfl rfl (by omega) (by omega) (by first | rfl | (simp [tab_len]; done)) (by first | rfl | (simp [tab_len]; done))) rfl rfl ?_ | refine F.sil (A.ldQ rfl rfl (by omega) (by omega) (by first | rfl | (simp [tab_len]; done))) rfl rfl ?_ | refine F.sil (A.idxQD rfl rfl (by omega) (by omega)) rfl rfl ?_ | refine F.sil (A.idxRD rfl rfl (by omega)) rfl rfl ?_ | refine F.stQ rfl rfl rfl (by omega) (by omega) (by first | rfl | (simp [tab_len]; done)) rfl rfl rfl ?_) | fail
  refine F.loop (σ := Nat) [6, 7, 8, 9, 16, 17, 18, 19, 20, 21, 22, 23, 24, 25, 26, 27, 28, 29, 30, 31, 32, 33, 34, 35, 36, 37, 38, 39] (fun k => [(16, .i k)]) (fun k => [(1, .live false 1 (E true (tab r cs.length (fcK cs k 0))))]) (fun k => k ≤ cs.length) (fun k => cs.length - k) 0 ⟨rfl, trivial⟩ ⟨obE (by rw [fcK_zero]), trivial⟩ (Nat.zero_le _) ?_
  rintro k k1
  by_cases hk : k < cs.length
  · have hlk : (cs.getD (0 + k) default).length = r := by rw [Nat.zero_add]; exact hl k hk
    have hlk' := hl k hk
    repeat' first | refine s1 ?_ | (refine kR ?_; first | refine F.sil (A.idxQ rfl rfl rfl (by omega) (by omega) (by first | rfl | (simp [tab_len]; done)) (by first | rfl | (simp [tab_len]; done))) rfl rfl ?_ | refine F.sil (A.ldQ rfl rfl (by omega) (by omega) (by first | rfl | (simp [tab_len]; done))) rfl rfl ?_ | refine F.sil (A.idxQD rfl rfl (by omega) (by omega)) rfl rfl ?_ | refine F.sil (A.idxRD rfl rfl (by omega)) rfl rfl ?_ | refine F.stQ rfl rfl rfl (by omega) (by omega) (by first | rfl | (simp [tab_len]; done)) rfl rfl rfl ?_) | fail
    refine F.loop (σ := Nat) [8, 9, 23, 24, 25, 26, 27, 28, 29, 30, 31, 32, 33, 34, 35, 36, 37, 38] (fun i => [(23, .i i)]) (fun i => [(1, .live false 1 (E true (tab r cs.length (fcK cs k i))))]) (fun i => i ≤ r) (fun i => r - i) 0 ⟨rfl, trivial⟩ ⟨rfl, trivial⟩ (Nat.zero_le _) ?_
    rintro i i1
    by_cases hi : i < r
    · obtain ⟨t1, t2⟩ := tab_in (i := i) (j := k) (r := r) (c := cs.length) hi hk hr hc
      repeat' first | refine s1 ?_ | (refine kR ?_; first | refine F.sil (A.idxQ rfl rfl rfl (by omega) (by omega) (by first | rfl | (simp [tab_len]; done)) (by first | rfl | (simp [tab_len]; done))) rfl rfl ?_ | refine F.sil (A.ldQ rfl rfl (by omega) (by omega) (by first | rfl | (simp [tab_len]; done))) rfl rfl ?_ | refine F.sil (A.idxQD rfl rfl (by omega) (by omega)) rfl rfl ?_ | refine F.sil (A.idxRD rfl rfl (by omega)) rfl rfl ?_ | refine F.stQ rfl rfl rfl (by omega) (by omega) (by first | rfl | (simp [tab_len]; done)) rfl rfl rfl ?_) | fail
      exact ⟨i + 1, F.fit ⟨rfl, trivial⟩ ⟨obE (by rw [← fcK_set]), trivial⟩, by omega, by omega⟩
    · obtain rfl : i = r := by omega
      repeat' first | refine s1 ?_ | (refine kR ?_; first | refine F.sil (A.idxQ rfl rfl rfl (by omega) (by omega) (by first | rfl | (simp [tab_len]; done)) (by first | rfl | (simp [tab_len]; done))) rfl rfl ?_ | refine F.sil (A.ldQ rfl rfl (by omega) (by omega) (by first | rfl | (simp [tab_len]; done))) rfl rfl ?_ | refine F.sil (A.idxQD rfl rfl (by omega) (by omega)) rfl rfl ?_ | refine F.sil (A.idxRD rfl rfl (by omega)) rfl rfl ?_ | refine F.stQ rfl rfl rfl (by omega) (by omega) (by first | rfl | (simp [tab_len]; done)) rfl rfl rfl ?_) | fail
      exact ⟨k + 1, F.fit ⟨rfl, trivial⟩ ⟨obE (by rw [fcK_next]), trivial⟩, by omega, by omega⟩
  · obtain rfl : k = cs.length := by omega
    rw [fcK_all]
    repeat' first | refine s1 ?_ | (refine kR ?_; first | refine F.sil (A.idxQ rfl rfl rfl (by omega) (by omega) (by first | rfl | (simp [tab_len]; done)) (by first | rfl | (simp [tab_len]; done))) rfl rfl ?_ | refine F.sil (A.ldQ rfl rfl (by omega) (by omega) (by first | rfl | (simp [tab_len]; done))) rfl rfl ?_ | refine F.sil (A.idxQD rfl rfl (by omega) (by omega)) rfl rfl ?_ | refine F.sil (A.idxRD rfl rfl (by omega)) rfl rfl ?_ | refine F.stQ rfl rfl rfl (by omega) (by omega) (by first | rfl | (simp [tab_len]; done)) rfl rfl rfl ?_) | fail
    (refine kZ ?_; exact F.ret rfl)
end Go.Proofs.Ytlmenmacepeeaaa.V
