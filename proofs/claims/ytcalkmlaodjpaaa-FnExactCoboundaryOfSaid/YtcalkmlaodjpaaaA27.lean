/- Contracts: the places of the cells of matrices in one list, lists of all cells, cut into matrices again. -/
import Derived.Test.YtcalkmlaodjpaaaA13
import Derived.Test.YtcalkmlaodjpaaaUd
namespace Go.Proofs.Ytcalkmlaodjpaaa.V
open V.Enc (enc)
open Go.RowKit G D
set_option linter.unusedVariables false
set_option linter.unusedSimpArgs false
set_option maxHeartbeats 400000
set_option maxRecDepth 4000
attribute [local irreducible] AW ARg ARA ARet MRet ASil AC AM

/-- cells of the first n vertices -/
def szT (a b : Rep) : Nat → Nat
  | 0 => 0
  | n + 1 => szT a b n + (a.d.getD n default).toNat * (b.d.getD n default).toNat
/-- cells of the first n arrows -/
def szA (a b : Rep) : Nat → Nat
  | 0 => 0
  | n + 1 => szA a b n + (b.d.getD (a.q.to.getD n default).toNat default).toNat * (a.d.getD (a.q.fr.getD n default).toNat default).toNat
theorem szT_mono (a b : Rep) {m n : Nat} (h : m ≤ n) : szT a b m ≤ szT a b n := by
  induction h with
  | refl => exact Nat.le_refl _
  | step _ ih => exact Nat.le_trans ih (Nat.le_add_right _ _)
theorem szA_mono (a b : Rep) {m n : Nat} (h : m ≤ n) : szA a b m ≤ szA a b n := by
  induction h with
  | refl => exact Nat.le_refl _
  | step _ ih => exact Nat.le_trans ih (Nat.le_add_right _ _)
theorem mul44 {x y : Int} (hx : 0 ≤ x ∧ x ≤ 4) (hy : 0 ≤ y ∧ y ≤ 4) : x * y = ((x.toNat * y.toNat : Nat) : Int) ∧ x.toNat * y.toNat ≤ 16 := by
  refine ⟨?_, ?_⟩
  · rw [Int.natCast_mul, Int.toNat_of_nonneg hx.1, Int.toNat_of_nonneg hy.1]
  · exact Nat.mul_le_mul (by omega : x.toNat ≤ 4) (by omega : y.toNat ≤ 4)
theorem szT_le {a b : Rep} (h : Fits a b) : ∀ n, n ≤ a.d.length → szT a b n ≤ 16 * n
  | 0, _ => Nat.le_refl _
  | n + 1, hn => by
    have ih := szT_le h n (by omega)
    have hda := h.da
    have hdb := h.db
    have := (mul44 (h.ba n (by omega)) (h.bb n (by omega))).2
    simp only [szT]; omega
theorem szA_le {a b : Rep} (h : Fits a b) : ∀ n, n ≤ a.q.fr.length → szA a b n ≤ 16 * n
  | 0, _ => Nat.le_refl _
  | n + 1, hn => by
    have ih := szA_le h n (by omega)
    have hda := h.da
    have hdb := h.db
    have f : 0 ≤ a.q.fr.getD n default ∧ a.q.fr.getD n default < a.q.n := okQ_fr h.ok (by omega)
    have t : 0 ≤ a.q.to.getD n default ∧ a.q.to.getD n default < a.q.n := okQ_to h.ok (by omega)
    have := (mul44 (h.bb (a.q.to.getD n default).toNat (by omega)) (h.ba (a.q.fr.getD n default).toNat (by omega))).2
    simp only [szA]; omega
theorem l11Size_a (a b : Rep) (h : Fits a b) : AC Try.prog 115 [.agg (enc false a), .agg (enc false b)] [.i (szT a b a.d.length)] := by
  refine AC.go Try.func115 Try.ntmps115 rfl rfl fun w0 hw => ?_; simp [WfL, WfA, E_length, Enc.enc, In64] at hw
  have h5 := okQ_spec h.ok
  have hda := h.da
  have hdb := h.db
  repeat' first | refine s1 ?_ | fail
  refine F.loop (σ := Nat) [5, 6, 7, 8, 9, 10, 11, 12, 13, 14, 15, 16, 17, 18, 19, 20, 21, 22, 23, 24, 25, 26] (fun k => [(5, .i (szT a b k)), (6, .i k)]) (fun _ => []) (fun k => k ≤ a.d.length) (fun k => a.d.length - k) 0 ⟨rfl, rfl, trivial⟩ trivial (Nat.zero_le _) ?_
  rintro k h1
  by_cases hlt : k < a.d.length
  · have hs := szT_le h (k + 1) (by omega)
    have hs' := szT_le h k (by omega)
    obtain ⟨m1, m2⟩ := mul44 (h.ba k hlt) (h.bb k (by omega))
    have hst : szT a b (k + 1) = szT a b k + (a.d.getD k default).toNat * (b.d.getD k default).toNat := rfl
    have b1 := h.ba k hlt
    have b2 := h.bb k (by omega)
    have b3 : In64 (a.d.getD k default * b.d.getD k default) := by unfold In64; omega
    have b4 : In64 (szT a b k + a.d.getD k default * b.d.getD k default) := by unfold In64; omega
    repeat' first | refine s1 ?_ | fail
    refine AW.draw 14 G.mixed (by kernel_rfl) ?_
    refine dP 0 ?_
    refine dP 1 ?_
    refine dL 2 ?_
    refine dP 3 ?_
    refine dP 4 ?_
    refine dL 5 ?_
    refine dP 6 ?_
    refine dL 7 ?_
    refine dP 8 ?_
    refine dP 9 ?_
    refine dL 10 ?_
    refine dP 11 ?_
    refine dP 12 ?_
    refine dP 13 ?_
    refine dN ?_
    repeat' first | refine s1 ?_ | fail
    exact ⟨k + 1, F.fit ⟨iE (by omega), rfl, trivial⟩ trivial, by omega, by omega⟩
  · obtain rfl : k = a.d.length := by omega
    repeat' first | refine s1 ?_ | fail
    (refine kZ ?_; exact F.ret rfl)
theorem l11At_a (a b : Rep) (v : Nat) (h : Fits a b) (hv : v ≤ a.d.length) : AC Try.prog 152 [.agg (enc false a), .agg (enc false b), .i v] [.i (szT a b v)] := by
  refine AC.go Try.func152 Try.ntmps152 rfl rfl fun w0 hw => ?_; simp [WfL, WfA, E_length, Enc.enc, In64] at hw
  have h5 := okQ_spec h.ok
  have hda := h.da
  have hdb := h.db
  repeat' first | refine s1 ?_ | fail
  refine F.loop (σ := Nat) [7, 8, 9, 10, 11, 12, 13, 14, 15, 16, 17, 18, 19, 20, 21, 22, 23, 24, 25, 26] (fun k => [(7, .i (szT a b k)), (8, .i k)]) (fun _ => []) (fun k => k ≤ v) (fun k => v - k) 0 ⟨rfl, rfl, trivial⟩ trivial (Nat.zero_le _) ?_
  rintro k h1
  by_cases hlt : k < v
  · have hs := szT_le h (k + 1) (by omega)
    have hs' := szT_le h k (by omega)
    obtain ⟨m1, m2⟩ := mul44 (h.ba k (by omega)) (h.bb k (by omega))
    have hst : szT a b (k + 1) = szT a b k + (a.d.getD k default).toNat * (b.d.getD k default).toNat := rfl
    have b1 := h.ba k (by omega)
    have b2 := h.bb k (by omega)
    have b3 : In64 (a.d.getD k default * b.d.getD k default) := by unfold In64; omega
    have b4 : In64 (szT a b k + a.d.getD k default * b.d.getD k default) := by unfold In64; omega
    repeat' first | refine s1 ?_ | fail
    refine AW.draw 14 G.mixed (by kernel_rfl) ?_
    refine dP 0 ?_
    refine dP 1 ?_
    refine dL 2 ?_
    refine dP 3 ?_
    refine dP 4 ?_
    refine dL 5 ?_
    refine dP 6 ?_
    refine dL 7 ?_
    refine dP 8 ?_
    refine dP 9 ?_
    refine dL 10 ?_
    refine dP 11 ?_
    refine dP 12 ?_
    refine dP 13 ?_
    refine dN ?_
    repeat' first | refine s1 ?_ | fail
    exact ⟨k + 1, F.fit ⟨iE (by omega), rfl, trivial⟩ trivial, by omega, by omega⟩
  · obtain rfl : k = v := by omega
    repeat' first | refine s1 ?_ | fail
    (refine kZ ?_; exact F.ret rfl)
/-- all cells, one matrix behind the other -/
def catM (f : List Mat) : List Int := f.flatMap Mat.m
theorem catM_take {f : List Mat} {k : Nat} (h : k < f.length) : catM (f.take (k + 1)) = catM (f.take k) ++ (f.getD k default).m := by
  rw [List.take_add_one, catM, List.flatMap_append, ← catM]
  congr 1
  simp [List.getD, h]
theorem catM_take_le (f : List Mat) (k : Nat) : (catM (f.take k)).length ≤ (catM f).length := by
  conv => rhs; rw [← List.take_append_drop k f, catM, List.flatMap_append, List.length_append]
  exact Nat.le_add_right _ _
theorem l11Flat_a (f : List Mat) (hb : (catM f).length ≤ 1048576) : AC Try.prog 116 [ar false f] [.dt true 1 (E true (catM f))] := by
  refine AC.go Try.func116 Try.ntmps116 rfl rfl fun w0 hw => ?_; simp [WfL, WfA, E_length, Enc.enc, In64] at hw
  repeat' first | refine s1 ?_ | fail
  refine AW.open 3 1 (.inr rfl) ?_
  refine F.loop (σ := Nat) [3, 4, 6, 7, 8, 9, 10, 11, 12, 13, 14, 15, 16, 17, 18] (fun k => [(3, .sl 0 (catM (f.take k)).length 0 (catM (f.take k)).length), (4, .i k)]) (fun k => [(0, .live false 1 (E true (catM (f.take k))))]) (fun k => k ≤ f.length) (fun k => f.length - k) 0 ⟨rfl, rfl, trivial⟩ ⟨rfl, trivial⟩ (Nat.zero_le _) ?_
  rintro k h1
  by_cases hlt : k < f.length
  · have hs := catM_take hlt
    have hl := catM_take_le f (k + 1)
    rw [hs, List.length_append] at hl
    generalize catM (f.take k) = L at hs hl ⊢
    have hl' : L.length + (f.getD (0 + k) default).m.length ≤ 1048576 := by rw [Nat.zero_add]; omega
    repeat' first | refine s1 ?_ | (refine kR ?_; first | refine F.aL Int (oo := true) ?_) | fail
    exact ⟨k + 1, F.fit ⟨slE (by rw [hs, List.length_append]), rfl, trivial⟩ ⟨obE (by rw [hs]), trivial⟩, by omega, by omega⟩
  · obtain rfl : k = f.length := by omega
    rw [List.take_length]
    repeat' first | refine s1 ?_ | fail
    (refine kZ ?_; exact F.ret rfl)
/-- the matrix of an arrow, cut out of a list of cells -/
def cutM (a b : Rep) (x : List Int) (i : Nat) : Mat := ⟨b.d.getD (a.q.to.getD i default).toNat default, a.d.getD (a.q.fr.getD i default).toNat default, (x.take (szA a b (i + 1))).drop (szA a b i)⟩
def cutL (a b : Rep) (x : List Int) : List Mat := (List.range a.q.fr.length).map (cutM a b x)
theorem cutL_len (a b : Rep) (x : List Int) : (cutL a b x).length = a.q.fr.length := by simp [cutL]
theorem cutL_take (a b : Rep) (x : List Int) {k : Nat} (h : k < a.q.fr.length) : (cutL a b x).take (k + 1) = (cutL a b x).take k ++ [cutM a b x k] := by
  simp only [cutL, ← List.map_take, range_take h, List.map_append, List.map_cons, List.map_nil]
theorem l19Cut_a (a b : Rep) (x : List Int) (h : Fits a b) (hx : szA a b a.q.fr.length ≤ x.length) (hb : x.length ≤ 1048576) : AC Try.prog 117 [.agg (enc false a), .agg (enc false b), ar false x] [.dt true 3 (E true (cutL a b x))] := by
  refine AC.go Try.func117 Try.ntmps117 rfl rfl fun w0 hw => ?_; simp [WfL, WfA, E_length, Enc.enc, In64] at hw
  have h5 := okQ_spec h.ok
  have hda := h.da
  have hdb := h.db
  have hma := h.ma
  repeat' first | refine s1 ?_ | fail
  refine AW.open 7 3 (.inr rfl) ?_
  refine F.loop (σ := Nat) [7, 8, 9, 10, 11, 13, 14, 15, 16, 17, 18, 19, 20, 21, 22, 23, 24, 25, 26, 27, 28, 29, 30, 31, 32, 33, 34, 35, 36, 37, 38, 39, 40, 41, 42, 43, 44, 45, 46, 47, 48, 49, 50, 51, 52, 53, 54, 55, 56, 57, 58, 59, 60] (fun k => [(7, .sl 2 k 0 k), (8, .i (szA a b k)), (9, .i k)]) (fun k => [(2, .live false 3 (E true ((cutL a b x).take k)))]) (fun k => k ≤ a.q.fr.length) (fun k => a.q.fr.length - k) 0 ⟨rfl, rfl, rfl, trivial⟩ ⟨rfl, trivial⟩ (Nat.zero_le _) ?_
  rintro k h1
  have hcl := cutL_len a b x
  have hp : ((cutL a b x).take k).length = k := by rw [List.length_take]; omega
  by_cases hlt : k < a.q.fr.length
  · have f : 0 ≤ a.q.fr.getD k default ∧ a.q.fr.getD k default < a.q.n := okQ_fr h.ok hlt
    have t : 0 ≤ a.q.to.getD k default ∧ a.q.to.getD k default < a.q.n := okQ_to h.ok hlt
    have df := h.ba (a.q.fr.getD k default).toNat (by omega)
    have dt := h.bb (a.q.to.getD k default).toNat (by omega)
    obtain ⟨m1, m2⟩ := mul44 dt df
    have hst : szA a b (k + 1) = szA a b k + (b.d.getD (a.q.to.getD k default).toNat default).toNat * (a.d.getD (a.q.fr.getD k default).toNat default).toNat := rfl
    have hs := szA_mono a b (m := k + 1) (n := a.q.fr.length) (by omega)
    have hs' := szA_le h (k + 1) (by omega)
    have b3 : In64 (b.d.getD (a.q.to.getD k default).toNat default * a.d.getD (a.q.fr.getD k default).toNat default) := by unfold In64; omega
    have hE : (szA a b k : Int) + b.d.getD (a.q.to.getD k default).toNat default * a.d.getD (a.q.fr.getD k default).toNat default = ((szA a b (k + 1) : Nat) : Int) := by rw [m1, hst]; push_cast; rfl
    have b4 : In64 ((szA a b k : Int) + b.d.getD (a.q.to.getD k default).toNat default * a.d.getD (a.q.fr.getD k default).toNat default) := by unfold In64; omega
    have hts := cutL_take a b x hlt
    have hxl : ((x.take (szA a b (k + 1))).drop (szA a b k)).length ≤ 1048576 := by simp; omega
    repeat' first | refine s1 ?_ | fail
    refine AW.draw 11 G.mixed (by kernel_rfl) ?_
    refine dP 0 ?_
    refine dL 1 ?_
    refine dP 2 ?_
    refine dP 3 ?_
    refine dL 4 ?_
    refine dP 5 ?_
    refine dP 6 ?_
    refine dL 7 ?_
    refine dP 8 ?_
    refine dL 9 ?_
    refine dP 10 ?_
    refine dN ?_
    repeat' first | refine s1 ?_ | fail
    refine AW.draw 11 G.mixed (by kernel_rfl) ?_
    refine dP 0 ?_
    refine dL 1 ?_
    refine dP 2 ?_
    refine dP 3 ?_
    refine dL 4 ?_
    refine dP 5 ?_
    refine dP 6 ?_
    refine dL 7 ?_
    refine dP 8 ?_
    refine dL 9 ?_
    refine dP 10 ?_
    refine dN ?_
    repeat' first | refine s1 ?_ | (refine kR ?_; first | refine F.sil (A.slcD (α := Int) (lo := szA a b k) (hi' := szA a b (k + 1)) rfl rfl (congrArg AV.i hE) (by omega) (by omega)) rfl rfl ?_ | refine F.aLN Int (oo := true) ?_ | refine F.a1 Mat (a := cutM a b x k) ?_) | fail
    exact ⟨k + 1, F.fit ⟨rfl, iE hE, rfl, trivial⟩ ⟨obE (by rw [hts]), trivial⟩, by omega, by omega⟩
  · obtain rfl : k = a.q.fr.length := by omega
    rw [← hcl, List.take_length]
    repeat' first | refine s1 ?_ | fail
    (refine kZ ?_; exact F.ret rfl)
end Go.Proofs.Ytcalkmlaodjpaaa.V
