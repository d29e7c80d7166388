/- Joined: Contracts: copies of lists and quivers, zero matrices, zero and simple representations. Contracts: remainders, inverses, reduced form by rows (the reference's). Contracts: searches in lists of matrices and of paths.. -/
import Derived.Test.YtedjajokbdokhaaGreatA6
import Derived.Test.YtedjajokbdokhaaGreatUc
import Derived.Test.YtedjajokbdokhaaGreatUq
import Derived.Test.YtedjajokbdokhaaGreatUd
/- Contracts: copies of lists and quivers, zero matrices, zero and simple representations. -/
namespace Go.Proofs.YtedjajokbdokhaaGreat.V
open V.Enc (enc)
open Go.RowKit G D
set_option linter.unusedVariables false
set_option linter.unusedSimpArgs false
set_option maxHeartbeats 400000
attribute [local irreducible] AW ARg ARA ARet MRet ASil AC AM

theorem clone_a (xs : List Int) (h : xs.length ≤ 1048576) : AC Tryz.prog 168 [ar false xs] [.dt true 1 (E true xs)] := by
  refine AC.go Tryz.func168 Tryz.ntmps168 rfl rfl fun w0 hw => ?_; simp [WfL, WfA, E_length, Enc.enc, In64] at hw
  repeat' first | refine s1 ?_ | refine q1 ?_ | fail
  refine F.eqD (xs := E false xs) rfl rfl rfl fun b hb => ?_
  rw [E_length] at hb
  cases b with
  | true =>
    obtain rfl := List.eq_nil_of_length_eq_zero (hb rfl)
    repeat' first | refine s1 ?_ | refine q1 ?_ | fail
    exact F.ret rfl
  | false =>
    repeat' first | refine s1 ?_ | refine q1 ?_ | (refine kR ?_; first | refine F.aLN (α := Int) ?_) | fail
    exact F.ret rfl
theorem cloneQ_a (q : Quiv) (hb : q.fr.length ≤ 1048576 ∧ q.to.length ≤ 1048576) : AC Tryz.prog 193 [.agg (enc false q)] [.agg (enc true q)] := by
  refine AC.go Tryz.func193 Tryz.ntmps193 rfl rfl fun w0 hw => ?_; simp [WfL, WfA, E_length, Enc.enc, In64] at hw
  have hA := clone_a q.fr hb.1
  have hB := clone_a q.to hb.2
  repeat' first | refine s1 ?_ | refine q1 ?_ | fail
  refine AW.draw 9 G.mixed (by kernel_rfl) ?_
  refine dP 0 ?_
  first | refine dL 1 ?_ | refine dLQ 1 ?_
  refine dP 2 ?_
  first | refine dL 3 ?_ | refine dLQ 3 ?_
  refine dP 5 ?_
  first | refine dL 6 ?_ | refine dLQ 6 ?_
  refine dO 4 true ?_
  first | refine s1 ?_ | refine F.c (hA) ?_ | refine F.c (hB) ?_
  refine ARg.nil (ATh.normal ?_)
  refine dO 7 true ?_
  first | refine s1 ?_ | refine F.c (hA) ?_ | refine F.c (hB) ?_
  refine ARg.nil (ATh.normal ?_)
  refine dP 8 ?_
  refine dO 9 false ?_
  first | refine s1 ?_ | refine q1 ?_
  refine ARg.nil (ATh.normal ?_)
  refine dN ?_
  repeat' first | refine s1 ?_ | refine q1 ?_ | fail
  exact F.ret rfl
abbrev zeroM (r c : Int) : Mat := ⟨r, c, List.replicate (r * c).toNat 0⟩
theorem mulB {a b : Int} (ha : 0 ≤ a ∧ a ≤ 1024) (hb : 0 ≤ b ∧ b ≤ 1024) : 0 ≤ a * b ∧ a * b ≤ 1048576 := by
  refine ⟨Int.mul_nonneg ha.1 hb.1, ?_⟩
  have := Int.mul_le_mul ha.2 hb.2 hb.1 (by omega : (0 : Int) ≤ 1024)
  omega
theorem zero_a (r c : Int) (hr : 0 ≤ r ∧ r ≤ 1024) (hc : 0 ≤ c ∧ c ≤ 1024) : AC Tryz.prog 181 [.i r, .i c] [.agg (enc true (zeroM r c))] := by
  refine AC.go Tryz.func181 Tryz.ntmps181 rfl rfl fun w0 hw => ?_; simp [WfL, WfA, E_length, Enc.enc, In64] at hw
  have h := mulB hr hc
  have hi : In64 (r * c) := by unfold In64; omega
  repeat' first | refine s1 ?_ | refine q1 ?_ | (refine kR ?_; first | refine F.mk (m := (r * c).toNat) Int rfl rfl (Int.toNat_of_nonneg h.1).symm (mkB (by omega)) (by omega) rfl rfl ?_) | fail
  exact F.ret rfl
theorem l3Zero_a (r c : Int) (hr : 0 ≤ r ∧ r ≤ 1024) (hc : 0 ≤ c ∧ c ≤ 1024) : AC Tryz.prog 150 [.i r, .i c] [.agg (enc true (zeroM r c))] := by
  refine AC.go Tryz.func150 Tryz.ntmps150 rfl rfl fun w0 hw => ?_; simp [WfL, WfA, E_length, Enc.enc, In64] at hw
  have h := mulB hr hc
  have hi : In64 (r * c) := by unfold In64; omega
  repeat' first | refine s1 ?_ | refine q1 ?_ | (refine kR ?_; first | refine F.mk (m := (r * c).toNat) Int rfl rfl (Int.toNat_of_nonneg h.1).symm (mkB (by omega)) (by omega) rfl rfl ?_) | fail
  exact F.ret rfl
theorem hasVertex_a (q : Quiv) (v : Int) (h : okQ q = true) : AC Tryz.prog 190 [.agg (enc false q), .i v] [.b (decide (0 ≤ v ∧ v ≤ q.n - 1))] := by
  refine AC.go Tryz.func190 Tryz.ntmps190 rfl rfl fun w0 hw => ?_; simp [WfL, WfA, E_length, Enc.enc, In64] at hw
  have h5 := okQ_spec h
  repeat' first | refine s1 ?_ | refine q1 ?_ | (refine kR ?_; first | (refine jCf 186 ?_; refine F.c (within_a _ _ _) ?_)) | fail
  exact F.ret rfl
/-- the i-th number of a list, by a number -/
def gI (l : List Int) (i : Int) : Int := l.getD i.toNat default
def zeroMs (q : Quiv) (d : List Int) : List Mat := (List.range q.fr.length).map fun i => zeroM (gI d (q.to.getD i default)) (gI d (q.fr.getD i default))
abbrev zeroR (p : Int) (q : Quiv) (d : List Int) : Rep := ⟨p, q, d, zeroMs q d⟩
theorem range_take {n k : Nat} (h : k < n) : (List.range n).take (k + 1) = (List.range n).take k ++ [k] := by
  rw [List.take_succ_eq_append_getElem (by simpa using h)]; simp
theorem zeroMs_len (q : Quiv) (d : List Int) : (zeroMs q d).length = q.fr.length := by simp [zeroMs]
theorem zeroMs_take {q : Quiv} {d : List Int} {k : Nat} (h : k < q.fr.length) : (zeroMs q d).take (k + 1) = (zeroMs q d).take k ++ [zeroM (gI d (q.to.getD k default)) (gI d (q.fr.getD k default))] := by
  simp only [zeroMs, ← List.map_take, range_take h, List.map_append, List.map_cons, List.map_nil]
theorem zeroRep_a (p : Int) (q : Quiv) (d : List Int) (hq : okQ q = true) (hl : (d.length : Int) = q.n) (hd : ∀ j, j < d.length → 0 ≤ d.getD j default ∧ d.getD j default ≤ 1024) : AC Tryz.prog 146 [.i p, .agg (enc false q), ar false d] [.agg (enc true (zeroR p q d))] := by
  refine AC.go Tryz.func146 Tryz.ntmps146 rfl rfl fun w0 hw => ?_; simp [WfL, WfA, E_length, Enc.enc, In64] at hw
  have h5 := okQ_spec hq
  have hA := cloneQ_a q (by omega)
  have hB := clone_a d (by omega)
  repeat' first | refine s1 ?_ | refine q1 ?_ | (refine kR ?_; first | refine F.c (hA) ?_ | refine F.c (hB) ?_) | fail
  refine AW.openV (o := 5) (j := 5) 3 rfl rfl (.inl rfl) rfl ?_
  refine F.loop (σ := Nat) [8, 9, 19, 20, 21, 22, 23, 24, 25, 26, 27, 28, 29, 30, 31, 32, 33, 34, 35, 36, 37, 38, 39, 40, 41, 42] (fun k => [(19, .i k)]) (fun k => [(5, .live false 6 [[.i p, .i q.n, .sl 2 q.fr.length 0 q.fr.length, .sl 3 q.to.length 0 q.to.length, .sl 4 d.length 0 d.length, .sl 6 k 0 k]]), (6, .live false 3 (E true ((zeroMs q d).take k)))]) (fun k => k ≤ q.fr.length) (fun k => q.fr.length - k) 0 ⟨rfl, trivial⟩ ⟨rfl, rfl, trivial⟩ (Nat.zero_le _) ?_
  rintro k h1
  have hzl := zeroMs_len q d
  have hp : ((zeroMs q d).take k).length = k := by rw [List.length_take]; omega
  by_cases hlt : k < q.fr.length
  · have f := okQ_fr hq hlt
    have t := okQ_to hq hlt
    have f' : 0 ≤ q.fr.getD k default ∧ q.fr.getD k default < q.n := f
    have t' : 0 ≤ q.to.getD k default ∧ q.to.getD k default < q.n := t
    have df := hd (q.fr.getD k default).toNat (by omega)
    have dt := hd (q.to.getD k default).toNat (by omega)
    have hZ := zero_a _ _ dt df
    repeat' first | refine s1 ?_ | refine q1 ?_ | fail
    refine AW.draw 16 G.mixed (by kernel_rfl) ?_
    refine dP 0 ?_
    first | refine dL 1 ?_ | refine dLQ 1 ?_
    refine dP 2 ?_
    refine dP 3 ?_
    first | refine dL 4 ?_ | refine dLQ 4 ?_
    refine dP 5 ?_
    first | refine dP 6 ?_ | refine dQ 6 ?_
    first | refine dL 7 ?_ | refine dLQ 7 ?_
    first | refine dP 8 ?_ | refine dQ 8 ?_
    first | refine dL 9 ?_ | refine dLQ 9 ?_
    refine dP 10 ?_
    refine dP 11 ?_
    first | refine dP 12 ?_ | refine dQ 12 ?_
    first | refine dL 13 ?_ | refine dLQ 13 ?_
    refine dO 14 true ?_
    first | refine s1 ?_ | refine F.c (hZ) ?_
    refine ARg.nil (ATh.normal ?_)
    refine dO 15 true ?_
    refine s1 ?_
    refine ARg.nil (ATh.normal ?_)
    refine dO 16 false ?_
    first | refine s1 ?_ | refine F.a1 Mat ?_
    refine ARg.nil (ATh.normal ?_)
    refine dP 17 ?_
    refine dO 18 false ?_
    first | refine s1 ?_ | refine q1 ?_
    refine ARg.nil (ATh.normal ?_)
    refine dN ?_
    repeat' first | refine s1 ?_ | refine q1 ?_ | fail
    exact ⟨k + 1, F.fit ⟨rfl, trivial⟩ ⟨rfl, obE (by rw [zeroMs_take hlt]; rfl), trivial⟩, by omega, by omega⟩
  · obtain rfl : k = q.fr.length := by omega
    rw [← hzl, List.take_length]
    repeat' first | refine s1 ?_ | refine q1 ?_ | fail
    refine F.ret rfl
end Go.Proofs.YtedjajokbdokhaaGreat.V

/- Contracts: remainders, inverses, reduced form by rows (the reference's). -/
namespace Go.Proofs.YtedjajokbdokhaaGreat.V
open V.Enc (enc)
open Go.RowKit G D
set_option linter.unusedVariables false
set_option linter.unusedSimpArgs false
set_option maxHeartbeats 400000
set_option maxRecDepth 4000
attribute [local irreducible] AW ARg ARA ARet MRet ASil AC AM

theorem tmod_bd {x p : Int} (hp : 0 < p) : -p < x.tmod p ∧ x.tmod p < p := by
  have h1 := Int.natAbs_tmod x p
  have h2 : x.natAbs % p.natAbs < p.natAbs := Nat.mod_lt _ (by omega)
  omega
theorem emod_tmod {x p : Int} (hp : 0 < p) : x % p = if x.tmod p < 0 then x.tmod p + p else x.tmod p := by
  have h := Int.mul_tdiv_add_tmod x p
  have hb := tmod_bd (x := x) hp
  have e : x % p = x.tmod p % p := by
    conv => lhs; rw [← h]
    rw [Int.add_comm, Int.add_mul_emod_self_left]
  rw [e]
  split
  · rw [← Int.add_emod_right, Int.emod_eq_of_lt (by omega) (by omega)]
  · rw [Int.emod_eq_of_lt (by omega) (by omega)]
theorem l2Mod_a (p x : Int) (hp : 0 < p ∧ p ≤ 1024) : AC Tryz.prog 129 [.i p, .i x] [.i (x % p)] := by
  refine AC.go Tryz.func129 Tryz.ntmps129 rfl rfl fun w0 hw => ?_; simp [WfL, WfA, E_length, Enc.enc, In64] at hw
  have hb := tmod_bd (x := x) hp.1
  have he := emod_tmod (x := x) hp.1
  have hi : In64 (x.tmod p + p) := by unfold In64; omega
  by_cases h : x.tmod p < 0
  · rw [if_pos h] at he
    rw [he]
    repeat' first | refine s1 ?_ | refine q1 ?_ | (refine kR ?_; first | refine F.sil (A.rem rfl rfl (by omega)) rfl rfl ?_) | fail
    (refine kZ ?_; exact F.ret rfl)
  · rw [if_neg h] at he
    rw [he]
    repeat' first | refine s1 ?_ | refine q1 ?_ | (refine kR ?_; first | refine F.sil (A.rem rfl rfl (by omega)) rfl rfl ?_) | fail
    (refine kZ ?_; exact F.ret rfl)
theorem isF_pos {p : Int} (h : isF p = true) : 2 ≤ p ∧ p ≤ 5 := by
  have := isF_spec.mp h; omega
/-- inverses, by a look at all -/
theorem inv_tab : ∀ p ∈ [2, 3, 5], ∀ x ∈ [0, 1, 2, 3, 4], ∀ y ∈ [1, 2, 3, 4], x < p → y < p → x * y % p = 1 → invP (p : Int) x = y := by decide
theorem inv_none : ∀ p ∈ [2, 3, 5], ∀ x ∈ [0, 1, 2, 3, 4], x < p → (∀ y ∈ [1, 2, 3, 4], y < p → x * y % p ≠ 1) → invP (p : Int) x = 0 := by decide
theorem inv_bd : ∀ p ∈ [2, 3, 5], ∀ x ∈ [0, 1, 2, 3, 4], x < p → 0 ≤ invP (p : Int) x ∧ invP p x ≤ p - 1 := by decide
theorem mem5 {x : Int} (h : 0 ≤ x ∧ x ≤ 4) : x ∈ [0, 1, 2, 3, 4] := by
  have : x = 0 ∨ x = 1 ∨ x = 2 ∨ x = 3 ∨ x = 4 := by omega
  rcases this with rfl | rfl | rfl | rfl | rfl <;> decide
theorem mem4 {x : Int} (h : 1 ≤ x ∧ x ≤ 4) : x ∈ [1, 2, 3, 4] := by
  have : x = 1 ∨ x = 2 ∨ x = 3 ∨ x = 4 := by omega
  rcases this with rfl | rfl | rfl | rfl <;> decide
theorem memF {p : Int} (h : isF p = true) : p ∈ [2, 3, 5] := by
  rcases isF_spec.mp h with rfl | rfl | rfl <;> decide
theorem invP_bd {p x : Int} (h : isF p = true) (hx : 0 ≤ x ∧ x ≤ p - 1) : 0 ≤ invP p x ∧ invP p x ≤ p - 1 := by
  have := isF_pos h
  exact inv_bd p (memF h) x (mem5 (by omega)) (by omega)
theorem specInverseMod_a (p x : Int) (hf : isF p = true) (hx : 0 ≤ x ∧ x ≤ p - 1) : AC Tryz.prog 197 [.i p, .i x] [.i (invP p x)] := by
  refine AC.go Tryz.func197 Tryz.ntmps197 rfl rfl fun w0 hw => ?_; simp [WfL, WfA, E_length, Enc.enc, In64] at hw
  have h5 := isF_pos hf
  have hF := specIsField_a p
  rw [hf] at hF
  have hM1 := l2Mod_a p x (by omega)
  rw [Int.emod_eq_of_lt hx.1 (by omega)] at hM1
  repeat' first | refine s1 ?_ | refine q1 ?_ | fail
  refine F.loop (σ := Int) [4, 5, 6, 7, 8, 9, 10, 11, 12, 13, 14, 15, 16, 17, 18, 19, 20, 21, 22, 23] (fun y => [(5, .i y)]) (fun _ => []) (fun y => 1 ≤ y ∧ y ≤ p ∧ ∀ z, 1 ≤ z → z < y → x * z % p ≠ 1) (fun y => (p - y).toNat) 1 ⟨rfl, trivial⟩ trivial ⟨by omega, by omega, fun z h1 h2 => by omega⟩ ?_
  rintro y ⟨h1, h2, h3⟩
  by_cases hlt : y < p
  · have hxy : 0 ≤ x * y ∧ x * y ≤ 16 := ⟨Int.mul_nonneg hx.1 (by omega), Int.le_trans (Int.mul_le_mul (by omega : x ≤ 4) (by omega : y ≤ 4) (by omega) (by omega)) (by omega)⟩
    have hi : In64 (x * y) := by unfold In64; omega
    have hM2 := l2Mod_a p (x * y) (by omega)
    by_cases he : x * y % p = 1
    · repeat' first | refine s1 ?_ | refine q1 ?_ | (refine kR ?_; first | refine F.c (hF) ?_ | refine F.c (hM1) ?_ | refine F.c (hM2) ?_) | fail
      refine F.ret ?_
      rw [inv_tab p (memF hf) x (mem5 (by omega)) y (mem4 (by omega)) (by omega) hlt he]
    · repeat' first | refine s1 ?_ | refine q1 ?_ | (refine kR ?_; first | refine F.c (hF) ?_ | refine F.c (hM1) ?_ | refine F.c (hM2) ?_) | fail
      refine ⟨y + 1, F.fit ⟨rfl, trivial⟩ trivial, ⟨by omega, by omega, fun z g1 g2 => ?_⟩, by omega⟩
      rcases Int.lt_or_le z y with h | h
      · exact h3 z g1 h
      · obtain rfl : z = y := by omega
        exact he
  · obtain rfl : y = p := by omega
    repeat' first | refine s1 ?_ | refine q1 ?_ | fail
    refine F.ret ?_
    rw [inv_none y (memF hf) x (mem5 (by omega)) (by omega) fun z hz hl => h3 z (by simp only [List.mem_cons, List.not_mem_nil, or_false] at hz; omega) hl]
theorem l3Copy_a (m : Mat) (h : m.m.length ≤ 1048576) : AC Tryz.prog 196 [.agg (enc false m)] [.agg (enc true m)] := by
  refine AC.go Tryz.func196 Tryz.ntmps196 rfl rfl fun w0 hw => ?_; simp [WfL, WfA, E_length, Enc.enc, In64] at hw
  repeat' first | refine s1 ?_ | refine q1 ?_ | (refine s2 ?_ ?_ <;> intro hc <;> (try simp only [decide_eq_true_eq, decide_eq_false_iff_not, Bool.not_eq_true', Bool.not_eq_false'] at hc)) | fail
  refine AW.draw 9 G.mixed (by kernel_rfl) ?_
  refine dP 0 ?_
  first | refine dL 1 ?_ | refine dLQ 1 ?_
  refine dP 2 ?_
  first | refine dL 3 ?_ | refine dLQ 3 ?_
  refine dP 5 ?_
  first | refine dL 6 ?_ | refine dLQ 6 ?_
  refine dO 4 true ?_
  refine s1 ?_
  refine ARg.nil (ATh.normal ?_)
  refine dO 7 true ?_
  first | refine s1 ?_ | refine F.appLN (α := Int) (oo := true) (.inr rfl) rfl .imm rfl rfl (by omega) (by omega) rfl rfl rfl rfl ?_
  refine ARg.nil (ATh.normal ?_)
  refine dP 8 ?_
  refine dO 9 false ?_
  first | refine s1 ?_ | refine q1 ?_
  refine ARg.nil (ATh.normal ?_)
  refine dN ?_
  repeat' first | refine s1 ?_ | refine q1 ?_ | fail
  exact F.ret rfl
end Go.Proofs.YtedjajokbdokhaaGreat.V

/- Contracts: searches in lists of matrices and of paths. -/
namespace Go.Proofs.YtedjajokbdokhaaGreat.V
open V.Enc (enc)
open Go.RowKit G D
set_option linter.unusedVariables false
set_option linter.unusedSimpArgs false
set_option maxHeartbeats 400000
set_option maxRecDepth 4000
attribute [local irreducible] AW ARg ARA ARet MRet ASil AC AM

theorem IndexFuncM_a (xs : List Mat) (f : Nat) [IsFn Tryz.prog f] (cs : List AV) (p : Mat → Bool) (hcs : ∀ hp, SnapL hp cs cs) (hf : ∀ x ∈ xs, AC Tryz.prog f (.agg (enc false x) :: cs) [.b (p x)]) :
    AC Tryz.prog 159 [ar false xs, .fn f cs] [.i (idxFrom p xs 0)] := by
  refine AC.go Tryz.func159 Tryz.ntmps159 rfl rfl fun w0 hw => ?_; simp [WfL, WfA, E_length, Enc.enc, In64] at hw
  repeat' first | refine s1 ?_ | refine q1 ?_ | (refine s2 ?_ ?_ <;> intro hc <;> (try simp only [decide_eq_true_eq, decide_eq_false_iff_not, Bool.not_eq_true', Bool.not_eq_false'] at hc)) | fail
  refine F.loop (σ := Nat) [4, 5, 8, 9, 10, 11, 12, 13, 14, 15, 16, 17, 18] (fun k => [(8, .i k)]) (fun _ => []) (fun k => k ≤ xs.length ∧ idxFrom p xs 0 = idxFrom p (xs.drop k) k) (fun k => xs.length - k) 0 ⟨rfl, trivial⟩ trivial ⟨Nat.zero_le _, rfl⟩ ?_
  rintro k ⟨hk, hi⟩
  by_cases hlt : k < xs.length
  · rw [idxFrom_drop p xs hlt] at hi
    have h1 := hf (xs.getD k default) (gm hlt)
    cases hpx : p (xs.getD k default) with
    | true =>
      rw [hpx] at hi h1
      repeat' first | refine s1 ?_ | refine q1 ?_ | (refine kR ?_; first | refine F.cv (h1) ?_) | (refine s2 ?_ ?_ <;> intro hc <;> (try simp only [decide_eq_true_eq, decide_eq_false_iff_not, Bool.not_eq_true', Bool.not_eq_false'] at hc)) | fail
      refine F.ret ?_
      simp [hi]
    | false =>
      rw [hpx] at hi h1
      repeat' first | refine s1 ?_ | refine q1 ?_ | (refine kR ?_; first | refine F.cv (h1) ?_) | (refine s2 ?_ ?_ <;> intro hc <;> (try simp only [decide_eq_true_eq, decide_eq_false_iff_not, Bool.not_eq_true', Bool.not_eq_false'] at hc)) | fail
      exact ⟨k + 1, F.fit ⟨rfl, trivial⟩ trivial, ⟨by omega, hi⟩, by omega⟩
  · have e : k = xs.length := by omega
    subst e
    repeat' first | refine s1 ?_ | refine q1 ?_ | (refine s2 ?_ ?_ <;> intro hc <;> (try simp only [decide_eq_true_eq, decide_eq_false_iff_not, Bool.not_eq_true', Bool.not_eq_false'] at hc)) | fail
    refine F.ret ?_
    simp [hi, idxFrom]
theorem ContainsFuncM_a (xs : List Mat) (f : Nat) [IsFn Tryz.prog f] (cs : List AV) (p : Mat → Bool) (hcs : ∀ hp, SnapL hp cs cs) (hf : ∀ x ∈ xs, AC Tryz.prog f (.agg (enc false x) :: cs) [.b (p x)]) :
    AC Tryz.prog 108 [ar false xs, .fn f cs] [.b (xs.any p)] := by
  refine AC.go Tryz.func108 Tryz.ntmps108 rfl rfl fun w0 hw => ?_; simp [WfL, WfA, E_length, Enc.enc, In64] at hw
  repeat' first | refine s1 ?_ | refine q1 ?_ | (refine kR ?_; first | refine F.c (IndexFuncM_a xs f cs p hcs hf) ?_) | fail
  exact F.ret (by rw [← idxFrom_any p xs 0])
theorem IndexFuncP_a (xs : List Pth) (f : Nat) [IsFn Tryz.prog f] (cs : List AV) (p : Pth → Bool) (hcs : ∀ hp, SnapL hp cs cs) (hf : ∀ x ∈ xs, AC Tryz.prog f (.agg (enc false x) :: cs) [.b (p x)]) :
    AC Tryz.prog 222 [ar false xs, .fn f cs] [.i (idxFrom p xs 0)] := by
  refine AC.go Tryz.func222 Tryz.ntmps222 rfl rfl fun w0 hw => ?_; simp [WfL, WfA, E_length, Enc.enc, In64] at hw
  repeat' first | refine s1 ?_ | refine q1 ?_ | (refine s2 ?_ ?_ <;> intro hc <;> (try simp only [decide_eq_true_eq, decide_eq_false_iff_not, Bool.not_eq_true', Bool.not_eq_false'] at hc)) | fail
  refine F.loop (σ := Nat) [4, 5, 8, 9, 10, 11, 12, 13, 14, 15, 16, 17, 18] (fun k => [(8, .i k)]) (fun _ => []) (fun k => k ≤ xs.length ∧ idxFrom p xs 0 = idxFrom p (xs.drop k) k) (fun k => xs.length - k) 0 ⟨rfl, trivial⟩ trivial ⟨Nat.zero_le _, rfl⟩ ?_
  rintro k ⟨hk, hi⟩
  by_cases hlt : k < xs.length
  · rw [idxFrom_drop p xs hlt] at hi
    have h1 := hf (xs.getD k default) (gm hlt)
    cases hpx : p (xs.getD k default) with
    | true =>
      rw [hpx] at hi h1
      repeat' first | refine s1 ?_ | refine q1 ?_ | (refine kR ?_; first | refine F.cv (h1) ?_) | (refine s2 ?_ ?_ <;> intro hc <;> (try simp only [decide_eq_true_eq, decide_eq_false_iff_not, Bool.not_eq_true', Bool.not_eq_false'] at hc)) | fail
      refine F.ret ?_
      simp [hi]
    | false =>
      rw [hpx] at hi h1
      repeat' first | refine s1 ?_ | refine q1 ?_ | (refine kR ?_; first | refine F.cv (h1) ?_) | (refine s2 ?_ ?_ <;> intro hc <;> (try simp only [decide_eq_true_eq, decide_eq_false_iff_not, Bool.not_eq_true', Bool.not_eq_false'] at hc)) | fail
      exact ⟨k + 1, F.fit ⟨rfl, trivial⟩ trivial, ⟨by omega, hi⟩, by omega⟩
  · have e : k = xs.length := by omega
    subst e
    repeat' first | refine s1 ?_ | refine q1 ?_ | (refine s2 ?_ ?_ <;> intro hc <;> (try simp only [decide_eq_true_eq, decide_eq_false_iff_not, Bool.not_eq_true', Bool.not_eq_false'] at hc)) | fail
    refine F.ret ?_
    simp [hi, idxFrom]
end Go.Proofs.YtedjajokbdokhaaGreat.V
