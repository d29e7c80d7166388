/- Contracts: spaces within others, images of spaces, valid spaces, as the program finds them. -/
import Derived.Test.YtedjajokbdokhaaGreatUf
import Derived.Test.YtedjajokbdokhaaGreatA78
import Derived.Test.YtedjajokbdokhaaGreatA74
import Derived.Test.YtedjajokbdokhaaGreatB6
import Derived.Test.YtedjajokbdokhaaGreatB4
import Derived.Test.YtedjajokbdokhaaGreatA5
namespace Go.Proofs.YtedjajokbdokhaaGreat.V
open V.Enc (enc)
open Go.RowKit G D
set_option linter.unusedVariables false
set_option linter.unusedSimpArgs false
set_option maxHeartbeats 4000000
set_option maxRecDepth 4000
attribute [local irreducible] AW ARg ARA ARet MRet ASil AC AM

theorem leading1_a (x : Int) : AC Tryz.prog 212 [.i x] [.b (decide (x ≠ 0))] := by
  refine AC.go Tryz.func212 Tryz.ntmps212 rfl rfl fun w0 hw => ?_; simp [WfL, WfA, E_length, Enc.enc, In64] at hw
  repeat' first | refine s1 ?_ | refine q1 ?_ | fail
  (refine kZ ?_; exact F.ret rfl)
theorem leading_a (v : List Int) : AC Tryz.prog 194 [ar false v] [.i (leadV v)] := by
  refine AC.go Tryz.func194 Tryz.ntmps194 rfl rfl fun w0 hw => ?_; simp [WfL, WfA, E_length, Enc.enc, In64] at hw
  have hI := IndexFunc1_a v 212 [] (fun x => decide (x ≠ 0)) (fun _ => .nil) (fun x _ => leading1_a x)
  rw [show idxFrom (fun x => decide (x ≠ 0)) v 0 = leadV v from rfl] at hI
  generalize leadV v = k at hI ⊢
  repeat' first | refine s1 ?_ | refine q1 ?_ | (refine kR ?_; first | refine F.c (hI) ?_) | fail
  (refine kZ ?_; exact F.ret rfl)
theorem rest_a (p : Int) (s : Spc) (v : List Int) (h : isSpc p s = true) (hn : v.length = s.n.toNat) (hb : ∀ j, j < s.n.toNat → 0 ≤ v.getD j default ∧ v.getD j default ≤ p - 1) : AC Tryz.prog 206 [.agg (enc false s), .i p, ar false v] [.dt true 1 (E true (rstK p s.b v s.b.length))] := by
  refine AC.go Tryz.func206 Tryz.ntmps206 rfl rfl fun w0 hw => ?_; simp [WfL, WfA, E_length, Enc.enc, In64] at hw
  obtain ⟨h1, h2, h3, h4⟩ := isSpc_spec h
  have hp := isF_pos h1
  obtain ⟨piv, he, hl⟩ := isSpc_ech h
  have hRs := fun m hm => (rstK_spec (by omega) he hl h4 hn hb m hm).1
  have hln := rstK_len p s.b v
  have hC := clone_a v (by omega)
  have hbl : ∀ j, j < s.b.length → (s.b.getD j default).length = s.n.toNat := h4.len
  have hbb : ∀ j, j < s.b.length → ∀ t, t < s.n.toNat → 0 ≤ (s.b.getD j default).getD t default ∧ (s.b.getD j default).getD t default ≤ p - 1 := fun j hj => (h4 _ (gm hj)).2
  have hld : ∀ i, i < s.b.length → leadV (s.b.getD i default) = (piv.getD i 0 : Nat) ∧ piv.getD i 0 < s.n.toNat := fun i hi => ⟨he.lead_at hl h4 hi, he.lt i (by omega)⟩
  generalize hN : s.n.toNat = n at *
  repeat' first | refine s1 ?_ | refine q1 ?_ | (refine kR ?_; first | refine F.c (hC) ?_) | fail
  refine F.loop (σ := Nat) [9, 15, 16, 17, 18, 19, 20, 21, 22, 23, 24, 25, 26, 27, 28, 29, 30] (fun k => [(15, .i k)]) (fun k => [(1, .live false 1 (E true (rstK p s.b v k)))]) (fun k => k ≤ s.b.length) (fun k => s.b.length - k) 0 ⟨rfl, trivial⟩ ⟨rfl, trivial⟩ (Nat.zero_le _) ?_
  rintro k k1
  have hlk := hln k
  have hRk := hRs k k1
  by_cases hk : k < s.b.length
  · obtain ⟨l1, l2⟩ := hld k hk
    have hst : rstK p s.b v (k + 1) = addK p (p - (rstK p s.b v k).getD (leadV (s.b.getD k default)).toNat default) 0 (s.b.getD k default) (rstK p s.b v k) (s.b.getD k default).length := rfl
    have hL := leading_a (s.b.getD k default)
    have hlb := hbl k hk
    have hbk := hbb k hk
    generalize leadV (s.b.getD k default) = ld at l1 hst hL
    have l3 : ld.toNat < n := by omega
    have l0 : 0 ≤ ld := by omega
    clear l1
    generalize rstK p s.b v k = X at hst hlk hRk ⊢
    have hx := hRk ld.toNat l3
    rw [← Nat.zero_add ld.toNat] at hst hx
    have hi : In64 (p - X.getD (0 + ld.toNat) default) := by unfold In64; omega
    have hA := addMul_m p (p - X.getD (0 + ld.toNat) default) X (s.b.getD k default) 0 v.length (by omega) (by omega) (fun t ht => by have := hRk t (by omega); omega) (fun t ht => by have := hbk t (by omega); omega) (by omega) (by omega)
    rw [hlk] at hA
    repeat' first | refine s1 ?_ | refine q1 ?_ | (refine kR ?_; first | refine F.c (hL) ?_ | refine F.m [1] (hA) ?_) | fail
    exact ⟨k + 1, F.fit ⟨rfl, trivial⟩ ⟨obE (by rw [hst]), trivial⟩, by omega, by omega⟩
  · obtain rfl : k = s.b.length := by omega
    generalize rstK p s.b v s.b.length = X at hlk ⊢
    rw [← hlk]
    repeat' first | refine s1 ?_ | refine q1 ?_ | fail
    (refine kZ ?_; exact F.ret rfl)
theorem has_a (p : Int) (s : Spc) (v : List Int) (h : isSpc p s = true) (hn : v.length = s.n.toNat) (hb : ∀ j, j < s.n.toNat → 0 ≤ v.getD j default ∧ v.getD j default ≤ p - 1) : AC Tryz.prog 179 [.agg (enc false s), .i p, ar false v] [.b (hasV p s v)] := by
  refine AC.go Tryz.func179 Tryz.ntmps179 rfl rfl fun w0 hw => ?_; simp [WfL, WfA, E_length, Enc.enc, In64] at hw
  have hR := rest_a p s v h hn hb
  unfold hasV
  generalize rstK p s.b v s.b.length = X at hR ⊢
  have hL := leading_a X
  generalize leadV X = k at hL ⊢
  repeat' first | refine s1 ?_ | refine q1 ?_ | (refine kR ?_; first | refine F.c (hR) ?_ | refine F.c (hL) ?_) | fail
  (refine kZ ?_; exact F.ret rfl)
theorem isWithin1_a (p : Int) (b : Spc) (v : List Int) (h : isSpc p b = true) (hn : v.length = b.n.toNat) (hb : ∀ j, j < b.n.toNat → 0 ≤ v.getD j default ∧ v.getD j default ≤ p - 1) : AC Tryz.prog 178 [ar false v, .ip (enc false b), .ip [.i p]] [.b (!hasV p b v)] := by
  refine AC.go Tryz.func178 Tryz.ntmps178 rfl rfl fun w0 hw => ?_; simp [WfL, WfA, E_length, Enc.enc, In64] at hw
  have hH := has_a p b v h hn hb
  generalize hasV p b v = x at hH ⊢
  repeat' first | refine s1 ?_ | refine q1 ?_ | (refine kR ?_; first | refine F.c (hH) ?_) | fail
  (refine kZ ?_; exact F.ret rfl)
theorem isWithin_a (p : Int) (a b : Spc) (ha : isSpc p a = true) (hb : isSpc p b = true) (hn : b.n = a.n) : AC Tryz.prog 126 [.i p, .agg (enc false a), .agg (enc false b)] [.b (inS p a b)] := by
  refine AC.go Tryz.func126 Tryz.ntmps126 rfl rfl fun w0 hw => ?_; simp [WfL, WfA, E_length, Enc.enc, In64] at hw
  obtain ⟨h1, h2, h3, h4⟩ := isSpc_spec ha
  have hC := ContainsFunc2_a a.b 178 [.ip (enc false b), .ip [.i p]] (fun v => !hasV p b v) (fun _ => .ip (.ip .nil)) (fun x hx => isWithin1_a p b x hb (by rw [hn]; exact (h4 x hx).1) (by rw [hn]; exact (h4 x hx).2))
  have he : inS p a b = !(a.b.any fun v => !hasV p b v) := by
    unfold inS
    rw [List.not_any_eq_all_not]; simp
  rw [he]
  generalize (a.b.any fun v => !hasV p b v) = Y at hC ⊢
  repeat' first | refine s1 ?_ | refine q1 ?_ | (refine kR ?_; first | refine F.c (hC) ?_) | fail
  (refine kZ ?_; exact F.ret rfl)
theorem ent_fc (m : Mat) (v : List Int) (n r : Nat) (p : Int) : tab r 1 (mulF p (ent m) (fcF [v]) n) = rowL r fun i => sumN (fun k => ent m i k * v.getD k default) n % p := by
  rw [tab_one]
  refine rowL_ext fun i _ => ?_
  unfold mulF
  rw [dotK_sum]
  rfl
theorem apply_a {p : Int} {m : Mat} {v : List Int} (hm : isMat p m = true) (hn : v.length = m.c.toNat) (hb : ∀ j, j < m.c.toNat → 0 ≤ v.getD j default ∧ v.getD j default ≤ p - 1) : AC Tryz.prog 147 [.i p, .agg (enc false m), ar false v] [.dt true 1 (E true (appV p m v))] := by
  refine AC.go Tryz.func147 Tryz.ntmps147 rfl rfl fun w0 hw => ?_; simp [WfL, WfA, E_length, Enc.enc, In64] at hw
  obtain ⟨h0, h1, h2, h3, h4⟩ := isMat_spec hm
  have hFC := fromColumns_a m.c.toNat [v] (by omega) (by simp) (fun k hk => by
    obtain rfl : k = 0 := by simpa using hk
    exact hn)
  rw [show [v].length = 1 from rfl, Int.toNat_of_nonneg h2.1] at hFC
  have hT := times_a p m.r.toNat m.c.toNat 1 (ent m) (fcF [v]) h0 (by omega) (by omega) (by omega) (ent_bd hm) (fun i hi j hj => by
    obtain rfl : j = 0 := by omega
    exact hb i hi)
  rw [isMat_tm hm] at hT
  have e : tm m.r.toNat 1 (mulF p (ent m) (fcF [v]) m.c.toNat) = ⟨(m.r.toNat : Int), 1, appV p m v⟩ := by
    unfold tm appV
    rw [ent_fc]; rfl
  rw [e] at hT
  generalize appV p m v = X at hT ⊢
  generalize tm m.c.toNat 1 (fcF [v]) = T1 at hFC hT
  repeat' first | refine s1 ?_ | refine q1 ?_ | fail
  refine AW.draw 10 G.mixed (by kernel_rfl) ?_
  refine dP 0 ?_
  first | refine dL 1 ?_ | refine dLQ 1 ?_
  refine dP 2 ?_
  first | refine dL 3 ?_ | refine dLQ 3 ?_
  refine dP 4 ?_
  refine dO 5 true ?_
  refine s1 ?_
  refine ARg.nil (ATh.normal ?_)
  refine dO 6 true ?_
  first | refine s1 ?_ | refine F.c (hFC) ?_ | refine F.c (hT) ?_
  refine ARg.nil (ATh.normal ?_)
  refine dO 7 true ?_
  first | refine s1 ?_ | refine F.c (hFC) ?_ | refine F.c (hT) ?_
  refine ARg.nil (ATh.normal ?_)
  first | refine dP 8 ?_ | refine dP 8 ?_ (hs := by exact (A.fldG ⟨Tryz.underlying71⟩ rfl (inferInstance : One Tryz.prog 22) rfl rfl))
  refine dP 9 ?_
  refine dN ?_
  rotate_left
  all_goals
    repeat' first | refine s1 ?_ | refine q1 ?_ | fail
    (refine kZ ?_; exact F.ret rfl)
theorem imageOf_a {p : Int} {m : Mat} {s : Spc} (hm : isMat p m = true) (hs : isSpc p s = true) (hn : s.n = m.c) : AC Tryz.prog 127 [.i p, .agg (enc false m), .agg (enc false s)] [.agg (enc true (imgSp p m s))] := by
  refine AC.go Tryz.func127 Tryz.ntmps127 rfl rfl fun w0 hw => ?_; simp [WfL, WfA, E_length, Enc.enc, In64] at hw
  obtain ⟨h0, h1, h2, h3, h4⟩ := isMat_spec hm
  obtain ⟨_, _, g3, g4⟩ := isSpc_spec hs
  have hp := isF_pos h0
  have hll := imgL_len p m s
  have hS := span_a p m.r.toNat (imgL p m s) h0 (by omega) (by omega) (imgL_vec (by omega) m s)
  rw [Int.toNat_of_nonneg h1.1, show (⟨m.r, spanL p m.r.toNat (imgL p m s)⟩ : Spc) = imgSp p m s from rfl] at hS
  have hAp := fun k (hk : k < s.b.length) => apply_a hm (v := s.b.getD k default) (by rw [(g4 _ (gm hk)).1, hn]) (fun j hj => (g4 _ (gm hk)).2 j (by rw [hn]; exact hj))
  have hIt := fun k (hk : k < s.b.length) => imgL_take p m s hk
  generalize imgSp p m s = IM at hS ⊢
  generalize imgL p m s = L at hll hS hIt
  repeat' first | refine s1 ?_ | refine q1 ?_ | fail
  refine AW.open 7 1 (.inl rfl) ?_
  refine F.loop (σ := Nat) [7, 9, 13, 14, 15, 16, 17, 18, 19, 20, 21, 22, 23, 24] (fun k => [(7, .sl 3 k 0 k), (13, .i k)]) (fun k => [(3, .live false 1 (E true (L.take k)))]) (fun k => k ≤ s.b.length) (fun k => s.b.length - k) 0 ⟨rfl, rfl, trivial⟩ ⟨rfl, trivial⟩ (Nat.zero_le _) ?_
  rintro k k1
  have hp2 : (L.take k).length = k := by rw [List.length_take]; omega
  by_cases hk : k < s.b.length
  · have hA := hAp k hk
    have hts := hIt k hk
    generalize appV p m (s.b.getD k default) = X at hA hts
    repeat' first | refine s1 ?_ | refine q1 ?_ | (refine kR ?_; first | refine F.c (hA) ?_ | refine F.a1 (List Int) (a := X) ?_) | fail
    exact ⟨k + 1, F.fit ⟨rfl, rfl, trivial⟩ ⟨obE (by rw [hts]), trivial⟩, by omega, by omega⟩
  · obtain rfl : k = s.b.length := by omega
    have e : L.take s.b.length = L := List.take_of_length_le (by omega)
    rw [e]
    rw [← hll]
    clear hp2 e
    repeat' first | refine s1 ?_ | refine q1 ?_ | (refine kR ?_; first | refine F.c (hS) ?_) | fail
    (refine kZ ?_; exact F.ret rfl)
/-! ### valid spaces -/
def vecOk (p n : Int) (v : List Int) : Bool := decide ((v.length : Int) = n) && isVec p v
theorem areVectors1_a (p n : Int) (v : List Int) : AC Tryz.prog 204 [ar false v, .ip [.i n], .ip [.i p]] [.b (!vecOk p n v)] := by
  refine AC.go Tryz.func204 Tryz.ntmps204 rfl rfl fun w0 hw => ?_; simp [WfL, WfA, E_length, Enc.enc, In64] at hw
  have hV := implIsVector_a p v
  unfold vecOk
  by_cases h : (v.length : Int) = n
  · rw [decide_eq_true h]
    generalize isVec p v = x at hV ⊢
    repeat' first | refine s1 ?_ | refine q1 ?_ | (refine kR ?_; first | refine F.c (hV) ?_) | fail
    refine F.ret ?_
    simp
  · rw [decide_eq_false h]
    repeat' first | refine s1 ?_ | refine q1 ?_ | (refine kR ?_; first | refine F.c (hV) ?_) | fail
    refine F.ret ?_
    simp
def areV (p n : Int) (l : List (List Int)) : Bool := decide (0 ≤ n ∧ n ≤ 8) && decide (l.length ≤ 16) && l.all (vecOk p n)
theorem areVectors_a (p n : Int) (l : List (List Int)) : AC Tryz.prog 176 [.i p, .i n, ar false l] [.b (areV p n l)] := by
  refine AC.go Tryz.func176 Tryz.ntmps176 rfl rfl fun w0 hw => ?_; simp [WfL, WfA, E_length, Enc.enc, In64] at hw
  have hW := within_a n 0 8
  have hC := ContainsFunc2_a l 204 [.ip [.i n], .ip [.i p]] (fun v => !vecOk p n v) (fun _ => .ip (.ip .nil)) (fun x hx => areVectors1_a p n x)
  have he : l.all (vecOk p n) = !(l.any fun v => !vecOk p n v) := by
    rw [List.not_any_eq_all_not]; simp
  unfold areV
  rw [he]
  generalize (l.any fun v => !vecOk p n v) = Y at hC ⊢
  by_cases h1 : 0 ≤ n ∧ n ≤ 8
  · rw [decide_eq_true h1] at hW ⊢
    by_cases h2 : l.length ≤ 16
    · rw [decide_eq_true h2]
      repeat' first | refine s1 ?_ | refine q1 ?_ | (refine kR ?_; first | refine F.c (hW) ?_ | refine F.c (hC) ?_) | fail
      refine F.ret ?_
      simp
    · rw [decide_eq_false h2]
      repeat' first | refine s1 ?_ | refine q1 ?_ | (refine kR ?_; first | refine F.c (hW) ?_ | refine F.c (hC) ?_) | fail
      refine F.ret ?_
      rfl
  · rw [decide_eq_false h1] at hW ⊢
    repeat' first | refine s1 ?_ | refine q1 ?_ | (refine kR ?_; first | refine F.c (hW) ?_ | refine F.c (hC) ?_) | fail
    refine F.ret ?_
    rfl
theorem fineB_areV (p n : Int) (l : List (List Int)) : fineB p n l = (isF p && areV p n l) := by
  unfold fineB areV
  rw [show (l.all fun x => decide ((x.length : Int) = n) && isVec p x) = l.all (vecOk p n) from rfl]
  cases isF p <;> cases l.all (vecOk p n) <;> cases decide (0 ≤ n ∧ n ≤ 8) <;> cases decide (l.length ≤ 16) <;> rfl
theorem implIsSpace_a (p : Int) (s : Spc) : AC Tryz.prog 125 [.i p, .agg (enc false s)] [.b (isSpc p s)] := by
  refine AC.go Tryz.func125 Tryz.ntmps125 rfl rfl fun w0 hw => ?_; simp [WfL, WfA, E_length, Enc.enc, In64] at hw
  have hF := implIsField_a p
  have hV := areVectors_a p s.n s.b
  unfold isSpc
  have hff := fineB_areV p s.n s.b
  cases hf : isF p with
  | false =>
    rw [hf] at hF hff
    rw [hff]
    repeat' first | refine s1 ?_ | refine q1 ?_ | (refine kR ?_; first | refine F.c (hF) ?_) | fail
    refine F.ret ?_
    simp
  | true =>
    rw [hf] at hF hff
    rw [Bool.true_and] at hff
    cases hv : areV p s.n s.b with
    | false =>
      rw [hv] at hV hff
      rw [hff]
      repeat' first | refine s1 ?_ | refine q1 ?_ | (refine kR ?_; first | refine F.c (hF) ?_ | refine F.c (hV) ?_) | fail
      refine F.ret ?_
      simp
    | true =>
      rw [hv] at hV hff
      rw [hff]
      obtain ⟨h1, h2, h3, h4⟩ := fineB_spec hff
      have hS := span_a p s.n.toNat s.b h1 (by omega) (by omega) h4
      rw [Int.toNat_of_nonneg h2.1] at hS
      have hE := implEqualSpaces_a ⟨s.n, spanL p s.n.toNat s.b⟩ s
      rw [show sameS ⟨s.n, spanL p s.n.toNat s.b⟩ s = decide (spanL p s.n.toNat s.b = s.b) by unfold sameS; simp] at hE
      rw [Bool.true_and]
      generalize decide (spanL p s.n.toNat s.b = s.b) = Y at hE ⊢
      generalize (⟨s.n, spanL p s.n.toNat s.b⟩ : Spc) = SP at hS hE
      repeat' first | refine s1 ?_ | refine q1 ?_ | (refine kR ?_; first | refine F.c (hF) ?_ | refine F.c (hV) ?_) | fail
      refine AW.draw 9 G.mixed (by kernel_rfl) ?_
      refine dP 0 ?_
      refine dP 1 ?_
      first | refine dL 2 ?_ | refine dLQ 2 ?_
      refine dP 3 ?_
      first | refine dL 4 ?_ | refine dLQ 4 ?_
      first | refine dL 6 ?_ | refine dLQ 6 ?_
      refine dO 5 true ?_
      first | refine s1 ?_ | refine F.c (hS) ?_ | refine F.c (hE) ?_
      refine ARg.nil (ATh.normal ?_)
      refine dO 7 true ?_
      first | refine s1 ?_ | refine F.c (hS) ?_ | refine F.c (hE) ?_
      refine ARg.nil (ATh.normal ?_)
      refine dP 8 ?_
      refine dN ?_
      rotate_left
      all_goals
        repeat' first | refine s1 ?_ | refine q1 ?_ | fail
        (refine kZ ?_; exact F.ret rfl)
theorem implIsSub_a (r : Rep) (s : List Spc) : AC Tryz.prog 71 [.agg (enc false r), ar false s] [.b (isSub r s)] := by
  refine AC.go Tryz.func71 Tryz.ntmps71 rfl rfl fun w0 hw => ?_; simp [WfL, WfA, E_length, Enc.enc, In64] at hw
  have hR := implIsRep_a r
  unfold isSub
  cases hr : isRep r with
  | false =>
    rw [hr] at hR
    repeat' first | refine s1 ?_ | refine q1 ?_ | (refine kR ?_; first | refine F.c (hR) ?_) | fail
    refine F.ret ?_
    rfl
  | true =>
    rw [hr] at hR
    rw [Bool.true_and]
    obtain ⟨r1, r2, r3, r4⟩ := isRep_spec hr
    obtain ⟨c1, c2, c3, _⟩ := areDims_spec r2
    have h5 := okQ_spec c1
    by_cases hl : s.length = r.d.length
    · rw [decide_eq_true hl, Bool.true_and]
      repeat' first | refine s1 ?_ | refine q1 ?_ | (refine kR ?_; first | refine F.c (hR) ?_) | fail
      refine F.loop (σ := Nat) [4, 5, 6, 22, 23, 24, 25, 26, 27, 28, 29, 30, 31, 32, 33, 34, 35, 36, 37, 38, 39, 40, 41, 42] (fun k => [(22, .i k)]) (fun _ => []) (fun k => k ≤ s.length ∧ ∀ j, j < k → spcAt r s j = true) (fun k => s.length - k) 0 ⟨rfl, trivial⟩ trivial ⟨Nat.zero_le _, fun j hj => by omega⟩ ?_
      rintro k ⟨k1, k2⟩
      by_cases hk : k < s.length
      · have hS := implIsSpace_a r.p (s.getD k default)
        have hsp : spcAt r s k = (isSpc r.p (s.getD k default) && decide ((s.getD k default).n = r.d.getD k default)) := rfl
        have hkd : k < r.d.length := by omega
        cases hx : isSpc r.p (s.getD k default) with
        | false =>
          rw [hx] at hS hsp
          repeat' first | refine s1 ?_ | refine q1 ?_ | fail
          refine AW.draw 15 G.mixed (by kernel_rfl) ?_
          refine dP 0 ?_
          first | refine dL 1 ?_ | refine dLQ 1 ?_
          first | refine dL 2 ?_ | refine dLQ 2 ?_
          refine dO 3 true ?_
          first | refine s1 ?_ | refine F.c (hS) ?_
          refine ARg.nil (ATh.normal ?_)
          refine dP 4 ?_
          refine dP 5 ?_
          first | refine dT 32 rfl (by first | assumption | rfl | (simp only [decide_eq_true_eq, Bool.not_eq_true', decide_eq_false_iff_not, Bool.and_eq_true, Bool.or_eq_true]; omega)) ?_ | refine dF 32 rfl (by first | assumption | rfl | (simp only [decide_eq_false_iff_not, Bool.not_eq_false', decide_eq_true_eq, Bool.and_eq_false_iff, Bool.or_eq_false_iff]; omega)) ?_ | (refine dD 32 rfl ?_ ?_ <;> intro hc <;> (try simp only [decide_eq_true_eq, decide_eq_false_iff_not, Bool.not_eq_true', Bool.not_eq_false'] at hc)) | skip
          all_goals
            first | refine dK 6 ?_ | refine dP 6 ?_
            first | refine dK 7 ?_ | refine dL 7 ?_ | refine dLQ 7 ?_
            first | refine dK 8 ?_ | refine dP 8 ?_
            first | refine dK 9 ?_ | refine dL 9 ?_ | refine dLQ 9 ?_
            first | refine dK 10 ?_ | refine dP 10 ?_
            first | refine dK 11 ?_ | refine dP 11 ?_ | refine dQ 11 ?_
            first | refine dK 12 ?_ | refine dL 12 ?_ | refine dLQ 12 ?_
            first | refine dK 13 ?_ | refine dP 13 ?_
            refine dP 14 ?_
            refine dN ?_
            rotate_left
          all_goals
            repeat' first | refine s1 ?_ | refine q1 ?_ | fail
            refine F.ret ?_
            rw [all_no hk hsp]; rfl
        | true =>
          rw [hx] at hS hsp
          by_cases hd : (s.getD k default).n = r.d.getD k default
          · repeat' first | refine s1 ?_ | refine q1 ?_ | fail
            refine AW.draw 15 G.mixed (by kernel_rfl) ?_
            refine dP 0 ?_
            first | refine dL 1 ?_ | refine dLQ 1 ?_
            first | refine dL 2 ?_ | refine dLQ 2 ?_
            refine dO 3 true ?_
            first | refine s1 ?_ | refine F.c (hS) ?_
            refine ARg.nil (ATh.normal ?_)
            refine dP 4 ?_
            refine dP 5 ?_
            first | refine dT 32 rfl (by first | assumption | rfl | (simp only [decide_eq_true_eq, Bool.not_eq_true', decide_eq_false_iff_not, Bool.and_eq_true, Bool.or_eq_true]; omega)) ?_ | refine dF 32 rfl (by first | assumption | rfl | (simp only [decide_eq_false_iff_not, Bool.not_eq_false', decide_eq_true_eq, Bool.and_eq_false_iff, Bool.or_eq_false_iff]; omega)) ?_ | (refine dD 32 rfl ?_ ?_ <;> intro hc <;> (try simp only [decide_eq_true_eq, decide_eq_false_iff_not, Bool.not_eq_true', Bool.not_eq_false'] at hc)) | skip
            all_goals
              first | refine dK 6 ?_ | refine dP 6 ?_
              first | refine dK 7 ?_ | refine dL 7 ?_ | refine dLQ 7 ?_
              first | refine dK 8 ?_ | refine dP 8 ?_
              first | refine dK 9 ?_ | refine dL 9 ?_ | refine dLQ 9 ?_
              first | refine dK 10 ?_ | refine dP 10 ?_
              first | refine dK 11 ?_ | refine dP 11 ?_ | refine dQ 11 ?_
              first | refine dK 12 ?_ | refine dL 12 ?_ | refine dLQ 12 ?_
              first | refine dK 13 ?_ | refine dP 13 ?_
              refine dP 14 ?_
              refine dN ?_
              rotate_left
            all_goals
              repeat' first | refine s1 ?_ | refine q1 ?_ | fail
              exact ⟨k + 1, F.fit ⟨rfl, trivial⟩ trivial, ⟨by omega, snocP k2 (by rw [hsp, decide_eq_true hd]; rfl)⟩, by omega⟩
          · repeat' first | refine s1 ?_ | refine q1 ?_ | fail
            refine AW.draw 15 G.mixed (by kernel_rfl) ?_
            refine dP 0 ?_
            first | refine dL 1 ?_ | refine dLQ 1 ?_
            first | refine dL 2 ?_ | refine dLQ 2 ?_
            refine dO 3 true ?_
            first | refine s1 ?_ | refine F.c (hS) ?_
            refine ARg.nil (ATh.normal ?_)
            refine dP 4 ?_
            refine dP 5 ?_
            first | refine dT 32 rfl (by first | assumption | rfl | (simp only [decide_eq_true_eq, Bool.not_eq_true', decide_eq_false_iff_not, Bool.and_eq_true, Bool.or_eq_true]; omega)) ?_ | refine dF 32 rfl (by first | assumption | rfl | (simp only [decide_eq_false_iff_not, Bool.not_eq_false', decide_eq_true_eq, Bool.and_eq_false_iff, Bool.or_eq_false_iff]; omega)) ?_ | (refine dD 32 rfl ?_ ?_ <;> intro hc <;> (try simp only [decide_eq_true_eq, decide_eq_false_iff_not, Bool.not_eq_true', Bool.not_eq_false'] at hc)) | skip
            all_goals
              first | refine dK 6 ?_ | refine dP 6 ?_
              first | refine dK 7 ?_ | refine dL 7 ?_ | refine dLQ 7 ?_
              first | refine dK 8 ?_ | refine dP 8 ?_
              first | refine dK 9 ?_ | refine dL 9 ?_ | refine dLQ 9 ?_
              first | refine dK 10 ?_ | refine dP 10 ?_
              first | refine dK 11 ?_ | refine dP 11 ?_ | refine dQ 11 ?_
              first | refine dK 12 ?_ | refine dL 12 ?_ | refine dLQ 12 ?_
              first | refine dK 13 ?_ | refine dP 13 ?_
              refine dP 14 ?_
              refine dN ?_
              rotate_left
            all_goals
              repeat' first | refine s1 ?_ | refine q1 ?_ | fail
              refine F.ret ?_
              rw [all_no hk (by rw [hsp, decide_eq_false hd]; rfl)]; rfl
      · obtain rfl : k = s.length := by omega
        rw [all_yes k2, Bool.true_and]
        repeat' first | refine s1 ?_ | refine q1 ?_ | fail
        refine F.loop (σ := Nat) [4, 7, 8, 46, 47, 48, 49, 50, 51, 52, 53, 54, 55, 56, 57, 58, 59, 60, 61, 62, 63, 64, 65, 66, 67, 68, 69, 70, 71, 72, 73, 74, 75, 76, 77] (fun k => [(46, .i k)]) (fun _ => []) (fun k => k ≤ r.m.length ∧ ∀ j, j < k → subAt r s j = true) (fun k => r.m.length - k) 0 ⟨rfl, trivial⟩ trivial ⟨Nat.zero_le _, fun j hj => by omega⟩ ?_
        rintro k ⟨i1, i2⟩
        by_cases hk : k < r.m.length
        · obtain ⟨m1, m2, m3, m4, m5⟩ := arrow_ok hr hk
          have hF1 : (r.q.fr.getD k default).toNat < s.length := by omega
          have hT1 : (r.q.to.getD k default).toNat < s.length := by omega
          have hkf : k < r.q.fr.length := by omega
          have hkt : k < r.q.to.length := by omega
          have f1 := k2 _ hF1
          have t1 := k2 _ hT1
          simp only [spcAt, Bool.and_eq_true, decide_eq_true_eq] at f1 t1
          have hI := imageOf_a m1 f1.1 (by rw [f1.2, m4])
          have hW := isWithin_a r.p (imgSp r.p (r.m.getD k default) (s.getD (r.q.fr.getD k default).toNat default)) (s.getD (r.q.to.getD k default).toNat default) (imgSp_ok m1 _) t1.1 (by rw [t1.2]; exact m5.symm)
          have hsb : subAt r s k = inS r.p (imgSp r.p (r.m.getD k default) (s.getD (r.q.fr.getD k default).toNat default)) (s.getD (r.q.to.getD k default).toNat default) := rfl
          generalize imgSp r.p (r.m.getD k default) (s.getD (r.q.fr.getD k default).toNat default) = IM at hI hW hsb
          cases hx : inS r.p IM (s.getD (r.q.to.getD k default).toNat default) with
          | false =>
            rw [hx] at hW hsb
            repeat' first | refine s1 ?_ | refine q1 ?_ | fail
            refine AW.draw 26 G.mixed (by kernel_rfl) ?_
            refine dP 0 ?_
            first | refine dL 1 ?_ | refine dLQ 1 ?_
            refine dP 2 ?_
            first | refine dL 3 ?_ | refine dLQ 3 ?_
            first | refine dL 4 ?_ | refine dLQ 4 ?_
            refine dP 5 ?_
            refine dP 6 ?_
            refine dP 7 ?_
            first | refine dL 8 ?_ | refine dLQ 8 ?_
            refine dP 9 ?_
            first | refine dP 10 ?_ | refine dQ 10 ?_
            first | refine dL 11 ?_ | refine dLQ 11 ?_
            first | refine dP 12 ?_ | refine dQ 12 ?_
            first | refine dL 13 ?_ | refine dLQ 13 ?_
            refine dP 15 ?_
            refine dP 16 ?_
            refine dP 17 ?_
            first | refine dL 18 ?_ | refine dLQ 18 ?_
            refine dP 19 ?_
            first | refine dP 20 ?_ | refine dQ 20 ?_
            first | refine dL 21 ?_ | refine dLQ 21 ?_
            first | refine dP 22 ?_ | refine dQ 22 ?_
            first | refine dL 23 ?_ | refine dLQ 23 ?_
            refine dO 14 true ?_
            first | refine s1 ?_ | refine F.c (hI) ?_
            refine ARg.nil (ATh.normal ?_)
            refine dO 24 true ?_
            first | refine s1 ?_ | refine F.c (hW) ?_
            refine ARg.nil (ATh.normal ?_)
            refine dP 25 ?_
            refine dN ?_
            rotate_left
            all_goals
              repeat' first | refine s1 ?_ | refine q1 ?_ | fail
              refine F.ret ?_
              rw [all_no hk hsb]
          | true =>
            rw [hx] at hW hsb
            repeat' first | refine s1 ?_ | refine q1 ?_ | fail
            refine AW.draw 26 G.mixed (by kernel_rfl) ?_
            refine dP 0 ?_
            first | refine dL 1 ?_ | refine dLQ 1 ?_
            refine dP 2 ?_
            first | refine dL 3 ?_ | refine dLQ 3 ?_
            first | refine dL 4 ?_ | refine dLQ 4 ?_
            refine dP 5 ?_
            refine dP 6 ?_
            refine dP 7 ?_
            first | refine dL 8 ?_ | refine dLQ 8 ?_
            refine dP 9 ?_
            first | refine dP 10 ?_ | refine dQ 10 ?_
            first | refine dL 11 ?_ | refine dLQ 11 ?_
            first | refine dP 12 ?_ | refine dQ 12 ?_
            first | refine dL 13 ?_ | refine dLQ 13 ?_
            refine dP 15 ?_
            refine dP 16 ?_
            refine dP 17 ?_
            first | refine dL 18 ?_ | refine dLQ 18 ?_
            refine dP 19 ?_
            first | refine dP 20 ?_ | refine dQ 20 ?_
            first | refine dL 21 ?_ | refine dLQ 21 ?_
            first | refine dP 22 ?_ | refine dQ 22 ?_
            first | refine dL 23 ?_ | refine dLQ 23 ?_
            refine dO 14 true ?_
            first | refine s1 ?_ | refine F.c (hI) ?_
            refine ARg.nil (ATh.normal ?_)
            refine dO 24 true ?_
            first | refine s1 ?_ | refine F.c (hW) ?_
            refine ARg.nil (ATh.normal ?_)
            refine dP 25 ?_
            refine dN ?_
            rotate_left
            all_goals
              repeat' first | refine s1 ?_ | refine q1 ?_ | fail
              exact ⟨k + 1, F.fit ⟨rfl, trivial⟩ trivial, ⟨by omega, snocP i2 hsb⟩, by omega⟩
        · obtain rfl : k = r.m.length := by omega
          repeat' first | refine s1 ?_ | refine q1 ?_ | fail
          refine F.ret ?_
          rw [all_yes i2]
    · rw [decide_eq_false hl, Bool.false_and]
      repeat' first | refine s1 ?_ | refine q1 ?_ | (refine kR ?_; first | refine F.c (hR) ?_) | fail
      (refine kZ ?_; exact F.ret rfl)
end Go.Proofs.YtedjajokbdokhaaGreat.V
