/- Contracts: numbers of paths from and to a vertex; Cartan's matrix. -/
import Derived.Test.YtedjajokbdokhaaGreatA21
import Derived.Test.YtedjajokbdokhaaGreatUm
namespace Go.Proofs.YtedjajokbdokhaaGreat.V
open V.Enc (enc)
open Go.RowKit G D
set_option linter.unusedVariables false
set_option linter.unusedSimpArgs false
set_option maxHeartbeats 4000000
set_option maxRecDepth 4000
attribute [local irreducible] AW ARg ARA ARet MRet KRet ASil AC AM AK

/-- a number for each vertex -/
def dimsF (q : Quiv) (v : Int) (g : Int → Int) : List Int := if (orderQ q).2 = true ∧ 0 ≤ v ∧ v ≤ q.n - 1 then (List.range q.n.toNat).map fun (w : Nat) => g (w : Int) else []
theorem dimsF_len {q : Quiv} {v : Int} {g : Int → Int} : (dimsF q v g).length ≤ 5 := by
  unfold dimsF
  split
  · rename_i h
    have h5 := okQ_spec (order_ok h.1)
    simp; omega
  · simp
theorem rmap_succ {β : Type} (g : Nat → β) (k : Nat) : (List.range (k + 1)).map g = (List.range k).map g ++ [g k] := by simp [List.range_succ]
theorem countAll_a (q : Quiv) (v : Int) (f : Nat) [IsFn Tryz.prog f] (cs : List AV) (g : Int → Int) (hcs : ∀ hp, SnapL hp cs cs) (hf : ∀ w : Int, AC Tryz.prog f (.i w :: cs) [.i (g w)]) :
    AC Tryz.prog 140 [.agg (enc false q), .i v, .fn f cs] [.dt true 1 (E true (dimsF q v g))] := by
  refine AC.go Tryz.func140 Tryz.ntmps140 rfl rfl fun w0 hw => ?_; simp [WfL, WfA, E_length, Enc.enc, In64] at hw
  have hA := implIsAcyclic_a q
  unfold dimsF
  cases ho : (orderQ q).2 with
  | false =>
    rw [ho] at hA
    rw [if_neg (by simp)]
    repeat' first | refine s1 ?_ | (refine kR ?_; first | refine F.c (hA) ?_) | fail
    (refine kZ ?_; exact F.ret rfl)
  | true =>
    rw [ho] at hA
    have hq := order_ok ho
    have h5 := okQ_spec hq
    have hV := hasVertex_a q v hq
    by_cases h1 : 0 ≤ v ∧ v ≤ q.n - 1
    · rw [decide_eq_true h1] at hV
      rw [if_pos ⟨rfl, h1⟩]
      repeat' first | refine s1 ?_ | (refine kR ?_; first | refine F.c (hA) ?_ | refine F.c (hV) ?_) | fail
      refine AW.open 7 1 (.inl rfl) ?_
      refine F.loop (σ := Nat) [7, 8, 20, 21, 22, 23, 24, 25, 26, 27, 28, 29] (fun k => [(7, .sl 1 k 0 k), (20, .i k)]) (fun k => [(1, .live false 1 (E true ((List.range k).map fun (w : Nat) => g (w : Int))))]) (fun k => k ≤ q.n.toNat) (fun k => q.n.toNat - k) 0 ⟨rfl, rfl, trivial⟩ ⟨rfl, trivial⟩ (Nat.zero_le _) ?_
      rintro k h2
      by_cases hlt : k < q.n.toNat
      · have hg := hf (k : Int)
        have hks := rmap_succ (fun (w : Nat) => g (w : Int)) k
        have hkl : ((List.range k).map fun (w : Nat) => g (w : Int)).length = k := by simp
        generalize ((List.range k).map fun (w : Nat) => g (w : Int)) = L at hks hkl ⊢
        repeat' first | refine s1 ?_ | (refine kR ?_; first | refine F.cv (hg) ?_ | refine F.a1 Int ?_) | fail
        exact ⟨k + 1, F.fit ⟨rfl, rfl, trivial⟩ ⟨obE (by rw [hks]), trivial⟩, by omega, by omega⟩
      · obtain rfl : k = q.n.toNat := by omega
        have hkl : ((List.range q.n.toNat).map fun (w : Nat) => g (w : Int)).length = q.n.toNat := by simp
        generalize ((List.range q.n.toNat).map fun (w : Nat) => g (w : Int)) = L at hkl ⊢
        repeat' first | refine s1 ?_ | fail
        (refine kZ ?_; exact F.ret rfl)
    · rw [decide_eq_false h1] at hV
      rw [if_neg (fun h => h1 h.2)]
      repeat' first | refine s1 ?_ | (refine kR ?_; first | refine F.c (hA) ?_ | refine F.c (hV) ?_) | fail
      (refine kZ ?_; exact F.ret rfl)
def projD (q : Quiv) (v : Int) : List Int := dimsF q v fun w => countP q v w
def injD (q : Quiv) (v : Int) : List Int := dimsF q v fun w => countP q w v
theorem projD1_a (q : Quiv) (v w : Int) : AC Tryz.prog 141 [.i w, .ip (enc false q), .ip (enc false v)] [.i (countP q v w)] := by
  refine AC.go Tryz.func141 Tryz.ntmps141 rfl rfl fun w0 hw => ?_; simp [WfL, WfA, E_length, Enc.enc, In64] at hw
  have hC := implCountPaths_a q v w
  repeat' first | refine s1 ?_ | (refine kR ?_; first | refine F.c (hC) ?_) | fail
  (refine kZ ?_; exact F.ret rfl)
theorem implProjectiveDims_a (q : Quiv) (v : Int) : AC Tryz.prog 86 [.agg (enc false q), .i v] [.dt true 1 (E true (projD q v))] := by
  refine AC.go Tryz.func86 Tryz.ntmps86 rfl rfl fun w0 hw => ?_; simp [WfL, WfA, E_length, Enc.enc, In64] at hw
  have hC := countAll_a q v 141 [.ip (enc false q), .ip (enc false v)] (fun w => countP q v w) (fun _ => .ip (.ip .nil)) fun w => projD1_a q v w
  rw [show dimsF q v (fun w => countP q v w) = projD q v from rfl] at hC
  generalize projD q v = R at hC ⊢
  repeat' first | refine s1 ?_ | (refine kR ?_; first | refine F.c (hC) ?_) | fail
  (refine kZ ?_; exact F.ret rfl)
theorem specProjectiveDims_a (q : Quiv) (v : Int) : AC Tryz.prog 82 [.agg (enc false q), .i v] [.dt true 1 (E true (projD q v))] := by
  refine AC.go Tryz.func82 Tryz.ntmps82 rfl rfl fun w0 hw => ?_; simp [WfL, WfA, E_length, Enc.enc, In64] at hw
  have hA := specIsAcyclic_a q
  have hV := l1In_a v 0 (RowKit.wrap64 (q.n - 1))
  by_cases hok : (orderQ q).2 = true ∧ 0 ≤ v ∧ v ≤ q.n - 1
  · obtain ⟨ho, h1⟩ := hok
    have hd : projD q v = (List.range q.n.toNat).map fun (w : Nat) => countP q v (w : Int) := by rw [projD, dimsF, if_pos ⟨ho, h1⟩]
    rw [hd]
    rw [ho] at hA
    have hq := order_ok ho
    have h5 := okQ_spec hq
    rw [wr_in (show In64 (q.n - 1) by unfold In64; omega), decide_eq_true h1] at hV
    repeat' first | refine s1 ?_ | fail
    refine AW.open 5 1 (.inr rfl) ?_
    refine F.loop (σ := Nat) [5, 6, 8, 9, 10, 11, 12, 13, 14, 15, 16, 17, 18, 19, 20, 21, 22, 23, 24, 25, 26, 27, 28, 29, 30, 31] (fun k => [(5, .sl 1 k 0 k), (6, .i k)]) (fun k => [(1, .live false 1 (E true ((List.range k).map fun (w : Nat) => countP q v (w : Int))))]) (fun k => k ≤ q.n.toNat) (fun k => q.n.toNat - k) 0 ⟨rfl, rfl, trivial⟩ ⟨rfl, trivial⟩ (Nat.zero_le _) ?_
    rintro k h2
    by_cases hlt : k < q.n.toNat
    · have hg := specCountPaths_a q v (k : Int)
      have hks := rmap_succ (fun (w : Nat) => countP q v (w : Int)) k
      have hkl : ((List.range k).map fun (w : Nat) => countP q v (w : Int)).length = k := by simp
      generalize ((List.range k).map fun (w : Nat) => countP q v (w : Int)) = L at hks hkl ⊢
      repeat' first | refine s1 ?_ | (refine kR ?_; first | refine F.c (hA) ?_ | refine F.c (hV) ?_ | refine F.c (hg) ?_ | refine F.a1 Int ?_) | fail
      exact ⟨k + 1, F.fit ⟨rfl, rfl, trivial⟩ ⟨obE (by rw [hks]), trivial⟩, by omega, by omega⟩
    · obtain rfl : k = q.n.toNat := by omega
      have hkl : ((List.range q.n.toNat).map fun (w : Nat) => countP q v (w : Int)).length = q.n.toNat := by simp
      generalize ((List.range q.n.toNat).map fun (w : Nat) => countP q v (w : Int)) = L at hkl ⊢
      repeat' first | refine s1 ?_ | fail
      (refine kZ ?_; exact F.ret rfl)
  · have hd : projD q v = [] := by rw [projD, dimsF, if_neg hok]
    rw [hd]
    repeat' first | refine s1 ?_ | fail
    refine F.loop (σ := Unit) [5, 6, 8, 9, 10, 11, 12, 13, 14, 15, 16, 17, 18, 19, 20, 21, 22, 23, 24, 25, 26, 27, 28, 29, 30, 31] (fun _ => [(5, .em), (6, .i 0)]) (fun _ => []) (fun _ => True) (fun _ => 0) () ⟨rfl, rfl, trivial⟩ trivial trivial ?_
    rintro _ _
    by_cases hn : 0 < q.n
    · cases ho : (orderQ q).2 with
      | false =>
        rw [ho] at hA
        repeat' first | refine s1 ?_ | (refine kR ?_; first | refine F.c (hA) ?_) | fail
        (refine kZ ?_; exact F.ret rfl)
      | true =>
        rw [ho] at hA
        have hq := order_ok ho
        have h5 := okQ_spec hq
        rw [wr_in (show In64 (q.n - 1) by unfold In64; omega), decide_eq_false (fun h => hok ⟨ho, h⟩)] at hV
        repeat' first | refine s1 ?_ | (refine kR ?_; first | refine F.c (hA) ?_ | refine F.c (hV) ?_) | fail
        (refine kZ ?_; exact F.ret rfl)
    · repeat' first | refine s1 ?_ | fail
      (refine kZ ?_; exact F.ret rfl)
/-- Cartan's matrix -/
def cartQ (q : Quiv) : List (List Int) × Bool := if (orderQ q).2 = true then ((List.range q.n.toNat).map fun (v : Nat) => projD q (v : Int), true) else ([], false)
theorem cartQ_ct (q : Quiv) : (cartQ q).1.length + cnt ctL (cartQ q).1 ≤ 1000000 := by
  unfold cartQ
  split
  · rename_i h
    have h5 := okQ_spec (order_ok h)
    have hb : cnt ctL ((List.range q.n.toNat).map fun (v : Nat) => projD q (v : Int)) ≤ ((List.range q.n.toNat).map fun (v : Nat) => projD q (v : Int)).length * 5 := cnt_bd fun x hx => by
      obtain ⟨i, _, rfl⟩ := List.mem_map.1 hx
      exact dimsF_len
    simp only [List.length_map, List.length_range] at hb ⊢
    omega
  · simp [cnt]
end Go.Proofs.YtedjajokbdokhaaGreat.V
