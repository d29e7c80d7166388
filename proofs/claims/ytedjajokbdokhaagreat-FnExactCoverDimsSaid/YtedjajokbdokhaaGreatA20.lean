/- Contracts: paths from a vertex, paths between vertices, their numbers. -/
import Derived.Test.YtedjajokbdokhaaGreatA19
namespace Go.Proofs.YtedjajokbdokhaaGreat.V
open V.Enc (enc)
open Go.RowKit G D
set_option linter.unusedVariables false
set_option linter.unusedSimpArgs false
set_option maxHeartbeats 4000000
set_option maxRecDepth 4000
attribute [local irreducible] AW ARg ARA ARet MRet KRet ASil AC AM AK

theorem pfQ_len (q : Quiv) (h : q.fr.length ≤ 6) (f : Nat) (x : Pth) : (pfQ q f x).length ≤ 7 ^ f := by
  rw [pfQ_lfQ, List.length_map]; exact lfQ_len q h f _
theorem pow7 {f : Nat} (h : f ≤ 5) : 7 ^ f ≤ 100000 := Nat.le_trans (Nat.pow_le_pow_right (by omega) h) (by decide)
theorem lastOk_snoc {q : Quiv} (hq : okQ q = true) (s : Int) (a : List Int) {i : Nat} (hi : i < q.fr.length) : lastOk q ⟨s, a ++ [(i : Int)]⟩ := by
  have h5 := okQ_spec hq
  refine .inr ?_
  have e : (a ++ [(i : Int)]).getD ((a ++ [(i : Int)]).length - 1) default = (i : Int) := by simp
  show 0 ≤ (a ++ [(i : Int)]).getD ((a ++ [(i : Int)]).length - 1) default ∧ (a ++ [(i : Int)]).getD ((a ++ [(i : Int)]).length - 1) default < _
  rw [e]; omega
theorem pathsFrom_m (q : Quiv) (rk : Int → Nat) (h : Acy q rk) : ∀ (f : Nat) (x : Pth), f ≤ 5 → rk (endQ q x) ≤ f → lastOk q x → x.a.length + f ≤ 100 → AM Tryz.prog 218 [.agg (enc false q), .agg (enc false x)] [] [.dt true 2 (E false (pfQ q f x))] []
  | 0, x, hf, hr, hx, hl => by
    have h5 := okQ_spec h.ok
    have hno : ∀ i, i < q.fr.length → q.fr.getD i default = endQ q x → False := fun i hi he => by
      have := h.dec i hi
      rw [he] at this; omega
    have := pathsFrom_step q x (fun _ => []) h.ok hx (by omega) fun i hi he => (hno i hi he).elim
    have e : conts q (fun _ => []) x q.fr.length = pfQ q 0 x := by
      unfold conts
      rw [pfQ]
      congr 1
      refine List.flatMap_eq_nil_iff.2 fun i hi => ?_
      split <;> rfl
    rwa [e] at this
  | f + 1, x, hf, hr, hx, hl => by
    have h5 := okQ_spec h.ok
    have := pathsFrom_step q x (fun i => pfQ q f ⟨x.s, x.a ++ [(i : Int)]⟩) h.ok hx (by omega) fun i hi he => by
      refine ⟨Nat.le_trans (pfQ_len q (by omega) f _) (pow7 (by omega)), ?_⟩
      have hd := h.dec i hi
      refine pathsFrom_m q rk h f ⟨x.s, x.a ++ [(i : Int)]⟩ (by omega) ?_ (lastOk_snoc h.ok _ _ hi) (by simp; omega)
      rw [endQ_snoc]
      rw [he] at hd; omega
    exact this
theorem idx_spec {α : Type} [Inhabited α] (p : α → Bool) : ∀ (l : List α) (k : Nat), (idxFrom p l k = -1 ∧ ∀ x ∈ l, p x = false) ∨ ∃ i, i < l.length ∧ idxFrom p l k = ((k + i : Nat) : Int) ∧ p (l.getD i default) = true ∧ ∀ x ∈ l.take i, p x = false
  | [], k => .inl ⟨rfl, by simp⟩
  | x :: l, k => by
    cases hp : p x with
    | true => exact .inr ⟨0, by simp, by simp [idxFrom, hp], by simp [hp], by simp⟩
    | false =>
      rcases idx_spec p l (k + 1) with ⟨h1, h2⟩ | ⟨i, h1, h2, h3, h4⟩
      · refine .inl ⟨by simp [idxFrom, hp, h1], fun y hy => ?_⟩
        rcases List.mem_cons.1 hy with rfl | hy
        · exact hp
        · exact h2 y hy
      · refine .inr ⟨i + 1, by simp; omega, ?_, by simpa using h3, fun y hy => ?_⟩
        · simp only [idxFrom, hp, cond_false, h2]; omega
        · rw [List.take_succ_cons] at hy
          rcases List.mem_cons.1 hy with rfl | hy
          · exact hp
          · exact h4 y hy
theorem filter_all {α : Type} {p : α → Bool} {l : List α} (h : ∀ x ∈ l, p x = false) : (l.filter fun x => !p x) = l :=
  List.filter_eq_self.2 fun x hx => by rw [h x hx]; rfl
/-- a list from which some are struck -/
theorem deleteP_k (xs : List Pth) (f : Nat) [IsFn Tryz.prog f] (cs : List AV) (p : Pth → Bool) (hl : xs.length ≤ 1000000) (hcs : ∀ hp, SnapL hp cs cs) (hf : ∀ x ∈ xs, AC Tryz.prog f (.agg (enc false x) :: cs) [.b (p x)]) :
    AK Tryz.prog 217 [.sl 0 xs.length 0 xs.length, .fn f cs] [(2, E false xs)] [ar false (xs.filter fun x => !p x)] := by
  refine AK.go Tryz.func217 Tryz.ntmps217 rfl rfl fun w0 bl J hw => ?_; simp [WfL, WfA, E_length, Enc.enc, In64] at hw
  have hI := IndexFuncP_a xs f cs p hcs hf
  rcases idx_spec p xs 0 with ⟨h1, h2⟩ | ⟨i, h1, h2, h3, h4⟩
  · rw [h1] at hI
    rw [filter_all h2]
    refine AW.freezeA (α := Pth) 0 rfl rfl rfl ?_
    repeat' first | refine s1 ?_ | (refine kR ?_; first | refine F.c (hI) ?_) | fail
    exact F.retK rfl
  · rw [h2, Nat.zero_add] at hI
    repeat' first | refine s1 ?_ | (refine kR ?_; first | refine F.c (hI) ?_) | fail
    refine F.loop (σ := List Pth × Nat × Nat) [5, 6, 7, 16, 17, 18, 19, 20, 21, 22, 23, 24, 25, 26, 27, 28, 29, 30, 31, 32, 33, 34, 35] (fun s => [(5, .i s.2.1), (6, .i s.2.2)]) (fun s => [(0, .live false 2 (E false s.1))]) (fun s => s.1.length = xs.length ∧ s.2.1 < s.2.2 ∧ s.2.2 ≤ xs.length ∧ s.1.take s.2.1 = ((xs.take s.2.2).filter fun x => !p x) ∧ s.1.drop s.2.2 = xs.drop s.2.2) (fun s => xs.length - s.2.2) (xs, i, i + 1) ⟨rfl, iE (by simp), trivial⟩ ⟨rfl, trivial⟩ ⟨rfl, by simp, by simp; omega, ?_, rfl⟩ ?_
    · dsimp only
      rw [List.take_succ_eq_append_getElem h1, List.filter_append, filter_all h4]
      have : p xs[i] = true := by simpa [h1] using h3
      simp [this]
    · rintro ⟨L, a, j⟩ ⟨g1, g2, g3, g4, g5⟩
      dsimp only at g1 g2 g3 g4 g5 ⊢
      by_cases hlt : j < xs.length
      · have hg : L.getD j default = xs.getD j default := by
          have := congrArg (fun l => l.getD 0 default) g5
          simpa using this
        have h9 := hf (xs.getD j default) (gm hlt)
        have hfil : ((xs.take (j + 1)).filter fun x => !p x) = L.take a ++ (if p (xs.getD j default) = true then [] else [xs.getD j default]) := by
          rw [List.take_succ_eq_append_getElem hlt, List.filter_append, g4]
          congr 1
          cases hp : p xs[j] <;> simp [hlt, hp]
        have hdr : ∀ L' : List Pth, L'.drop j = xs.drop j → L'.drop (j + 1) = xs.drop (j + 1) := fun L' h => by
          rw [← List.drop_drop, h, List.drop_drop]
        cases hp : p (xs.getD j default) with
        | true =>
          have h9 : AC Tryz.prog f (.agg (enc false (L.getD (0 + j) default)) :: cs) [.b true] := by rw [hp] at h9; rw [Nat.zero_add, hg]; exact h9
          rw [hp] at hfil
          repeat' first | refine s1 ?_ | (refine kR ?_; first | refine F.cv (h9) ?_) | fail
          exact ⟨(L, a, j + 1), F.fit ⟨rfl, rfl, trivial⟩ ⟨rfl, trivial⟩, ⟨g1, by simp only; omega, by simp only; omega, by simpa using hfil.symm, hdr L g5⟩, by simp only; omega⟩
        | false =>
          have h9 : AC Tryz.prog f (.agg (enc false (L.getD (0 + j) default)) :: cs) [.b false] := by rw [hp] at h9; rw [Nat.zero_add, hg]; exact h9
          rw [hp] at hfil
          repeat' first | refine s1 ?_ | (refine kR ?_; first | refine F.cv (h9) ?_ | refine F.stGE (α := Pth) (oo := false) (v := L.getD (0 + j) default) rfl rfl rfl rfl rfl (by omega) (by omega) (.at1 rfl (.at1 rfl .nil)) rfl rfl rfl rfl rfl ?_) | fail
          refine ⟨(L.set (0 + a) (L.getD (0 + j) default), a + 1, j + 1), F.fit ⟨rfl, rfl, trivial⟩ ⟨rfl, trivial⟩, ⟨by simpa using g1, by simp only; omega, by simp only; omega, ?_, ?_⟩, by simp only; omega⟩
          · dsimp only
            rw [Nat.zero_add, Nat.zero_add, hfil, hg, List.take_succ_eq_append_getElem (by simp; omega), List.take_set_of_le (Nat.le_refl _)]
            simp
          · dsimp only
            rw [Nat.zero_add, List.drop_set_of_lt (by omega)]
            exact hdr L g5
      · obtain rfl : j = xs.length := by omega
        obtain ⟨L2, hL2⟩ : ∃ L2, L.take (0 + a) ++ (List.replicate (xs.length - a) (⟨0, []⟩ : Pth) ++ L.drop (0 + a + (xs.length - a))) = L2 := ⟨_, rfl⟩
        have hz : L2.length = xs.length := by
          rw [← hL2]; simp; omega
        have hfin : (L2.take a).drop 0 = xs.filter fun x => !p x := by
          rw [List.take_length] at g4
          rw [← hL2, ← g4, Nat.zero_add, List.drop_zero, List.take_append_of_le_length (by simp; omega), List.take_take, Nat.min_self]
        repeat' first | refine s1 ?_ | (refine kR ?_; first | refine F.sil (A.slcS rfl rfl (by rw [E_length, g1]) rfl rfl (by omega) (by omega)) rfl rfl ?_ | refine F.clear (α := Pth) (z := ⟨0, []⟩) rfl rfl (by omega) hL2 rfl rfl rfl ?_ | refine F.freezeA (α := Pth) 39 rfl rfl hz ?_) | fail
        refine F.retK (rs' := [ar false ((L2.take a).drop 0)]) ?_
        rw [hfin]
theorem between1_a (q : Quiv) (w : Int) (x : Pth) (h : lastOk q x) : AC Tryz.prog 219 [.agg (enc false x), .ip (enc false q), .ip (enc false w)] [.b (decide (endQ q x ≠ w))] := by
  refine AC.go Tryz.func219 Tryz.ntmps219 rfl rfl fun w0 hw => ?_; simp [WfL, WfA, E_length, Enc.enc, In64] at hw
  have hE := end_a q x h
  repeat' first | refine s1 ?_ | fail
  refine AW.draw 6 G.mixed (by kernel_rfl) ?_
  refine dL 0 ?_
  refine dL 1 ?_
  refine dL 3 ?_
  refine dO 2 true ?_
  first | refine s1 ?_ | refine F.c (hE) ?_
  refine ARg.nil (ATh.normal ?_)
  refine dP 4 ?_
  refine dP 5 ?_
  refine dN ?_
  repeat' first | refine s1 ?_ | fail
  (refine kZ ?_; exact F.ret rfl)
theorem lfQ_ok {q : Quiv} (hq : okQ q = true) {f : Nat} {v : Int} {y : Pth} (hy : y ∈ lfQ q f v) : lastOk q y := by
  have h5 := okQ_spec hq
  have hch := (lfQ_chain q f v y hy).1
  have key : ∀ (l : List Int) (v : Int), chain q v l → ∀ j, j < l.length → 0 ≤ l.getD j default ∧ l.getD j default < q.fr.length := by
    intro l
    induction l with
    | nil => intro v _ j hj; simp at hj
    | cons a l ih =>
      intro v ⟨c1, c2, _, c4⟩ j hj
      cases j with
      | zero => exact ⟨c1, c2⟩
      | succ j => simpa using ih _ c4 j (by simpa using hj)
  by_cases h0 : y.a.length = 0
  · exact .inl h0
  · have := key y.a v hch (y.a.length - 1) (by omega)
    exact .inr (by omega)
/-- the paths between two vertices -/
def betw (q : Quiv) (v w : Int) : List Pth := (lfQ q 5 v).filter fun x => decide (endQ q x = w)
theorem betw_eq (q : Quiv) (v w : Int) : (lfQ q 5 v).filter (fun x => !decide (endQ q x ≠ w)) = betw q v w := by
  unfold betw
  congr 1
  funext x
  simp
theorem lfQ_le {q : Quiv} (hq : okQ q = true) (v : Int) : (lfQ q 5 v).length ≤ 100000 := by
  have h5 := okQ_spec hq
  exact Nat.le_trans (lfQ_len q (by omega) 5 v) (pow7 (by omega))
theorem betw_le {q : Quiv} (hq : okQ q = true) (v w : Int) : (betw q v w).length ≤ 100000 := Nat.le_trans (List.length_filter_le _ _) (lfQ_le hq v)
theorem pathsBetween_m (q : Quiv) (rk : Int → Nat) (h : Acy q rk) (v w : Int) : AM Tryz.prog 211 [.agg (enc false q), .i v, .i w] [] [ar false (betw q v w)] [] := by
  refine AM.go Tryz.func211 Tryz.ntmps211 rfl rfl fun w0 mp hw => ?_; simp [WfL, WfA, E_length, Enc.enc, In64] at hw
  have h5 := okQ_spec h.ok
  have hP := pathsFrom_m q rk h 5 ⟨v, []⟩ (by omega) (h.le _) (.inl rfl) (by simp)
  rw [pfQ_start] at hP
  have hle := lfQ_le h.ok v
  have hD := deleteP_k (lfQ q 5 v) 219 [.ip (enc false q), .ip (enc false w)] (fun x => decide (endQ q x ≠ w)) (by omega) (fun _ => .ip (.ip .nil)) fun x hx => between1_a q w x (lfQ_ok h.ok hx)
  rw [betw_eq] at hD
  generalize betw q v w = B at hD ⊢
  generalize lfQ q 5 v = L at hP hD
  refine s1 ?_
  refine s1 ?_
  refine s1 ?_
  refine s1 ?_
  refine s1 ?_
  refine s1 ?_
  refine AW.freezeP (α := Quiv) (oo := false) q 3 rfl rfl ?_
  refine AW.freezeP (α := Int) (oo := false) w 5 rfl rfl ?_
  repeat' first | refine s1 ?_ | (refine kR ?_; first | refine F.w (hP) ?_ | refine F.k [2] (hD) ?_) | fail
  refine kM ?_
  exact F.retM rfl trivial
/-- there are paths to be looked for -/
def betwB (q : Quiv) (v w : Int) : Bool := (orderQ q).2 && decide (0 ≤ v ∧ v ≤ q.n - 1) && decide (0 ≤ w ∧ w ≤ q.n - 1)
theorem order_ok {q : Quiv} (h : (orderQ q).2 = true) : okQ q = true := by
  unfold orderQ at h
  split at h
  · assumption
  · cases h
theorem implPathsBetween_n (q : Quiv) (v w : Int) (h : betwB q v w = false) : AM Tryz.prog 191 [.agg (enc false q), .i v, .i w] [] [.dt true 2 (E true ([] : List Pth)), .b false] [] := by
  refine AM.go Tryz.func191 Tryz.ntmps191 rfl rfl fun w0 mp hw => ?_; simp [WfL, WfA, E_length, Enc.enc, In64] at hw
  have hA := implIsAcyclic_a q
  cases ho : (orderQ q).2 with
  | false =>
    rw [ho] at hA
    repeat' first | refine s1 ?_ | (refine kR ?_; first | refine F.c (hA) ?_) | fail
    refine kM ?_
    exact F.retM rfl trivial
  | true =>
    rw [ho] at hA
    have hq := order_ok ho
    have hV := hasVertex_a q v hq
    have hW := hasVertex_a q w hq
    by_cases h1 : 0 ≤ v ∧ v ≤ q.n - 1
    · rw [decide_eq_true h1] at hV
      by_cases h2 : 0 ≤ w ∧ w ≤ q.n - 1
      · rw [betwB, ho, decide_eq_true h1, decide_eq_true h2] at h
        cases h
      · rw [decide_eq_false h2] at hW
        repeat' first | refine s1 ?_ | (refine kR ?_; first | refine F.c (hA) ?_ | refine F.c (hV) ?_ | refine F.c (hW) ?_) | fail
        refine kM ?_
        exact F.retM rfl trivial
    · rw [decide_eq_false h1] at hV
      repeat' first | refine s1 ?_ | (refine kR ?_; first | refine F.c (hA) ?_ | refine F.c (hV) ?_) | fail
      refine kM ?_
      exact F.retM rfl trivial
theorem betwB_spec {q : Quiv} {v w : Int} (h : betwB q v w = true) : (orderQ q).2 = true ∧ (0 ≤ v ∧ v ≤ q.n - 1) ∧ 0 ≤ w ∧ w ≤ q.n - 1 := by
  simp only [betwB, Bool.and_eq_true, decide_eq_true_eq] at h
  exact ⟨h.1.1, h.1.2, h.2⟩
theorem implPathsBetween_m (q : Quiv) (v w : Int) (h : betwB q v w = true) : AM Tryz.prog 191 [.agg (enc false q), .i v, .i w] [] [ar false (betw q v w), .b true] [] := by
  refine AM.go Tryz.func191 Tryz.ntmps191 rfl rfl fun w0 mp hw => ?_; simp [WfL, WfA, E_length, Enc.enc, In64] at hw
  obtain ⟨ho, h1, h2⟩ := betwB_spec h
  have hA := implIsAcyclic_a q
  rw [ho] at hA
  have hq := order_ok ho
  obtain ⟨rk, hk⟩ := acy_of ho
  have h5 := okQ_spec hq
  have hV := hasVertex_a q v hq
  have hW := hasVertex_a q w hq
  have hB := pathsBetween_m q rk hk v w
  rw [decide_eq_true h1] at hV
  rw [decide_eq_true h2] at hW
  generalize betw q v w = B at hB ⊢
  repeat' first | refine s1 ?_ | (refine kR ?_; first | refine F.c (hA) ?_ | refine F.c (hV) ?_ | refine F.c (hW) ?_ | refine F.w (hB) ?_) | fail
  refine kM ?_
  exact F.retM rfl trivial
def countP (q : Quiv) (v w : Int) : Int := if betwB q v w = true then ((betw q v w).length : Nat) else -1
theorem implCountPaths_a (q : Quiv) (v w : Int) : AC Tryz.prog 142 [.agg (enc false q), .i v, .i w] [.i (countP q v w)] := by
  refine AC.go Tryz.func142 Tryz.ntmps142 rfl rfl fun w0 hw => ?_; simp [WfL, WfA, E_length, Enc.enc, In64] at hw
  unfold countP
  cases h : betwB q v w with
  | true =>
    have hB := implPathsBetween_m q v w h
    rw [if_pos rfl]
    generalize betw q v w = B at hB ⊢
    repeat' first | refine s1 ?_ | (refine kR ?_; first | refine F.w (hB) ?_) | fail
    (refine kZ ?_; exact F.ret rfl)
  | false =>
    have hB := implPathsBetween_n q v w h
    rw [if_neg (by simp)]
    repeat' first | refine s1 ?_ | (refine kR ?_; first | refine F.w (hB) ?_) | fail
    (refine kZ ?_; exact F.ret rfl)
end Go.Proofs.YtedjajokbdokhaaGreat.V
