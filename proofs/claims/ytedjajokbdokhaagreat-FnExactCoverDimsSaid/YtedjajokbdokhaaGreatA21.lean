/- Contracts: the reference's paths. -/
import Derived.Test.YtedjajokbdokhaaGreatA20
namespace Go.Proofs.YtedjajokbdokhaaGreat.V
open V.Enc (enc)
open Go.RowKit G D
set_option linter.unusedVariables false
set_option linter.unusedSimpArgs false
set_option maxHeartbeats 4000000
set_option maxRecDepth 4000
section
variable {P : Program} {n : Nat} {w0 : World} {MP : Fr} {Q : Exit → St → Prop} {E : Nat → AV} {hp : Nat → Ob} {nx : Nat}
/-- an empty slice in a variable's field is a list of one's own -/
theorem AW.cellEm {c : Code} {o sz j : Nat} {l : Bool} {cs cs' : List AV} {a : AV} (sz2 : Nat) (ho : hp o = .live l sz [cs]) (hj : cs[j]? = some a) (ha : a = .nl ∨ a = .em) (hc : cs.set j (.dt true sz2 []) = cs') (h : AW P n w0 MP c Q ⟨E, updA hp o (.live l sz [cs']), nx⟩) : AW P n w0 MP c Q ⟨E, hp, nx⟩ :=
  AW.ghost (fun E' w hs => by
    have := Sim.put (st := ⟨E, hp, nx⟩) ho (k := 0) (c := cs) (j := j) (a := a) (a' := .dt true sz2 []) rfl hj (by rcases ha with rfl | rfl <;> rfl) (by rcases ha with rfl | rfl; exact .nl _ .nil; exact .em _ .nil) ho hs
    subst hc
    exact this) h
end
attribute [local irreducible] AW ARg ARA ARet MRet KRet ASil AC AM AK

/-- paths behind an arrow -/
def consP (v : Int) (k : Nat) (T : List Pth) : List Pth := T.map fun y => ⟨v, (k : Int) :: y.a⟩
theorem consP_len (v : Int) (k : Nat) (T : List Pth) : (consP v k T).length = T.length := List.length_map ..
attribute [simp] consP_len
theorem consP_take (v : Int) (k : Nat) (T : List Pth) {j : Nat} (hj : j < T.length) : consP v k (T.take (j + 1)) = consP v k (T.take j) ++ [⟨v, (k : Int) :: (T.getD j default).a⟩] := by
  rw [consP, List.take_succ_eq_append_getElem hj, List.map_append]
  congr 1
  simp [hj]
/-- one step: the empty path, and those by each first arrow -/
def contL (q : Quiv) (S : Nat → List Pth) (v : Int) (k : Nat) : List Pth := ⟨v, []⟩ :: (List.range k).flatMap fun i => if q.fr.getD i default = v then consP v i (S i) else []
theorem contL_succ (q : Quiv) (S : Nat → List Pth) (v : Int) (k : Nat) : contL q S v (k + 1) = contL q S v k ++ (if q.fr.getD k default = v then consP v k (S k) else []) := by
  simp [contL, List.range_succ, List.flatMap_append]
theorem contL_len {q : Quiv} {S : Nat → List Pth} {v : Int} {B : Nat} : ∀ (k : Nat), (∀ i, i < k → q.fr.getD i default = v → (S i).length ≤ B) → (contL q S v k).length ≤ 1 + k * B
  | 0, _ => by simp [contL]
  | k + 1, h => by
    have h1 := contL_len k fun i hi => h i (by omega)
    rw [contL_succ, List.length_append, Nat.add_mul, Nat.one_mul]
    split
    · rename_i he
      have := h k (by omega) he
      rw [consP_len]; omega
    · simp; omega
theorem l7From_step (q : Quiv) (v : Int) (S : Nat → List Pth) (hq : okQ q = true) (hS : ∀ i, i < q.fr.length → q.fr.getD i default = v → (S i).length ≤ 100000 ∧ (∀ y ∈ S i, y.a.length ≤ 100) ∧ AC Tryz.prog 207 [.agg (enc false q), .i (q.to.getD i default)] [.dt true 2 (E true (S i))]) :
    AC Tryz.prog 207 [.agg (enc false q), .i v] [.dt true 2 (E true (contL q S v q.fr.length))] := by
  refine AC.go Tryz.func207 Tryz.ntmps207 rfl rfl fun w0 hw => ?_; simp [WfL, WfA, E_length, Enc.enc, In64] at hw
  have h5 := okQ_spec hq
  refine s1 ?_
  refine s1 ?_
  refine s1 ?_
  refine s1 ?_
  refine s1 ?_
  refine s1 ?_
  refine s1 ?_
  refine s1 ?_
  refine s1 ?_
  refine s1 ?_
  repeat' first | refine s1 ?_ | fail
  refine AW.cellEm (o := 1) (j := 1) 1 rfl rfl (.inr rfl) rfl ?_
  refine F.loop (σ := Nat) [5, 6, 7, 8, 13, 14, 15, 16, 17, 18, 19, 20, 21, 22, 23, 24, 25, 26, 27, 28, 29, 30, 31, 32, 33, 34, 35, 36, 37, 38, 39, 40, 41, 42, 43, 44, 45, 46, 47, 48, 49, 50, 51, 52] (fun k => [(5, .sl 1 (contL q S v k).length 0 (contL q S v k).length), (6, .i k)]) (fun k => [(1, .live false 2 (E true (contL q S v k)))]) (fun k => k ≤ q.fr.length) (fun k => q.fr.length - k) 0 ⟨rfl, rfl, trivial⟩ ⟨rfl, trivial⟩ (Nat.zero_le _) ?_
  rintro k h1
  by_cases hlt : k < q.fr.length
  · have hcl := contL_len (q := q) (S := S) (v := v) (B := 100000) k fun i hi he => (hS i (by omega) he).1
    have hks := contL_succ q S v k
    have hk6 : k * 100000 ≤ 6 * 100000 := Nat.mul_le_mul_right _ (by omega)
    generalize contL q S v k = L at hcl hks ⊢
    by_cases he : q.fr.getD k default = v
    · obtain ⟨b1, b2, b3⟩ := hS k hlt he
      rw [if_pos he] at hks
      generalize S k = T at b1 b2 b3 hks
      repeat' first | refine s1 ?_ | fail
      refine AW.draw 8 G.mixed (by kernel_rfl) ?_
      refine dL 0 ?_
      refine dP 1 ?_
      refine dL 2 ?_
      refine dP 3 ?_
      refine dP 4 ?_
      refine dL 5 ?_
      refine dO 6 true ?_
      first | refine s1 ?_ | refine F.c (b3) ?_
      refine ARg.nil (ATh.normal ?_)
      refine dP 7 ?_
      refine dN ?_
      repeat' first | refine s1 ?_ | fail
      refine AW.lend (o := 2) rfl ?_
      refine F.loop (σ := Nat) [5, 8, 34, 35, 36, 37, 38, 39, 40, 41, 42, 43, 44, 45, 46, 47, 48, 49, 50, 51, 52] (fun j => [(5, .sl 1 (L ++ consP v k (T.take j)).length 0 (L ++ consP v k (T.take j)).length), (8, .i j)]) (fun j => [(1, .live false 2 (E true (L ++ consP v k (T.take j))))]) (fun j => j ≤ T.length) (fun j => T.length - j) 0 ⟨slE (by simp), rfl, trivial⟩ ⟨obE (by simp [consP]), trivial⟩ (Nat.zero_le _) ?_
      rintro j j1
      have hml : (L ++ consP v k (T.take j)).length ≤ 800000 := by simp; omega
      by_cases hj : j < T.length
      · have hya := b2 (T.getD j default) (gm hj)
        have hyb : (T.getD (0 + j) default).a.length ≤ 100 := by rw [Nat.zero_add]; exact hya
        have hts : L ++ consP v k (T.take (j + 1)) = (L ++ consP v k (T.take j)) ++ [⟨v, (k : Int) :: (T.getD j default).a⟩] := by
          rw [consP_take v k T hj, List.append_assoc]
        generalize (L ++ consP v k (T.take j)) = M at hml hts ⊢
        repeat' first | refine s1 ?_ | (refine kR ?_; first | refine F.aL Int (ls := [(k : Int)]) (oo := true) ?_ | refine F.a1 Pth (a := ⟨v, [(k : Int)] ++ (T.getD (0 + j) default).a⟩) ?_) | fail
        exact ⟨j + 1, F.fit ⟨slE (by rw [hts]; simp), rfl, trivial⟩ ⟨obE (by rw [hts, Nat.zero_add]; rfl), trivial⟩, by omega, by omega⟩
      · obtain rfl : j = T.length := by omega
        rw [List.take_length, ← hks]
        repeat' first | refine s1 ?_ | fail
        exact ⟨k + 1, F.fit ⟨rfl, rfl, trivial⟩ ⟨rfl, trivial⟩, by omega, by omega⟩
    · rw [if_neg he, List.append_nil] at hks
      repeat' first | refine s1 ?_ | fail
      exact ⟨k + 1, F.fit ⟨slE (by rw [hks]), rfl, trivial⟩ ⟨obE (by rw [hks]), trivial⟩, by omega, by omega⟩
  · obtain rfl : k = q.fr.length := by omega
    repeat' first | refine s1 ?_ | fail
    (refine kZ ?_; exact F.ret rfl)
theorem l7From_a (q : Quiv) (rk : Int → Nat) (h : Acy q rk) : ∀ (f : Nat) (v : Int), f ≤ 5 → rk v ≤ f → AC Tryz.prog 207 [.agg (enc false q), .i v] [.dt true 2 (E true (lfQ q f v))]
  | 0, v, hf, hr => by
    have hno : ∀ i, i < q.fr.length → q.fr.getD i default = v → False := fun i hi he => by
      have := h.dec i hi
      rw [he] at this; omega
    have := l7From_step q v (fun _ => []) h.ok fun i hi he => (hno i hi he).elim
    have e : contL q (fun _ => []) v q.fr.length = lfQ q 0 v := by
      unfold contL
      rw [lfQ]
      congr 1
      refine List.flatMap_eq_nil_iff.2 fun i hi => ?_
      split <;> rfl
    rwa [e] at this
  | f + 1, v, hf, hr => by
    have h5 := okQ_spec h.ok
    exact l7From_step q v (fun i => lfQ q f (q.to.getD i default)) h.ok fun i hi he => by
      have hd := h.dec i hi
      refine ⟨Nat.le_trans (lfQ_len q (by omega) f _) (pow7 (by omega)), fun y hy => ?_, l7From_a q rk h f _ (by omega) (by rw [he] at hd; omega)⟩
      have := (lfQ_chain q f _ y hy).2
      omega
theorem specIsPath_t (q : Quiv) (x : Pth) (hq : okQ q = true) (hv : 0 ≤ x.s ∧ x.s ≤ q.n - 1) (hc' : chain q x.s x.a) (hl : x.a.length ≤ 20) : AC Tryz.prog 216 [.agg (enc false q), .agg (enc false x)] [.b true] := by
  refine AC.go Tryz.func216 Tryz.ntmps216 rfl rfl fun w0 hw => ?_; simp [WfL, WfA, E_length, Enc.enc, In64] at hw
  have h5 := okQ_spec hq
  have hQ := specIsQuiver_a q
  rw [hq] at hQ
  have hV := l1In_a x.s 0 (q.n - 1)
  rw [decide_eq_true hv] at hV
  repeat' first | refine s1 ?_ | (refine kR ?_; first | refine F.c (hQ) ?_ | refine F.c (hV) ?_) | fail
  refine F.loop (σ := Nat × Int) [4, 5, 6, 26, 27, 28, 29, 30, 31, 32, 33, 34, 35, 36, 37, 38, 39, 40, 41, 42, 43, 44, 45, 46, 47, 48, 49, 50, 51, 52, 53, 54, 55, 56, 57, 58, 59, 60, 61, 62, 63, 64, 65] (fun s => [(5, .i s.2), (6, .i s.1)]) (fun _ => []) (fun s => s.1 ≤ x.a.length ∧ chain q s.2 (x.a.drop s.1)) (fun s => x.a.length - s.1) (0, x.s) ⟨rfl, rfl, trivial⟩ trivial ⟨Nat.zero_le _, hc'⟩ ?_
  rintro ⟨i, at'⟩ ⟨g1, g2⟩
  dsimp only at g1 g2 ⊢
  by_cases hlt : i < x.a.length
  · rw [List.drop_eq_getElem_cons hlt] at g2
    obtain ⟨c1, c2, c3, c4⟩ := g2
    have e0 : x.a.getD i default = x.a[i] := by simp [hlt]
    rw [← e0] at c1 c2 c3 c4
    have hI := l1In_a (x.a.getD i default) 0 ((q.fr.length : Int) - 1)
    rw [decide_eq_true (show 0 ≤ x.a.getD i default ∧ x.a.getD i default ≤ (q.fr.length : Int) - 1 by omega)] at hI
    repeat' first | refine s1 ?_ | fail
    refine AW.draw 24 G.mixed (by kernel_rfl) ?_
    refine dP 0 ?_
    refine dL 1 ?_
    refine dP 2 ?_
    refine dP 3 ?_
    refine dL 4 ?_
    refine dP 5 ?_
    refine dL 6 ?_
    refine dP 7 ?_
    refine dP 8 ?_
    refine dO 9 true ?_
    first | refine s1 ?_ | refine F.c (hI) ?_
    refine ARg.nil (ATh.normal ?_)
    refine dP 10 ?_
    refine dP 11 ?_
    first | refine dT 44 rfl (by first | assumption | rfl | (simp only [decide_eq_true_eq, Bool.not_eq_true', decide_eq_false_iff_not, Bool.and_eq_true, Bool.or_eq_true]; omega)) ?_ | refine dF 44 rfl (by first | assumption | rfl | (simp only [decide_eq_false_iff_not, Bool.not_eq_false', decide_eq_true_eq, Bool.and_eq_false_iff, Bool.or_eq_false_iff]; omega)) ?_ | (refine dD 44 rfl ?_ ?_ <;> intro hc <;> (try simp only [decide_eq_true_eq, decide_eq_false_iff_not, Bool.not_eq_true', Bool.not_eq_false'] at hc)) | skip
    all_goals
      first | refine dK 12 ?_ | refine dP 12 ?_
      first | refine dK 13 ?_ | refine dL 13 ?_
      first | refine dK 14 ?_ | refine dP 14 ?_
      first | refine dK 15 ?_ | refine dL 15 ?_
      first | refine dK 16 ?_ | refine dP 16 ?_
      first | refine dK 17 ?_ | refine dP 17 ?_
      first | refine dK 18 ?_ | refine dL 18 ?_
      first | refine dK 19 ?_ | refine dP 19 ?_
      first | refine dK 20 ?_ | refine dL 20 ?_
      first | refine dK 21 ?_ | refine dP 21 ?_
      first | refine dK 22 ?_ | refine dP 22 ?_
      refine dP 23 ?_
      refine dN ?_
    repeat' first | refine s1 ?_ | fail
    refine AW.draw 10 G.mixed (by kernel_rfl) ?_
    refine dP 0 ?_
    refine dL 1 ?_
    refine dP 2 ?_
    refine dL 3 ?_
    refine dP 4 ?_
    refine dP 5 ?_
    refine dL 6 ?_
    refine dP 7 ?_
    refine dL 8 ?_
    refine dP 9 ?_
    refine dN ?_
    repeat' first | refine s1 ?_ | fail
    exact ⟨(i + 1, q.to.getD (x.a.getD i default).toNat default), F.fit ⟨rfl, rfl, trivial⟩ trivial, ⟨by simp only; omega, c4⟩, by simp only; omega⟩
  · obtain rfl : i = x.a.length := by omega
    repeat' first | refine s1 ?_ | fail
    (refine kZ ?_; exact F.ret rfl)
theorem specEndOf_t (q : Quiv) (x : Pth) (hq : okQ q = true) (hv : 0 ≤ x.s ∧ x.s ≤ q.n - 1) (hc' : chain q x.s x.a) (hl : x.a.length ≤ 20) (hk : lastOk q x) : AC Tryz.prog 208 [.agg (enc false q), .agg (enc false x)] [.i (endQ q x)] := by
  refine AC.go Tryz.func208 Tryz.ntmps208 rfl rfl fun w0 hw => ?_; simp [WfL, WfA, E_length, Enc.enc, In64] at hw
  have hP := specIsPath_t q x hq hv hc' hl
  by_cases h0 : x.a.length = 0
  · rw [endQ, if_pos h0]
    repeat' first | refine s1 ?_ | (refine kR ?_; first | refine F.c (hP) ?_) | fail
    (refine kZ ?_; exact F.ret rfl)
  · have h1 := hk.resolve_left h0
    rw [endQ, if_neg h0]
    have e : ((x.a.length : Int) - 1).toNat = x.a.length - 1 := by omega
    rw [← e] at h1 ⊢
    repeat' first | refine s1 ?_ | (refine kR ?_; first | refine F.c (hP) ?_) | fail
    refine AW.draw 13 G.mixed (by kernel_rfl) ?_
    refine dP 0 ?_
    refine dL 1 ?_
    refine dP 2 ?_
    refine dL 3 ?_
    refine dP 4 ?_
    refine dL 5 ?_
    refine dP 6 ?_
    refine dP 7 ?_
    refine dP 8 ?_
    refine dL 9 ?_
    refine dP 10 ?_
    refine dL 11 ?_
    refine dP 12 ?_
    refine dN ?_
    repeat' first | refine s1 ?_ | fail
    (refine kZ ?_; exact F.ret rfl)
theorem specPathsBetween_n (q : Quiv) (v w : Int) (h : betwB q v w = false) : AM Tryz.prog 183 [.agg (enc false q), .i v, .i w] [] [.dt true 2 (E true ([] : List Pth)), .b false] [] := by
  refine AM.go Tryz.func183 Tryz.ntmps183 rfl rfl fun w0 mp hw => ?_; simp [WfL, WfA, E_length, Enc.enc, In64] at hw
  have hA := specIsAcyclic_a q
  cases ho : (orderQ q).2 with
  | false =>
    rw [ho] at hA
    repeat' first | refine s1 ?_ | (refine kR ?_; first | refine F.c (hA) ?_) | fail
    refine kM ?_
    exact F.retM rfl trivial
  | true =>
    rw [ho] at hA
    have hq := order_ok ho
    have h5 := okQ_spec hq
    have hV := l1In_a v 0 (q.n - 1)
    have hW := l1In_a w 0 (q.n - 1)
    by_cases h1 : 0 ≤ v ∧ v ≤ q.n - 1
    · rw [decide_eq_true h1] at hV
      by_cases h2 : 0 ≤ w ∧ w ≤ q.n - 1
      · rw [betwB, ho, decide_eq_true h1, decide_eq_true h2] at h
        cases h
      · rw [decide_eq_false h2] at hW
        repeat' first | refine s1 ?_ | (refine kR ?_; first | refine F.c (hA) ?_ | refine F.c (hV) ?_ | refine F.c (hW) ?_) | fail
        refine kM ?_
        exact F.retM rfl trivial
    · rw [decide_eq_false h1] at hV
      repeat' first | refine s1 ?_ | (refine kR ?_; first | refine F.c (hA) ?_ | refine F.c (hV) ?_) | fail
      refine kM ?_
      exact F.retM rfl trivial
theorem specPathsBetween_m (q : Quiv) (v w : Int) (h : betwB q v w = true) : AM Tryz.prog 183 [.agg (enc false q), .i v, .i w] [] [ar false (betw q v w), .b true] [] := by
  refine AM.go Tryz.func183 Tryz.ntmps183 rfl rfl fun w0 mp hw => ?_; simp [WfL, WfA, E_length, Enc.enc, In64] at hw
  obtain ⟨ho, h1, h2⟩ := betwB_spec h
  have hA := specIsAcyclic_a q
  rw [ho] at hA
  have hq := order_ok ho
  obtain ⟨rk, hk⟩ := acy_of ho
  have h5 := okQ_spec hq
  have hV := l1In_a v 0 (q.n - 1)
  have hW := l1In_a w 0 (q.n - 1)
  rw [decide_eq_true h1] at hV
  rw [decide_eq_true h2] at hW
  have hL := l7From_a q rk hk 5 v (by omega) (hk.le _)
  have hle := lfQ_le hq v
  have hE : ∀ y ∈ lfQ q 5 v, AC Tryz.prog 208 [.agg (enc false q), .agg (enc false y)] [.i (endQ q y)] := fun y hy => by
    have hs := lfQ_s q 5 v y hy
    have hc := lfQ_chain q 5 v y hy
    have hk := lfQ_ok hq hy
    exact specEndOf_t q y hq (by rw [hs]; exact h1) (by rw [hs]; exact hc.1) (by omega) hk
  have hB : betw q v w = (lfQ q 5 v).filter fun x => decide (endQ q x = w) := rfl
  generalize betw q v w = B at hB ⊢
  generalize lfQ q 5 v = L at hL hle hE hB
  repeat' first | refine s1 ?_ | (refine kR ?_; first | refine F.c (hA) ?_ | refine F.c (hV) ?_ | refine F.c (hW) ?_ | refine F.c (hL) ?_) | fail
  refine AW.share (α := Pth) 1 rfl ?_
  refine AW.open 8 2 (.inr rfl) ?_
  refine F.loop (σ := Nat) [8, 10, 35, 36, 37, 38, 39, 40, 41, 42, 43, 44, 45, 46, 47, 48, 49, 50, 51, 52, 53, 54, 55] (fun i => [(8, .sl 2 ((L.take i).filter fun x => decide (endQ q x = w)).length 0 ((L.take i).filter fun x => decide (endQ q x = w)).length), (10, .i i)]) (fun i => [(2, .live false 2 (E false ((L.take i).filter fun x => decide (endQ q x = w))))]) (fun i => i ≤ L.length) (fun i => L.length - i) 0 ⟨rfl, rfl, trivial⟩ ⟨rfl, trivial⟩ (Nat.zero_le _) ?_
  rintro i i1
  have hfl : ((L.take i).filter fun x => decide (endQ q x = w)).length ≤ 100000 := Nat.le_trans (List.length_filter_le _ _) (by simp; omega)
  by_cases hlt : i < L.length
  · have hEi := hE (L.getD i default) (gm hlt)
    have hEi : AC Tryz.prog 208 [.agg (enc false q), .agg (enc false (L.getD (0 + i) default))] [.i (endQ q (L.getD i default))] := by rw [Nat.zero_add]; exact hEi
    have hts : (L.take (i + 1)).filter (fun x => decide (endQ q x = w)) = (L.take i).filter (fun x => decide (endQ q x = w)) ++ (if endQ q (L.getD i default) = w then [L.getD i default] else []) := by
      rw [List.take_succ_eq_append_getElem hlt, List.filter_append]
      congr 1
      have e0 : L.getD i default = L[i] := by simp [hlt]
      rw [e0]
      by_cases he : endQ q L[i] = w <;> simp [he]
    generalize (L.take i).filter (fun x => decide (endQ q x = w)) = M at hfl hts ⊢
    by_cases he : endQ q (L.getD i default) = w
    · rw [if_pos he] at hts
      repeat' first | refine s1 ?_ | fail
      refine AW.draw 8 G.mixed (by kernel_rfl) ?_
      refine dL 0 ?_
      refine dP 1 ?_
      refine dP 2 ?_
      refine dP 3 ?_
      refine dL 4 ?_
      refine dP 6 ?_
      refine dO 5 true ?_
      first | refine s1 ?_ | refine F.c (hEi) ?_
      refine ARg.nil (ATh.normal ?_)
      refine dP 7 ?_
      refine dN ?_
      repeat' first | refine s1 ?_ | (refine kR ?_; first | refine F.a1 Pth (oo := false) (a := L.getD (0 + i) default) ?_) | fail
      exact ⟨i + 1, F.fit ⟨slE (by rw [hts]; simp), rfl, trivial⟩ ⟨obE (by rw [hts, Nat.zero_add]), trivial⟩, by omega, by omega⟩
    · rw [if_neg he, List.append_nil] at hts
      repeat' first | refine s1 ?_ | fail
      refine AW.draw 8 G.mixed (by kernel_rfl) ?_
      refine dL 0 ?_
      refine dP 1 ?_
      refine dP 2 ?_
      refine dP 3 ?_
      refine dL 4 ?_
      refine dP 6 ?_
      refine dO 5 true ?_
      first | refine s1 ?_ | refine F.c (hEi) ?_
      refine ARg.nil (ATh.normal ?_)
      refine dP 7 ?_
      refine dN ?_
      repeat' first | refine s1 ?_ | fail
      exact ⟨i + 1, F.fit ⟨slE (by rw [hts]), rfl, trivial⟩ ⟨obE (by rw [hts]), trivial⟩, by omega, by omega⟩
  · obtain rfl : i = L.length := by omega
    rw [List.take_length, ← hB]
    refine AW.freezeA (α := Pth) 8 rfl rfl rfl ?_
    repeat' first | refine s1 ?_ | fail
    refine kM ?_
    exact F.retM rfl trivial
theorem specCountPaths_a (q : Quiv) (v w : Int) : AC Tryz.prog 134 [.agg (enc false q), .i v, .i w] [.i (countP q v w)] := by
  refine AC.go Tryz.func134 Tryz.ntmps134 rfl rfl fun w0 hw => ?_; simp [WfL, WfA, E_length, Enc.enc, In64] at hw
  unfold countP
  cases h : betwB q v w with
  | true =>
    have hB := specPathsBetween_m q v w h
    rw [if_pos rfl]
    generalize betw q v w = B at hB ⊢
    repeat' first | refine s1 ?_ | (refine kR ?_; first | refine F.w (hB) ?_) | fail
    (refine kZ ?_; exact F.ret rfl)
  | false =>
    have hB := specPathsBetween_n q v w h
    rw [if_neg (by simp)]
    repeat' first | refine s1 ?_ | (refine kR ?_; first | refine F.w (hB) ?_) | fail
    (refine kZ ?_; exact F.ret rfl)
end Go.Proofs.YtedjajokbdokhaaGreat.V
