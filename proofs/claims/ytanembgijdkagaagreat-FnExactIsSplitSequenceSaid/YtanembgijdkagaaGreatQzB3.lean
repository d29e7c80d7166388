/- Joined: Contracts: the places of the cells of matrices in one list, lists of all cells, cut into matrices again. The matrix of the equations of morphisms: what it is, and that the reference's code makes it. Contract: the matrix of the equations of morphisms. The law behind the coboundary: the equations' matrix times the cells of a morphism, cut by the arrows, is the coboundary. No program is walked. Contracts: the coboundary of a family of matrices. Lists of cells cut into matrices, and put together again. No program is walked.. -/
import Derived.Test.YtanembgijdkagaaGreatQzA13
import Derived.Test.YtanembgijdkagaaGreatQzUd
import Derived.Test.YtanembgijdkagaaGreatQzA17
import Derived.Test.YtanembgijdkagaaGreatQzB2
import Derived.Test.YtanembgijdkagaaGreatQzA25
import Derived.Test.YtanembgijdkagaaGreatQzUm
namespace Go.Proofs.YtanembgijdkagaaGreat.V
open V.Enc (enc)
open Go.RowKit G D
set_option linter.unusedVariables false
set_option linter.unusedSimpArgs false
set_option maxHeartbeats 400000
set_option maxRecDepth 4000
attribute [local irreducible] AW ARg ARA ARet MRet ASil AC AM
/-- cells of the first n vertices -/
def szT (a b : Rep) : Nat → Nat
  | 0 => 0
  | n + 1 => szT a b n + (a.d.getD n default).toNat * (b.d.getD n default).toNat
/-- cells of the first n arrows -/
def szA (a b : Rep) : Nat → Nat
  | 0 => 0
  | n + 1 => szA a b n + (b.d.getD (a.q.to.getD n default).toNat default).toNat * (a.d.getD (a.q.fr.getD n default).toNat default).toNat
theorem szT_mono (a b : Rep) {m n : Nat} (h : m ≤ n) : szT a b m ≤ szT a b n := by
  induction h with
  | refl => exact Nat.le_refl _
  | step _ ih => exact Nat.le_trans ih (Nat.le_add_right _ _)
theorem szA_mono (a b : Rep) {m n : Nat} (h : m ≤ n) : szA a b m ≤ szA a b n := by
  induction h with
  | refl => exact Nat.le_refl _
  | step _ ih => exact Nat.le_trans ih (Nat.le_add_right _ _)
theorem mul44 {x y : Int} (hx : 0 ≤ x ∧ x ≤ 4) (hy : 0 ≤ y ∧ y ≤ 4) : x * y = ((x.toNat * y.toNat : Nat) : Int) ∧ x.toNat * y.toNat ≤ 16 := by
  refine ⟨?_, ?_⟩
  · rw [Int.natCast_mul, Int.toNat_of_nonneg hx.1, Int.toNat_of_nonneg hy.1]
  · exact Nat.mul_le_mul (by omega : x.toNat ≤ 4) (by omega : y.toNat ≤ 4)
theorem szT_le {a b : Rep} (h : Fits a b) : ∀ n, n ≤ a.d.length → szT a b n ≤ 16 * n
  | 0, _ => Nat.le_refl _
  | n + 1, hn => by
    have ih := szT_le h n (by omega)
    have hda := h.da
    have hdb := h.db
    have := (mul44 (h.ba n (by omega)) (h.bb n (by omega))).2
    simp only [szT]; omega
theorem szA_le {a b : Rep} (h : Fits a b) : ∀ n, n ≤ a.q.fr.length → szA a b n ≤ 16 * n
  | 0, _ => Nat.le_refl _
  | n + 1, hn => by
    have ih := szA_le h n (by omega)
    have hda := h.da
    have hdb := h.db
    have f : 0 ≤ a.q.fr.getD n default ∧ a.q.fr.getD n default < a.q.n := okQ_fr h.ok (by omega)
    have t : 0 ≤ a.q.to.getD n default ∧ a.q.to.getD n default < a.q.n := okQ_to h.ok (by omega)
    have := (mul44 (h.bb (a.q.to.getD n default).toNat (by omega)) (h.ba (a.q.fr.getD n default).toNat (by omega))).2
    simp only [szA]; omega
theorem l11Size_a (a b : Rep) (h : Fits a b) : AC Tryz.prog 69 [.agg (enc false a), .agg (enc false b)] [.i (szT a b a.d.length)] := by
  refine AC.go Tryz.func69 Tryz.ntmps69 rfl rfl fun w0 hw => ?_; simp [WfL, WfA, E_length, Enc.enc, In64] at hw
  have h5 := okQ_spec h.ok
  have hda := h.da
  have hdb := h.db
  repeat' first | refine s1 ?_ | fail
  refine F.loop (σ := Nat) [5, 6, 7, 8, 9, 10, 11, 12, 13, 14, 15, 16, 17, 18, 19, 20, 21, 22, 23, 24, 25, 26] (fun k => [(5, .i (szT a b k)), (6, .i k)]) (fun _ => []) (fun k => k ≤ a.d.length) (fun k => a.d.length - k) 0 ⟨rfl, rfl, trivial⟩ trivial (Nat.zero_le _) ?_
  rintro k h1
  by_cases hlt : k < a.d.length
  · have hs := szT_le h (k + 1) (by omega)
    have hs' := szT_le h k (by omega)
    obtain ⟨m1, m2⟩ := mul44 (h.ba k hlt) (h.bb k (by omega))
    have hst : szT a b (k + 1) = szT a b k + (a.d.getD k default).toNat * (b.d.getD k default).toNat := rfl
    have b1 := h.ba k hlt
    have b2 := h.bb k (by omega)
    have b3 : In64 (a.d.getD k default * b.d.getD k default) := by unfold In64; omega
    have b4 : In64 (szT a b k + a.d.getD k default * b.d.getD k default) := by unfold In64; omega
    repeat' first | refine s1 ?_ | fail
    refine AW.draw 14 G.mixed (by kernel_rfl) ?_
    refine dP 0 ?_
    refine dP 1 ?_
    refine dL 2 ?_
    refine dP 3 ?_
    refine dP 4 ?_
    refine dL 5 ?_
    refine dP 6 ?_
    refine dL 7 ?_
    refine dP 8 ?_
    refine dP 9 ?_
    refine dL 10 ?_
    refine dP 11 ?_
    refine dP 12 ?_
    refine dP 13 ?_
    refine dN ?_
    repeat' first | refine s1 ?_ | fail
    exact ⟨k + 1, F.fit ⟨iE (by omega), rfl, trivial⟩ trivial, by omega, by omega⟩
  · obtain rfl : k = a.d.length := by omega
    repeat' first | refine s1 ?_ | fail
    (refine kZ ?_; exact F.ret rfl)
theorem l11At_a (a b : Rep) (v : Nat) (h : Fits a b) (hv : v ≤ a.d.length) : AC Tryz.prog 151 [.agg (enc false a), .agg (enc false b), .i v] [.i (szT a b v)] := by
  refine AC.go Tryz.func151 Tryz.ntmps151 rfl rfl fun w0 hw => ?_; simp [WfL, WfA, E_length, Enc.enc, In64] at hw
  have h5 := okQ_spec h.ok
  have hda := h.da
  have hdb := h.db
  repeat' first | refine s1 ?_ | fail
  refine F.loop (σ := Nat) [7, 8, 9, 10, 11, 12, 13, 14, 15, 16, 17, 18, 19, 20, 21, 22, 23, 24, 25, 26] (fun k => [(7, .i (szT a b k)), (8, .i k)]) (fun _ => []) (fun k => k ≤ v) (fun k => v - k) 0 ⟨rfl, rfl, trivial⟩ trivial (Nat.zero_le _) ?_
  rintro k h1
  by_cases hlt : k < v
  · have hs := szT_le h (k + 1) (by omega)
    have hs' := szT_le h k (by omega)
    obtain ⟨m1, m2⟩ := mul44 (h.ba k (by omega)) (h.bb k (by omega))
    have hst : szT a b (k + 1) = szT a b k + (a.d.getD k default).toNat * (b.d.getD k default).toNat := rfl
    have b1 := h.ba k (by omega)
    have b2 := h.bb k (by omega)
    have b3 : In64 (a.d.getD k default * b.d.getD k default) := by unfold In64; omega
    have b4 : In64 (szT a b k + a.d.getD k default * b.d.getD k default) := by unfold In64; omega
    repeat' first | refine s1 ?_ | fail
    refine AW.draw 14 G.mixed (by kernel_rfl) ?_
    refine dP 0 ?_
    refine dP 1 ?_
    refine dL 2 ?_
    refine dP 3 ?_
    refine dP 4 ?_
    refine dL 5 ?_
    refine dP 6 ?_
    refine dL 7 ?_
    refine dP 8 ?_
    refine dP 9 ?_
    refine dL 10 ?_
    refine dP 11 ?_
    refine dP 12 ?_
    refine dP 13 ?_
    refine dN ?_
    repeat' first | refine s1 ?_ | fail
    exact ⟨k + 1, F.fit ⟨iE (by omega), rfl, trivial⟩ trivial, by omega, by omega⟩
  · obtain rfl : k = v := by omega
    repeat' first | refine s1 ?_ | fail
    (refine kZ ?_; exact F.ret rfl)
/-- all cells, one matrix behind the other -/
def catM (f : List Mat) : List Int := f.flatMap Mat.m
theorem catM_take {f : List Mat} {k : Nat} (h : k < f.length) : catM (f.take (k + 1)) = catM (f.take k) ++ (f.getD k default).m := by
  rw [List.take_add_one, catM, List.flatMap_append, ← catM]
  congr 1
  simp [List.getD, h]
theorem catM_take_le (f : List Mat) (k : Nat) : (catM (f.take k)).length ≤ (catM f).length := by
  conv => rhs; rw [← List.take_append_drop k f, catM, List.flatMap_append, List.length_append]
  exact Nat.le_add_right _ _
theorem l11Flat_a (f : List Mat) (hb : (catM f).length ≤ 1048576) : AC Tryz.prog 64 [ar false f] [.dt true 1 (E true (catM f))] := by
  refine AC.go Tryz.func64 Tryz.ntmps64 rfl rfl fun w0 hw => ?_; simp [WfL, WfA, E_length, Enc.enc, In64] at hw
  repeat' first | refine s1 ?_ | fail
  refine AW.open 3 1 (.inr rfl) ?_
  refine F.loop (σ := Nat) [3, 4, 6, 7, 8, 9, 10, 11, 12, 13, 14, 15, 16, 17, 18] (fun k => [(3, .sl 0 (catM (f.take k)).length 0 (catM (f.take k)).length), (4, .i k)]) (fun k => [(0, .live false 1 (E true (catM (f.take k))))]) (fun k => k ≤ f.length) (fun k => f.length - k) 0 ⟨rfl, rfl, trivial⟩ ⟨rfl, trivial⟩ (Nat.zero_le _) ?_
  rintro k h1
  by_cases hlt : k < f.length
  · have hs := catM_take hlt
    have hl := catM_take_le f (k + 1)
    rw [hs, List.length_append] at hl
    generalize catM (f.take k) = L at hs hl ⊢
    have hl' : L.length + (f.getD (0 + k) default).m.length ≤ 1048576 := by rw [Nat.zero_add]; omega
    repeat' first | refine s1 ?_ | (refine kR ?_; first | refine F.aL Int (oo := true) ?_) | fail
    exact ⟨k + 1, F.fit ⟨slE (by rw [hs, List.length_append]), rfl, trivial⟩ ⟨obE (by rw [hs]), trivial⟩, by omega, by omega⟩
  · obtain rfl : k = f.length := by omega
    rw [List.take_length]
    repeat' first | refine s1 ?_ | fail
    (refine kZ ?_; exact F.ret rfl)
/-- the matrix of an arrow, cut out of a list of cells -/
def cutM (a b : Rep) (x : List Int) (i : Nat) : Mat := ⟨b.d.getD (a.q.to.getD i default).toNat default, a.d.getD (a.q.fr.getD i default).toNat default, (x.take (szA a b (i + 1))).drop (szA a b i)⟩
def cutL (a b : Rep) (x : List Int) : List Mat := (List.range a.q.fr.length).map (cutM a b x)
end Go.Proofs.YtanembgijdkagaaGreat.V
namespace Go.Proofs.YtanembgijdkagaaGreat.V
open Go.RowKit G D
set_option linter.unusedVariables false
set_option linter.unusedSimpArgs false
set_option maxHeartbeats 400000
set_option maxRecDepth 4000
attribute [local irreducible] AW ARg ARA ARet MRet ASil AC AM
abbrev vF (a : Rep) (i : Nat) : Nat := (a.q.fr.getD i default).toNat
abbrev vT (a : Rep) (i : Nat) : Nat := (a.q.to.getD i default).toNat
abbrev dim (a : Rep) (v : Nat) : Nat := (a.d.getD v default).toNat
def updAt (p : Int) (L : List Int) (t : Nat) (y : Int) : List Int := L.set t ((L.getD t default + y) % p)
def rX (a b : Rep) (i r k : Nat) : Nat → List Int
  | 0 => List.replicate (szT a b a.d.length) 0
  | j + 1 => updAt a.p (rX a b i r k j) (szT a b (vF a i) + j * dim a (vF a i) + k) ((b.m.getD i default).m.getD (r * dim b (vF a i) + j) default)
def rY (a b : Rep) (i r k : Nat) : Nat → List Int
  | 0 => rX a b i r k (dim b (vF a i))
  | j + 1 => updAt a.p (rY a b i r k j) (szT a b (vT a i) + r * dim a (vT a i) + j) (-((a.m.getD i default).m.getD (j * dim a (vF a i) + k) default))
def eqRow (a b : Rep) (i r k : Nat) : List Int := rY a b i r k (dim a (vT a i))
def eqK (a b : Rep) (i r k : Nat) : List Int := (List.range k).flatMap (eqRow a b i r)
def eqR (a b : Rep) (i r : Nat) : List Int := (List.range r).flatMap fun r => eqK a b i r (dim a (vF a i))
def eqA (a b : Rep) (i : Nat) : List Int := (List.range i).flatMap fun i => eqR a b i (dim b (vT a i))
theorem fm_succ (f : Nat → List Int) (k : Nat) : (List.range (k + 1)).flatMap f = (List.range k).flatMap f ++ f k := by
  simp [List.range_succ, List.flatMap_append]
theorem eqK_succ (a b : Rep) (i r k : Nat) : eqK a b i r (k + 1) = eqK a b i r k ++ eqRow a b i r k := fm_succ _ k
theorem eqR_succ (a b : Rep) (i r : Nat) : eqR a b i (r + 1) = eqR a b i r ++ eqK a b i r (dim a (vF a i)) := fm_succ _ r
theorem eqA_succ (a b : Rep) (i : Nat) : eqA a b (i + 1) = eqA a b i ++ eqR a b i (dim b (vT a i)) := fm_succ _ i
/-- a row of n numbers below p -/
def RowOk (p : Int) (n : Nat) (L : List Int) : Prop := L.length = n ∧ ∀ t, t < n → 0 ≤ L.getD t default ∧ L.getD t default ≤ p - 1
theorem RowOk.zero {p : Int} (hp : 0 < p) (n : Nat) : RowOk p n (List.replicate n 0) := by
  refine ⟨List.length_replicate, fun t ht => ?_⟩
  have : (List.replicate n (0 : Int)).getD t default = 0 := by simp [ht]
  omega
theorem RowOk.upd {p : Int} {n : Nat} {L : List Int} (hp : 0 < p) (h : RowOk p n L) (t : Nat) (y : Int) : RowOk p n (updAt p L t y) := by
  refine ⟨by rw [updAt, List.length_set, h.1], fun u hu => ?_⟩
  by_cases e : u = t
  · subst e
    have : (updAt p L u y).getD u default = (L.getD u default + y) % p := by simp [updAt, h.1, hu]
    rw [this]; exact mod_bd hp
  · have : (updAt p L t y).getD u default = L.getD u default := by
      simp only [updAt, List.getD_eq_getElem?_getD]
      rw [List.getElem?_set_ne (Ne.symm e)]
    rw [this]; exact h.2 u hu
theorem rX_ok {a b : Rep} (hp : 0 < a.p) (i r k : Nat) : ∀ j, RowOk a.p (szT a b a.d.length) (rX a b i r k j)
  | 0 => .zero hp _
  | j + 1 => (rX_ok hp i r k j).upd hp _ _
theorem rY_ok {a b : Rep} (hp : 0 < a.p) (i r k : Nat) : ∀ j, RowOk a.p (szT a b a.d.length) (rY a b i r k j)
  | 0 => rX_ok hp i r k _
  | j + 1 => (rY_ok hp i r k j).upd hp _ _
theorem eqRow_ok {a b : Rep} (hp : 0 < a.p) (i r k : Nat) : RowOk a.p (szT a b a.d.length) (eqRow a b i r k) := rY_ok hp i r k _
theorem eqK_len {a b : Rep} (hp : 0 < a.p) (i r : Nat) : ∀ k, (eqK a b i r k).length = k * szT a b a.d.length
  | 0 => by simp [eqK]
  | k + 1 => by rw [eqK_succ, List.length_append, eqK_len hp i r k, (eqRow_ok hp i r k).1, Nat.add_mul, Nat.one_mul]
theorem eqR_len {a b : Rep} (hp : 0 < a.p) (i : Nat) : ∀ r, (eqR a b i r).length = r * dim a (vF a i) * szT a b a.d.length
  | 0 => by simp [eqR]
  | r + 1 => by rw [eqR_succ, List.length_append, eqR_len hp i r, eqK_len hp, Nat.add_mul, Nat.one_mul, Nat.add_mul]
theorem eqA_len {a b : Rep} (hp : 0 < a.p) : ∀ i, (eqA a b i).length = szA a b i * szT a b a.d.length
  | 0 => by simp [eqA, szA]
  | i + 1 => by rw [eqA_succ, List.length_append, eqA_len hp i, eqR_len hp, ← Nat.add_mul]; rfl
/-- what is known of an arrow of a pair that fits -/
structure EqF (a b : Rep) (i : Nat) : Prop where
  fr : a.q.fr.getD i default = (vF a i : Int)
  to : a.q.to.getD i default = (vT a i : Int)
  v : vF a i < a.d.length
  w : vT a i < a.d.length
  av : a.d.getD (vF a i) default = (dim a (vF a i) : Int)
  aw : a.d.getD (vT a i) default = (dim a (vT a i) : Int)
  bv : b.d.getD (vF a i) default = (dim b (vF a i) : Int)
  bw : b.d.getD (vT a i) default = (dim b (vT a i) : Int)
  av4 : dim a (vF a i) ≤ 4
  aw4 : dim a (vT a i) ≤ 4
  bv4 : dim b (vF a i) ≤ 4
  bw4 : dim b (vT a i) ≤ 4
  mb : isMat a.p (b.m.getD i default) = true
  ma : isMat a.p (a.m.getD i default) = true
  lb : (b.m.getD i default).m.length = dim b (vT a i) * dim b (vF a i)
  la : (a.m.getD i default).m.length = dim a (vT a i) * dim a (vF a i)
  br : (b.m.getD i default).r = (dim b (vT a i) : Int)
  bc : (b.m.getD i default).c = (dim b (vF a i) : Int)
  ar : (a.m.getD i default).r = (dim a (vT a i) : Int)
  ac : (a.m.getD i default).c = (dim a (vF a i) : Int)
theorem EqF.of {a b : Rep} (h : fitR a b = true) {i : Nat} (hi : i < a.q.fr.length) : EqF a b i := by
  have hh := Fits.of h
  obtain ⟨h1, h2, h3, h4⟩ := fitR_spec h
  obtain ⟨_, _, m1, a4⟩ := isRep_spec h1
  obtain ⟨_, _, m2, b4⟩ := isRep_spec h2
  have f : 0 ≤ a.q.fr.getD i default ∧ a.q.fr.getD i default < a.q.n := okQ_fr hh.ok hi
  have t : 0 ≤ a.q.to.getD i default ∧ a.q.to.getD i default < a.q.n := okQ_to hh.ok hi
  have hda := hh.da
  have hdb := hh.db
  have hma := hh.ma
  have hmb := hh.mb
  have va : vF a i < a.d.length := by show (a.q.fr.getD i default).toNat < _; omega
  have ta : vT a i < a.d.length := by show (a.q.to.getD i default).toNat < _; omega
  have vb : vF a i < b.d.length := by omega
  have tb : vT a i < b.d.length := by omega
  have x1 := hh.ba _ va
  have x2 := hh.ba _ ta
  have x3 := hh.bb _ vb
  have x4 := hh.bb _ tb
  have y1 := a4 i (by omega)
  have y2 := b4 i (by omega)
  simp only [fitM, Bool.and_eq_true, decide_eq_true_eq] at y1 y2
  rw [← h3, ← h4] at y2
  obtain ⟨⟨p1, p2⟩, p3⟩ := y1
  obtain ⟨⟨q1, q2⟩, q3⟩ := y2
  obtain ⟨_, _, _, l1, _⟩ := isMat_spec p1
  obtain ⟨_, _, _, l2, _⟩ := isMat_spec q1
  have e1 : a.d.getD (vF a i) default = (dim a (vF a i) : Int) := (Int.toNat_of_nonneg x1.1).symm
  have e2 : a.d.getD (vT a i) default = (dim a (vT a i) : Int) := (Int.toNat_of_nonneg x2.1).symm
  have e3 : b.d.getD (vF a i) default = (dim b (vF a i) : Int) := (Int.toNat_of_nonneg x3.1).symm
  have e4 : b.d.getD (vT a i) default = (dim b (vT a i) : Int) := (Int.toNat_of_nonneg x4.1).symm
  have g1 := p2.trans e1
  have g2 := p3.trans e2
  have g3 := q2.trans e3
  have g4 := q3.trans e4
  rw [g1, g2] at l1
  rw [g3, g4] at l2
  exact ⟨(Int.toNat_of_nonneg f.1).symm, (Int.toNat_of_nonneg t.1).symm, va, ta, e1, e2, e3, e4, by show (_ : Int).toNat ≤ 4; omega, by show (_ : Int).toNat ≤ 4; omega, by show (_ : Int).toNat ≤ 4; omega, by show (_ : Int).toNat ≤ 4; omega,
    q1, p1, by exact_mod_cast l2, by exact_mod_cast l1, g4, g3, g2, g1⟩
theorem in_grid {i j r c : Nat} (hi : i < r) (hj : j < c) : i * c + j < r * c := by
  have := Nat.mul_le_mul_right c (show i + 1 ≤ r from hi)
  rw [Nat.add_mul, Nat.one_mul] at this
  omega
theorem EqF.atX {a b : Rep} {i j k : Nat} (h : EqF a b i) (hj : j < dim b (vF a i)) (hk : k < dim a (vF a i)) : szT a b (vF a i) + j * dim a (vF a i) + k < szT a b a.d.length := by
  have h1 := szT_mono a b (show vF a i + 1 ≤ a.d.length from h.v)
  have h2 : szT a b (vF a i + 1) = szT a b (vF a i) + dim a (vF a i) * dim b (vF a i) := rfl
  have h3 := in_grid hj hk
  rw [Nat.mul_comm (dim a (vF a i))] at h2
  omega
theorem EqF.atY {a b : Rep} {i j r : Nat} (h : EqF a b i) (hr : r < dim b (vT a i)) (hj : j < dim a (vT a i)) : szT a b (vT a i) + r * dim a (vT a i) + j < szT a b a.d.length := by
  have h1 := szT_mono a b (show vT a i + 1 ≤ a.d.length from h.w)
  have h2 : szT a b (vT a i + 1) = szT a b (vT a i) + dim a (vT a i) * dim b (vT a i) := rfl
  have h3 := in_grid hr hj
  rw [Nat.mul_comm (dim a (vT a i))] at h2
  omega
end Go.Proofs.YtanembgijdkagaaGreat.V
namespace Go.Proofs.YtanembgijdkagaaGreat.V
open V.Enc (enc)
open Go.RowKit G D
set_option linter.unusedVariables false
set_option linter.unusedSimpArgs false
set_option maxHeartbeats 4000000
set_option maxRecDepth 4000
attribute [local irreducible] AW ARg ARA ARet MRet ASil AC AM
theorem castE {s j k c : Nat} {x : Int} (hx : x = (c : Int)) : (s : Int) + (j : Int) * x + (k : Int) = ((s + j * c + k : Nat) : Int) := by subst hx; push_cast; rfl
theorem castG {j k c : Nat} {x : Int} (hx : x = (c : Int)) : (j : Int) * x + (k : Int) = ((j * c + k : Nat) : Int) := by subst hx; push_cast; rfl
theorem in44 {j c : Nat} {x : Int} (hx : x = (c : Int)) (hj : j ≤ 4) (hc : c ≤ 4) : In64 ((j : Int) * x) ∧ 0 ≤ (j : Int) * x ∧ (j : Int) * x ≤ 16 := by
  subst hx
  have h : j * c ≤ 4 * 4 := Nat.mul_le_mul hj hc
  have e : (j : Int) * (c : Int) = ((j * c : Nat) : Int) := by push_cast; rfl
  rw [e]; unfold In64; omega
theorem l11Equations_a (a b : Rep) (hf : fitR a b = true) : AC Tryz.prog 104 [.agg (enc false a), .agg (enc false b)] [.agg (enc true (⟨szA a b a.q.fr.length, szT a b a.d.length, eqA a b a.q.fr.length⟩ : Mat))] := by
  refine AC.go Tryz.func104 Tryz.ntmps104 rfl rfl fun w0 hw => ?_; simp [WfL, WfA, E_length, Enc.enc, In64] at hw
  have h := Fits.of hf
  have h5 := okQ_spec h.ok
  have hda := h.da
  have hdb := h.db
  have hma := h.ma
  have hmb := h.mb
  have hp := isF_pos h.f
  have hS := l11Size_a a b h
  have hn := szT_le h a.d.length (Nat.le_refl _)
  have hN : szT a b a.d.length ≤ 80 := by omega
  repeat' first | refine s1 ?_ | (refine kR ?_; first | refine F.c (hS) ?_) | fail
  refine AW.openV (o := 3) (j := 2) 1 rfl rfl (.inr rfl) rfl ?_
  refine F.loop (σ := Nat) [7, 8, 9, 10, 11, 12, 13, 14, 15, 16, 23, 24, 25, 26, 27, 28, 29, 30, 31, 32, 33, 34, 35, 36, 37, 38, 39, 40, 41, 42, 43, 44, 45, 46, 47, 48, 49, 50, 51, 52, 53, 54, 55, 56, 57, 58, 59, 60, 61, 62, 63, 64, 65, 66, 67, 68, 69, 70, 71, 72, 73, 74, 75, 76, 77, 78, 79, 80, 81, 82, 83, 84, 85, 86, 87, 88, 89, 90, 91, 92, 93, 94, 95, 96, 97, 98, 99, 100, 101, 102, 103, 104, 105, 106, 107, 108, 109, 110, 111, 112, 113, 114, 115, 116, 117, 118, 119, 120, 121, 122, 123, 124, 125, 126, 127, 128, 129, 130, 131, 132, 133, 134, 135, 136, 137, 138, 139, 140, 141, 142, 143, 144, 145, 146, 147, 148, 149, 150, 151, 152, 153, 154, 155, 156, 157, 158, 159, 160, 161, 162, 163, 164, 165, 166, 167, 168, 169, 170, 171, 172] (fun i => [(7, .i i)]) (fun i => [(3, .live false 3 [[.i (szA a b i : Nat), .i (szT a b a.d.length : Nat), .sl 4 (eqA a b i).length 0 (eqA a b i).length]]), (4, .live false 1 (E true (eqA a b i)))]) (fun i => i ≤ a.q.fr.length) (fun i => a.q.fr.length - i) 0 ⟨rfl, trivial⟩ ⟨rfl, rfl, trivial⟩ (Nat.zero_le _) ?_
  rintro i i1
  by_cases hi : i < a.q.fr.length
  · have hQ := EqF.of hf hi
    have f : 0 ≤ a.q.fr.getD i default ∧ a.q.fr.getD i default < a.q.n := okQ_fr h.ok hi
    have t : 0 ≤ a.q.to.getD i default ∧ a.q.to.getD i default < a.q.n := okQ_to h.ok hi
    have av := hQ.av
    have aw := hQ.aw
    have bv := hQ.bv
    have bw := hQ.bw
    have av4 := hQ.av4
    have aw4 := hQ.aw4
    have bv4 := hQ.bv4
    have bw4 := hQ.bw4
    have hv := hQ.v
    have hw := hQ.w
    have hla := hQ.la
    have hlb := hQ.lb
    have hA := l11At_a a b (vF a i) h (by omega)
    have hB := l11At_a a b (vT a i) h (by omega)
    rw [← hQ.fr] at hA
    rw [← hQ.to] at hB
    repeat' first | refine s1 ?_ | fail
    have z1 : szA a b i = szA a b i + 0 * dim a (vF a i) := by omega
    have z2 : eqA a b i = eqA a b i ++ eqR a b i 0 := (List.append_nil _).symm
    rw [z1, z2]
    refine F.loop (σ := Nat) [10, 11, 12, 13, 14, 15, 16, 42, 43, 44, 45, 46, 47, 48, 49, 50, 51, 52, 53, 54, 55, 56, 57, 58, 59, 60, 61, 62, 63, 64, 65, 66, 67, 68, 69, 70, 71, 72, 73, 74, 75, 76, 77, 78, 79, 80, 81, 82, 83, 84, 85, 86, 87, 88, 89, 90, 91, 92, 93, 94, 95, 96, 97, 98, 99, 100, 101, 102, 103, 104, 105, 106, 107, 108, 109, 110, 111, 112, 113, 114, 115, 116, 117, 118, 119, 120, 121, 122, 123, 124, 125, 126, 127, 128, 129, 130, 131, 132, 133, 134, 135, 136, 137, 138, 139, 140, 141, 142, 143, 144, 145, 146, 147, 148, 149, 150, 151, 152, 153, 154, 155, 156, 157, 158, 159, 160, 161, 162, 163, 164, 165, 166, 167, 168, 169, 170, 171, 172] (fun r => [(10, .i r)]) (fun r => [(3, .live false 3 [[.i (szA a b i + r * dim a (vF a i) : Nat), .i (szT a b a.d.length : Nat), .sl 4 (eqA a b i ++ eqR a b i r).length 0 (eqA a b i ++ eqR a b i r).length]]), (4, .live false 1 (E true (eqA a b i ++ eqR a b i r)))]) (fun r => r ≤ dim b (vT a i)) (fun r => dim b (vT a i) - r) 0 ⟨rfl, trivial⟩ ⟨rfl, rfl, trivial⟩ (Nat.zero_le _) ?_
    rintro r r1
    by_cases hr : r < dim b (vT a i)
    · have hr' : (r : Int) < b.d.getD (a.q.to.getD i default).toNat default := by rw [show b.d.getD (a.q.to.getD i default).toNat default = _ from bw]; omega
      have hR1 : szA a b i + (r + 1) * dim a (vF a i) = szA a b i + r * dim a (vF a i) + dim a (vF a i) := by rw [Nat.add_mul, Nat.one_mul]; omega
      have hL1 : eqA a b i ++ eqR a b i (r + 1) = eqA a b i ++ eqR a b i r ++ eqK a b i r (dim a (vF a i)) := by rw [eqR_succ, List.append_assoc]
      have hRb : szA a b i + r * dim a (vF a i) + dim a (vF a i) ≤ 96 := by
        have s1 := szA_le h (i + 1) (by omega)
        have s2 : szA a b (i + 1) = szA a b i + dim b (vT a i) * dim a (vF a i) := rfl
        have s3 := Nat.mul_le_mul_right (dim a (vF a i)) (show r + 1 ≤ dim b (vT a i) from hr)
        rw [Nat.add_mul, Nat.one_mul] at s3
        omega
      have hLK : ∀ k, k ≤ dim a (vF a i) → (eqA a b i ++ eqR a b i r ++ eqK a b i r k).length ≤ 100000 := fun k hk => by
        rw [List.length_append, List.length_append, eqA_len (by omega), eqR_len (by omega), eqK_len (by omega), ← Nat.add_mul, ← Nat.add_mul]
        have := Nat.mul_le_mul (show szA a b i + r * dim a (vF a i) + k ≤ 96 by omega) hN
        omega
      generalize eqA a b i ++ eqR a b i r = LR at hL1 hLK ⊢
      generalize szA a b i + r * dim a (vF a i) = R at hR1 hRb ⊢
      repeat' first | refine s1 ?_ | fail
      have z2 : LR = LR ++ eqK a b i r 0 := (List.append_nil _).symm
      rw [z2]
      refine F.loop (σ := Nat) [11, 12, 13, 14, 15, 16, 51, 52, 53, 54, 55, 56, 57, 58, 59, 60, 61, 62, 63, 64, 65, 66, 67, 68, 69, 70, 71, 72, 73, 74, 75, 76, 77, 78, 79, 80, 81, 82, 83, 84, 85, 86, 87, 88, 89, 90, 91, 92, 93, 94, 95, 96, 97, 98, 99, 100, 101, 102, 103, 104, 105, 106, 107, 108, 109, 110, 111, 112, 113, 114, 115, 116, 117, 118, 119, 120, 121, 122, 123, 124, 125, 126, 127, 128, 129, 130, 131, 132, 133, 134, 135, 136, 137, 138, 139, 140, 141, 142, 143, 144, 145, 146, 147, 148, 149, 150, 151, 152, 153, 154, 155, 156, 157, 158, 159, 160, 161, 162, 163, 164, 165, 166, 167, 168, 169, 170, 171, 172] (fun k => [(11, .i k)]) (fun k => [(3, .live false 3 [[.i (R + k : Nat), .i (szT a b a.d.length : Nat), .sl 4 (LR ++ eqK a b i r k).length 0 (LR ++ eqK a b i r k).length]]), (4, .live false 1 (E true (LR ++ eqK a b i r k)))]) (fun k => k ≤ dim a (vF a i)) (fun k => dim a (vF a i) - k) 0 ⟨rfl, trivial⟩ ⟨rfl, rfl, trivial⟩ (Nat.zero_le _) ?_
      rintro k k1
      by_cases hk : k < dim a (vF a i)
      · have hk' : (k : Int) < a.d.getD (a.q.fr.getD i default).toNat default := by rw [show a.d.getD (a.q.fr.getD i default).toNat default = _ from av]; omega
        repeat' first | refine s1 ?_ | (refine kR ?_; first | refine F.mk (m := szT a b a.d.length) Int rfl rfl rfl (mkB (by omega)) (by omega) rfl rfl ?_) | fail
        refine F.loop (σ := Nat) [13, 14, 62, 63, 64, 65, 66, 67, 68, 69, 70, 71, 72, 73, 74, 75, 76, 77, 78, 79, 80, 81, 82, 83, 84, 85, 86, 87, 88, 89, 90, 91, 92, 93, 94, 95, 96, 97, 98, 99, 100, 101, 102, 103, 104, 105, 106, 107, 108, 109, 110, 111, 112] (fun j => [(13, .i j)]) (fun j => [(5, .live false 1 (E true (rX a b i r k j)))]) (fun j => j ≤ dim b (vF a i)) (fun j => dim b (vF a i) - j) 0 ⟨rfl, trivial⟩ ⟨rfl, trivial⟩ (Nat.zero_le _) ?_
        rintro j j1
        by_cases hj : j < dim b (vF a i)
        · have hj' : (j : Int) < b.d.getD (a.q.fr.getD i default).toNat default := by rw [show b.d.getD (a.q.fr.getD i default).toNat default = _ from bv]; omega
          have hat := hQ.atX hj hk
          have hok := rX_ok (a := a) (b := b) (by omega) i r k j
          have e1 : (szT a b (vF a i) : Int) + (j : Int) * a.d.getD (a.q.fr.getD i default).toNat default + (k : Int) = ((szT a b (vF a i) + j * dim a (vF a i) + k : Nat) : Int) := castE av
          have e2 : (r : Int) * b.d.getD (a.q.fr.getD i default).toNat default + (j : Int) = ((r * dim b (vF a i) + j : Nat) : Int) := castG bv
          have g1 : In64 ((j : Int) * a.d.getD (a.q.fr.getD i default).toNat default) ∧ 0 ≤ (j : Int) * a.d.getD (a.q.fr.getD i default).toNat default ∧ (j : Int) * a.d.getD (a.q.fr.getD i default).toNat default ≤ 16 := in44 (j := j) av (by omega) av4
          have g2 : In64 ((r : Int) * b.d.getD (a.q.fr.getD i default).toNat default) ∧ 0 ≤ (r : Int) * b.d.getD (a.q.fr.getD i default).toNat default ∧ (r : Int) * b.d.getD (a.q.fr.getD i default).toNat default ≤ 16 := in44 (j := r) bv (by omega) bv4
          have hst : rX a b i r k (j + 1) = (rX a b i r k j).set (szT a b (vF a i) + j * dim a (vF a i) + k) (((rX a b i r k j).getD (szT a b (vF a i) + j * dim a (vF a i) + k) default + (b.m.getD i default).m.getD (r * dim b (vF a i) + j) default) % a.p) := rfl
          have hix := in_grid hr hj
          rw [← hlb] at hix
          have hcell := (isMat_spec hQ.mb).2.2.2.2 _ hix
          have hcl := (isMat_spec hQ.mb).2.2.2.2
          have hsz := szT_le h (vF a i) (by omega)
          generalize rX a b i r k j = L1 at hok hst ⊢
          generalize szT a b (vF a i) + j * dim a (vF a i) + k = at' at hat e1 hst
          generalize r * dim b (vF a i) + j = ix at hix e2 hcell hst
          have hl1 := hok.1
          have hc1 := hok.2 at' hat
          have h64 : In64 (L1.getD (0 + at') default + (b.m.getD i default).m.getD ix default) := by rw [Nat.zero_add]; unfold In64; omega
          have hM := l2Mod_a a.p (L1.getD (0 + at') default + (b.m.getD i default).m.getD ix default) (by omega)
          have i1 := g1.1
          have i2 : In64 ((szT a b (vF a i) : Int) + (j : Int) * a.d.getD (a.q.fr.getD i default).toNat default) := by unfold In64; omega
          have i3 : In64 ((szT a b (vF a i) : Int) + (j : Int) * a.d.getD (a.q.fr.getD i default).toNat default + (k : Int)) := by unfold In64; omega
          have i4 := g2.1
          have i5 : In64 ((r : Int) * b.d.getD (a.q.fr.getD i default).toNat default + (j : Int)) := by unfold In64; omega
          have hT : ((r : Int) * b.d.getD (a.q.fr.getD i default).toNat default + (j : Int)).toNat = ix := by rw [e2]; exact Int.toNat_natCast ix
          rw [← hT] at hM h64 hix
          repeat' first | refine s1 ?_ | fail
          refine AW.draw 15 G.mixed (by kernel_rfl) ?_
          refine dL 0 ?_
          refine dL 1 ?_
          refine dP 2 ?_
          refine dP 4 ?_
          refine dP 5 ?_
          refine dL 6 ?_
          refine dP 7 ?_
          refine dP 8 ?_
          refine dL 9 ?_
          refine dP 10 ?_
          refine dP 12 ?_
          refine dO 3 true ?_
          first | refine s1 ?_ | refine F.c (hA) ?_
          refine ARg.nil (ATh.normal ?_)
          refine dP 11 ?_
          refine dP 13 ?_
          refine dP 14 ?_
          refine dN ?_
          rw [e1]
          repeat' first | refine s1 ?_ | fail
          refine AW.draw 28 G.mixed (by kernel_rfl) ?_
          refine dP 0 ?_
          refine dP 1 ?_
          refine dP 2 ?_
          refine dL 3 ?_
          refine dP 4 ?_
          refine dP 5 ?_
          refine dP 6 ?_
          refine dL 7 ?_
          refine dP 8 ?_
          refine dL 9 ?_
          refine dP 10 ?_
          refine dP 11 ?_
          refine dP 12 ?_
          refine dL 13 ?_
          refine dP 14 ?_
          refine dP 15 ?_
          refine dL 16 ?_
          refine dP 17 ?_
          refine dP 18 ?_
          refine dL 19 ?_
          refine dP 20 ?_
          refine dP 21 ?_
          refine dP 22 ?_
          refine dP 23 ?_
          refine dL 24 ?_
          refine dP 25 ?_
          refine dO 26 true ?_
          first | refine s1 ?_ | refine F.c (hM) ?_
          refine ARg.nil (ATh.normal ?_)
          refine dP 27 ?_
          refine dO 28 false ?_
          refine s1 ?_
          refine ARg.nil (ATh.normal ?_)
          refine dN ?_
          repeat' first | refine s1 ?_ | fail
          exact ⟨j + 1, F.fit ⟨rfl, trivial⟩ ⟨obE (by rw [hst, Nat.zero_add, hT]), trivial⟩, by omega, by omega⟩
        · have hj' : ¬ (j : Int) < b.d.getD (a.q.fr.getD i default).toNat default := by rw [show b.d.getD (a.q.fr.getD i default).toNat default = _ from bv]; omega
          obtain rfl : j = dim b (vF a i) := by omega
          repeat' first | refine s1 ?_ | fail
          refine F.loop (σ := Nat) [15, 16, 113, 114, 115, 116, 117, 118, 119, 120, 121, 122, 123, 124, 125, 126, 127, 128, 129, 130, 131, 132, 133, 134, 135, 136, 137, 138, 139, 140, 141, 142, 143, 144, 145, 146, 147, 148, 149, 150, 151, 152, 153, 154, 155, 156, 157, 158, 159, 160, 161, 162, 163] (fun j => [(15, .i j)]) (fun j => [(5, .live false 1 (E true (rY a b i r k j)))]) (fun j => j ≤ dim a (vT a i)) (fun j => dim a (vT a i) - j) 0 ⟨rfl, trivial⟩ ⟨rfl, trivial⟩ (Nat.zero_le _) ?_
          rintro j j2
          by_cases hj : j < dim a (vT a i)
          · have hj' : (j : Int) < a.d.getD (a.q.to.getD i default).toNat default := by rw [show a.d.getD (a.q.to.getD i default).toNat default = _ from aw]; omega
            have hat := hQ.atY hr hj
            have hok := rY_ok (a := a) (b := b) (by omega) i r k j
            have e1 : (szT a b (vT a i) : Int) + (r : Int) * a.d.getD (a.q.to.getD i default).toNat default + (j : Int) = ((szT a b (vT a i) + r * dim a (vT a i) + j : Nat) : Int) := castE aw
            have e2 : (j : Int) * a.d.getD (a.q.fr.getD i default).toNat default + (k : Int) = ((j * dim a (vF a i) + k : Nat) : Int) := castG av
            have g1 : In64 ((r : Int) * a.d.getD (a.q.to.getD i default).toNat default) ∧ 0 ≤ (r : Int) * a.d.getD (a.q.to.getD i default).toNat default ∧ (r : Int) * a.d.getD (a.q.to.getD i default).toNat default ≤ 16 := in44 (j := r) aw (by omega) aw4
            have g2 : In64 ((j : Int) * a.d.getD (a.q.fr.getD i default).toNat default) ∧ 0 ≤ (j : Int) * a.d.getD (a.q.fr.getD i default).toNat default ∧ (j : Int) * a.d.getD (a.q.fr.getD i default).toNat default ≤ 16 := in44 (j := j) av (by omega) av4
            have hst : rY a b i r k (j + 1) = (rY a b i r k j).set (szT a b (vT a i) + r * dim a (vT a i) + j) (((rY a b i r k j).getD (szT a b (vT a i) + r * dim a (vT a i) + j) default - (a.m.getD i default).m.getD (j * dim a (vF a i) + k) default) % a.p) := by rw [Int.sub_eq_add_neg]; rfl
            have hix := in_grid hj hk
            rw [← hla] at hix
            have hcell := (isMat_spec hQ.ma).2.2.2.2 _ hix
            have hsz := szT_le h (vT a i) (by omega)
            generalize rY a b i r k j = L1 at hok hst ⊢
            generalize szT a b (vT a i) + r * dim a (vT a i) + j = at' at hat e1 hst
            generalize j * dim a (vF a i) + k = ix at hix e2 hcell hst
            have hl1 := hok.1
            have hc1 := hok.2 at' hat
            have h64 : In64 (L1.getD (0 + at') default - (a.m.getD i default).m.getD ix default) := by rw [Nat.zero_add]; unfold In64; omega
            have hM := l2Mod_a a.p (L1.getD (0 + at') default - (a.m.getD i default).m.getD ix default) (by omega)
            have i1 := g1.1
            have i2 : In64 ((szT a b (vT a i) : Int) + (r : Int) * a.d.getD (a.q.to.getD i default).toNat default) := by unfold In64; omega
            have i3 : In64 ((szT a b (vT a i) : Int) + (r : Int) * a.d.getD (a.q.to.getD i default).toNat default + (j : Int)) := by unfold In64; omega
            have i4 := g2.1
            have i5 : In64 ((j : Int) * a.d.getD (a.q.fr.getD i default).toNat default + (k : Int)) := by unfold In64; omega
            have hT : ((j : Int) * a.d.getD (a.q.fr.getD i default).toNat default + (k : Int)).toNat = ix := by rw [e2]; exact Int.toNat_natCast ix
            rw [← hT] at hM h64 hix
            repeat' first | refine s1 ?_ | fail
            refine AW.draw 15 G.mixed (by kernel_rfl) ?_
            refine dL 0 ?_
            refine dL 1 ?_
            refine dP 2 ?_
            refine dP 4 ?_
            refine dP 5 ?_
            refine dL 6 ?_
            refine dP 7 ?_
            refine dP 8 ?_
            refine dL 9 ?_
            refine dP 10 ?_
            refine dP 12 ?_
            refine dO 3 true ?_
            first | refine s1 ?_ | refine F.c (hB) ?_
            refine ARg.nil (ATh.normal ?_)
            refine dP 11 ?_
            refine dP 13 ?_
            refine dP 14 ?_
            refine dN ?_
            rw [e1]
            repeat' first | refine s1 ?_ | fail
            refine AW.draw 28 G.mixed (by kernel_rfl) ?_
            refine dP 0 ?_
            refine dP 1 ?_
            refine dP 2 ?_
            refine dL 3 ?_
            refine dP 4 ?_
            refine dP 5 ?_
            refine dP 6 ?_
            refine dL 7 ?_
            refine dP 8 ?_
            refine dL 9 ?_
            refine dP 10 ?_
            refine dP 11 ?_
            refine dP 12 ?_
            refine dL 13 ?_
            refine dP 14 ?_
            refine dP 15 ?_
            refine dL 16 ?_
            refine dP 17 ?_
            refine dP 18 ?_
            refine dL 19 ?_
            refine dP 20 ?_
            refine dP 21 ?_
            refine dP 22 ?_
            refine dP 23 ?_
            refine dL 24 ?_
            refine dP 25 ?_
            refine dO 26 true ?_
            first | refine s1 ?_ | refine F.c (hM) ?_
            refine ARg.nil (ATh.normal ?_)
            refine dP 27 ?_
            refine dO 28 false ?_
            refine s1 ?_
            refine ARg.nil (ATh.normal ?_)
            refine dN ?_
            repeat' first | refine s1 ?_ | fail
            exact ⟨j + 1, F.fit ⟨rfl, trivial⟩ ⟨obE (by rw [hst, Nat.zero_add, hT]), trivial⟩, by omega, by omega⟩
          · have hj' : ¬ (j : Int) < a.d.getD (a.q.to.getD i default).toNat default := by rw [show a.d.getD (a.q.to.getD i default).toNat default = _ from aw]; omega
            obtain rfl : j = dim a (vT a i) := by omega
            have hok := rY_ok (a := a) (b := b) (by omega) i r k (dim a (vT a i))
            have hK1 : LR ++ eqK a b i r (k + 1) = (LR ++ eqK a b i r k) ++ rY a b i r k (dim a (vT a i)) := by rw [eqK_succ, List.append_assoc]; rfl
            have hl1 := hok.1
            have hLb : (LR ++ eqK a b i r k).length ≤ 100000 := hLK k k1
            generalize rY a b i r k (dim a (vT a i)) = L1 at hok hK1 hl1 ⊢
            generalize LR ++ eqK a b i r k = LK at hK1 hLb ⊢
            have hRk : In64 (((R + k : Nat) : Int) + 1) := by unfold In64; omega
            have hR2 : ((R + k : Nat) : Int) + 1 = ((R + (k + 1) : Nat) : Int) := by omega
            repeat' first | refine s1 ?_ | (refine kR ?_; first | refine F.aL Int (oo := true) ?_ (hsrc := .own rfl rfl (by rw [E_length]; exact hl1))) | fail
            exact ⟨k + 1, F.fit ⟨rfl, trivial⟩ ⟨obE (by rw [hK1, List.length_append, ← hR2]; exact congrArg (fun l => [[AV.i (((R + k : Nat) : Int) + 1), AV.i (szT a b a.d.length : Nat), AV.sl 4 l 0 l]]) (by rw [List.length_append, hl1])), obE (by rw [hK1]), trivial⟩, by omega, by omega⟩
      · have hk' : ¬ (k : Int) < a.d.getD (a.q.fr.getD i default).toNat default := by rw [show a.d.getD (a.q.fr.getD i default).toNat default = _ from av]; omega
        obtain rfl : k = dim a (vF a i) := by omega
        rw [← hL1, ← hR1]
        repeat' first | refine s1 ?_ | fail
        exact ⟨r + 1, F.fit ⟨rfl, trivial⟩ ⟨rfl, rfl, trivial⟩, by omega, by omega⟩
    · have hr' : ¬ (r : Int) < b.d.getD (a.q.to.getD i default).toNat default := by rw [show b.d.getD (a.q.to.getD i default).toNat default = _ from bw]; omega
      obtain rfl : r = dim b (vT a i) := by omega
      have hA1 : szA a b (i + 1) = szA a b i + dim b (vT a i) * dim a (vF a i) := rfl
      rw [← eqA_succ, ← hA1]
      repeat' first | refine s1 ?_ | fail
      exact ⟨i + 1, F.fit ⟨rfl, trivial⟩ ⟨rfl, rfl, trivial⟩, by omega, by omega⟩
  · obtain rfl : i = a.q.fr.length := by omega
    repeat' first | refine s1 ?_ | fail
    (refine kZ ?_; exact F.ret rfl)
end Go.Proofs.YtanembgijdkagaaGreat.V
namespace Go.Proofs.YtanembgijdkagaaGreat.V
open Go.RowKit G D
set_option linter.unusedVariables false
set_option linter.unusedSimpArgs false
set_option maxHeartbeats 400000
set_option maxRecDepth 4000
def dot1 (L : List Int) (g : Nat → Int) : Nat → Int
  | 0 => 0
  | n + 1 => dot1 L g n + L.getD n default * g n
theorem dot1_zero (m : Nat) (g : Nat → Int) : ∀ n, n ≤ m → dot1 (List.replicate m 0) g n = 0
  | 0, _ => rfl
  | n + 1, h => by
    have : (List.replicate m (0 : Int)).getD n default = 0 := by simp [show n < m from h]
    rw [dot1, dot1_zero m g n (by omega), this]; simp
theorem updAt_ne {p : Int} {L : List Int} {t u : Nat} {y : Int} (e : u ≠ t) : (updAt p L t y).getD u default = L.getD u default := by
  simp only [updAt, List.getD_eq_getElem?_getD]
  rw [List.getElem?_set_ne (Ne.symm e)]
theorem updAt_eq {p : Int} {L : List Int} {t : Nat} {y : Int} (h : t < L.length) : (updAt p L t y).getD t default = (L.getD t default + y) % p := by simp [updAt, h]
theorem dot1_lo {p : Int} {L : List Int} {t : Nat} {y : Int} (g : Nat → Int) : ∀ n, n ≤ t → dot1 (updAt p L t y) g n = dot1 L g n
  | 0, _ => rfl
  | n + 1, h => by rw [dot1, dot1, dot1_lo g n (by omega), updAt_ne (by omega)]
theorem dot1_upd {p : Int} {L : List Int} {t : Nat} {y : Int} (g : Nat → Int) (h : t < L.length) : ∀ n, t < n → ∃ q, dot1 (updAt p L t y) g n = dot1 L g n + y * g t + p * q
  | 0, h0 => absurd h0 (Nat.not_lt_zero _)
  | n + 1, h0 => by
    by_cases e : n = t
    · subst e
      rw [dot1, dot1, dot1_lo g n (Nat.le_refl _), updAt_eq h]
      refine ⟨-((L.getD n default + y) / p) * g n, ?_⟩
      have hd := Int.emod_add_mul_ediv (L.getD n default + y) p
      have hd' : (L.getD n default + y) % p = (L.getD n default + y) - p * ((L.getD n default + y) / p) := by omega
      rw [hd']
      grind
    · obtain ⟨q, hq⟩ := dot1_upd (p := p) (y := y) g h n (by omega)
      refine ⟨q, ?_⟩
      rw [dot1, dot1, hq, updAt_ne e]
      omega
theorem getD_mid {xs ys zs : List Int} {t : Nat} (h : t < ys.length) : (xs ++ ys ++ zs).getD (xs.length + t) default = ys.getD t default := by
  rw [List.append_assoc]
  simp only [List.getD_eq_getElem?_getD]
  rw [List.getElem?_append_right (by omega), List.getElem?_append_left (by omega)]
  congr 2; omega
theorem fm_split (f : Nat → List Int) {j n : Nat} (h : j < n) : ∃ zs, (List.range n).flatMap f = (List.range j).flatMap f ++ f j ++ zs := by
  induction n with
  | zero => omega
  | succ n ih =>
    rw [fm_succ]
    by_cases e : j = n
    · subst e; exact ⟨[], by simp⟩
    · obtain ⟨zs, hz⟩ := ih (by omega)
      exact ⟨zs ++ f n, by rw [hz, List.append_assoc]⟩
theorem eq_row {a b : Rep} (hp : 0 < a.p) {i r k x N : Nat} (hi : i < N) (hr : r < dim b (vT a i)) (hk : k < dim a (vF a i)) (hx : x < szT a b a.d.length) :
    (eqA a b N).getD ((szA a b i + r * dim a (vF a i) + k) * szT a b a.d.length + x) default = (eqRow a b i r k).getD x default := by
  obtain ⟨z1, h1⟩ := fm_split (fun i => eqR a b i (dim b (vT a i))) hi
  obtain ⟨z2, h2⟩ := fm_split (fun r => eqK a b i r (dim a (vF a i))) hr
  obtain ⟨z3, h3⟩ := fm_split (eqRow a b i r) hk
  have e1 : eqA a b N = eqA a b i ++ eqR a b i (dim b (vT a i)) ++ z1 := h1
  have e2 : eqR a b i (dim b (vT a i)) = eqR a b i r ++ eqK a b i r (dim a (vF a i)) ++ z2 := h2
  have e3 : eqK a b i r (dim a (vF a i)) = eqK a b i r k ++ eqRow a b i r k ++ z3 := h3
  have l1 := eqA_len (a := a) (b := b) hp i
  have l2 := eqR_len (a := a) (b := b) hp i r
  have l3 := eqK_len (a := a) (b := b) hp i r k
  have l4 := (eqRow_ok (a := a) (b := b) hp i r k).1
  have e : eqA a b N = (eqA a b i ++ eqR a b i r ++ eqK a b i r k) ++ eqRow a b i r k ++ (z3 ++ z2 ++ z1) := by
    rw [e1, e2, e3]; simp only [List.append_assoc]
  have hl : (eqA a b i ++ eqR a b i r ++ eqK a b i r k).length = (szA a b i + r * dim a (vF a i) + k) * szT a b a.d.length := by
    rw [List.length_append, List.length_append, l1, l2, l3, ← Nat.add_mul, ← Nat.add_mul]
  rw [e, ← hl, getD_mid (by omega)]
theorem eqA_mem {a b : Rep} (hp : 0 < a.p) {N : Nat} {y : Int} (h : y ∈ eqA a b N) : 0 ≤ y ∧ y ≤ a.p - 1 := by
  simp only [eqA, eqR, eqK, List.mem_flatMap] at h
  obtain ⟨i, _, r, _, k, _, hm⟩ := h
  obtain ⟨h1, h2⟩ := eqRow_ok (a := a) (b := b) hp i r k
  obtain ⟨t, ht, rfl⟩ := List.getElem_of_mem hm
  have := h2 t (by omega)
  simpa [ht] using this
/-- what is known of the matrices of a pair, vertex by vertex -/
theorem fitV_spec {a b : Rep} {f : List Mat} (h : areM a b f = true) {v : Nat} (hv : v < f.length) :
    isMat a.p (f.getD v default) = true ∧ (f.getD v default).c = (dim a v : Int) ∧ (f.getD v default).r = (dim b v : Int) ∧ (f.getD v default).m.length = dim b v * dim a v := by
  have h1 := (areM_spec h).2.2 v hv
  simp only [fitV, Bool.and_eq_true, decide_eq_true_eq] at h1
  obtain ⟨⟨m, c⟩, r⟩ := h1
  obtain ⟨_, r1, c1, l, _⟩ := isMat_spec m
  have e1 : (f.getD v default).c = (dim a v : Int) := by
    have : 0 ≤ a.d.getD v default := by omega
    exact c.trans (Int.toNat_of_nonneg this).symm
  have e2 : (f.getD v default).r = (dim b v : Int) := by
    have : 0 ≤ b.d.getD v default := by omega
    exact r.trans (Int.toNat_of_nonneg this).symm
  rw [e1, e2] at l
  exact ⟨m, e1, e2, by exact_mod_cast l⟩
theorem catM_len {a b : Rep} {f : List Mat} (h : areM a b f = true) : ∀ v, v ≤ f.length → (catM (f.take v)).length = szT a b v
  | 0, _ => by simp [catM, szT]
  | v + 1, hv => by
    rw [catM_take (by omega), List.length_append, catM_len h v (by omega), (fitV_spec h (by omega)).2.2.2, Nat.mul_comm]; rfl
theorem cat_get {a b : Rep} {f : List Mat} (h : areM a b f = true) {v t : Nat} (hv : v < f.length) (ht : t < dim b v * dim a v) : (catM f).getD (szT a b v + t) default = (f.getD v default).m.getD t default := by
  have e : catM f = catM (f.take v) ++ (f.getD v default).m ++ catM (f.drop (v + 1)) := by
    rw [← catM_take hv]
    conv => lhs; rw [← List.take_append_drop (v + 1) f, catM, List.flatMap_append]
    rfl
  rw [e, ← catM_len h v (by omega), getD_mid (by rw [(fitV_spec h hv).2.2.2]; exact ht)]
theorem dot_rX {a b : Rep} {f : List Mat} (h : areM a b f = true) {i r k : Nat} (hi : i < a.q.fr.length) (hk : k < dim a (vF a i)) :
    ∀ j, j ≤ dim b (vF a i) → ∃ q, dot1 (rX a b i r k j) (fun x => (catM f).getD x default) (szT a b a.d.length) = dotK (ent (b.m.getD i default)) (ent (f.getD (vF a i) default)) r k j + a.p * q
  | 0, _ => ⟨0, by rw [rX, dot1_zero _ _ _ (Nat.le_refl _)]; simp [dotK]⟩
  | j + 1, hj => by
    have hf := (areM_spec h).1
    have hQ := EqF.of hf hi
    have hp := isF_pos (Fits.of hf).f
    have hlen := (areM_spec h).2.1
    obtain ⟨q, hq⟩ := dot_rX h hi hk j (by omega)
    have hat := hQ.atX (j := j) (by omega) hk
    obtain ⟨q2, hq2⟩ := dot1_upd (p := a.p) (y := (b.m.getD i default).m.getD (r * dim b (vF a i) + j) default) (fun x => (catM f).getD x default) (L := rX a b i r k j) (t := szT a b (vF a i) + j * dim a (vF a i) + k) (by rw [(rX_ok (by omega) i r k j).1]; exact hat) (szT a b a.d.length) hat
    have hv : vF a i < f.length := by rw [hlen]; exact hQ.v
    have hg : (catM f).getD (szT a b (vF a i) + j * dim a (vF a i) + k) default = ent (f.getD (vF a i) default) j k := by
      rw [Nat.add_assoc, cat_get h hv (in_grid (by omega) hk), ent, (fitV_spec h hv).2.1]; rfl
    have hb : (b.m.getD i default).m.getD (r * dim b (vF a i) + j) default = ent (b.m.getD i default) r j := by
      rw [ent, hQ.bc]; rfl
    refine ⟨q + q2, ?_⟩
    rw [rX, hq2, hq, hg, hb, dotK, Int.mul_add]
    omega
theorem dot_rY {a b : Rep} {f : List Mat} (h : areM a b f = true) {i r k : Nat} (hi : i < a.q.fr.length) (hk : k < dim a (vF a i)) (hr : r < dim b (vT a i)) :
    ∀ j, j ≤ dim a (vT a i) → ∃ q, dot1 (rY a b i r k j) (fun x => (catM f).getD x default) (szT a b a.d.length) = dotK (ent (b.m.getD i default)) (ent (f.getD (vF a i) default)) r k (dim b (vF a i)) - dotK (ent (f.getD (vT a i) default)) (ent (a.m.getD i default)) r k j + a.p * q
  | 0, _ => by
    obtain ⟨q, hq⟩ := dot_rX (r := r) h hi hk _ (Nat.le_refl _)
    exact ⟨q, by rw [rY, hq, dotK]; omega⟩
  | j + 1, hj => by
    have hf := (areM_spec h).1
    have hQ := EqF.of hf hi
    have hp := isF_pos (Fits.of hf).f
    have hlen := (areM_spec h).2.1
    obtain ⟨q, hq⟩ := dot_rY h hi hk hr j (by omega)
    have hat := hQ.atY (j := j) hr (by omega)
    obtain ⟨q2, hq2⟩ := dot1_upd (p := a.p) (y := -((a.m.getD i default).m.getD (j * dim a (vF a i) + k) default)) (fun x => (catM f).getD x default) (L := rY a b i r k j) (t := szT a b (vT a i) + r * dim a (vT a i) + j) (by rw [(rY_ok (by omega) i r k j).1]; exact hat) (szT a b a.d.length) hat
    have hv : vT a i < f.length := by rw [hlen]; exact hQ.w
    have hg : (catM f).getD (szT a b (vT a i) + r * dim a (vT a i) + j) default = ent (f.getD (vT a i) default) r j := by
      rw [Nat.add_assoc, cat_get h hv (in_grid hr (by omega)), ent, (fitV_spec h hv).2.1]; rfl
    have hb : (a.m.getD i default).m.getD (j * dim a (vF a i) + k) default = ent (a.m.getD i default) j k := by
      rw [ent, hQ.ac]; rfl
    refine ⟨q + q2, ?_⟩
    rw [rY, hq2, hq, hg, hb, dotK, Int.mul_add]
    grind
theorem dotK_dot1 {F G : Nat → Nat → Int} {L : List Int} {g : Nat → Int} {T c : Nat} : ∀ n, (∀ x, x < n → F T x = L.getD x default ∧ G x c = g x) → dotK F G T c n = dot1 L g n
  | 0, _ => rfl
  | n + 1, h => by rw [dotK, dot1, dotK_dot1 n fun x hx => h x (by omega), (h n (by omega)).1, (h n (by omega)).2]
theorem cob_mod (p s t q : Int) : (s - t + p * q) % p = (s % p + (p - 1) * (t % p)) % p := by
  have h1 : s % p = s - p * (s / p) := by have := Int.emod_add_mul_ediv s p; omega
  have h2 : t % p = t - p * (t / p) := by have := Int.emod_add_mul_ediv t p; omega
  have e : s - t + p * q = (s % p + (p - 1) * (t % p)) + p * (q + s / p - t % p - t / p) := by
    generalize hu : t % p = u at h2 ⊢
    rw [h1]
    have : t = u + p * (t / p) := by omega
    grind
  rw [e, Int.add_mul_emod_self_left]
def eqM (a b : Rep) : Mat := ⟨szA a b a.q.fr.length, szT a b a.d.length, eqA a b a.q.fr.length⟩
def colM (a b : Rep) (f : List Mat) : Mat := ⟨szT a b a.d.length, 1, catM f⟩
theorem eqM_bd {a b : Rep} (hp : 0 < a.p) : BdF a.p (szA a b a.q.fr.length) (szT a b a.d.length) (ent (eqM a b)) := fun i hi j hj => by
  have h := in_grid hi hj
  rw [← eqA_len (a := a) (b := b) hp] at h
  exact eqA_mem hp (gm h)
theorem eqM_tm {a b : Rep} (hp : 0 < a.p) : tm (szA a b a.q.fr.length) (szT a b a.d.length) (ent (eqM a b)) = eqM a b := by
  have := tm_of (m := eqM a b) (Int.natCast_nonneg _) (Int.natCast_nonneg _) (by show ((eqA a b a.q.fr.length).length : Int) = _; rw [eqA_len hp]; exact Int.natCast_mul ..)
  exact this
theorem colM_bd {a b : Rep} {f : List Mat} (h : areM a b f = true) : BdF a.p (szT a b a.d.length) 1 (ent (colM a b f)) := fun i hi j hj => by
  have hp := isF_pos (Fits.of (areM_spec h).1).f
  have hl := catM_len h f.length (Nat.le_refl _)
  rw [List.take_length, (areM_spec h).2.1] at hl
  have e : ent (colM a b f) i j = (catM f).getD i default := by
    obtain rfl : j = 0 := by omega
    show (catM f).getD (i * 1 + 0) default = _
    rw [Nat.mul_one]; rfl
  rw [e]
  have hm : (catM f).getD i default ∈ catM f := gm (by omega)
  simp only [catM, List.mem_flatMap] at hm
  obtain ⟨m, hm1, hm2⟩ := hm
  obtain ⟨v, hv, rfl⟩ := List.getElem_of_mem hm1
  have hM := (isMat_spec (fitV_spec h hv).1).2.2.2.2
  obtain ⟨t, ht, e2⟩ := List.getElem_of_mem hm2
  have g1 : f.getD v default = f[v] := by simp [hv]
  rw [g1] at hM
  have := hM t ht
  have g2 : (f[v].m).getD t default = f[v].m[t] := by simp [ht]
  rw [g2, e2] at this
  exact this
theorem mulM_tm {p : Int} {x y : Mat} {r n c : Nat} (h1 : x.r = (r : Int)) (h2 : x.c = (n : Int)) (h3 : y.c = (c : Int)) : mulM p x y = tm r c (mulF p (ent x) (ent y) n) := by
  rw [mulM, h1, h2, h3]; rfl
/-- the equations' matrix times the cells, cut by the arrows -/
theorem cob_cut {a b : Rep} {f : List Mat} (h : areM a b f = true) : cutL a b (tab (szA a b a.q.fr.length) 1 (mulF a.p (ent (eqM a b)) (ent (colM a b f)) (szT a b a.d.length))) = cobL a b f := by
  have hf := (areM_spec h).1
  have hp := isF_pos (Fits.of hf).f
  have hlen := (areM_spec h).2.1
  unfold cutL cobL
  apply List.map_congr_left
  intro i hi
  have hi : i < a.q.fr.length := by simpa using hi
  have hQ := EqF.of hf hi
  have hv : vF a i < f.length := by rw [hlen]; exact hQ.v
  have hw : vT a i < f.length := by rw [hlen]; exact hQ.w
  have hs := szA_mono a b (m := i + 1) (n := a.q.fr.length) (by omega)
  have hsi : szA a b (i + 1) = szA a b i + dim b (vT a i) * dim a (vF a i) := rfl
  have eX : arX a b f i = tm (dim b (vT a i)) (dim a (vF a i)) (mulF a.p (ent (b.m.getD i default)) (ent (f.getD (vF a i) default)) (dim b (vF a i))) := mulM_tm hQ.br hQ.bc (fitV_spec h hv).2.1
  have eY : arY a b f i = tm (dim b (vT a i)) (dim a (vF a i)) (mulF a.p (ent (f.getD (vT a i) default)) (ent (a.m.getD i default)) (dim a (vT a i))) := mulM_tm (fitV_spec h hw).2.2.1 (fitV_spec h hw).2.1 hQ.ac
  rw [eX, eY, plusM, cutM]
  show Mat.mk _ _ _ = Mat.mk _ _ (addK _ _ _ (tab _ _ _) (tab _ _ _) (tab _ _ _).length)
  rw [addK_full, show b.d.getD (a.q.to.getD i default).toNat default = _ from hQ.bw, show a.d.getD (a.q.fr.getD i default).toNat default = _ from hQ.av]
  congr 1
  generalize hX : tab (szA a b a.q.fr.length) 1 (mulF a.p (ent (eqM a b)) (ent (colM a b f)) (szT a b a.d.length)) = X
  have hXl : X.length = szA a b a.q.fr.length := by rw [← hX, tab_len, Nat.mul_one]
  rw [← tab_of (l := (X.take (szA a b (i + 1))).drop (szA a b i)) (r := dim b (vT a i)) (c := dim a (vF a i)) (by rw [List.length_drop, List.length_take]; omega)]
  apply tab_ext
  intro r hr k hk
  have hg := in_grid hr hk
  have g1 : ((X.take (szA a b (i + 1))).drop (szA a b i)).getD (r * dim a (vF a i) + k) default = X.getD ((szA a b i + r * dim a (vF a i) + k) * 1 + 0) default := by
    simp only [List.getD_eq_getElem?_getD, List.getElem?_drop]
    rw [List.getElem?_take_of_lt (by omega), Nat.mul_one, Nat.add_zero, Nat.add_assoc]
  rw [g1, ← hX, tab_get _ (by omega) (by omega)]
  obtain ⟨q, hq⟩ := dot_rY h hi hk hr _ (Nat.le_refl _)
  have hd : dotK (ent (eqM a b)) (ent (colM a b f)) (szA a b i + r * dim a (vF a i) + k) 0 (szT a b a.d.length) = dot1 (rY a b i r k (dim a (vT a i))) (fun x => (catM f).getD x default) (szT a b a.d.length) :=
    dotK_dot1 _ fun x hx => ⟨eq_row (by omega) hi hr hk hx, by show (catM f).getD (x * 1 + 0) default = _; rw [Nat.mul_one]; rfl⟩
  show dotK _ _ _ _ _ % a.p = (dotK _ _ _ _ _ % a.p + (a.p - 1) * (dotK _ _ _ _ _ % a.p)) % a.p
  rw [hd, hq, cob_mod]
end Go.Proofs.YtanembgijdkagaaGreat.V
namespace Go.Proofs.YtanembgijdkagaaGreat.V
open Go.RowKit G D
set_option linter.unusedVariables false
set_option linter.unusedSimpArgs false
set_option maxHeartbeats 4000000
set_option maxRecDepth 4000
attribute [local irreducible] AW ARg ARA ARet MRet ASil AC AM
end Go.Proofs.YtanembgijdkagaaGreat.V
namespace Go.Proofs.YtanembgijdkagaaGreat.V
open Go.RowKit G D
set_option linter.unusedVariables false
set_option linter.unusedSimpArgs false
set_option maxHeartbeats 400000
set_option maxRecDepth 4000
/-- a list cut at the places s 0, s 1, .. is the list -/
theorem cut_cat (s : Nat → Nat) (hs : ∀ i, s i ≤ s (i + 1)) (h0 : s 0 = 0) (x : List Int) : ∀ n, ((List.range n).flatMap fun i => (x.take (s (i + 1))).drop (s i)) = x.take (s n)
  | 0 => by simp [h0]
  | n + 1 => by
    rw [fm_succ, cut_cat s hs h0 x n]
    have h := List.take_append_drop (s n) (x.take (s (n + 1)))
    rw [List.take_take, Nat.min_eq_left (hs n)] at h
    exact h
theorem catM_cutL {a b : Rep} {x : List Int} (h : x.length = szA a b a.q.fr.length) : catM (cutL a b x) = x := by
  have := cut_cat (szA a b) (fun i => Nat.le_add_right _ _) rfl x a.q.fr.length
  rw [← h, List.take_length] at this
  unfold catM cutL
  rw [List.flatMap_map]
  exact this
/-- cut by the vertices -/
def cutV (a b : Rep) (x : List Int) : List Mat := (List.range a.d.length).map fun v => ⟨b.d.getD v default, a.d.getD v default, (x.take (szT a b (v + 1))).drop (szT a b v)⟩
theorem cutV_len (a b : Rep) (x : List Int) : (cutV a b x).length = a.d.length := by simp [cutV]
theorem catM_cutV {a b : Rep} {x : List Int} (h : x.length = szT a b a.d.length) : catM (cutV a b x) = x := by
  have := cut_cat (szT a b) (fun i => Nat.le_add_right _ _) rfl x a.d.length
  rw [← h, List.take_length] at this
  unfold catM cutV
  rw [List.flatMap_map]
  exact this
/-- cut by the vertices, the cells are matrices of the right shape -/
theorem areM_cutV {a b : Rep} {x : List Int} (hf : fitR a b = true) (hl : x.length = szT a b a.d.length) (hb : ∀ y ∈ x, 0 ≤ y ∧ y ≤ a.p - 1) : areM a b (cutV a b x) = true := by
  have hh := Fits.of hf
  have hp := isF_pos hh.f
  have hda := hh.da
  have hdb := hh.db
  simp only [areM, Bool.and_eq_true, decide_eq_true_eq, List.all_eq_true]
  refine ⟨⟨hf, cutV_len a b x⟩, fun v hv => ?_⟩
  have hv : v < a.d.length := by rw [cutV_len] at hv; simpa using hv
  have ba := hh.ba v hv
  have bb := hh.bb v (by omega)
  have hg : (cutV a b x).getD v default = ⟨b.d.getD v default, a.d.getD v default, (x.take (szT a b (v + 1))).drop (szT a b v)⟩ := by simp [cutV, hv]
  have hs := szT_mono a b (m := v + 1) (n := a.d.length) (by omega)
  have hst : szT a b (v + 1) = szT a b v + (a.d.getD v default).toNat * (b.d.getD v default).toNat := rfl
  obtain ⟨m1, m2⟩ := mul44 ba bb
  have hlen : ((x.take (szT a b (v + 1))).drop (szT a b v)).length = (a.d.getD v default).toNat * (b.d.getD v default).toNat := by
    rw [List.length_drop, List.length_take]; omega
  simp only [fitV, hg, isMat, isVec, Bool.and_eq_true, decide_eq_true_eq]
  refine ⟨⟨⟨⟨⟨by omega, by omega⟩, by rw [hlen, ← m1, Int.mul_comm]⟩, ⟨hh.f, by omega⟩, allIn_all fun j hj => ?_⟩, trivial⟩, trivial⟩
  have hm : ((x.take (szT a b (v + 1))).drop (szT a b v)).getD j default ∈ x := List.mem_of_mem_take (List.mem_of_mem_drop (gm hj))
  exact hb _ hm
def unitL (n k : Nat) : List Int := (List.replicate n 0).set k 1
theorem unitL_len (n k : Nat) : (unitL n k).length = n := by simp [unitL]
theorem unitL_get {n k x : Nat} (hx : x < n) : (unitL n k).getD x default = if x = k then 1 else 0 := by
  by_cases e : x = k
  · subst e; simp [unitL, hx]
  · have e2 : ¬ k = x := fun h => e h.symm
    simp [unitL, List.getElem?_set, e, e2, hx]
theorem unitL_mem {n k : Nat} {p : Int} (hp : 2 ≤ p) : ∀ y ∈ unitL n k, 0 ≤ y ∧ y ≤ p - 1 := fun y hy => by
  obtain ⟨t, ht, rfl⟩ := List.getElem_of_mem hy
  rw [unitL_len] at ht
  have := unitL_get (k := k) ht
  have e : (unitL n k).getD t default = (unitL n k)[t] := by simp [unitL_len, ht]
  rw [← e, this]
  split <;> omega
theorem dotK_unit {f g : Nat → Nat → Int} {i c k : Nat} : ∀ n, (∀ x, x < n → g x c = if x = k then 1 else 0) → dotK f g i c n = if k < n then f i k else 0
  | 0, _ => by simp [dotK]
  | n + 1, h => by
    rw [dotK, dotK_unit n fun x hx => h x (by omega), h n (by omega)]
    by_cases e : n = k
    · subst e; simp
    · by_cases e2 : k < n
      · simp [e, e2, show k < n + 1 by omega]
      · simp [e, e2, show ¬ k < n + 1 by omega]
/-- the cells of the coboundary of a unit are a column of the equations' matrix -/
theorem eq_col {a b : Rep} (hf : fitR a b = true) {k : Nat} (hk : k < szT a b a.d.length) : catM (cobL a b (cutV a b (unitL (szT a b a.d.length) k))) = tab (szA a b a.q.fr.length) 1 fun t _ => ent (eqM a b) t k := by
  have hp := isF_pos (Fits.of hf).f
  have hA := areM_cutV hf (unitL_len (szT a b a.d.length) k) (unitL_mem hp.1)
  have hcat := catM_cutV (a := a) (b := b) (unitL_len (szT a b a.d.length) k)
  rw [← cob_cut hA, catM_cutL (by rw [tab_len, Nat.mul_one])]
  apply tab_ext
  intro t ht j hj
  obtain rfl : j = 0 := by omega
  show dotK _ _ t 0 _ % a.p = _
  rw [dotK_unit (k := k) _ fun x hx => by
    show (catM _).getD (x * 1 + 0) default = _
    rw [hcat, Nat.mul_one]; exact unitL_get hx, if_pos hk]
  have := eqM_bd (a := a) (b := b) (by omega) t ht k hk
  exact Int.emod_eq_of_lt this.1 (by omega)
end Go.Proofs.YtanembgijdkagaaGreat.V
