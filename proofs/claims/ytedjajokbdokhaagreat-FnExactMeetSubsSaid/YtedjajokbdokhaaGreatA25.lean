/- Contracts: products of valid matrices, coboundaries, morphisms. -/
import Derived.Test.YtedjajokbdokhaaGreatA24
namespace Go.Proofs.YtedjajokbdokhaaGreat.V
open V.Enc (enc)
open Go.RowKit G D
set_option linter.unusedVariables false
set_option linter.unusedSimpArgs false
set_option maxHeartbeats 4000000
set_option maxRecDepth 4000
attribute [local irreducible] AW ARg ARA ARet MRet ASil AC AM

theorem tab_bd0 {p : Int} {r c : Nat} {f : Nat → Nat → Int} (h : BdF p r c f) : ∀ t, t < (tab r c f).length → 0 ≤ (tab r c f).getD t default ∧ (tab r c f).getD t default ≤ p - 1 := fun t ht => by
  rw [tab_len] at ht
  have hc := pos_of_mul ht
  have e : t / c * c + t % c = t := Nat.div_add_mod' t c
  have hm : t % c < c := Nat.mod_lt _ hc
  have hd : t / c < r := Nat.div_lt_of_lt_mul (by rw [Nat.mul_comm]; exact ht)
  have := tab_get f hd hm
  rw [e] at this
  rw [this]
  exact h _ hd _ hm
theorem isMat_tab {p : Int} {r c : Nat} {f : Nat → Nat → Int} (hp : isF p = true) (hr : r ≤ 8) (hc : c ≤ 8) (h : BdF p r c f) : isMat p (tm r c f) = true := by
  have h5 := isF_pos hp
  have hl : r * c ≤ 8 * 8 := Nat.mul_le_mul hr hc
  simp only [isMat, isVec, Bool.and_eq_true, decide_eq_true_eq]
  refine ⟨⟨⟨by omega, by omega⟩, by rw [tab_len]; push_cast; rfl⟩, ⟨hp, by rw [tab_len]; omega⟩, allIn_all fun j hj => tab_bd0 h j hj⟩
theorem isMat_mul {p : Int} {x y : Mat} (hx : isMat p x = true) (hy : isMat p y = true) : isMat p (mulM p x y) = true := by
  obtain ⟨h0, h1, h2, _, _⟩ := isMat_spec hx
  obtain ⟨_, g1, g2, _, _⟩ := isMat_spec hy
  have h5 := isF_pos h0
  exact isMat_tab h0 (by omega) (by omega) (mulF_bd (by omega) (ent x) (ent y) x.c.toNat x.r.toNat y.c.toNat)
theorem timesM_a {p : Int} {x y : Mat} (hx : isMat p x = true) (hy : isMat p y = true) (h : x.c = y.r) : AC Tryz.prog 160 [.i p, .agg (enc false x), .agg (enc false y)] [.agg (enc true (mulM p x y))] := by
  obtain ⟨h0, h1, h2, _, _⟩ := isMat_spec hx
  obtain ⟨_, g1, g2, _, _⟩ := isMat_spec hy
  have hb := ent_bd hy
  rw [← h] at hb
  have := times_a p x.r.toNat x.c.toNat y.c.toNat (ent x) (ent y) h0 (by omega) (by omega) (by omega) (ent_bd hx) hb
  have e : tm x.c.toNat y.c.toNat (ent y) = y := by rw [h]; exact isMat_tm hy
  rw [isMat_tm hx, e] at this
  exact this
theorem l3MulM_a {p : Int} {x y : Mat} (hx : isMat p x = true) (hy : isMat p y = true) (h : x.c = y.r) : AC Tryz.prog 99 [.i p, .agg (enc false x), .agg (enc false y)] [.agg (enc true (mulM p x y))] := by
  obtain ⟨h0, h1, h2, _, _⟩ := isMat_spec hx
  obtain ⟨_, g1, g2, _, _⟩ := isMat_spec hy
  have hb := ent_bd hy
  rw [← h] at hb
  have := l3Multiply_a p x.r.toNat x.c.toNat y.c.toNat (ent x) (ent y) h0 (by omega) (by omega) (by omega) (ent_bd hx) hb
  have e : tm x.c.toNat y.c.toNat (ent y) = y := by rw [h]; exact isMat_tm hy
  rw [isMat_tm hx, e] at this
  exact this
theorem mulM_rc {p : Int} {x y : Mat} (hx : isMat p x = true) (hy : isMat p y = true) : (mulM p x y).r = x.r ∧ (mulM p x y).c = y.c := by
  obtain ⟨_, h1, _, _, _⟩ := isMat_spec hx
  obtain ⟨_, _, g2, _, _⟩ := isMat_spec hy
  exact ⟨Int.toNat_of_nonneg h1.1, Int.toNat_of_nonneg g2.1⟩
theorem plusM_a {p : Int} {x y : Mat} (hx : isMat p x = true) (hy : isMat p y = true) (hr : x.r = y.r) (hc : x.c = y.c) (k : Int) (hk : 0 ≤ k ∧ k ≤ 1024) : AC Tryz.prog 161 [.i p, .agg (enc false x), .i k, .agg (enc false y)] [.agg (enc true (plusM p x k y))] := by
  obtain ⟨h0, h1, h2, h3, h4⟩ := isMat_spec hx
  obtain ⟨_, g1, g2, g3, g4⟩ := isMat_spec hy
  have h5 := isF_pos h0
  have h8 := mul8 h1 h2
  rw [← hr, ← hc] at g3
  exact plus_a p k x y (by omega) hk (fun t ht => by have := h4 t ht; omega) (fun t ht => by have := g4 t ht; omega) (by omega) (by omega)
/-- a sum with p - 1 times another is 0 where both are the same -/
theorem cob_zero {p : Int} {x y : Mat} (hx : isMat p x = true) (hy : isMat p y = true) (hr : x.r = y.r) (hc : x.c = y.c) : isZ (plusM p x (p - 1) y) = sameM x y := by
  obtain ⟨h0, h1, h2, h3, h4⟩ := isMat_spec hx
  obtain ⟨_, g1, g2, g3, g4⟩ := isMat_spec hy
  have h5 := isF_pos h0
  rw [← hr, ← hc] at g3
  have hl : x.m.length = y.m.length := by omega
  have key : ∀ a b : Int, 0 ≤ a ∧ a ≤ p - 1 → 0 ≤ b ∧ b ≤ p - 1 → ((a + (p - 1) * b) % p = 0 ↔ a = b) := fun a b ha hb => by
    have e : a + (p - 1) * b = a - b + p * b := by rw [Int.sub_mul, Int.one_mul]; omega
    rw [e, Int.add_mul_emod_self_left]
    constructor
    · intro h
      obtain ⟨k, hk⟩ := Int.dvd_of_emod_eq_zero h
      have hk0 : k = 0 := by
        rcases Int.lt_trichotomy k 0 with h | h | h
        · have := Int.mul_le_mul_of_nonneg_left (show k ≤ -1 by omega) (show 0 ≤ p by omega)
          omega
        · exact h
        · have := Int.mul_le_mul_of_nonneg_left (show 1 ≤ k by omega) (show 0 ≤ p by omega)
          omega
      subst hk0
      omega
    · rintro rfl; simp
  have hall : isZ (plusM p x (p - 1) y) = true ↔ x.m = y.m := by
    unfold isZ plusM
    rw [List.all_eq_true]
    constructor
    · intro h
      refine List.ext_getElem hl fun i hi hi' => ?_
      have hlen := addK_len p (p - 1) 0 y.m x.m y.m.length
      have h6 := h _ (gm (d := default) (show i < (addK p (p - 1) 0 y.m x.m y.m.length).length by omega))
      have e1 : (addK p (p - 1) 0 y.m x.m y.m.length).getD i default = (x.m.getD i default + (p - 1) * y.m.getD i default) % p := by
        simp only [addK, List.getD_eq_getElem?_getD, List.getElem?_map, List.getElem?_range hi, Option.map_some, Option.getD_some]
        rw [if_pos (by omega)]
        rfl
      rw [e1] at h6
      have h7 := (key _ _ (h4 i hi) (g4 i hi')).mp (of_decide_eq_true h6)
      simpa [hi, hi'] using h7
    · intro he v hv
      obtain ⟨i, hi, rfl⟩ := List.mem_iff_getElem.1 hv
      have hi2 : i < x.m.length := by simpa using hi
      have h7 := (key (x.m.getD i default) (y.m.getD i default) (h4 i hi2) (g4 i (by omega))).mpr (by rw [he])
      simp only [addK, List.getElem_map, List.getElem_range]
      rw [if_pos (by omega)]
      exact decide_eq_true h7
  rw [Bool.eq_iff_iff, hall, sameM, decide_eq_true hr, decide_eq_true hc]
  simp
/-- the two products of an arrow -/
def arX (a b : Rep) (f : List Mat) (i : Nat) : Mat := mulM a.p (b.m.getD i default) (f.getD (a.q.fr.getD i default).toNat default)
def arY (a b : Rep) (f : List Mat) (i : Nat) : Mat := mulM a.p (f.getD (a.q.to.getD i default).toNat default) (a.m.getD i default)
def cobL (a b : Rep) (f : List Mat) : List Mat := (List.range a.q.fr.length).map fun i => plusM a.p (arX a b f i) (a.p - 1) (arY a b f i)
theorem cobL_len (a b : Rep) (f : List Mat) : (cobL a b f).length = a.q.fr.length := by simp [cobL]
def isMor (a b : Rep) (f : List Mat) : Bool := areM a b f && (List.range a.q.fr.length).all fun i => sameM (arX a b f i) (arY a b f i)
/-- what is known of an arrow -/
structure ArF (a b : Rep) (f : List Mat) (i : Nat) : Prop where
  fr : 0 ≤ a.q.fr.getD i default ∧ (a.q.fr.getD i default).toNat < f.length
  to : 0 ≤ a.q.to.getD i default ∧ (a.q.to.getD i default).toNat < f.length
  mb : isMat a.p (b.m.getD i default) = true
  ma : isMat a.p (a.m.getD i default) = true
  ff : isMat a.p (f.getD (a.q.fr.getD i default).toNat default) = true
  ft : isMat a.p (f.getD (a.q.to.getD i default).toNat default) = true
  cx : (b.m.getD i default).c = (f.getD (a.q.fr.getD i default).toNat default).r
  cy : (f.getD (a.q.to.getD i default).toNat default).c = (a.m.getD i default).r
  rr : (b.m.getD i default).r = (f.getD (a.q.to.getD i default).toNat default).r
  cc : (f.getD (a.q.fr.getD i default).toNat default).c = (a.m.getD i default).c
theorem ArF.of {a b : Rep} {f : List Mat} (h : areM a b f = true) {i : Nat} (hi : i < a.q.fr.length) : ArF a b f i := by
  obtain ⟨h1, h2, h3⟩ := areM_spec h
  have hh := Fits.of h1
  obtain ⟨i1, i2, _, _⟩ := fitR_spec h1
  obtain ⟨_, _, a3, a4⟩ := isRep_spec i1
  obtain ⟨_, _, b3, b4⟩ := isRep_spec i2
  have h5 := okQ_spec hh.ok
  have hda := hh.da
  have hq := hh.q
  have hp := hh.p
  have fr := okQ_fr hh.ok hi
  have to := okQ_to hh.ok hi
  have fr' : 0 ≤ a.q.fr.getD i default ∧ a.q.fr.getD i default < a.q.n := fr
  have to' : 0 ≤ a.q.to.getD i default ∧ a.q.to.getD i default < a.q.n := to
  have f1 := h3 (a.q.fr.getD i default).toNat (by omega)
  have f2 := h3 (a.q.to.getD i default).toNat (by omega)
  have m1 := a4 i (by omega)
  have m2 := b4 i (by rw [b3, ← hq]; exact hi)
  simp only [fitV, fitM, Bool.and_eq_true, decide_eq_true_eq] at f1 f2 m1 m2
  rw [← hp, ← hq] at m2
  exact ⟨⟨fr'.1, by omega⟩, ⟨to'.1, by omega⟩, m2.1.1, m1.1.1, f1.1.1, f2.1.1, by rw [m2.1.2, f1.2], by rw [f2.1.2, m1.2], by rw [m2.2, f2.2], by rw [f1.1.2, m1.1.2]⟩
theorem ArF.xy {a b : Rep} {f : List Mat} {i : Nat} (h : ArF a b f i) : isMat a.p (arX a b f i) = true ∧ isMat a.p (arY a b f i) = true ∧ (arX a b f i).r = (arY a b f i).r ∧ (arX a b f i).c = (arY a b f i).c := by
  have x := mulM_rc h.mb h.ff
  have y := mulM_rc h.ft h.ma
  exact ⟨isMat_mul h.mb h.ff, isMat_mul h.ft h.ma, by unfold arX arY; rw [x.1, y.1]; exact h.rr, by unfold arX arY; rw [x.2, y.2]; exact h.cc⟩
theorem cobL_all {a b : Rep} {f : List Mat} (h : areM a b f = true) : (cobL a b f).all isZ = (List.range a.q.fr.length).all fun i => sameM (arX a b f i) (arY a b f i) := by
  unfold cobL
  rw [List.all_map, Bool.eq_iff_iff, List.all_eq_true, List.all_eq_true]
  have key : ∀ i ∈ List.range a.q.fr.length, isZ (plusM a.p (arX a b f i) (a.p - 1) (arY a b f i)) = sameM (arX a b f i) (arY a b f i) := fun i hi => by
    obtain ⟨h1, h2, h3, h4⟩ := (ArF.of h (show i < a.q.fr.length by simpa using hi)).xy
    exact cob_zero h1 h2 h3 h4
  constructor
  · intro h i hi; rw [← key i hi]; exact h i hi
  · intro h i hi; show isZ _ = true; rw [key i hi]; exact h i hi
theorem coboundary_a (a b : Rep) (f : List Mat) (h : areM a b f = true) : AC Tryz.prog 109 [.agg (enc false a), .agg (enc false b), ar false f] [.dt true 3 (E true (cobL a b f))] := by
  refine AC.go Tryz.func109 Tryz.ntmps109 rfl rfl fun w0 hw => ?_; simp [WfL, WfA, E_length, Enc.enc, In64] at hw
  have h1 := (areM_spec h).1
  have hh := Fits.of h1
  have h5 := okQ_spec hh.ok
  have hpF := isF_pos hh.f
  have hma := hh.ma
  have hmb := hh.mb
  repeat' first | refine s1 ?_ | fail
  refine AW.open 7 3 (.inl rfl) ?_
  refine F.loop (σ := Nat) [7, 8, 9, 10, 15, 16, 17, 18, 19, 20, 21, 22, 23, 24, 25, 26, 27, 28, 29, 30, 31, 32, 33, 34, 35, 36, 37, 38, 39, 40, 41, 42, 43, 44, 45, 46, 47, 48, 49, 50, 51, 52, 53, 54, 55, 56, 57, 58, 59] (fun k => [(7, .sl 2 k 0 k), (15, .i k)]) (fun k => [(2, .live false 3 (E true ((cobL a b f).take k)))]) (fun k => k ≤ a.q.fr.length) (fun k => a.q.fr.length - k) 0 ⟨rfl, rfl, trivial⟩ ⟨rfl, trivial⟩ (Nat.zero_le _) ?_
  rintro k k1
  have hcl := cobL_len a b f
  have htl : ((cobL a b f).take k).length = k := by rw [List.length_take]; omega
  by_cases hlt : k < a.q.fr.length
  · have hA := ArF.of h hlt
    obtain ⟨x1, x2, x3, x4⟩ := hA.xy
    have fr := hA.fr
    have to := hA.to
    have hX := timesM_a hA.mb hA.ff hA.cx
    have hY := timesM_a hA.ft hA.ma hA.cy
    have hP := plusM_a x1 x2 x3 x4 (a.p - 1) (by omega)
    have hts : (cobL a b f).take (k + 1) = (cobL a b f).take k ++ [plusM a.p (arX a b f k) (a.p - 1) (arY a b f k)] := by
      simp only [cobL, ← List.map_take, range_take hlt, List.map_append, List.map_cons, List.map_nil]
    rw [show mulM a.p (b.m.getD k default) (f.getD (a.q.fr.getD k default).toNat default) = arX a b f k from rfl] at hX
    rw [show mulM a.p (f.getD (a.q.to.getD k default).toNat default) (a.m.getD k default) = arY a b f k from rfl] at hY
    generalize arX a b f k = X at hX hP hts
    generalize arY a b f k = Y at hY hP hts
    generalize plusM a.p X (a.p - 1) Y = Z at hP hts
    repeat' first | refine s1 ?_ | fail
    refine AW.draw 13 G.mixed (by kernel_rfl) ?_
    refine dP 0 ?_
    refine dL 1 ?_
    refine dP 2 ?_
    refine dL 3 ?_
    refine dP 4 ?_
    refine dP 5 ?_
    refine dL 6 ?_
    refine dP 7 ?_
    refine dP 8 ?_
    refine dP 9 ?_
    refine dL 10 ?_
    refine ARA.any [11, 12] (by kernel_rfl) (by simp) ?_
    intro k hk
    simp only [List.mem_cons, List.not_mem_nil, or_false] at hk
    rcases hk with rfl | rfl
    · refine ⟨_, true, rfl, rfl, ?_⟩
      first | refine s1 ?_ | refine F.c (hX) ?_
      refine ARg.nil (ATh.normal ?_)
      refine dO 12 true ?_
      refine s1 ?_
      refine ARg.nil (ATh.normal ?_)
      refine dO 13 false ?_
      refine s1 ?_
      refine ARg.nil (ATh.normal ?_)
      refine dN ?_
      repeat' first | refine s1 ?_ | fail
      refine AW.draw 26 G.mixed (by kernel_rfl) ?_
      refine dP 0 ?_
      refine dP 1 ?_
      refine dL 2 ?_
      refine dL 3 ?_
      refine dP 4 ?_
      refine dL 5 ?_
      refine dP 6 ?_
      refine dP 7 ?_
      refine dL 8 ?_
      refine dP 9 ?_
      refine dP 10 ?_
      refine dP 11 ?_
      refine dL 12 ?_
      refine dP 13 ?_
      refine dP 14 ?_
      refine dL 15 ?_
      refine dP 16 ?_
      refine dL 17 ?_
      refine dP 18 ?_
      refine dL 19 ?_
      refine dP 20 ?_
      refine dP 21 ?_
      refine dL 22 ?_
      refine dO 23 true ?_
      first | refine s1 ?_ | refine F.c (hY) ?_
      refine ARg.nil (ATh.normal ?_)
      refine dO 24 true ?_
      first | refine s1 ?_ | refine F.c (hP) ?_
      refine ARg.nil (ATh.normal ?_)
      refine dO 25 true ?_
      refine s1 ?_
      refine ARg.nil (ATh.normal ?_)
      refine dO 26 false ?_
      first | refine s1 ?_ | refine F.a1 Mat (a := Z) ?_
      refine ARg.nil (ATh.normal ?_)
      refine dP 27 ?_
      refine dN ?_
      repeat' first | refine s1 ?_ | fail
      exact ⟨k + 1, F.fit ⟨rfl, rfl, trivial⟩ ⟨obE (by rw [hts]), trivial⟩, by omega, by omega⟩
    · refine ⟨_, true, rfl, rfl, ?_⟩
      refine s1 ?_
      refine ARg.nil (ATh.normal ?_)
      refine dO 11 true ?_
      first | refine s1 ?_ | refine F.c (hX) ?_
      refine ARg.nil (ATh.normal ?_)
      refine dO 13 false ?_
      refine s1 ?_
      refine ARg.nil (ATh.normal ?_)
      refine dN ?_
      repeat' first | refine s1 ?_ | fail
      refine AW.draw 26 G.mixed (by kernel_rfl) ?_
      refine dP 0 ?_
      refine dP 1 ?_
      refine dL 2 ?_
      refine dL 3 ?_
      refine dP 4 ?_
      refine dL 5 ?_
      refine dP 6 ?_
      refine dP 7 ?_
      refine dL 8 ?_
      refine dP 9 ?_
      refine dP 10 ?_
      refine dP 11 ?_
      refine dL 12 ?_
      refine dP 13 ?_
      refine dP 14 ?_
      refine dL 15 ?_
      refine dP 16 ?_
      refine dL 17 ?_
      refine dP 18 ?_
      refine dL 19 ?_
      refine dP 20 ?_
      refine dP 21 ?_
      refine dL 22 ?_
      refine dO 23 true ?_
      first | refine s1 ?_ | refine F.c (hY) ?_
      refine ARg.nil (ATh.normal ?_)
      refine dO 24 true ?_
      first | refine s1 ?_ | refine F.c (hP) ?_
      refine ARg.nil (ATh.normal ?_)
      refine dO 25 true ?_
      refine s1 ?_
      refine ARg.nil (ATh.normal ?_)
      refine dO 26 false ?_
      first | refine s1 ?_ | refine F.a1 Mat (a := Z) ?_
      refine ARg.nil (ATh.normal ?_)
      refine dP 27 ?_
      refine dN ?_
      repeat' first | refine s1 ?_ | fail
      exact ⟨k + 1, F.fit ⟨rfl, rfl, trivial⟩ ⟨obE (by rw [hts]), trivial⟩, by omega, by omega⟩
  · obtain rfl : k = a.q.fr.length := by omega
    rw [← hcl, List.take_length]
    repeat' first | refine s1 ?_ | fail
    (refine kZ ?_; exact F.ret rfl)
end Go.Proofs.YtedjajokbdokhaaGreat.V
