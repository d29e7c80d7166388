/- Contracts: the basis of the extensions. -/
import Derived.Test.YtlmenmacepeeaaaUq
import Derived.Test.YtlmenmacepeeaaaA44
import Derived.Test.YtlmenmacepeeaaaA40
namespace Go.Proofs.Ytlmenmacepeeaaa.V
open V.Enc (enc)
open Go.RowKit G D
set_option linter.unusedVariables false
set_option linter.unusedSimpArgs false
set_option maxHeartbeats 4000000
set_option maxRecDepth 4000
attribute [local irreducible] AW ARg ARA ARet MRet ASil AC AM

/-- the equations' matrix, turned over -/
def eqT (a b : Rep) : Nat → Nat → Int := fun i j => ent (eqM a b) j i
def pivT (a b : Rep) : List Nat := (redK a.p (szT a b a.d.length) (eqT a b) (szA a b a.q.fr.length)).2
theorem eqT_bd {a b : Rep} (hp : 0 < a.p) : BdF a.p (szT a b a.d.length) (szA a b a.q.fr.length) (eqT a b) := fun i hi j hj => eqM_bd hp j hj i hi
/-- cocycles with a single 1 -/
def extK (a b : Rep) (k : Nat) : List (List Mat) := (freeL k (pivT a b)).map fun j => cutL a b (unitL (szA a b a.q.fr.length) j)
theorem extK_len (a b : Rep) (k : Nat) : (extK a b k).length = (freeL k (pivT a b)).length := by simp [extK]
theorem extK_yes {a b : Rep} {k : Nat} (h : k ∈ pivT a b) : extK a b (k + 1) = extK a b k := by rw [extK, freeL_succ, if_pos h]; rfl
theorem extK_no {a b : Rep} {k : Nat} (h : k ∉ pivT a b) : extK a b (k + 1) = extK a b k ++ [cutL a b (unitL (szA a b a.q.fr.length) k)] := by
  rw [extK, freeL_succ, if_neg h, List.map_append]; rfl
def extP (a b : Rep) : List (List Mat) × Bool := if fitR a b = true then (extK a b (szA a b a.q.fr.length), true) else ([], false)
theorem extK_take {a b : Rep} {k j : Nat} (h : j < (freeL k (pivT a b)).length) : (extK a b k).take (j + 1) = (extK a b k).take j ++ [cutL a b (unitL (szA a b a.q.fr.length) ((freeL k (pivT a b)).getD j default))] := by
  have e : (freeL k (pivT a b)).getD j default = (freeL k (pivT a b))[j] := by simp [h]
  rw [extK, List.take_succ_eq_append_getElem (by simpa using h), e]
  simp
theorem specExtBasis_a (a b : Rep) : AC Try.prog 61 [.agg (enc false a), .agg (enc false b)] [.dt true 1 (E true (extP a b).1), .b (extP a b).2] := by
  refine AC.go Try.func61 Try.ntmps61 rfl rfl fun w0 hw => ?_; simp [WfL, WfA, E_length, Enc.enc, In64] at hw
  have hF := l9Fit_a a b
  unfold extP
  cases hf : fitR a b with
  | false =>
    rw [hf] at hF
    rw [if_neg (by simp)]
    repeat' first | refine s1 ?_ | refine q1 ?_ | (refine kR ?_; first | refine F.c (hF) ?_) | fail
    (refine kZ ?_; exact F.ret rfl)
  | true =>
    rw [hf] at hF
    rw [if_pos rfl]
    have h := Fits.of hf
    have hp := isF_pos h.f
    have hle := rkE_le a b hf
    have hE := l11Equations_a a b hf
    rw [show (⟨(szA a b a.q.fr.length : Nat), (szT a b a.d.length : Nat), eqA a b a.q.fr.length⟩ : Mat) = eqM a b from rfl] at hE
    have hT := l3Transpose_a (szA a b a.q.fr.length) (szT a b a.d.length) (ent (eqM a b)) (by omega) (by omega)
    rw [eqM_tm (by omega)] at hT
    have hR := l4Reduce_a a.p (szT a b a.d.length) (szA a b a.q.fr.length) (eqT a b) h.f (by omega) (by omega) (eqT_bd (by omega))
    rw [show (fun i j => ent (eqM a b) j i) = eqT a b from rfl] at hT
    rw [show (redK a.p (szT a b a.d.length) (eqT a b) (szA a b a.q.fr.length)).2 = pivT a b from rfl] at hR
    have hEr : (eqM a b).r = (szA a b a.q.fr.length : Nat) := rfl
    have hCut := fun k => l19Cut_a a b (unitL (szA a b a.q.fr.length) k) h (by rw [unitL_len]; omega) (by rw [unitL_len]; omega)
    have hul := fun k => unitL_len (szA a b a.q.fr.length) k
    have hx1 := fun k (hm : k ∈ pivT a b) => extK_yes hm
    have hx2 := fun k (hm : k ∉ pivT a b) => extK_no (a := a) (b := b) (k := k) hm
    have hxl := fun k => extK_len a b k
    have hfl := fun k => freeL_le k (pivT a b)
    have hx0 : extK a b 0 = [] := rfl
    generalize extK a b = XK at hx1 hx2 hxl hx0 ⊢
    generalize pivT a b = pv at hR hx1 hx2 hxl hfl
    generalize (redK a.p (szT a b a.d.length) (eqT a b) (szA a b a.q.fr.length)).1 = g at hR
    generalize szT a b a.d.length = M at hT hR hle
    generalize tm M _ (eqT a b) = ET at hT hR
    generalize tm M _ g = G' at hR
    generalize eqM a b = EM at hE hT hEr
    generalize hNN : szA a b a.q.fr.length = N at *
    have hpl := ints_len pv
    repeat' first | refine s1 ?_ | refine q1 ?_ | (refine kR ?_; first | refine F.c (hF) ?_ | refine F.c (hE) ?_) | fail
    refine AW.draw 9 G.mixed (by kernel_rfl) ?_
    refine dP 0 ?_
    first | refine dL 1 ?_ | refine dLQ 1 ?_
    first | refine dL 2 ?_ | refine dLQ 2 ?_
    refine ARA.any [3, 8] (by kernel_rfl) (by simp) ?_
    intro k hk
    simp only [List.mem_cons, List.not_mem_nil, or_false] at hk
    rcases hk with rfl | rfl
    refine ⟨_, true, rfl, rfl, ?_⟩
    first | refine s1 ?_ | refine F.c (hT) ?_ | refine F.c (hR) ?_
    refine ARg.nil (ATh.normal ?_)
    refine ARA.any [4, 8] (by kernel_rfl) (by simp) ?_
    intro k hk
    simp only [List.mem_cons, List.not_mem_nil, or_false] at hk
    rcases hk with rfl | rfl
    refine ⟨_, true, rfl, rfl, ?_⟩
    first | refine s1 ?_ | refine F.c (hT) ?_ | refine F.c (hR) ?_
    refine ARg.nil (ATh.normal ?_)
    refine dP 5 ?_
    refine dP 6 ?_
    refine dP 7 ?_
    refine dO 8 true ?_
    refine s1 ?_
    refine ARg.nil (ATh.normal ?_)
    refine dO 9 false ?_
    first | refine s1 ?_ | refine q1 ?_
    refine ARg.nil (ATh.normal ?_)
    refine dP 10 ?_
    refine dN ?_
    rotate_left
    refine ⟨_, true, rfl, rfl, ?_⟩
    refine s1 ?_
    refine ARg.nil (ATh.normal ?_)
    refine dO 4 true ?_
    first | refine s1 ?_ | refine F.c (hT) ?_ | refine F.c (hR) ?_
    refine ARg.nil (ATh.normal ?_)
    refine dP 5 ?_
    refine dP 6 ?_
    refine dP 7 ?_
    refine dO 9 false ?_
    first | refine s1 ?_ | refine q1 ?_
    refine ARg.nil (ATh.normal ?_)
    refine dP 10 ?_
    refine dN ?_
    rotate_left
    refine ⟨_, true, rfl, rfl, ?_⟩
    refine s1 ?_
    refine ARg.nil (ATh.normal ?_)
    refine dO 3 true ?_
    first | refine s1 ?_ | refine F.c (hT) ?_ | refine F.c (hR) ?_
    refine ARg.nil (ATh.normal ?_)
    refine dO 4 true ?_
    first | refine s1 ?_ | refine F.c (hT) ?_ | refine F.c (hR) ?_
    refine ARg.nil (ATh.normal ?_)
    refine dP 5 ?_
    refine dP 6 ?_
    refine dP 7 ?_
    refine dO 9 false ?_
    first | refine s1 ?_ | refine q1 ?_
    refine ARg.nil (ATh.normal ?_)
    refine dP 10 ?_
    refine dN ?_
    rotate_left
    all_goals
      repeat' first | refine s1 ?_ | refine q1 ?_ | fail
      refine AW.open 6 1 (.inr rfl) ?_
      refine F.loop (σ := Nat) [6, 10, 11, 29, 30, 31, 32, 33, 34, 35, 36, 37, 38, 39, 40, 41, 42, 43, 44, 45, 46, 47, 48, 49, 50] (fun k => [(6, .sl 8 (XK k).length 0 (XK k).length), (10, .i k)]) (fun k => [(8, .live false 1 (E true (XK k)))]) (fun k => k ≤ N) (fun k => N - k) 0 ⟨slE (by rw [hx0]; rfl), rfl, trivial⟩ ⟨obE (by rw [hx0]; rfl), trivial⟩ (Nat.zero_le _) ?_
      rintro k k1
      have hfk := hfl k
      rw [← hxl] at hfk
      by_cases hk : k < N
      · have hH := l4Has_a (ints pv) (k : Int)
        have hk' : (k : Int) < EM.r := by omega
        by_cases hm : k ∈ pv
        · rw [decide_eq_true ((ints_mem pv k).mpr hm)] at hH
          have hs := hx1 k hm
          repeat' first | refine s1 ?_ | refine q1 ?_ | (refine kR ?_; first | refine F.c (hH) ?_) | fail
          exact ⟨k + 1, F.fit ⟨slE (by rw [hs]), rfl, trivial⟩ ⟨obE (by rw [hs]), trivial⟩, by omega, by omega⟩
        · rw [decide_eq_false (fun h => hm ((ints_mem pv k).mp h))] at hH
          have hs := hx2 k hm
          have hC := hCut k
          have hu := hul k
          rw [show unitL N k = (List.replicate N 0).set (0 + k) 1 by rw [Nat.zero_add]; rfl] at hC hs
          generalize cutL a b ((List.replicate N 0).set (0 + k) 1) = X at hC hs
          generalize XK k = XX at hs hfk ⊢
          repeat' first | refine s1 ?_ | refine q1 ?_ | (refine kR ?_; first | refine F.c (hH) ?_ | refine F.mk (m := N) Int rfl rfl (by omega) (mkB (by omega)) (by omega) rfl rfl ?_) | fail
          repeat' first | refine s1 ?_ | refine q1 ?_ | (refine kR ?_; first | refine F.c (hC) ?_ | refine F.a1 (List Mat) (a := X) ?_) | fail
          exact ⟨k + 1, F.fit ⟨slE (by rw [hs]; simp), rfl, trivial⟩ ⟨obE (by rw [hs]), trivial⟩, by omega, by omega⟩
      · obtain rfl : k = N := by omega
        have hk' : ¬ (k : Int) < EM.r := by omega
        repeat' first | refine s1 ?_ | refine q1 ?_ | fail
        (refine kZ ?_; exact F.ret rfl)
theorem implExtBasis_a (a b : Rep) : AC Try.prog 62 [.agg (enc false a), .agg (enc false b)] [.dt true 1 (E true (extP a b).1), .b (extP a b).2] := by
  refine AC.go Try.func62 Try.ntmps62 rfl rfl fun w0 hw => ?_; simp [WfL, WfA, E_length, Enc.enc, In64] at hw
  have hF := fit_a a b
  unfold extP
  cases hf : fitR a b with
  | false =>
    rw [hf] at hF
    rw [if_neg (by simp)]
    repeat' first | refine s1 ?_ | refine q1 ?_ | (refine kR ?_; first | refine F.c (hF) ?_) | fail
    (refine kZ ?_; exact F.ret rfl)
  | true =>
    rw [hf] at hF
    rw [if_pos rfl]
    have h := Fits.of hf
    have hp := isF_pos h.f
    have hle := rkE_le a b hf
    have hda := h.da
    have h5 := okQ_spec h.ok
    have hB := boundaries_a a b hf
    have hRw := rows_a (szA a b a.q.fr.length) (szT a b a.d.length) (ent (eqM a b)) (by omega) (by omega)
    rw [eqM_tm (by omega)] at hRw
    have hrl := rowsL_len (szA a b a.q.fr.length) (szT a b a.d.length) (ent (eqM a b))
    have hC := fromColumns_a (szT a b a.d.length) (rowsL (szA a b a.q.fr.length) (szT a b a.d.length) (ent (eqM a b))) (by omega) (by omega) (fun k hk => by rw [rowsL_len] at hk; rw [rowsL_get _ _ hk, rowL_len])
    rw [rows_fc, show (fun i j => ent (eqM a b) j i) = eqT a b from rfl] at hC
    have hR := implReduce_a a.p (szT a b a.d.length) (szA a b a.q.fr.length) (eqT a b) h.f (by omega) (by omega) (eqT_bd (by omega))
    rw [show (redK a.p (szT a b a.d.length) (eqT a b) (szA a b a.q.fr.length)).2 = pivT a b from rfl] at hR
    have hEr : (eqM a b).r = (szA a b a.q.fr.length : Nat) := rfl
    have hEc : (eqM a b).c = (szT a b a.d.length : Nat) := rfl
    rw [← hEc] at hC
    have hFr := freeColumns_a (szA a b a.q.fr.length) (pivT a b) (by omega)
    rw [← hEr] at hFr
    have hZ := cocycleZeros_a a b h
    have hcl := cocZ_len a b
    have hcc := cocZ_cat h a.q.fr.length (Nat.le_refl _)
    rw [← hcl, List.take_length, hcl] at hcc
    have hS := fun x => shaped_a (cocZ a b) x (by omega)
    have hzs := fun x => cocZ_shp h x
    have hul := fun k => unitL_len (szA a b a.q.fr.length) k
    have hxt := fun j (hj : j < (freeL (szA a b a.q.fr.length) (pivT a b)).length) => extK_take hj
    have hxl := extK_len a b (szA a b a.q.fr.length)
    have hfl := freeL_le (szA a b a.q.fr.length) (pivT a b)
    have hfm := fun j (hj : j < (freeL (szA a b a.q.fr.length) (pivT a b)).length) => (freeL_lt (c := szA a b a.q.fr.length) (piv := pivT a b) ((freeL (szA a b a.q.fr.length) (pivT a b)).getD j default) (by simp [hj])).1
    have hfi := ints_len (freeL (szA a b a.q.fr.length) (pivT a b))
    have hfg := fun j (hj : j < (freeL (szA a b a.q.fr.length) (pivT a b)).length) => ints_get (freeL (szA a b a.q.fr.length) (pivT a b)) hj
    generalize extK a b (szA a b a.q.fr.length) = XK at hxt hxl ⊢
    generalize freeL (szA a b a.q.fr.length) (pivT a b) = FL at hFr hxt hxl hfl hfm hfi hfg
    generalize ints FL = FI at hFr hfi hfg
    generalize pivT a b = pv at hR hFr
    generalize (redK a.p (szT a b a.d.length) (eqT a b) (szA a b a.q.fr.length)).1 = g at hR
    generalize rowsL (szA a b a.q.fr.length) (szT a b a.d.length) (ent (eqM a b)) = RL at hRw hC hrl
    generalize cocZ a b = CZ at hZ hS hzs hcc hcl
    generalize szT a b a.d.length = M at hR hle hC hEc
    generalize tm M _ (eqT a b) = ET at hR hC
    generalize tm M _ g = G' at hR
    generalize eqM a b = EM at hB hRw hEr hEc hC hFr
    generalize hNN : szA a b a.q.fr.length = N at *
    have hpl := ints_len pv
    generalize ints pv = pi at hR hFr hpl
    repeat' first | refine s1 ?_ | refine q1 ?_ | (refine kR ?_; first | refine F.c (hF) ?_ | refine F.c (hB) ?_) | fail
    refine AW.draw 12 G.mixed (by kernel_rfl) ?_
    refine dP 0 ?_
    first | refine dL 1 ?_ | refine dLQ 1 ?_
    refine dP 2 ?_
    first | refine dL 3 ?_ | refine dLQ 3 ?_
    first | refine dL 4 ?_ | refine dLQ 4 ?_
    refine ARA.any [5, 11] (by kernel_rfl) (by simp) ?_
    intro k hk
    simp only [List.mem_cons, List.not_mem_nil, or_false] at hk
    rcases hk with rfl | rfl
    refine ⟨_, true, rfl, rfl, ?_⟩
    first | refine s1 ?_ | refine F.c (hRw) ?_ | refine F.c (hC) ?_ | refine F.c (hR) ?_
    refine ARg.nil (ATh.normal ?_)
    refine ARA.any [6, 11] (by kernel_rfl) (by simp) ?_
    intro k hk
    simp only [List.mem_cons, List.not_mem_nil, or_false] at hk
    rcases hk with rfl | rfl
    refine ⟨_, true, rfl, rfl, ?_⟩
    first | refine s1 ?_ | refine F.c (hRw) ?_ | refine F.c (hC) ?_ | refine F.c (hR) ?_
    refine ARg.nil (ATh.normal ?_)
    refine ARA.any [7, 11] (by kernel_rfl) (by simp) ?_
    intro k hk
    simp only [List.mem_cons, List.not_mem_nil, or_false] at hk
    rcases hk with rfl | rfl
    refine ⟨_, true, rfl, rfl, ?_⟩
    first | refine s1 ?_ | refine F.c (hRw) ?_ | refine F.c (hC) ?_ | refine F.c (hR) ?_
    refine ARg.nil (ATh.normal ?_)
    refine dP 8 ?_
    refine dP 9 ?_
    refine dP 10 ?_
    refine dO 11 true ?_
    refine s1 ?_
    refine ARg.nil (ATh.normal ?_)
    refine dO 12 false ?_
    first | refine s1 ?_ | refine q1 ?_
    refine ARg.nil (ATh.normal ?_)
    refine dP 13 ?_
    refine dN ?_
    rotate_left
    refine ⟨_, true, rfl, rfl, ?_⟩
    refine s1 ?_
    refine ARg.nil (ATh.normal ?_)
    refine dO 7 true ?_
    first | refine s1 ?_ | refine F.c (hRw) ?_ | refine F.c (hC) ?_ | refine F.c (hR) ?_
    refine ARg.nil (ATh.normal ?_)
    refine dP 8 ?_
    refine dP 9 ?_
    refine dP 10 ?_
    refine dO 12 false ?_
    first | refine s1 ?_ | refine q1 ?_
    refine ARg.nil (ATh.normal ?_)
    refine dP 13 ?_
    refine dN ?_
    rotate_left
    refine ⟨_, true, rfl, rfl, ?_⟩
    refine s1 ?_
    refine ARg.nil (ATh.normal ?_)
    refine dO 6 true ?_
    first | refine s1 ?_ | refine F.c (hRw) ?_ | refine F.c (hC) ?_ | refine F.c (hR) ?_
    refine ARg.nil (ATh.normal ?_)
    refine dO 7 true ?_
    first | refine s1 ?_ | refine F.c (hRw) ?_ | refine F.c (hC) ?_ | refine F.c (hR) ?_
    refine ARg.nil (ATh.normal ?_)
    refine dP 8 ?_
    refine dP 9 ?_
    refine dP 10 ?_
    refine dO 12 false ?_
    first | refine s1 ?_ | refine q1 ?_
    refine ARg.nil (ATh.normal ?_)
    refine dP 13 ?_
    refine dN ?_
    rotate_left
    refine ⟨_, true, rfl, rfl, ?_⟩
    refine s1 ?_
    refine ARg.nil (ATh.normal ?_)
    refine dO 5 true ?_
    first | refine s1 ?_ | refine F.c (hRw) ?_ | refine F.c (hC) ?_ | refine F.c (hR) ?_
    refine ARg.nil (ATh.normal ?_)
    refine dO 6 true ?_
    first | refine s1 ?_ | refine F.c (hRw) ?_ | refine F.c (hC) ?_ | refine F.c (hR) ?_
    refine ARg.nil (ATh.normal ?_)
    refine dO 7 true ?_
    first | refine s1 ?_ | refine F.c (hRw) ?_ | refine F.c (hC) ?_ | refine F.c (hR) ?_
    refine ARg.nil (ATh.normal ?_)
    refine dP 8 ?_
    refine dP 9 ?_
    refine dP 10 ?_
    refine dO 12 false ?_
    first | refine s1 ?_ | refine q1 ?_
    refine ARg.nil (ATh.normal ?_)
    refine dP 13 ?_
    refine dN ?_
    rotate_left
    all_goals
      repeat' first | refine s1 ?_ | refine q1 ?_ | (refine kR ?_; first | refine F.c (hFr) ?_) | fail
      refine AW.open 9 1 (.inl rfl) ?_
      refine F.loop (σ := Nat) [9, 11, 12, 36, 37, 38, 39, 40, 41, 42, 43, 44, 45, 46, 47, 48, 49, 50, 51, 52, 53, 54] (fun k => [(9, .sl 10 k 0 k), (36, .i k)]) (fun k => [(10, .live false 1 (E true (XK.take k)))]) (fun k => k ≤ FL.length) (fun k => FL.length - k) 0 ⟨rfl, rfl, trivial⟩ ⟨rfl, trivial⟩ (Nat.zero_le _) ?_
      rintro k k1
      by_cases hk : k < FL.length
      · have hf1 := hfg k hk
        have hq := hfm k hk
        have hts := hxt k hk
        have hp2 : (XK.take k).length = k := by rw [List.length_take]; omega
        generalize hqq : FL.getD k default = q at hf1 hq hts
        have hS1 := hS (unitL N q) (by rw [hul]; omega) (by rw [hul]; omega)
        rw [hzs] at hS1
        generalize cutL a b (unitL N q) = X at hS1 hts
        have hf2 : FI.getD (0 + k) default = (q : Int) := by rw [Nat.zero_add]; exact hf1
        have hT : (FI.getD (0 + k) default).toNat = q := by rw [hf2]; exact Int.toNat_natCast q
        have hf4 : FI[k]?.getD default = (q : Int) := by rw [← List.getD_eq_getElem?_getD]; exact hf1
        have hf5 : FI[k]?.getD 0 = (q : Int) := hf4
        rw [show unitL N q = (List.replicate N 0).set (0 + (FI.getD (0 + k) default).toNat) 1 by rw [Nat.zero_add, hT]; rfl] at hS1
        repeat' first | refine s1 ?_ | refine q1 ?_ | (refine kR ?_; first | refine F.mk (m := N) Int rfl rfl (by omega) (mkB (by omega)) (by omega) rfl rfl ?_ | refine F.c (hZ) ?_ | refine F.c (hS1) ?_ | refine F.a1 (List Mat) (a := X) ?_) | fail
        exact ⟨k + 1, F.fit ⟨rfl, rfl, trivial⟩ ⟨obE (by rw [hts]), trivial⟩, by omega, by omega⟩
      · obtain rfl : k = FL.length := by omega
        rw [← hxl, List.take_length]
        repeat' first | refine s1 ?_ | refine q1 ?_ | fail
        (refine kZ ?_; exact F.ret rfl)
theorem cutL_ct {a b : Rep} (h : Fits a b) {X : List Int} (hX : X.length = szA a b a.q.fr.length) : cnt ctM (cutL a b X) ≤ 588 := by
  have h5 := okQ_spec h.ok
  have hN := szA_le h a.q.fr.length (Nat.le_refl _)
  have := cnt_bd (c := ctM) (B := 98) (xs := cutL a b X) fun x hx => by
    simp only [cutL, List.mem_map] at hx
    obtain ⟨i, _, rfl⟩ := hx
    simp only [ctM, cutM, List.length_drop, List.length_take]
    omega
  rw [cutL_len] at this
  omega
theorem extP_ct (a b : Rep) : (extP a b).1.length + cnt (cnt ctM) (extP a b).1 ≤ 1000000 := by
  unfold extP
  by_cases hf : fitR a b = true
  · rw [if_pos hf]
    have h := Fits.of hf
    have h5 := okQ_spec h.ok
    have hN := szA_le h a.q.fr.length (Nat.le_refl _)
    have hl := freeL_le (szA a b a.q.fr.length) (pivT a b)
    rw [← extK_len] at hl
    have := cnt_bd (c := cnt ctM) (B := 588) (xs := extK a b (szA a b a.q.fr.length)) fun x hx => by
      simp only [extK, List.mem_map] at hx
      obtain ⟨i, _, rfl⟩ := hx
      exact cutL_ct h (unitL_len _ _)
    show (extK a b (szA a b a.q.fr.length)).length + cnt (cnt ctM) (extK a b (szA a b a.q.fr.length)) ≤ 1000000
    omega
  · rw [if_neg hf]; simp [cnt]
end Go.Proofs.Ytlmenmacepeeaaa.V
