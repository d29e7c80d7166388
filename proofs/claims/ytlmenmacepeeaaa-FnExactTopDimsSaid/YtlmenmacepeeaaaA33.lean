/- Lists of cells cut into matrices, and put together again. No program is walked. -/
import Derived.Test.YtlmenmacepeeaaaA30
namespace Go.Proofs.Ytlmenmacepeeaaa.V
open Go.RowKit G D
set_option linter.unusedVariables false
set_option linter.unusedSimpArgs false
set_option maxHeartbeats 400000
set_option maxRecDepth 4000

/-- a list cut at the places s 0, s 1, .. is the list -/
theorem cut_cat (s : Nat → Nat) (hs : ∀ i, s i ≤ s (i + 1)) (h0 : s 0 = 0) (x : List Int) : ∀ n, ((List.range n).flatMap fun i => (x.take (s (i + 1))).drop (s i)) = x.take (s n)
  | 0 => by simp [h0]
  | n + 1 => by
    rw [fm_succ, cut_cat s hs h0 x n]
    have h := List.take_append_drop (s n) (x.take (s (n + 1)))
    rw [List.take_take, Nat.min_eq_left (hs n)] at h
    exact h
theorem catM_cutL {a b : Rep} {x : List Int} (h : x.length = szA a b a.q.fr.length) : catM (cutL a b x) = x := by
  have := cut_cat (szA a b) (fun i => Nat.le_add_right _ _) rfl x a.q.fr.length
  rw [← h, List.take_length] at this
  unfold catM cutL
  rw [List.flatMap_map]
  exact this
/-- cut by the vertices -/
def cutV (a b : Rep) (x : List Int) : List Mat := (List.range a.d.length).map fun v => ⟨b.d.getD v default, a.d.getD v default, (x.take (szT a b (v + 1))).drop (szT a b v)⟩
theorem cutV_len (a b : Rep) (x : List Int) : (cutV a b x).length = a.d.length := by simp [cutV]
theorem catM_cutV {a b : Rep} {x : List Int} (h : x.length = szT a b a.d.length) : catM (cutV a b x) = x := by
  have := cut_cat (szT a b) (fun i => Nat.le_add_right _ _) rfl x a.d.length
  rw [← h, List.take_length] at this
  unfold catM cutV
  rw [List.flatMap_map]
  exact this
/-- cut by the vertices, the cells are matrices of the right shape -/
theorem areM_cutV {a b : Rep} {x : List Int} (hf : fitR a b = true) (hl : x.length = szT a b a.d.length) (hb : ∀ y ∈ x, 0 ≤ y ∧ y ≤ a.p - 1) : areM a b (cutV a b x) = true := by
  have hh := Fits.of hf
  have hp := isF_pos hh.f
  have hda := hh.da
  have hdb := hh.db
  simp only [areM, Bool.and_eq_true, decide_eq_true_eq, List.all_eq_true]
  refine ⟨⟨hf, cutV_len a b x⟩, fun v hv => ?_⟩
  have hv : v < a.d.length := by rw [cutV_len] at hv; simpa using hv
  have ba := hh.ba v hv
  have bb := hh.bb v (by omega)
  have hg : (cutV a b x).getD v default = ⟨b.d.getD v default, a.d.getD v default, (x.take (szT a b (v + 1))).drop (szT a b v)⟩ := by simp [cutV, hv]
  have hs := szT_mono a b (m := v + 1) (n := a.d.length) (by omega)
  have hst : szT a b (v + 1) = szT a b v + (a.d.getD v default).toNat * (b.d.getD v default).toNat := rfl
  obtain ⟨m1, m2⟩ := mul44 ba bb
  have hlen : ((x.take (szT a b (v + 1))).drop (szT a b v)).length = (a.d.getD v default).toNat * (b.d.getD v default).toNat := by
    rw [List.length_drop, List.length_take]; omega
  simp only [fitV, hg, isMat, isVec, Bool.and_eq_true, decide_eq_true_eq]
  refine ⟨⟨⟨⟨⟨by omega, by omega⟩, by rw [hlen, ← m1, Int.mul_comm]⟩, ⟨hh.f, by omega⟩, allIn_all fun j hj => ?_⟩, trivial⟩, trivial⟩
  have hm : ((x.take (szT a b (v + 1))).drop (szT a b v)).getD j default ∈ x := List.mem_of_mem_take (List.mem_of_mem_drop (gm hj))
  exact hb _ hm
def unitL (n k : Nat) : List Int := (List.replicate n 0).set k 1
theorem unitL_len (n k : Nat) : (unitL n k).length = n := by simp [unitL]
theorem unitL_get {n k x : Nat} (hx : x < n) : (unitL n k).getD x default = if x = k then 1 else 0 := by
  by_cases e : x = k
  · subst e; simp [unitL, hx]
  · have e2 : ¬ k = x := fun h => e h.symm
    simp [unitL, List.getElem?_set, e, e2, hx]
theorem unitL_mem {n k : Nat} {p : Int} (hp : 2 ≤ p) : ∀ y ∈ unitL n k, 0 ≤ y ∧ y ≤ p - 1 := fun y hy => by
  obtain ⟨t, ht, rfl⟩ := List.getElem_of_mem hy
  rw [unitL_len] at ht
  have := unitL_get (k := k) ht
  have e : (unitL n k).getD t default = (unitL n k)[t] := by simp [unitL_len, ht]
  rw [← e, this]
  split <;> omega
theorem dotK_unit {f g : Nat → Nat → Int} {i c k : Nat} : ∀ n, (∀ x, x < n → g x c = if x = k then 1 else 0) → dotK f g i c n = if k < n then f i k else 0
  | 0, _ => by simp [dotK]
  | n + 1, h => by
    rw [dotK, dotK_unit n fun x hx => h x (by omega), h n (by omega)]
    by_cases e : n = k
    · subst e; simp
    · by_cases e2 : k < n
      · simp [e, e2, show k < n + 1 by omega]
      · simp [e, e2, show ¬ k < n + 1 by omega]
/-- the cells of the coboundary of a unit are a column of the equations' matrix -/
theorem eq_col {a b : Rep} (hf : fitR a b = true) {k : Nat} (hk : k < szT a b a.d.length) : catM (cobL a b (cutV a b (unitL (szT a b a.d.length) k))) = tab (szA a b a.q.fr.length) 1 fun t _ => ent (eqM a b) t k := by
  have hp := isF_pos (Fits.of hf).f
  have hA := areM_cutV hf (unitL_len (szT a b a.d.length) k) (unitL_mem hp.1)
  have hcat := catM_cutV (a := a) (b := b) (unitL_len (szT a b a.d.length) k)
  rw [← cob_cut hA, catM_cutL (by rw [tab_len, Nat.mul_one])]
  apply tab_ext
  intro t ht j hj
  obtain rfl : j = 0 := by omega
  show dotK _ _ t 0 _ % a.p = _
  rw [dotK_unit (k := k) _ fun x hx => by
    show (catM _).getD (x * 1 + 0) default = _
    rw [hcat, Nat.mul_one]; exact unitL_get hx, if_pos hk]
  have := eqM_bd (a := a) (b := b) (by omega) t ht k hk
  exact Int.emod_eq_of_lt this.1 (by omega)
end Go.Proofs.Ytlmenmacepeeaaa.V
