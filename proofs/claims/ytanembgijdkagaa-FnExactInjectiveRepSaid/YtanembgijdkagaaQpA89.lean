/- Projective representations, plain: the place of a longer path. No program is walked. -/
import Derived.Test.YtanembgijdkagaaQpA22
import Derived.Test.YtanembgijdkagaaQpA12
namespace Go.Proofs.Ytanembgijdkagaa.V
open Go.RowKit G D
set_option linter.unusedVariables false
set_option linter.unusedSimpArgs false
set_option maxHeartbeats 1000000
set_option maxRecDepth 4000
/-- all chains of so many arrows are among the paths -/
theorem lfQ_all (q : Quiv) : ∀ (f : Nat) (v : Int) (l : List Int), chain q v l → l.length ≤ f → (⟨v, l⟩ : Pth) ∈ lfQ q f v
  | 0, v, l, _, hl => by
    have : l = [] := List.eq_nil_of_length_eq_zero (by omega)
    subst this; simp [lfQ]
  | f + 1, v, [], _, _ => by simp [lfQ]
  | f + 1, v, i :: l, h, hl => by
    obtain ⟨h0, h1, h2, h3⟩ := h
    have ih := lfQ_all q f _ l h3 (by simpa using hl)
    rw [lfQ]
    refine List.mem_cons_of_mem _ (List.mem_flatMap.2 ⟨i.toNat, List.mem_range.2 (by omega), ?_⟩)
    rw [if_pos h2]
    refine List.mem_map.2 ⟨_, ih, ?_⟩
    rw [Int.toNat_of_nonneg h0]
theorem chain_len {q : Quiv} {rk : Int → Nat} (h : Acy q rk) : ∀ (l : List Int) (v : Int), chain q v l → l.length ≤ rk v
  | [], _, _ => by simp
  | i :: l, v, ⟨h0, h1, h2, h3⟩ => by
    have ih := chain_len h l _ h3
    have hd := h.dec i.toNat (by omega)
    rw [h2] at hd
    simp only [List.length_cons]
    omega
theorem endQ_cons (q : Quiv) (v i : Int) (l : List Int) : endQ q ⟨v, i :: l⟩ = endQ q ⟨q.to.getD i.toNat default, l⟩ := by
  unfold endQ
  cases l with
  | nil => simp
  | cons j l => simp
theorem chain_snoc {q : Quiv} {i : Nat} (hi : i < q.fr.length) : ∀ (l : List Int) (v : Int), chain q v l → endQ q ⟨v, l⟩ = q.fr.getD i default → chain q v (l ++ [(i : Int)])
  | [], v, _, he => by
    have : v = q.fr.getD i default := by simpa [endQ] using he
    exact ⟨by omega, by omega, by rw [Int.toNat_natCast]; exact this.symm, trivial⟩
  | j :: l, v, ⟨h0, h1, h2, h3⟩, he => by
    rw [endQ_cons] at he
    exact ⟨h0, h1, h2, chain_snoc hi l _ h3 he⟩
theorem betw_snoc {q : Quiv} {v : Int} (ho : (orderQ q).2 = true) {i : Nat} (hi : i < q.fr.length) {x : Pth} (hx : x ∈ betw q v (q.fr.getD i default)) : (⟨v, x.a ++ [(i : Int)]⟩ : Pth) ∈ betw q v (q.to.getD i default) := by
  obtain ⟨rk, hA⟩ := acy_of ho
  unfold betw at hx ⊢
  obtain ⟨h1, h2⟩ := List.mem_filter.1 hx
  have h2 : endQ q x = q.fr.getD i default := of_decide_eq_true h2
  have hs := lfQ_s q 5 v x h1
  have hc := (lfQ_chain q 5 v x h1).1
  have hx2 : x = ⟨v, x.a⟩ := by cases x; simp_all
  rw [hx2] at h2
  have hc2 := chain_snoc hi x.a v hc h2
  refine List.mem_filter.2 ⟨lfQ_all q 5 v _ hc2 (Nat.le_trans (chain_len hA _ _ hc2) (hA.le v)), ?_⟩
  exact decide_eq_true (endQ_snoc q v x.a i)
def sameP (x y : Pth) : Bool := decide (x.s = y.s) && decide (x.a = y.a)
theorem sameP_refl (x : Pth) : sameP x x = true := by simp [sameP]
/-- the path that goes on by an arrow -/
def longP (q : Quiv) (v : Int) (i k : Nat) : Pth := ⟨v, ((betw q v (q.fr.getD i default)).getD k default).a ++ [(i : Int)]⟩
def plcN (q : Quiv) (v : Int) (i k : Nat) : Nat := (idxFrom (fun y => sameP y (longP q v i k)) (betw q v (q.to.getD i default)) 0).toNat
theorem plc_spec {q : Quiv} {v : Int} (ho : (orderQ q).2 = true) {i k : Nat} (hi : i < q.fr.length) (hk : k < (betw q v (q.fr.getD i default)).length) : idxFrom (fun y => sameP y (longP q v i k)) (betw q v (q.to.getD i default)) 0 = (plcN q v i k : Nat) ∧ plcN q v i k < (betw q v (q.to.getD i default)).length := by
  have hm := betw_snoc ho hi (gm (d := default) hk)
  rcases idx_spec (fun y => sameP y (longP q v i k)) (betw q v (q.to.getD i default)) 0 with ⟨_, h2⟩ | ⟨t, h1, h2, _, _⟩
  · have := h2 _ hm
    rw [show sameP ⟨v, ((betw q v (q.fr.getD i default)).getD k default).a ++ [(i : Int)]⟩ (longP q v i k) = true from sameP_refl _] at this
    cases this
  · unfold plcN
    rw [h2]
    constructor
    · rw [Int.toNat_natCast]
    · rw [Int.toNat_natCast]; omega
/-- an arrow's matrix, of which the first k columns are done -/
def pjF (q : Quiv) (v : Int) (i k : Nat) : Nat → Nat → Int := fun r c => if c < k ∧ r = plcN q v i c then 1 else 0
theorem pjF_zero (q : Quiv) (v : Int) (i : Nat) : pjF q v i 0 = fun _ _ => 0 := by funext r c; simp [pjF]
theorem pjF_set (q : Quiv) (v : Int) (i k : Nat) : updF (pjF q v i k) (plcN q v i k) k 1 = pjF q v i (k + 1) := by
  funext r c
  simp only [updF, pjF]
  by_cases h1 : c = k
  · subst h1
    by_cases h2 : r = plcN q v i c
    · simp [h2]
    · simp [h2]
  · have : c < k + 1 ↔ c < k := by omega
    simp [h1, this]
def pjM (q : Quiv) (v : Int) (i : Nat) : Mat := tm (betw q v (q.to.getD i default)).length (betw q v (q.fr.getD i default)).length (pjF q v i (betw q v (q.fr.getD i default)).length)
def pjMs (q : Quiv) (v : Int) : List Mat := (List.range q.fr.length).map (pjM q v)
theorem pjMs_len (q : Quiv) (v : Int) : (pjMs q v).length = q.fr.length := by simp [pjMs]
theorem pjMs_get (q : Quiv) (v : Int) {i : Nat} (hi : i < q.fr.length) : (pjMs q v).getD i default = pjM q v i := by simp [pjMs, hi]
def projR (p : Int) (q : Quiv) (v : Int) : Rep := ⟨p, q, projD q v, pjMs q v⟩
def projP (p : Int) (q : Quiv) (v : Int) : Rep × Bool := if isF p = true ∧ areDims q (projD q v) = true then (projR p q v, true) else (⟨0, ⟨0, [], []⟩, [], []⟩, false)
theorem projD_yes {q : Quiv} {v : Int} (h : areDims q (projD q v) = true) : (orderQ q).2 = true ∧ 0 ≤ v ∧ v ≤ q.n - 1 ∧ ∀ w : Nat, w < q.n.toNat → (projD q v).getD w default = ((betw q v (w : Int)).length : Nat) := by
  obtain ⟨c1, c2, c3, c4⟩ := areDims_spec h
  have h5 := okQ_spec c1
  by_cases hh : (orderQ q).2 = true ∧ 0 ≤ v ∧ v ≤ q.n - 1
  · refine ⟨hh.1, hh.2.1, hh.2.2, fun w hw => ?_⟩
    unfold projD dimsF
    rw [if_pos hh]
    have e : ((List.range q.n.toNat).map fun (w : Nat) => countP q v (w : Int)).getD w default = countP q v (w : Int) := by simp [hw]
    rw [e]
    unfold countP
    rw [if_pos (by
      simp only [betwB, Bool.and_eq_true, decide_eq_true_eq]
      exact ⟨⟨hh.1, hh.2⟩, by omega, by omega⟩)]
  · have e : projD q v = [] := by rw [projD, dimsF, if_neg hh]
    rw [e] at c2
    simp at c2
    omega
end Go.Proofs.Ytanembgijdkagaa.V
