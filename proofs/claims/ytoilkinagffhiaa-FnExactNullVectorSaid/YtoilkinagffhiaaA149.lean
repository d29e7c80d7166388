/- The iterator's loop: a call of yield, then its own step. -/
import Derived.Test.YtoilkinagffhiaaA148
namespace Go.Proofs.Ytoilkinagffhiaa.V
open Go.RowKit G D
set_option linter.unusedVariables false
set_option linter.unusedSimpArgs false
set_option maxHeartbeats 4000000
set_option maxRecDepth 4000

theorem upsA_upsA {β : Type} {l1 l2 : List (Nat × β)} {f : Nat → β} (h : ∀ t, mem (keys l1) t = true → mem (keys l2) t = true) : upsA l2 (upsA l1 f) = upsA l2 f := by
  funext t
  cases h2 : mem (keys l2) t with
  | true =>
    clear h
    induction l2 with
    | nil => cases h2
    | cons x l2 ih =>
      obtain ⟨d, v⟩ := x
      simp only [upsA]
      by_cases e : t = d
      · subst e; rw [updA_same, updA_same]
      · rw [updA_ne _ _ e, updA_ne _ _ e]
        refine ih ?_
        simp only [keys, mem] at h2
        have : Nat.beq t d = false := by rw [← Bool.not_eq_true]; intro hb; exact e (Nat.eq_of_beq_eq_true hb)
        rw [this] at h2
        exact h2
  | false =>
    rw [upsA_out t h2, upsA_out t h2]
    cases h1 : mem (keys l1) t with
    | true => rw [h t h1] at h2; cases h2
    | false => exact upsA_out t h1
section
variable {w0 w : World} {MP : Fr} {E : Env} {bk : List Nat} {P : Program} {l nI N : Nat} {r : Loop} {Si Sx : Nat → AV} {hp0 : Nat → Ob} {σ : Type}
theorem iterLoop (I Fin : σ → Prop) (μ : σ → Nat) (ob obB : σ → List (Nat × Ob)) {SX : List Nat} {d3 id0 : Nat} {Y XB : Code} (hlb : l ∈ bk) {D : Nat} {X : Option Obj} (hDb : D ∈ bk) (hD : w.heap[D]? = X)
    (hSx : ∀ t, mem SX t = false → Sx t = Si t) (hSi : ∀ t, mem SX t = true → Si t = .no) (h3 : Sx d3 = .b true)
    (hB : ∀ i, BndS N [] ∧ BndH N (ob i)) (hk : ∀ s i t, mem (keys (obB s)) t = true → mem (keys (ob i)) t = true) (hk2 : ∀ s i t, mem (keys (ob s)) t = true → mem (keys (ob i)) t = true)
    (hround : ∀ s, I s → ∀ E w, SimB bk w0 MP ⟨Si, upsA (ob s) hp0, N⟩ E w → w.heap[l]? = some (.loop r) → w.heap[D]? = X → Wp P nI Y (fun e E' w' => e = .normal ∧ SimB bk w0 MP ⟨Sx, upsA (obB s) (upsA (ob s) hp0), N⟩ E' w' ∧ w'.heap[l]? = some (.loop r) ∧ w'.heap[D]? = X) E w)
    (hX : ∀ s, I s → ∀ v0 mp, AW P nI v0 mp XB (fun e st' => ∃ i, ((e = .normal ∧ μ i < μ s ∧ I i) ∨ (e = .ret ∧ Fin i)) ∧ Fit SX [] (ob i) ⟨Sx, upsA (obB s) (upsA (ob s) hp0), N⟩ st') ⟨Sx, upsA (obB s) (upsA (ob s) hp0), N⟩)
    (s0 : σ) (hI : I s0) (hJ : SimB bk w0 MP ⟨Si, upsA (ob s0) hp0, N⟩ E w) (hl : w.heap[l]? = some (.loop r)) :
    Wp P nI (.loop ((Y.seq (.cond (.tmp d3) .skip (.exit id0))).seq XB)) (fun e E' w' => e = .ret ∧ ∃ i, Fin i ∧ SimB bk w0 MP ⟨Si, upsA (ob i) hp0, N⟩ E' w' ∧ w'.heap[l]? = some (.loop r) ∧ w'.heap[D]? = X) E w := by
  refine Wp.loopG (fun s E w => I s ∧ SimB bk w0 MP ⟨Si, upsA (ob s) hp0, N⟩ E w ∧ w.heap[l]? = some (.loop r) ∧ w.heap[D]? = X) μ s0 ⟨hI, hJ, hl, hD⟩ ?_
  rintro s E1 w1 ⟨hI1, hJ1, hl1, hD1⟩
  refine Wp.seq (Wp.seq ((hround s hI1 E1 w1 hJ1 hl1 hD1).mono ?_))
  rintro e E2 w2 ⟨rfl, hS2, hl2, hD2⟩
  have hd : ev E2 (.tmp d3) = .bool true := by
    obtain ⟨C, Im, hm, _⟩ := hS2
    have := hm.slot d3
    rw [show (⟨Sx, upsA (obB s) (upsA (ob s) hp0), N⟩ : St).E d3 = Sx d3 from rfl, h3] at this
    exact this
  refine Wp.cond hd (fun _ => ?_) (fun h => by cases h)
  refine Wp.skip ?_
  show Wp P nI XB _ E2 w2
  refine (AW.segF (ι := σ) (K := fun e i => (e = .normal ∧ μ i < μ s ∧ I i) ∨ (e = .ret ∧ Fin i)) (sl := fun _ => []) (ob := ob) hB (fun v0 mp _ => hX s hI1 v0 mp) hS2).mono ?_
  rintro e E3 w3 ⟨i, hq, hS3, hk3⟩
  have hl3 := (hk3 l hlb).trans hl2
  have hD3 := (hk3 D hDb).trans hD2
  have hst : head SX [] (ob i) ⟨Sx, upsA (obB s) (upsA (ob s) hp0), N⟩ = ⟨Si, upsA (ob i) hp0, N⟩ := by
    unfold head
    have e1 : upsA [] (noS SX Sx) = Si := by
      funext t
      show noS SX Sx t = Si t
      unfold noS
      cases hm : mem SX t with
      | true => exact (hSi t hm).symm
      | false => exact hSx t hm
    have e2 : upsA (ob i) (upsA (obB s) (upsA (ob s) hp0)) = upsA (ob i) hp0 := by
      rw [upsA_upsA (hk s i), upsA_upsA (hk2 s i)]
    dsimp only
    rw [e1, e2]
  rw [hst] at hS3
  rcases hq with ⟨rfl, hlt, hi⟩ | ⟨rfl, hf⟩
  · exact ⟨i, ⟨hi, hS3, hl3, hD3⟩, hlt⟩
  · exact ⟨rfl, i, hf, hS3, hl3, hD3⟩
end
end Go.Proofs.Ytoilkinagffhiaa.V
