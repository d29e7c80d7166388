/- A function whose calls go down: it does not recurse. Over any program; nothing is claimed of the given one. -/
import Derived.JoinedOf
namespace Go.Proofs.Ytcalkmlaodjpaaa.V
open Go
set_option linter.unusedVariables false

def leads (P : Program) (g : FuncId) : List FuncId := (P.funcs[g]?).elim [] P.leadsTo
theorem closureVia_mem {P : Program} {S : FuncId → Prop} (hS : ∀ g, S g → ∀ h ∈ leads P g, S h) : ∀ (n : Nat) (todo seen : List FuncId), (∀ x ∈ todo, S x) → (∀ x ∈ seen, S x) → ∀ x ∈ P.closureVia n todo seen, S x
  | 0, todo, seen, h1, h2, x, hx => by
    unfold Program.closureVia at hx
    exact h2 x (by simpa using hx)
  | n + 1, [], seen, h1, h2, x, hx => by
    unfold Program.closureVia at hx
    exact h2 x (by simpa using hx)
  | n + 1, f :: todo, seen, h1, h2, x, hx => by
    unfold Program.closureVia at hx
    split at hx
    · exact closureVia_mem hS n todo seen (fun y hy => h1 y (List.mem_cons_of_mem _ hy)) h2 x hx
    · refine closureVia_mem hS n _ _ (fun y hy => ?_) (fun y hy => ?_) x hx
      · rcases List.mem_append.1 hy with hy | hy
        · exact hS f (h1 f (by simp)) y hy
        · exact h1 y (List.mem_cons_of_mem _ hy)
      · rcases List.mem_cons.1 hy with rfl | hy
        · exact h1 _ (by simp)
        · exact h2 y hy
/-- each of the list leads only to those before it -/
def downB (P : Program) : List FuncId → List FuncId → Bool
  | _, [] => true
  | seen, g :: rest => !seen.contains g && (leads P g).all (fun h => seen.contains h) && downB P (g :: seen) rest
def Closed (P : Program) (T : List FuncId) : Prop := ∀ g ∈ T, ∀ h ∈ leads P g, h ∈ T
theorem down_spec {P : Program} : ∀ (rest seen : List FuncId), downB P seen rest = true → Closed P seen →
    (∀ g ∈ seen, ∃ T, Closed P T ∧ (∀ h ∈ leads P g, h ∈ T) ∧ g ∉ T) →
    ∃ U, Closed P U ∧ (∀ g ∈ U, ∃ T, Closed P T ∧ (∀ h ∈ leads P g, h ∈ T) ∧ g ∉ T) ∧ (∀ g ∈ rest, g ∈ U) ∧ ∀ g ∈ seen, g ∈ U
  | [], seen, _, hc, hs => ⟨seen, hc, hs, fun g hg => (by cases hg), fun g hg => hg⟩
  | g :: rest, seen, h, hc, hs => by
    simp only [downB, Bool.and_eq_true, Bool.not_eq_true', List.all_eq_true] at h
    obtain ⟨⟨h1, h2⟩, h3⟩ := h
    have h1 : g ∉ seen := fun hm => by rw [List.contains_iff_mem.mpr hm] at h1; cases h1
    have h2 : ∀ x ∈ leads P g, x ∈ seen := fun x hx => List.contains_iff_mem.mp (h2 x hx)
    obtain ⟨U, u1, u2, u3, u4⟩ := down_spec rest (g :: seen) h3 (fun a ha b hb => by
      rcases List.mem_cons.1 ha with rfl | ha
      · exact List.mem_cons_of_mem _ (h2 b hb)
      · exact List.mem_cons_of_mem _ (hc a ha b hb)) (fun a ha => by
      rcases List.mem_cons.1 ha with rfl | ha
      · exact ⟨seen, hc, h2, h1⟩
      · exact hs a ha)
    refine ⟨U, u1, u2, fun a ha => ?_, fun a ha => u4 a (List.mem_cons_of_mem _ ha)⟩
    rcases List.mem_cons.1 ha with rfl | ha
    · exact u4 _ (by simp)
    · exact u3 a ha
theorem recurses_down {P : Program} {f : FuncId} (L : List FuncId) (h : downB P [] L = true) (hf : L.contains f = true) : P.recurses f = P.unfollowed f := by
  obtain ⟨U, u1, u2, u3, _⟩ := down_spec L [] h (fun g hg => by cases hg) (fun g hg => by cases hg)
  have hU : f ∈ U := u3 f (List.contains_iff_mem.mp hf)
  unfold Program.recurses
  suffices hs : ((P.closure f).any fun g => ((P.funcs[g]?).elim [] P.leadsTo).any fun h => (P.closure h).contains g) = false by rw [hs, Bool.or_false]
  rw [List.any_eq_false]
  intro g hg
  have hgU : g ∈ U := closureVia_mem (S := fun x => x ∈ U) (fun a ha b hb => u1 a ha b hb) _ _ _ (fun x hx => by rw [List.mem_singleton.1 hx]; exact hU) (fun x hx => by cases hx) g hg
  obtain ⟨T, t1, t2, t3⟩ := u2 g hgU
  rw [Bool.not_eq_true, List.any_eq_false]
  intro x hx
  rw [Bool.not_eq_true]
  cases hcx : (P.closure x).contains g with
  | false => rfl
  | true =>
    have hm := List.contains_iff_mem.mp hcx
    exact absurd (closureVia_mem (S := fun y => y ∈ T) (fun a ha b hb => t1 a ha b hb) _ _ _ (fun y hy => by rw [List.mem_singleton.1 hy]; exact t2 x hx) (fun y hy => by cases hy) g hm) t3
/-- a function that leads to one which comes back to itself -/
theorem recurses_at {P : Program} {f : FuncId} (g h : FuncId) (hg : (P.closure f).contains g = true) (hh : (leads P g).contains h = true) (hc : (P.closure h).contains g = true) : P.recurses f = true := by
  unfold Program.recurses
  rw [Bool.or_eq_true]
  refine .inr (List.any_eq_true.2 ⟨g, List.contains_iff_mem.1 hg, List.any_eq_true.2 ⟨h, ?_, hc⟩⟩)
  exact List.contains_iff_mem.1 hh
end Go.Proofs.Ytcalkmlaodjpaaa.V
