/- Texts that the proof needs: A43, Down. -/
import Derived.Test.YtbcfbcfiahmncaaGreatQddUm
import Derived.JoinedOf
namespace Go.Proofs.YtbcfbcfiahmncaaGreat.V
open Go.RowKit G D
set_option linter.unusedVariables false
set_option linter.unusedSimpArgs false
set_option maxHeartbeats 4000000
set_option maxRecDepth 4000
attribute [local irreducible] AW ARg ARA ARet MRet ASil AC AM
def totRS (rs : List Rep) : Nat := rs.length + cnt totR rs
theorem szRepS_a (ms : List Rep) (l : Int) (h0 : 0 ≤ l) (h1 : l ≤ 1048576) : AC Tryz.prog 7 [ar false ms, .i l] [.i (sz1 (totRS ms) l)] := by
 refine AC.go Tryz.func7 Tryz.ntmps7 rfl rfl fun w0 hw => ?_; simp [WfL, WfA, E_length, Enc.enc, In64] at hw
 by_cases hn : l - ms.length < 0
 ·have e : sz1 (totRS ms) l = -1 := by unfold sz1 totRS; push_cast; rw [if_pos (by omega)]
  rw [e]
  repeat' first | refine s1 ?_ | fail
  exact F.ret rfl
 ·repeat' first | refine s1 ?_ | fail
  refine F.loop (σ := Nat) [1, 4, 5, 12, 13, 14, 15, 16, 17, 18, 19, 20, 21, 22, 23, 24, 25] (fun j => [(1, .i (l - ms.length - cnt totR (ms.take j))), (5, .i j)]) (fun _ => []) (fun j => j ≤ ms.length ∧ 0 ≤ l - ms.length - cnt totR (ms.take j)) (fun j => ms.length - j) 0 ⟨iE (by simp [cnt]), rfl, trivial⟩ trivial ⟨Nat.zero_le _, by simp [cnt]; omega⟩ ?_
  rintro j ⟨h2, h3⟩
  by_cases hlt : j < ms.length
  ·have hA := szRep_a (ms.getD j default) (l - ms.length - cnt totR (ms.take j)) h3 (by omega)
   have hc := cnt_succ totR hlt
   have hcl := cnt_le totR (xs := ms) (j + 1)
   by_cases ha : l - ms.length - cnt totR (ms.take (j + 1)) < 0
   ·have e1 : sz1 (totR (ms.getD j default)) (l - ms.length - cnt totR (ms.take j)) = -1 := by unfold sz1; rw [if_pos (by omega)]
    rw [e1] at hA
    have e : sz1 (totRS ms) l = -1 := by unfold sz1 totRS; push_cast; rw [if_pos (by omega)]
    rw [e]
    repeat' first | refine s1 ?_ | (refine kR ?_; first | refine F.c (hA) ?_) | fail
    exact F.ret rfl
   ·have e1 : sz1 (totR (ms.getD j default)) (l - ms.length - cnt totR (ms.take j)) = l - ms.length - cnt totR (ms.take (j + 1)) := by unfold sz1; rw [if_neg (by omega), hc]; push_cast; omega
    rw [e1] at hA
    repeat' first | refine s1 ?_ | (refine kR ?_; first | refine F.c (hA) ?_) | fail
    exact ⟨j + 1, F.fit ⟨rfl, rfl, trivial⟩ trivial, ⟨by omega, by omega⟩, by omega⟩
  ·obtain rfl : j = ms.length := by omega
   rw [List.take_length] at h3 ⊢
   have e : sz1 (totRS ms) l = l - ms.length - cnt totR ms := by unfold sz1 totRS; push_cast; rw [if_neg (by omega)]; omega
   rw [e]
   repeat' first | refine s1 ?_ | fail
   exact F.ret rfl
theorem toRepS_a (ms : List Rep) (h : totRS ms ≤ 1048576) : AC Tryz.prog 11 [ar false ms] [.dt true (Enc.nc Rep) (E true ms)] := by
 refine AC.go Tryz.func11 Tryz.ntmps11 rfl rfl fun w0 hw => ?_; simp [WfL, WfA, E_length, Enc.enc, In64] at hw
 unfold totRS at h
 repeat' first | refine s1 ?_ | (refine kR ?_; first | refine F.mk (m := ms.length) Rep rfl rfl rfl (mkB (by omega)) (by omega) rfl rfl ?_) | fail
 refine F.loop (σ := Nat) [4, 8, 9, 10, 11, 12, 13, 14, 15, 16, 17, 18, 19, 20, 21] (fun k => [(4, .i k)]) (fun k => [(0, .live false 6 (E true (part ms ⟨0, ⟨0, [], []⟩, [], []⟩ k)))]) (fun k => k ≤ ms.length) (fun k => ms.length - k) 0 ⟨rfl, trivial⟩ ⟨obE (by rw [part_zero]), trivial⟩ (Nat.zero_le _) ?_
 rintro k h1
 have hp := part_len ms ⟨0, ⟨0, [], []⟩, [], []⟩ h1
 by_cases hlt : k < ms.length
 ·have hA := toRep_a (ms.getD k default) (by have := cnt_mem totR (gm (d := default) hlt); omega)
  repeat' first | refine s1 ?_ | (refine kR ?_; first | refine F.c (hA) ?_) | fail
  refine F.stGE (α := Rep) (oo := true) (v := ms.getD k default) rfl rfl rfl rfl rfl (by omega) (by omega) (.at1 rfl (.at1 rfl (.mv rfl (by simp) (E_length _ _) (E_pure _ _) (.mv rfl (by simp) (E_length _ _) (E_pure _ _) (.mv rfl (by simp) (E_length _ _) (E_pure _ _) (.mv rfl (by simp) (E_length _ _) (E_pure _ _) .nil)))))) rfl rfl rfl rfl rfl ?_
  repeat' first | refine s1 ?_ | fail
  exact ⟨k + 1, F.fit ⟨rfl, trivial⟩ ⟨obE (by rw [Nat.zero_add, part_set ms _ hlt]), trivial⟩, by omega, by omega⟩
 ·obtain rfl : k = ms.length := by omega
  rw [part_all] at hp ⊢
  repeat' first | refine s1 ?_ | fail
  exact F.ret rfl
theorem eqRepS_s (ms : List Rep) : AC Tryz.prog 15 [ar false ms, ar false ms] [.b true] := by
 refine AC.go Tryz.func15 Tryz.ntmps15 rfl rfl fun w0 hw => ?_; simp [WfL, WfA, E_length, Enc.enc, In64] at hw
 repeat' first | refine s1 ?_ | fail
 refine F.loop (σ := Nat) [4, 5, 11, 12, 13, 14, 15, 16, 17, 18, 19, 20, 21, 22, 23, 24, 25, 26] (fun k => [(5, .i k)]) (fun _ => []) (fun k => k ≤ ms.length) (fun k => ms.length - k) 0 ⟨rfl, trivial⟩ trivial (Nat.zero_le _) ?_
 rintro k h1
 by_cases hlt : k < ms.length
 ·have hA := eqRep_s (ms.getD k default)
  repeat' first | refine s1 ?_ | fail
  refine AW.draw 10 G.mixed (by kernel_rfl) ?_
  refine dP 0 ?_
  refine dP 1 ?_
  refine dP 2 ?_
  refine dL 3 ?_
  refine dP 4 ?_
  refine dP 5 ?_
  refine dP 6 ?_
  refine dL 7 ?_
  refine dO 8 true ?_
  first | refine s1 ?_ | refine F.c (hA) ?_
  refine tN ?_
  refine dP 9 ?_
  refine dN ?_
  repeat' first | refine s1 ?_ | fail
  exact ⟨k + 1, F.fit ⟨rfl, trivial⟩ trivial, by omega, by omega⟩
 ·repeat' first | refine s1 ?_ | fail
  exact F.ret rfl
instance : Rds Tryz.prog 28 (listR repR) := Rds.slice Tryz.underlying28 (by kernel_rfl) inferInstance (by decide)
end Go.Proofs.YtbcfbcfiahmncaaGreat.V
namespace Go.Proofs.YtbcfbcfiahmncaaGreat.V
open Go
set_option linter.unusedVariables false
def leads (P : Program) (g : FuncId) : List FuncId := (P.funcs[g]?).elim [] P.leadsTo
theorem closureVia_mem {P : Program} {S : FuncId → Prop} (hS : ∀ g, S g → ∀ h ∈ leads P g, S h) : ∀ (n : Nat) (todo seen : List FuncId), (∀ x ∈ todo, S x) → (∀ x ∈ seen, S x) → ∀ x ∈ P.closureVia n todo seen, S x
 | 0, todo, seen, h1, h2, x, hx => by
  unfold Program.closureVia at hx
  exact h2 x (by simpa using hx)
 | n + 1, [], seen, h1, h2, x, hx => by
  unfold Program.closureVia at hx
  exact h2 x (by simpa using hx)
 | n + 1, f :: todo, seen, h1, h2, x, hx => by
  unfold Program.closureVia at hx
  split at hx
  ·exact closureVia_mem hS n todo seen (fun y hy => h1 y (List.mem_cons_of_mem _ hy)) h2 x hx
  ·refine closureVia_mem hS n _ _ (fun y hy => ?_) (fun y hy => ?_) x hx
   ·rcases List.mem_append.1 hy with hy | hy
    ·exact hS f (h1 f (by simp)) y hy
    ·exact h1 y (List.mem_cons_of_mem _ hy)
   ·rcases List.mem_cons.1 hy with rfl | hy
    ·exact h1 _ (by simp)
    ·exact h2 y hy
def downB (P : Program) : List FuncId → List FuncId → Bool
 | _, [] => true
 | seen, g :: rest => !seen.contains g && (leads P g).all (fun h => seen.contains h) && downB P (g :: seen) rest
def Closed (P : Program) (T : List FuncId) : Prop := ∀ g ∈ T, ∀ h ∈ leads P g, h ∈ T
theorem down_spec {P : Program} : ∀ (rest seen : List FuncId), downB P seen rest = true → Closed P seen →
  (∀ g ∈ seen, ∃ T, Closed P T ∧ (∀ h ∈ leads P g, h ∈ T) ∧ g ∉ T) →
  ∃ U, Closed P U ∧ (∀ g ∈ U, ∃ T, Closed P T ∧ (∀ h ∈ leads P g, h ∈ T) ∧ g ∉ T) ∧ (∀ g ∈ rest, g ∈ U) ∧ ∀ g ∈ seen, g ∈ U
 | [], seen, _, hc, hs => ⟨seen, hc, hs, fun g hg => (by cases hg), fun g hg => hg⟩
 | g :: rest, seen, h, hc, hs => by
  simp only [downB, Bool.and_eq_true, Bool.not_eq_true', List.all_eq_true] at h
  obtain ⟨⟨h1, h2⟩, h3⟩ := h
  have h1 : g ∉ seen := fun hm => by rw [List.contains_iff_mem.mpr hm] at h1; cases h1
  have h2 : ∀ x ∈ leads P g, x ∈ seen := fun x hx => List.contains_iff_mem.mp (h2 x hx)
  obtain ⟨U, u1, u2, u3, u4⟩ := down_spec rest (g :: seen) h3 (fun a ha b hb => by
   rcases List.mem_cons.1 ha with rfl | ha
   ·exact List.mem_cons_of_mem _ (h2 b hb)
   ·exact List.mem_cons_of_mem _ (hc a ha b hb)) (fun a ha => by
   rcases List.mem_cons.1 ha with rfl | ha
   ·exact ⟨seen, hc, h2, h1⟩
   ·exact hs a ha)
  refine ⟨U, u1, u2, fun a ha => ?_, fun a ha => u4 a (List.mem_cons_of_mem _ ha)⟩
  rcases List.mem_cons.1 ha with rfl | ha
  ·exact u4 _ (by simp)
  ·exact u3 a ha
theorem recurses_down {P : Program} {f : FuncId} (L : List FuncId) (h : downB P [] L = true) (hf : L.contains f = true) : P.recurses f = P.unfollowed f := by
 obtain ⟨U, u1, u2, u3, _⟩ := down_spec L [] h (fun g hg => by cases hg) (fun g hg => by cases hg)
 have hU : f ∈ U := u3 f (List.contains_iff_mem.mp hf)
 unfold Program.recurses
 suffices hs : ((P.closure f).any fun g => ((P.funcs[g]?).elim [] P.leadsTo).any fun h => (P.closure h).contains g) = false by rw [hs, Bool.or_false]
 rw [List.any_eq_false]
 intro g hg
 have hgU : g ∈ U := closureVia_mem (S := fun x => x ∈ U) (fun a ha b hb => u1 a ha b hb) _ _ _ (fun x hx => by rw [List.mem_singleton.1 hx]; exact hU) (fun x hx => by cases hx) g hg
 obtain ⟨T, t1, t2, t3⟩ := u2 g hgU
 rw [Bool.not_eq_true, List.any_eq_false]
 intro x hx
 rw [Bool.not_eq_true]
 cases hcx : (P.closure x).contains g with
 | false => rfl
 | true =>
  have hm := List.contains_iff_mem.mp hcx
  exact absurd (closureVia_mem (S := fun y => y ∈ T) (fun a ha b hb => t1 a ha b hb) _ _ _ (fun y hy => by rw [List.mem_singleton.1 hy]; exact t2 x hx) (fun y hy => by cases hy) g hm) t3
end Go.Proofs.YtbcfbcfiahmncaaGreat.V
