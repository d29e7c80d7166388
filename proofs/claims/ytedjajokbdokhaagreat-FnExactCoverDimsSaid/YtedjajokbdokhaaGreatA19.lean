/- Contracts: paths from a vertex, paths between vertices. -/
import Derived.Test.YtedjajokbdokhaaGreatB2
import Derived.Test.YtedjajokbdokhaaGreatB4
import Derived.Test.YtedjajokbdokhaaGreatUc
namespace Go.Proofs.YtedjajokbdokhaaGreat.V
open V.Enc (enc)
open Go.RowKit G D
set_option linter.unusedVariables false
set_option linter.unusedSimpArgs false
set_option maxHeartbeats 16000000
set_option maxRecDepth 4000
attribute [local irreducible] AW ARg ARA ARet MRet KRet ASil AC AM AK

/-- the last arrow of a path is one -/
def lastOk (q : Quiv) (x : Pth) : Prop := x.a.length = 0 ∨ (0 ≤ x.a.getD (x.a.length - 1) default ∧ x.a.getD (x.a.length - 1) default < q.to.length)
theorem end_a (q : Quiv) (x : Pth) (h : lastOk q x) : AC Tryz.prog 220 [.agg (enc false q), .agg (enc false x)] [.i (endQ q x)] := by
  refine AC.go Tryz.func220 Tryz.ntmps220 rfl rfl fun w0 hw => ?_; simp [WfL, WfA, E_length, Enc.enc, In64] at hw
  by_cases h0 : x.a.length = 0
  · rw [endQ, if_pos h0]
    repeat' first | refine s1 ?_ | fail
    (refine kZ ?_; exact F.ret rfl)
  · have h1 := h.resolve_left h0
    rw [endQ, if_neg h0]
    have e : ((x.a.length : Int) - 1).toNat = x.a.length - 1 := by omega
    rw [← e] at h1 ⊢
    repeat' first | refine s1 ?_ | fail
    refine AW.draw 13 G.mixed (by kernel_rfl) ?_
    refine dP 0 ?_
    refine dL 1 ?_
    refine dP 2 ?_
    refine dL 3 ?_
    refine dP 4 ?_
    refine dL 5 ?_
    refine dP 6 ?_
    refine dP 7 ?_
    refine dP 8 ?_
    refine dL 9 ?_
    refine dP 10 ?_
    refine dL 11 ?_
    refine dP 12 ?_
    refine dN ?_
    repeat' first | refine s1 ?_ | fail
    (refine kZ ?_; exact F.ret rfl)
/-- one step: a path, and what continues it by each arrow -/
def conts (q : Quiv) (S : Nat → List Pth) (x : Pth) (k : Nat) : List Pth := x :: (List.range k).flatMap fun i => if q.fr.getD i default = endQ q x then S i else []
theorem conts_succ (q : Quiv) (S : Nat → List Pth) (x : Pth) (k : Nat) : conts q S x (k + 1) = conts q S x k ++ (if q.fr.getD k default = endQ q x then S k else []) := by
  simp [conts, List.range_succ, List.flatMap_append]
theorem conts_len {q : Quiv} {S : Nat → List Pth} {x : Pth} {B : Nat} : ∀ (k : Nat), (∀ i, i < k → q.fr.getD i default = endQ q x → (S i).length ≤ B) → (conts q S x k).length ≤ 1 + k * B
  | 0, _ => by simp [conts]
  | k + 1, h => by
    have h1 := conts_len k fun i hi => h i (by omega)
    rw [conts_succ, List.length_append, Nat.add_mul, Nat.one_mul]
    split
    · rename_i he
      have := h k (by omega) he
      omega
    · simp; omega
theorem pathsFrom_step (q : Quiv) (x : Pth) (S : Nat → List Pth) (hq : okQ q = true) (hx : lastOk q x) (hl : x.a.length ≤ 100) (hS : ∀ i, i < q.fr.length → q.fr.getD i default = endQ q x → (S i).length ≤ 100000 ∧ AM Tryz.prog 218 [.agg (enc false q), .agg (enc false (⟨x.s, x.a ++ [(i : Int)]⟩ : Pth))] [] [.dt true 2 (E false (S i))] []) :
    AM Tryz.prog 218 [.agg (enc false q), .agg (enc false x)] [] [.dt true 2 (E false (conts q S x q.fr.length))] [] := by
  refine AM.go Tryz.func218 Tryz.ntmps218 rfl rfl fun w0 mp hw => ?_; simp [WfL, WfA, E_length, Enc.enc, In64] at hw
  have h5 := okQ_spec hq
  have hE := end_a q x hx
  have hCl := clone_a x.a (by omega)
  repeat' first | refine s1 ?_ | fail
  refine F.loop (σ := Nat) [5, 6, 7, 13, 14, 15, 16, 17, 18, 19, 20, 21, 22, 23, 24, 25, 26, 27, 28, 29, 30, 31, 32, 33, 34, 35, 36] (fun k => [(5, .sl 2 (conts q S x k).length 0 (conts q S x k).length), (13, .i k)]) (fun k => [(2, .live false 2 (E false (conts q S x k)))]) (fun k => k ≤ q.fr.length) (fun k => q.fr.length - k) 0 ⟨rfl, rfl, trivial⟩ ⟨rfl, trivial⟩ (Nat.zero_le _) ?_
  rintro k h1
  by_cases hlt : k < q.fr.length
  · have hcl := conts_len (q := q) (S := S) (x := x) (B := 100000) k fun i hi he => (hS i (by omega) he).1
    have hks := conts_succ q S x k
    have hk6 : k * 100000 ≤ 6 * 100000 := Nat.mul_le_mul_right _ (by omega)
    generalize conts q S x k = L at hcl hks ⊢
    by_cases he : q.fr.getD k default = endQ q x
    · obtain ⟨s1', s2'⟩ := hS k hlt he
      rw [if_pos he] at hks
      repeat' first | refine s1 ?_ | (refine kR ?_; first | refine F.c (hE) ?_) | fail
      refine AW.draw 1 G.mixed (by kernel_rfl) ?_
      refine dP 0 ?_
      refine dP 2 ?_
      refine dP 4 ?_
      refine dP 7 ?_
      refine ARA.any [1, 3, 5, 8] (by kernel_rfl) (by simp) ?_
      intro k hk
      simp only [List.mem_cons, List.not_mem_nil, or_false] at hk
      rcases hk with rfl | rfl | rfl | rfl
      · refine ⟨_, true, rfl, rfl, ?_⟩
        refine s1 ?_
        refine ARg.nil (ATh.normal ?_)
        refine ARA.any [3, 5, 8] (by kernel_rfl) (by simp) ?_
        intro k hk
        simp only [List.mem_cons, List.not_mem_nil, or_false] at hk
        rcases hk with rfl | rfl | rfl
        · refine ⟨_, true, rfl, rfl, ?_⟩
          refine s1 ?_
          refine ARg.nil (ATh.normal ?_)
          refine ARA.any [5, 8] (by kernel_rfl) (by simp) ?_
          intro k hk
          simp only [List.mem_cons, List.not_mem_nil, or_false] at hk
          rcases hk with rfl | rfl
          · refine ⟨_, true, rfl, rfl, ?_⟩
            refine s1 ?_
            refine ARg.nil (ATh.normal ?_)
            refine ARA.any [6, 8] (by kernel_rfl) (by simp) ?_
            intro k hk
            simp only [List.mem_cons, List.not_mem_nil, or_false] at hk
            rcases hk with rfl | rfl
            · refine ⟨_, false, rfl, rfl, ?_⟩
              first | refine s1 ?_ | refine F.c (hCl) ?_ | refine F.w (s2') ?_
              refine ARg.nil (ATh.normal ?_)
              refine dO 8 true ?_
              refine s1 ?_
              refine ARg.nil (ATh.normal ?_)
              refine dO 9 false ?_
              first | refine s1 ?_ | refine F.a1 Int ?_
              refine ARg.nil (ATh.normal ?_)
              refine dzA (α := Int) 32 rfl rfl (by simp) ?_
              refine dP 10 ?_
              refine dO 11 false ?_
              first | refine s1 ?_ | refine F.c (hCl) ?_ | refine F.w (s2') ?_
              refine ARg.nil (ATh.normal ?_)
              refine dO 12 false ?_
              first | refine s1 ?_ | refine F.aL Pth ?_ (hsrc := .own rfl rfl (E_length _ _))
              refine ARg.nil (ATh.normal ?_)
              refine dP 13 ?_
              refine dN ?_
              repeat' first | refine s1 ?_ | fail
              exact ⟨k + 1, F.fit ⟨slE (by rw [hks]; simp), rfl, trivial⟩ ⟨obE (by rw [hks]), trivial⟩, by omega, by omega⟩
            · refine ⟨_, true, rfl, rfl, ?_⟩
              refine s1 ?_
              refine ARg.nil (ATh.normal ?_)
              refine dO 6 false ?_
              first | refine s1 ?_ | refine F.c (hCl) ?_ | refine F.w (s2') ?_
              refine ARg.nil (ATh.normal ?_)
              refine dO 9 false ?_
              first | refine s1 ?_ | refine F.a1 Int ?_
              refine ARg.nil (ATh.normal ?_)
              refine dzA (α := Int) 32 rfl rfl (by simp) ?_
              refine dP 10 ?_
              refine dO 11 false ?_
              first | refine s1 ?_ | refine F.c (hCl) ?_ | refine F.w (s2') ?_
              refine ARg.nil (ATh.normal ?_)
              refine dO 12 false ?_
              first | refine s1 ?_ | refine F.aL Pth ?_ (hsrc := .own rfl rfl (E_length _ _))
              refine ARg.nil (ATh.normal ?_)
              refine dP 13 ?_
              refine dN ?_
              repeat' first | refine s1 ?_ | fail
              exact ⟨k + 1, F.fit ⟨slE (by rw [hks]; simp), rfl, trivial⟩ ⟨obE (by rw [hks]), trivial⟩, by omega, by omega⟩
          · refine ⟨_, true, rfl, rfl, ?_⟩
            refine s1 ?_
            refine ARg.nil (ATh.normal ?_)
            refine dO 5 true ?_
            refine s1 ?_
            refine ARg.nil (ATh.normal ?_)
            refine dO 6 false ?_
            first | refine s1 ?_ | refine F.c (hCl) ?_ | refine F.w (s2') ?_
            refine ARg.nil (ATh.normal ?_)
            refine dO 9 false ?_
            first | refine s1 ?_ | refine F.a1 Int ?_
            refine ARg.nil (ATh.normal ?_)
            refine dzA (α := Int) 32 rfl rfl (by simp) ?_
            refine dP 10 ?_
            refine dO 11 false ?_
            first | refine s1 ?_ | refine F.c (hCl) ?_ | refine F.w (s2') ?_
            refine ARg.nil (ATh.normal ?_)
            refine dO 12 false ?_
            first | refine s1 ?_ | refine F.aL Pth ?_ (hsrc := .own rfl rfl (E_length _ _))
            refine ARg.nil (ATh.normal ?_)
            refine dP 13 ?_
            refine dN ?_
            repeat' first | refine s1 ?_ | fail
            exact ⟨k + 1, F.fit ⟨slE (by rw [hks]; simp), rfl, trivial⟩ ⟨obE (by rw [hks]), trivial⟩, by omega, by omega⟩
        · refine ⟨_, true, rfl, rfl, ?_⟩
          refine s1 ?_
          refine ARg.nil (ATh.normal ?_)
          refine ARA.any [3, 6, 8] (by kernel_rfl) (by simp) ?_
          intro k hk
          simp only [List.mem_cons, List.not_mem_nil, or_false] at hk
          rcases hk with rfl | rfl | rfl
          · refine ⟨_, true, rfl, rfl, ?_⟩
            refine s1 ?_
            refine ARg.nil (ATh.normal ?_)
            refine ARA.any [6, 8] (by kernel_rfl) (by simp) ?_
            intro k hk
            simp only [List.mem_cons, List.not_mem_nil, or_false] at hk
            rcases hk with rfl | rfl
            · refine ⟨_, false, rfl, rfl, ?_⟩
              first | refine s1 ?_ | refine F.c (hCl) ?_ | refine F.w (s2') ?_
              refine ARg.nil (ATh.normal ?_)
              refine dO 8 true ?_
              refine s1 ?_
              refine ARg.nil (ATh.normal ?_)
              refine dO 9 false ?_
              first | refine s1 ?_ | refine F.a1 Int ?_
              refine ARg.nil (ATh.normal ?_)
              refine dzA (α := Int) 32 rfl rfl (by simp) ?_
              refine dP 10 ?_
              refine dO 11 false ?_
              first | refine s1 ?_ | refine F.c (hCl) ?_ | refine F.w (s2') ?_
              refine ARg.nil (ATh.normal ?_)
              refine dO 12 false ?_
              first | refine s1 ?_ | refine F.aL Pth ?_ (hsrc := .own rfl rfl (E_length _ _))
              refine ARg.nil (ATh.normal ?_)
              refine dP 13 ?_
              refine dN ?_
              repeat' first | refine s1 ?_ | fail
              exact ⟨k + 1, F.fit ⟨slE (by rw [hks]; simp), rfl, trivial⟩ ⟨obE (by rw [hks]), trivial⟩, by omega, by omega⟩
            · refine ⟨_, true, rfl, rfl, ?_⟩
              refine s1 ?_
              refine ARg.nil (ATh.normal ?_)
              refine dO 6 false ?_
              first | refine s1 ?_ | refine F.c (hCl) ?_ | refine F.w (s2') ?_
              refine ARg.nil (ATh.normal ?_)
              refine dO 9 false ?_
              first | refine s1 ?_ | refine F.a1 Int ?_
              refine ARg.nil (ATh.normal ?_)
              refine dzA (α := Int) 32 rfl rfl (by simp) ?_
              refine dP 10 ?_
              refine dO 11 false ?_
              first | refine s1 ?_ | refine F.c (hCl) ?_ | refine F.w (s2') ?_
              refine ARg.nil (ATh.normal ?_)
              refine dO 12 false ?_
              first | refine s1 ?_ | refine F.aL Pth ?_ (hsrc := .own rfl rfl (E_length _ _))
              refine ARg.nil (ATh.normal ?_)
              refine dP 13 ?_
              refine dN ?_
              repeat' first | refine s1 ?_ | fail
              exact ⟨k + 1, F.fit ⟨slE (by rw [hks]; simp), rfl, trivial⟩ ⟨obE (by rw [hks]), trivial⟩, by omega, by omega⟩
          · refine ⟨_, false, rfl, rfl, ?_⟩
            first | refine s1 ?_ | refine F.c (hCl) ?_ | refine F.w (s2') ?_
            refine ARg.nil (ATh.normal ?_)
            refine ARA.any [3, 8] (by kernel_rfl) (by simp) ?_
            intro k hk
            simp only [List.mem_cons, List.not_mem_nil, or_false] at hk
            rcases hk with rfl | rfl
            · refine ⟨_, true, rfl, rfl, ?_⟩
              refine s1 ?_
              refine ARg.nil (ATh.normal ?_)
              refine dO 8 true ?_
              refine s1 ?_
              refine ARg.nil (ATh.normal ?_)
              refine dO 9 false ?_
              first | refine s1 ?_ | refine F.a1 Int ?_
              refine ARg.nil (ATh.normal ?_)
              refine dzA (α := Int) 32 rfl rfl (by simp) ?_
              refine dP 10 ?_
              refine dO 11 false ?_
              first | refine s1 ?_ | refine F.c (hCl) ?_ | refine F.w (s2') ?_
              refine ARg.nil (ATh.normal ?_)
              refine dO 12 false ?_
              first | refine s1 ?_ | refine F.aL Pth ?_ (hsrc := .own rfl rfl (E_length _ _))
              refine ARg.nil (ATh.normal ?_)
              refine dP 13 ?_
              refine dN ?_
              repeat' first | refine s1 ?_ | fail
              exact ⟨k + 1, F.fit ⟨slE (by rw [hks]; simp), rfl, trivial⟩ ⟨obE (by rw [hks]), trivial⟩, by omega, by omega⟩
            · refine ⟨_, true, rfl, rfl, ?_⟩
              refine s1 ?_
              refine ARg.nil (ATh.normal ?_)
              refine ARA.any [3, 9] (by kernel_rfl) (by simp) ?_
              intro k hk
              simp only [List.mem_cons, List.not_mem_nil, or_false] at hk
              rcases hk with rfl | rfl
              · refine ⟨_, true, rfl, rfl, ?_⟩
                refine s1 ?_
                refine ARg.nil (ATh.normal ?_)
                refine dO 9 false ?_
                first | refine s1 ?_ | refine F.a1 Int ?_
                refine ARg.nil (ATh.normal ?_)
                refine dzA (α := Int) 32 rfl rfl (by simp) ?_
                refine dP 10 ?_
                refine dO 11 false ?_
                first | refine s1 ?_ | refine F.c (hCl) ?_ | refine F.w (s2') ?_
                refine ARg.nil (ATh.normal ?_)
                refine dO 12 false ?_
                first | refine s1 ?_ | refine F.aL Pth ?_ (hsrc := .own rfl rfl (E_length _ _))
                refine ARg.nil (ATh.normal ?_)
                refine dP 13 ?_
                refine dN ?_
                repeat' first | refine s1 ?_ | fail
                exact ⟨k + 1, F.fit ⟨slE (by rw [hks]; simp), rfl, trivial⟩ ⟨obE (by rw [hks]), trivial⟩, by omega, by omega⟩
              · refine ⟨_, false, rfl, rfl, ?_⟩
                first | refine s1 ?_ | refine F.a1 Int ?_
                refine ARg.nil (ATh.normal ?_)
                refine dzA (α := Int) 32 rfl rfl (by simp) ?_
                refine dO 3 true ?_
                refine s1 ?_
                refine ARg.nil (ATh.normal ?_)
                refine dP 10 ?_
                refine dO 11 false ?_
                first | refine s1 ?_ | refine F.c (hCl) ?_ | refine F.w (s2') ?_
                refine ARg.nil (ATh.normal ?_)
                refine dO 12 false ?_
                first | refine s1 ?_ | refine F.aL Pth ?_ (hsrc := .own rfl rfl (E_length _ _))
                refine ARg.nil (ATh.normal ?_)
                refine dP 13 ?_
                refine dN ?_
                repeat' first | refine s1 ?_ | fail
                exact ⟨k + 1, F.fit ⟨slE (by rw [hks]; simp), rfl, trivial⟩ ⟨obE (by rw [hks]), trivial⟩, by omega, by omega⟩
          · refine ⟨_, true, rfl, rfl, ?_⟩
            refine s1 ?_
            refine ARg.nil (ATh.normal ?_)
            refine ARA.any [3, 6] (by kernel_rfl) (by simp) ?_
            intro k hk
            simp only [List.mem_cons, List.not_mem_nil, or_false] at hk
            rcases hk with rfl | rfl
            · refine ⟨_, true, rfl, rfl, ?_⟩
              refine s1 ?_
              refine ARg.nil (ATh.normal ?_)
              refine dO 6 false ?_
              first | refine s1 ?_ | refine F.c (hCl) ?_ | refine F.w (s2') ?_
              refine ARg.nil (ATh.normal ?_)
              refine dO 9 false ?_
              first | refine s1 ?_ | refine F.a1 Int ?_
              refine ARg.nil (ATh.normal ?_)
              refine dzA (α := Int) 32 rfl rfl (by simp) ?_
              refine dP 10 ?_
              refine dO 11 false ?_
              first | refine s1 ?_ | refine F.c (hCl) ?_ | refine F.w (s2') ?_
              refine ARg.nil (ATh.normal ?_)
              refine dO 12 false ?_
              first | refine s1 ?_ | refine F.aL Pth ?_ (hsrc := .own rfl rfl (E_length _ _))
              refine ARg.nil (ATh.normal ?_)
              refine dP 13 ?_
              refine dN ?_
              repeat' first | refine s1 ?_ | fail
              exact ⟨k + 1, F.fit ⟨slE (by rw [hks]; simp), rfl, trivial⟩ ⟨obE (by rw [hks]), trivial⟩, by omega, by omega⟩
            · refine ⟨_, false, rfl, rfl, ?_⟩
              first | refine s1 ?_ | refine F.c (hCl) ?_ | refine F.w (s2') ?_
              refine ARg.nil (ATh.normal ?_)
              refine ARA.any [3, 9] (by kernel_rfl) (by simp) ?_
              intro k hk
              simp only [List.mem_cons, List.not_mem_nil, or_false] at hk
              rcases hk with rfl | rfl
              · refine ⟨_, true, rfl, rfl, ?_⟩
                refine s1 ?_
                refine ARg.nil (ATh.normal ?_)
                refine dO 9 false ?_
                first | refine s1 ?_ | refine F.a1 Int ?_
                refine ARg.nil (ATh.normal ?_)
                refine dzA (α := Int) 32 rfl rfl (by simp) ?_
                refine dP 10 ?_
                refine dO 11 false ?_
                first | refine s1 ?_ | refine F.c (hCl) ?_ | refine F.w (s2') ?_
                refine ARg.nil (ATh.normal ?_)
                refine dO 12 false ?_
                first | refine s1 ?_ | refine F.aL Pth ?_ (hsrc := .own rfl rfl (E_length _ _))
                refine ARg.nil (ATh.normal ?_)
                refine dP 13 ?_
                refine dN ?_
                repeat' first | refine s1 ?_ | fail
                exact ⟨k + 1, F.fit ⟨slE (by rw [hks]; simp), rfl, trivial⟩ ⟨obE (by rw [hks]), trivial⟩, by omega, by omega⟩
              · refine ⟨_, false, rfl, rfl, ?_⟩
                first | refine s1 ?_ | refine F.a1 Int ?_
                refine ARg.nil (ATh.normal ?_)
                refine dzA (α := Int) 32 rfl rfl (by simp) ?_
                refine dO 3 true ?_
                refine s1 ?_
                refine ARg.nil (ATh.normal ?_)
                refine dP 10 ?_
                refine dO 11 false ?_
                first | refine s1 ?_ | refine F.c (hCl) ?_ | refine F.w (s2') ?_
                refine ARg.nil (ATh.normal ?_)
                refine dO 12 false ?_
                first | refine s1 ?_ | refine F.aL Pth ?_ (hsrc := .own rfl rfl (E_length _ _))
                refine ARg.nil (ATh.normal ?_)
                refine dP 13 ?_
                refine dN ?_
                repeat' first | refine s1 ?_ | fail
                exact ⟨k + 1, F.fit ⟨slE (by rw [hks]; simp), rfl, trivial⟩ ⟨obE (by rw [hks]), trivial⟩, by omega, by omega⟩
        · refine ⟨_, true, rfl, rfl, ?_⟩
          refine s1 ?_
          refine ARg.nil (ATh.normal ?_)
          refine ARA.any [3, 5] (by kernel_rfl) (by simp) ?_
          intro k hk
          simp only [List.mem_cons, List.not_mem_nil, or_false] at hk
          rcases hk with rfl | rfl
          · refine ⟨_, true, rfl, rfl, ?_⟩
            refine s1 ?_
            refine ARg.nil (ATh.normal ?_)
            refine dO 5 true ?_
            refine s1 ?_
            refine ARg.nil (ATh.normal ?_)
            refine dO 6 false ?_
            first | refine s1 ?_ | refine F.c (hCl) ?_ | refine F.w (s2') ?_
            refine ARg.nil (ATh.normal ?_)
            refine dO 9 false ?_
            first | refine s1 ?_ | refine F.a1 Int ?_
            refine ARg.nil (ATh.normal ?_)
            refine dzA (α := Int) 32 rfl rfl (by simp) ?_
            refine dP 10 ?_
            refine dO 11 false ?_
            first | refine s1 ?_ | refine F.c (hCl) ?_ | refine F.w (s2') ?_
            refine ARg.nil (ATh.normal ?_)
            refine dO 12 false ?_
            first | refine s1 ?_ | refine F.aL Pth ?_ (hsrc := .own rfl rfl (E_length _ _))
            refine ARg.nil (ATh.normal ?_)
            refine dP 13 ?_
            refine dN ?_
            repeat' first | refine s1 ?_ | fail
            exact ⟨k + 1, F.fit ⟨slE (by rw [hks]; simp), rfl, trivial⟩ ⟨obE (by rw [hks]), trivial⟩, by omega, by omega⟩
          · refine ⟨_, true, rfl, rfl, ?_⟩
            refine s1 ?_
            refine ARg.nil (ATh.normal ?_)
            refine ARA.any [3, 6] (by kernel_rfl) (by simp) ?_
            intro k hk
            simp only [List.mem_cons, List.not_mem_nil, or_false] at hk
            rcases hk with rfl | rfl
            · refine ⟨_, true, rfl, rfl, ?_⟩
              refine s1 ?_
              refine ARg.nil (ATh.normal ?_)
              refine dO 6 false ?_
              first | refine s1 ?_ | refine F.c (hCl) ?_ | refine F.w (s2') ?_
              refine ARg.nil (ATh.normal ?_)
              refine dO 9 false ?_
              first | refine s1 ?_ | refine F.a1 Int ?_
              refine ARg.nil (ATh.normal ?_)
              refine dzA (α := Int) 32 rfl rfl (by simp) ?_
              refine dP 10 ?_
              refine dO 11 false ?_
              first | refine s1 ?_ | refine F.c (hCl) ?_ | refine F.w (s2') ?_
              refine ARg.nil (ATh.normal ?_)
              refine dO 12 false ?_
              first | refine s1 ?_ | refine F.aL Pth ?_ (hsrc := .own rfl rfl (E_length _ _))
              refine ARg.nil (ATh.normal ?_)
              refine dP 13 ?_
              refine dN ?_
              repeat' first | refine s1 ?_ | fail
              exact ⟨k + 1, F.fit ⟨slE (by rw [hks]; simp), rfl, trivial⟩ ⟨obE (by rw [hks]), trivial⟩, by omega, by omega⟩
            · refine ⟨_, false, rfl, rfl, ?_⟩
              first | refine s1 ?_ | refine F.c (hCl) ?_ | refine F.w (s2') ?_
              refine ARg.nil (ATh.normal ?_)
              refine ARA.any [3, 9] (by kernel_rfl) (by simp) ?_
              intro k hk
              simp only [List.mem_cons, List.not_mem_nil, or_false] at hk
              rcases hk with rfl | rfl
              · refine ⟨_, true, rfl, rfl, ?_⟩
                refine s1 ?_
                refine ARg.nil (ATh.normal ?_)
                refine dO 9 false ?_
                first | refine s1 ?_ | refine F.a1 Int ?_
                refine ARg.nil (ATh.normal ?_)
                refine dzA (α := Int) 32 rfl rfl (by simp) ?_
                refine dP 10 ?_
                refine dO 11 false ?_
                first | refine s1 ?_ | refine F.c (hCl) ?_ | refine F.w (s2') ?_
                refine ARg.nil (ATh.normal ?_)
                refine dO 12 false ?_
                first | refine s1 ?_ | refine F.aL Pth ?_ (hsrc := .own rfl rfl (E_length _ _))
                refine ARg.nil (ATh.normal ?_)
                refine dP 13 ?_
                refine dN ?_
                repeat' first | refine s1 ?_ | fail
                exact ⟨k + 1, F.fit ⟨slE (by rw [hks]; simp), rfl, trivial⟩ ⟨obE (by rw [hks]), trivial⟩, by omega, by omega⟩
              · refine ⟨_, false, rfl, rfl, ?_⟩
                first | refine s1 ?_ | refine F.a1 Int ?_
                refine ARg.nil (ATh.normal ?_)
                refine dzA (α := Int) 32 rfl rfl (by simp) ?_
                refine dO 3 true ?_
                refine s1 ?_
                refine ARg.nil (ATh.normal ?_)
                refine dP 10 ?_
                refine dO 11 false ?_
                first | refine s1 ?_ | refine F.c (hCl) ?_ | refine F.w (s2') ?_
                refine ARg.nil (ATh.normal ?_)
                refine dO 12 false ?_
                first | refine s1 ?_ | refine F.aL Pth ?_ (hsrc := .own rfl rfl (E_length _ _))
                refine ARg.nil (ATh.normal ?_)
                refine dP 13 ?_
                refine dN ?_
                repeat' first | refine s1 ?_ | fail
                exact ⟨k + 1, F.fit ⟨slE (by rw [hks]; simp), rfl, trivial⟩ ⟨obE (by rw [hks]), trivial⟩, by omega, by omega⟩
      · refine ⟨_, true, rfl, rfl, ?_⟩
        refine s1 ?_
        refine ARg.nil (ATh.normal ?_)
        refine ARA.any [1, 5, 8] (by kernel_rfl) (by simp) ?_
        intro k hk
        simp only [List.mem_cons, List.not_mem_nil, or_false] at hk
        rcases hk with rfl | rfl | rfl
        · refine ⟨_, true, rfl, rfl, ?_⟩
          refine s1 ?_
          refine ARg.nil (ATh.normal ?_)
          refine ARA.any [5, 8] (by kernel_rfl) (by simp) ?_
          intro k hk
          simp only [List.mem_cons, List.not_mem_nil, or_false] at hk
          rcases hk with rfl | rfl
          · refine ⟨_, true, rfl, rfl, ?_⟩
            refine s1 ?_
            refine ARg.nil (ATh.normal ?_)
            refine ARA.any [6, 8] (by kernel_rfl) (by simp) ?_
            intro k hk
            simp only [List.mem_cons, List.not_mem_nil, or_false] at hk
            rcases hk with rfl | rfl
            · refine ⟨_, false, rfl, rfl, ?_⟩
              first | refine s1 ?_ | refine F.c (hCl) ?_ | refine F.w (s2') ?_
              refine ARg.nil (ATh.normal ?_)
              refine dO 8 true ?_
              refine s1 ?_
              refine ARg.nil (ATh.normal ?_)
              refine dO 9 false ?_
              first | refine s1 ?_ | refine F.a1 Int ?_
              refine ARg.nil (ATh.normal ?_)
              refine dzA (α := Int) 32 rfl rfl (by simp) ?_
              refine dP 10 ?_
              refine dO 11 false ?_
              first | refine s1 ?_ | refine F.c (hCl) ?_ | refine F.w (s2') ?_
              refine ARg.nil (ATh.normal ?_)
              refine dO 12 false ?_
              first | refine s1 ?_ | refine F.aL Pth ?_ (hsrc := .own rfl rfl (E_length _ _))
              refine ARg.nil (ATh.normal ?_)
              refine dP 13 ?_
              refine dN ?_
              repeat' first | refine s1 ?_ | fail
              exact ⟨k + 1, F.fit ⟨slE (by rw [hks]; simp), rfl, trivial⟩ ⟨obE (by rw [hks]), trivial⟩, by omega, by omega⟩
            · refine ⟨_, true, rfl, rfl, ?_⟩
              refine s1 ?_
              refine ARg.nil (ATh.normal ?_)
              refine dO 6 false ?_
              first | refine s1 ?_ | refine F.c (hCl) ?_ | refine F.w (s2') ?_
              refine ARg.nil (ATh.normal ?_)
              refine dO 9 false ?_
              first | refine s1 ?_ | refine F.a1 Int ?_
              refine ARg.nil (ATh.normal ?_)
              refine dzA (α := Int) 32 rfl rfl (by simp) ?_
              refine dP 10 ?_
              refine dO 11 false ?_
              first | refine s1 ?_ | refine F.c (hCl) ?_ | refine F.w (s2') ?_
              refine ARg.nil (ATh.normal ?_)
              refine dO 12 false ?_
              first | refine s1 ?_ | refine F.aL Pth ?_ (hsrc := .own rfl rfl (E_length _ _))
              refine ARg.nil (ATh.normal ?_)
              refine dP 13 ?_
              refine dN ?_
              repeat' first | refine s1 ?_ | fail
              exact ⟨k + 1, F.fit ⟨slE (by rw [hks]; simp), rfl, trivial⟩ ⟨obE (by rw [hks]), trivial⟩, by omega, by omega⟩
          · refine ⟨_, true, rfl, rfl, ?_⟩
            refine s1 ?_
            refine ARg.nil (ATh.normal ?_)
            refine dO 5 true ?_
            refine s1 ?_
            refine ARg.nil (ATh.normal ?_)
            refine dO 6 false ?_
            first | refine s1 ?_ | refine F.c (hCl) ?_ | refine F.w (s2') ?_
            refine ARg.nil (ATh.normal ?_)
            refine dO 9 false ?_
            first | refine s1 ?_ | refine F.a1 Int ?_
            refine ARg.nil (ATh.normal ?_)
            refine dzA (α := Int) 32 rfl rfl (by simp) ?_
            refine dP 10 ?_
            refine dO 11 false ?_
            first | refine s1 ?_ | refine F.c (hCl) ?_ | refine F.w (s2') ?_
            refine ARg.nil (ATh.normal ?_)
            refine dO 12 false ?_
            first | refine s1 ?_ | refine F.aL Pth ?_ (hsrc := .own rfl rfl (E_length _ _))
            refine ARg.nil (ATh.normal ?_)
            refine dP 13 ?_
            refine dN ?_
            repeat' first | refine s1 ?_ | fail
            exact ⟨k + 1, F.fit ⟨slE (by rw [hks]; simp), rfl, trivial⟩ ⟨obE (by rw [hks]), trivial⟩, by omega, by omega⟩
        · refine ⟨_, true, rfl, rfl, ?_⟩
          refine s1 ?_
          refine ARg.nil (ATh.normal ?_)
          refine ARA.any [1, 6, 8] (by kernel_rfl) (by simp) ?_
          intro k hk
          simp only [List.mem_cons, List.not_mem_nil, or_false] at hk
          rcases hk with rfl | rfl | rfl
          · refine ⟨_, true, rfl, rfl, ?_⟩
            refine s1 ?_
            refine ARg.nil (ATh.normal ?_)
            refine ARA.any [6, 8] (by kernel_rfl) (by simp) ?_
            intro k hk
            simp only [List.mem_cons, List.not_mem_nil, or_false] at hk
            rcases hk with rfl | rfl
            · refine ⟨_, false, rfl, rfl, ?_⟩
              first | refine s1 ?_ | refine F.c (hCl) ?_ | refine F.w (s2') ?_
              refine ARg.nil (ATh.normal ?_)
              refine dO 8 true ?_
              refine s1 ?_
              refine ARg.nil (ATh.normal ?_)
              refine dO 9 false ?_
              first | refine s1 ?_ | refine F.a1 Int ?_
              refine ARg.nil (ATh.normal ?_)
              refine dzA (α := Int) 32 rfl rfl (by simp) ?_
              refine dP 10 ?_
              refine dO 11 false ?_
              first | refine s1 ?_ | refine F.c (hCl) ?_ | refine F.w (s2') ?_
              refine ARg.nil (ATh.normal ?_)
              refine dO 12 false ?_
              first | refine s1 ?_ | refine F.aL Pth ?_ (hsrc := .own rfl rfl (E_length _ _))
              refine ARg.nil (ATh.normal ?_)
              refine dP 13 ?_
              refine dN ?_
              repeat' first | refine s1 ?_ | fail
              exact ⟨k + 1, F.fit ⟨slE (by rw [hks]; simp), rfl, trivial⟩ ⟨obE (by rw [hks]), trivial⟩, by omega, by omega⟩
            · refine ⟨_, true, rfl, rfl, ?_⟩
              refine s1 ?_
              refine ARg.nil (ATh.normal ?_)
              refine dO 6 false ?_
              first | refine s1 ?_ | refine F.c (hCl) ?_ | refine F.w (s2') ?_
              refine ARg.nil (ATh.normal ?_)
              refine dO 9 false ?_
              first | refine s1 ?_ | refine F.a1 Int ?_
              refine ARg.nil (ATh.normal ?_)
              refine dzA (α := Int) 32 rfl rfl (by simp) ?_
              refine dP 10 ?_
              refine dO 11 false ?_
              first | refine s1 ?_ | refine F.c (hCl) ?_ | refine F.w (s2') ?_
              refine ARg.nil (ATh.normal ?_)
              refine dO 12 false ?_
              first | refine s1 ?_ | refine F.aL Pth ?_ (hsrc := .own rfl rfl (E_length _ _))
              refine ARg.nil (ATh.normal ?_)
              refine dP 13 ?_
              refine dN ?_
              repeat' first | refine s1 ?_ | fail
              exact ⟨k + 1, F.fit ⟨slE (by rw [hks]; simp), rfl, trivial⟩ ⟨obE (by rw [hks]), trivial⟩, by omega, by omega⟩
          · refine ⟨_, false, rfl, rfl, ?_⟩
            first | refine s1 ?_ | refine F.c (hCl) ?_ | refine F.w (s2') ?_
            refine ARg.nil (ATh.normal ?_)
            refine ARA.any [1, 8] (by kernel_rfl) (by simp) ?_
            intro k hk
            simp only [List.mem_cons, List.not_mem_nil, or_false] at hk
            rcases hk with rfl | rfl
            · refine ⟨_, true, rfl, rfl, ?_⟩
              refine s1 ?_
              refine ARg.nil (ATh.normal ?_)
              refine dO 8 true ?_
              refine s1 ?_
              refine ARg.nil (ATh.normal ?_)
              refine dO 9 false ?_
              first | refine s1 ?_ | refine F.a1 Int ?_
              refine ARg.nil (ATh.normal ?_)
              refine dzA (α := Int) 32 rfl rfl (by simp) ?_
              refine dP 10 ?_
              refine dO 11 false ?_
              first | refine s1 ?_ | refine F.c (hCl) ?_ | refine F.w (s2') ?_
              refine ARg.nil (ATh.normal ?_)
              refine dO 12 false ?_
              first | refine s1 ?_ | refine F.aL Pth ?_ (hsrc := .own rfl rfl (E_length _ _))
              refine ARg.nil (ATh.normal ?_)
              refine dP 13 ?_
              refine dN ?_
              repeat' first | refine s1 ?_ | fail
              exact ⟨k + 1, F.fit ⟨slE (by rw [hks]; simp), rfl, trivial⟩ ⟨obE (by rw [hks]), trivial⟩, by omega, by omega⟩
            · refine ⟨_, true, rfl, rfl, ?_⟩
              refine s1 ?_
              refine ARg.nil (ATh.normal ?_)
              refine ARA.any [1, 9] (by kernel_rfl) (by simp) ?_
              intro k hk
              simp only [List.mem_cons, List.not_mem_nil, or_false] at hk
              rcases hk with rfl | rfl
              · refine ⟨_, true, rfl, rfl, ?_⟩
                refine s1 ?_
                refine ARg.nil (ATh.normal ?_)
                refine dO 9 false ?_
                first | refine s1 ?_ | refine F.a1 Int ?_
                refine ARg.nil (ATh.normal ?_)
                refine dzA (α := Int) 32 rfl rfl (by simp) ?_
                refine dP 10 ?_
                refine dO 11 false ?_
                first | refine s1 ?_ | refine F.c (hCl) ?_ | refine F.w (s2') ?_
                refine ARg.nil (ATh.normal ?_)
                refine dO 12 false ?_
                first | refine s1 ?_ | refine F.aL Pth ?_ (hsrc := .own rfl rfl (E_length _ _))
                refine ARg.nil (ATh.normal ?_)
                refine dP 13 ?_
                refine dN ?_
                repeat' first | refine s1 ?_ | fail
                exact ⟨k + 1, F.fit ⟨slE (by rw [hks]; simp), rfl, trivial⟩ ⟨obE (by rw [hks]), trivial⟩, by omega, by omega⟩
              · refine ⟨_, false, rfl, rfl, ?_⟩
                first | refine s1 ?_ | refine F.a1 Int ?_
                refine ARg.nil (ATh.normal ?_)
                refine dzA (α := Int) 32 rfl rfl (by simp) ?_
                refine dP 10 ?_
                refine dO 1 true ?_
                refine s1 ?_
                refine ARg.nil (ATh.normal ?_)
                refine dO 11 false ?_
                first | refine s1 ?_ | refine F.c (hCl) ?_ | refine F.w (s2') ?_
                refine ARg.nil (ATh.normal ?_)
                refine dO 12 false ?_
                first | refine s1 ?_ | refine F.aL Pth ?_ (hsrc := .own rfl rfl (E_length _ _))
                refine ARg.nil (ATh.normal ?_)
                refine dP 13 ?_
                refine dN ?_
                repeat' first | refine s1 ?_ | fail
                exact ⟨k + 1, F.fit ⟨slE (by rw [hks]; simp), rfl, trivial⟩ ⟨obE (by rw [hks]), trivial⟩, by omega, by omega⟩
          · refine ⟨_, true, rfl, rfl, ?_⟩
            refine s1 ?_
            refine ARg.nil (ATh.normal ?_)
            refine ARA.any [1, 6] (by kernel_rfl) (by simp) ?_
            intro k hk
            simp only [List.mem_cons, List.not_mem_nil, or_false] at hk
            rcases hk with rfl | rfl
            · refine ⟨_, true, rfl, rfl, ?_⟩
              refine s1 ?_
              refine ARg.nil (ATh.normal ?_)
              refine dO 6 false ?_
              first | refine s1 ?_ | refine F.c (hCl) ?_ | refine F.w (s2') ?_
              refine ARg.nil (ATh.normal ?_)
              refine dO 9 false ?_
              first | refine s1 ?_ | refine F.a1 Int ?_
              refine ARg.nil (ATh.normal ?_)
              refine dzA (α := Int) 32 rfl rfl (by simp) ?_
              refine dP 10 ?_
              refine dO 11 false ?_
              first | refine s1 ?_ | refine F.c (hCl) ?_ | refine F.w (s2') ?_
              refine ARg.nil (ATh.normal ?_)
              refine dO 12 false ?_
              first | refine s1 ?_ | refine F.aL Pth ?_ (hsrc := .own rfl rfl (E_length _ _))
              refine ARg.nil (ATh.normal ?_)
              refine dP 13 ?_
              refine dN ?_
              repeat' first | refine s1 ?_ | fail
              exact ⟨k + 1, F.fit ⟨slE (by rw [hks]; simp), rfl, trivial⟩ ⟨obE (by rw [hks]), trivial⟩, by omega, by omega⟩
            · refine ⟨_, false, rfl, rfl, ?_⟩
              first | refine s1 ?_ | refine F.c (hCl) ?_ | refine F.w (s2') ?_
              refine ARg.nil (ATh.normal ?_)
              refine ARA.any [1, 9] (by kernel_rfl) (by simp) ?_
              intro k hk
              simp only [List.mem_cons, List.not_mem_nil, or_false] at hk
              rcases hk with rfl | rfl
              · refine ⟨_, true, rfl, rfl, ?_⟩
                refine s1 ?_
                refine ARg.nil (ATh.normal ?_)
                refine dO 9 false ?_
                first | refine s1 ?_ | refine F.a1 Int ?_
                refine ARg.nil (ATh.normal ?_)
                refine dzA (α := Int) 32 rfl rfl (by simp) ?_
                refine dP 10 ?_
                refine dO 11 false ?_
                first | refine s1 ?_ | refine F.c (hCl) ?_ | refine F.w (s2') ?_
                refine ARg.nil (ATh.normal ?_)
                refine dO 12 false ?_
                first | refine s1 ?_ | refine F.aL Pth ?_ (hsrc := .own rfl rfl (E_length _ _))
                refine ARg.nil (ATh.normal ?_)
                refine dP 13 ?_
                refine dN ?_
                repeat' first | refine s1 ?_ | fail
                exact ⟨k + 1, F.fit ⟨slE (by rw [hks]; simp), rfl, trivial⟩ ⟨obE (by rw [hks]), trivial⟩, by omega, by omega⟩
              · refine ⟨_, false, rfl, rfl, ?_⟩
                first | refine s1 ?_ | refine F.a1 Int ?_
                refine ARg.nil (ATh.normal ?_)
                refine dzA (α := Int) 32 rfl rfl (by simp) ?_
                refine dP 10 ?_
                refine dO 1 true ?_
                refine s1 ?_
                refine ARg.nil (ATh.normal ?_)
                refine dO 11 false ?_
                first | refine s1 ?_ | refine F.c (hCl) ?_ | refine F.w (s2') ?_
                refine ARg.nil (ATh.normal ?_)
                refine dO 12 false ?_
                first | refine s1 ?_ | refine F.aL Pth ?_ (hsrc := .own rfl rfl (E_length _ _))
                refine ARg.nil (ATh.normal ?_)
                refine dP 13 ?_
                refine dN ?_
                repeat' first | refine s1 ?_ | fail
                exact ⟨k + 1, F.fit ⟨slE (by rw [hks]; simp), rfl, trivial⟩ ⟨obE (by rw [hks]), trivial⟩, by omega, by omega⟩
        · refine ⟨_, true, rfl, rfl, ?_⟩
          refine s1 ?_
          refine ARg.nil (ATh.normal ?_)
          refine ARA.any [1, 5] (by kernel_rfl) (by simp) ?_
          intro k hk
          simp only [List.mem_cons, List.not_mem_nil, or_false] at hk
          rcases hk with rfl | rfl
          · refine ⟨_, true, rfl, rfl, ?_⟩
            refine s1 ?_
            refine ARg.nil (ATh.normal ?_)
            refine dO 5 true ?_
            refine s1 ?_
            refine ARg.nil (ATh.normal ?_)
            refine dO 6 false ?_
            first | refine s1 ?_ | refine F.c (hCl) ?_ | refine F.w (s2') ?_
            refine ARg.nil (ATh.normal ?_)
            refine dO 9 false ?_
            first | refine s1 ?_ | refine F.a1 Int ?_
            refine ARg.nil (ATh.normal ?_)
            refine dzA (α := Int) 32 rfl rfl (by simp) ?_
            refine dP 10 ?_
            refine dO 11 false ?_
            first | refine s1 ?_ | refine F.c (hCl) ?_ | refine F.w (s2') ?_
            refine ARg.nil (ATh.normal ?_)
            refine dO 12 false ?_
            first | refine s1 ?_ | refine F.aL Pth ?_ (hsrc := .own rfl rfl (E_length _ _))
            refine ARg.nil (ATh.normal ?_)
            refine dP 13 ?_
            refine dN ?_
            repeat' first | refine s1 ?_ | fail
            exact ⟨k + 1, F.fit ⟨slE (by rw [hks]; simp), rfl, trivial⟩ ⟨obE (by rw [hks]), trivial⟩, by omega, by omega⟩
          · refine ⟨_, true, rfl, rfl, ?_⟩
            refine s1 ?_
            refine ARg.nil (ATh.normal ?_)
            refine ARA.any [1, 6] (by kernel_rfl) (by simp) ?_
            intro k hk
            simp only [List.mem_cons, List.not_mem_nil, or_false] at hk
            rcases hk with rfl | rfl
            · refine ⟨_, true, rfl, rfl, ?_⟩
              refine s1 ?_
              refine ARg.nil (ATh.normal ?_)
              refine dO 6 false ?_
              first | refine s1 ?_ | refine F.c (hCl) ?_ | refine F.w (s2') ?_
              refine ARg.nil (ATh.normal ?_)
              refine dO 9 false ?_
              first | refine s1 ?_ | refine F.a1 Int ?_
              refine ARg.nil (ATh.normal ?_)
              refine dzA (α := Int) 32 rfl rfl (by simp) ?_
              refine dP 10 ?_
              refine dO 11 false ?_
              first | refine s1 ?_ | refine F.c (hCl) ?_ | refine F.w (s2') ?_
              refine ARg.nil (ATh.normal ?_)
              refine dO 12 false ?_
              first | refine s1 ?_ | refine F.aL Pth ?_ (hsrc := .own rfl rfl (E_length _ _))
              refine ARg.nil (ATh.normal ?_)
              refine dP 13 ?_
              refine dN ?_
              repeat' first | refine s1 ?_ | fail
              exact ⟨k + 1, F.fit ⟨slE (by rw [hks]; simp), rfl, trivial⟩ ⟨obE (by rw [hks]), trivial⟩, by omega, by omega⟩
            · refine ⟨_, false, rfl, rfl, ?_⟩
              first | refine s1 ?_ | refine F.c (hCl) ?_ | refine F.w (s2') ?_
              refine ARg.nil (ATh.normal ?_)
              refine ARA.any [1, 9] (by kernel_rfl) (by simp) ?_
              intro k hk
              simp only [List.mem_cons, List.not_mem_nil, or_false] at hk
              rcases hk with rfl | rfl
              · refine ⟨_, true, rfl, rfl, ?_⟩
                refine s1 ?_
                refine ARg.nil (ATh.normal ?_)
                refine dO 9 false ?_
                first | refine s1 ?_ | refine F.a1 Int ?_
                refine ARg.nil (ATh.normal ?_)
                refine dzA (α := Int) 32 rfl rfl (by simp) ?_
                refine dP 10 ?_
                refine dO 11 false ?_
                first | refine s1 ?_ | refine F.c (hCl) ?_ | refine F.w (s2') ?_
                refine ARg.nil (ATh.normal ?_)
                refine dO 12 false ?_
                first | refine s1 ?_ | refine F.aL Pth ?_ (hsrc := .own rfl rfl (E_length _ _))
                refine ARg.nil (ATh.normal ?_)
                refine dP 13 ?_
                refine dN ?_
                repeat' first | refine s1 ?_ | fail
                exact ⟨k + 1, F.fit ⟨slE (by rw [hks]; simp), rfl, trivial⟩ ⟨obE (by rw [hks]), trivial⟩, by omega, by omega⟩
              · refine ⟨_, false, rfl, rfl, ?_⟩
                first | refine s1 ?_ | refine F.a1 Int ?_
                refine ARg.nil (ATh.normal ?_)
                refine dzA (α := Int) 32 rfl rfl (by simp) ?_
                refine dP 10 ?_
                refine dO 1 true ?_
                refine s1 ?_
                refine ARg.nil (ATh.normal ?_)
                refine dO 11 false ?_
                first | refine s1 ?_ | refine F.c (hCl) ?_ | refine F.w (s2') ?_
                refine ARg.nil (ATh.normal ?_)
                refine dO 12 false ?_
                first | refine s1 ?_ | refine F.aL Pth ?_ (hsrc := .own rfl rfl (E_length _ _))
                refine ARg.nil (ATh.normal ?_)
                refine dP 13 ?_
                refine dN ?_
                repeat' first | refine s1 ?_ | fail
                exact ⟨k + 1, F.fit ⟨slE (by rw [hks]; simp), rfl, trivial⟩ ⟨obE (by rw [hks]), trivial⟩, by omega, by omega⟩
      · refine ⟨_, true, rfl, rfl, ?_⟩
        refine s1 ?_
        refine ARg.nil (ATh.normal ?_)
        refine ARA.any [1, 3, 6, 8] (by kernel_rfl) (by simp) ?_
        intro k hk
        simp only [List.mem_cons, List.not_mem_nil, or_false] at hk
        rcases hk with rfl | rfl | rfl | rfl
        · refine ⟨_, true, rfl, rfl, ?_⟩
          refine s1 ?_
          refine ARg.nil (ATh.normal ?_)
          refine ARA.any [3, 6, 8] (by kernel_rfl) (by simp) ?_
          intro k hk
          simp only [List.mem_cons, List.not_mem_nil, or_false] at hk
          rcases hk with rfl | rfl | rfl
          · refine ⟨_, true, rfl, rfl, ?_⟩
            refine s1 ?_
            refine ARg.nil (ATh.normal ?_)
            refine ARA.any [6, 8] (by kernel_rfl) (by simp) ?_
            intro k hk
            simp only [List.mem_cons, List.not_mem_nil, or_false] at hk
            rcases hk with rfl | rfl
            · refine ⟨_, false, rfl, rfl, ?_⟩
              first | refine s1 ?_ | refine F.c (hCl) ?_ | refine F.w (s2') ?_
              refine ARg.nil (ATh.normal ?_)
              refine dO 8 true ?_
              refine s1 ?_
              refine ARg.nil (ATh.normal ?_)
              refine dO 9 false ?_
              first | refine s1 ?_ | refine F.a1 Int ?_
              refine ARg.nil (ATh.normal ?_)
              refine dzA (α := Int) 32 rfl rfl (by simp) ?_
              refine dP 10 ?_
              refine dO 11 false ?_
              first | refine s1 ?_ | refine F.c (hCl) ?_ | refine F.w (s2') ?_
              refine ARg.nil (ATh.normal ?_)
              refine dO 12 false ?_
              first | refine s1 ?_ | refine F.aL Pth ?_ (hsrc := .own rfl rfl (E_length _ _))
              refine ARg.nil (ATh.normal ?_)
              refine dP 13 ?_
              refine dN ?_
              repeat' first | refine s1 ?_ | fail
              exact ⟨k + 1, F.fit ⟨slE (by rw [hks]; simp), rfl, trivial⟩ ⟨obE (by rw [hks]), trivial⟩, by omega, by omega⟩
            · refine ⟨_, true, rfl, rfl, ?_⟩
              refine s1 ?_
              refine ARg.nil (ATh.normal ?_)
              refine dO 6 false ?_
              first | refine s1 ?_ | refine F.c (hCl) ?_ | refine F.w (s2') ?_
              refine ARg.nil (ATh.normal ?_)
              refine dO 9 false ?_
              first | refine s1 ?_ | refine F.a1 Int ?_
              refine ARg.nil (ATh.normal ?_)
              refine dzA (α := Int) 32 rfl rfl (by simp) ?_
              refine dP 10 ?_
              refine dO 11 false ?_
              first | refine s1 ?_ | refine F.c (hCl) ?_ | refine F.w (s2') ?_
              refine ARg.nil (ATh.normal ?_)
              refine dO 12 false ?_
              first | refine s1 ?_ | refine F.aL Pth ?_ (hsrc := .own rfl rfl (E_length _ _))
              refine ARg.nil (ATh.normal ?_)
              refine dP 13 ?_
              refine dN ?_
              repeat' first | refine s1 ?_ | fail
              exact ⟨k + 1, F.fit ⟨slE (by rw [hks]; simp), rfl, trivial⟩ ⟨obE (by rw [hks]), trivial⟩, by omega, by omega⟩
          · refine ⟨_, false, rfl, rfl, ?_⟩
            first | refine s1 ?_ | refine F.c (hCl) ?_ | refine F.w (s2') ?_
            refine ARg.nil (ATh.normal ?_)
            refine ARA.any [3, 8] (by kernel_rfl) (by simp) ?_
            intro k hk
            simp only [List.mem_cons, List.not_mem_nil, or_false] at hk
            rcases hk with rfl | rfl
            · refine ⟨_, true, rfl, rfl, ?_⟩
              refine s1 ?_
              refine ARg.nil (ATh.normal ?_)
              refine dO 8 true ?_
              refine s1 ?_
              refine ARg.nil (ATh.normal ?_)
              refine dO 9 false ?_
              first | refine s1 ?_ | refine F.a1 Int ?_
              refine ARg.nil (ATh.normal ?_)
              refine dzA (α := Int) 32 rfl rfl (by simp) ?_
              refine dP 10 ?_
              refine dO 11 false ?_
              first | refine s1 ?_ | refine F.c (hCl) ?_ | refine F.w (s2') ?_
              refine ARg.nil (ATh.normal ?_)
              refine dO 12 false ?_
              first | refine s1 ?_ | refine F.aL Pth ?_ (hsrc := .own rfl rfl (E_length _ _))
              refine ARg.nil (ATh.normal ?_)
              refine dP 13 ?_
              refine dN ?_
              repeat' first | refine s1 ?_ | fail
              exact ⟨k + 1, F.fit ⟨slE (by rw [hks]; simp), rfl, trivial⟩ ⟨obE (by rw [hks]), trivial⟩, by omega, by omega⟩
            · refine ⟨_, true, rfl, rfl, ?_⟩
              refine s1 ?_
              refine ARg.nil (ATh.normal ?_)
              refine ARA.any [3, 9] (by kernel_rfl) (by simp) ?_
              intro k hk
              simp only [List.mem_cons, List.not_mem_nil, or_false] at hk
              rcases hk with rfl | rfl
              · refine ⟨_, true, rfl, rfl, ?_⟩
                refine s1 ?_
                refine ARg.nil (ATh.normal ?_)
                refine dO 9 false ?_
                first | refine s1 ?_ | refine F.a1 Int ?_
                refine ARg.nil (ATh.normal ?_)
                refine dzA (α := Int) 32 rfl rfl (by simp) ?_
                refine dP 10 ?_
                refine dO 11 false ?_
                first | refine s1 ?_ | refine F.c (hCl) ?_ | refine F.w (s2') ?_
                refine ARg.nil (ATh.normal ?_)
                refine dO 12 false ?_
                first | refine s1 ?_ | refine F.aL Pth ?_ (hsrc := .own rfl rfl (E_length _ _))
                refine ARg.nil (ATh.normal ?_)
                refine dP 13 ?_
                refine dN ?_
                repeat' first | refine s1 ?_ | fail
                exact ⟨k + 1, F.fit ⟨slE (by rw [hks]; simp), rfl, trivial⟩ ⟨obE (by rw [hks]), trivial⟩, by omega, by omega⟩
              · refine ⟨_, false, rfl, rfl, ?_⟩
                first | refine s1 ?_ | refine F.a1 Int ?_
                refine ARg.nil (ATh.normal ?_)
                refine dzA (α := Int) 32 rfl rfl (by simp) ?_
                refine dO 3 true ?_
                refine s1 ?_
                refine ARg.nil (ATh.normal ?_)
                refine dP 10 ?_
                refine dO 11 false ?_
                first | refine s1 ?_ | refine F.c (hCl) ?_ | refine F.w (s2') ?_
                refine ARg.nil (ATh.normal ?_)
                refine dO 12 false ?_
                first | refine s1 ?_ | refine F.aL Pth ?_ (hsrc := .own rfl rfl (E_length _ _))
                refine ARg.nil (ATh.normal ?_)
                refine dP 13 ?_
                refine dN ?_
                repeat' first | refine s1 ?_ | fail
                exact ⟨k + 1, F.fit ⟨slE (by rw [hks]; simp), rfl, trivial⟩ ⟨obE (by rw [hks]), trivial⟩, by omega, by omega⟩
          · refine ⟨_, true, rfl, rfl, ?_⟩
            refine s1 ?_
            refine ARg.nil (ATh.normal ?_)
            refine ARA.any [3, 6] (by kernel_rfl) (by simp) ?_
            intro k hk
            simp only [List.mem_cons, List.not_mem_nil, or_false] at hk
            rcases hk with rfl | rfl
            · refine ⟨_, true, rfl, rfl, ?_⟩
              refine s1 ?_
              refine ARg.nil (ATh.normal ?_)
              refine dO 6 false ?_
              first | refine s1 ?_ | refine F.c (hCl) ?_ | refine F.w (s2') ?_
              refine ARg.nil (ATh.normal ?_)
              refine dO 9 false ?_
              first | refine s1 ?_ | refine F.a1 Int ?_
              refine ARg.nil (ATh.normal ?_)
              refine dzA (α := Int) 32 rfl rfl (by simp) ?_
              refine dP 10 ?_
              refine dO 11 false ?_
              first | refine s1 ?_ | refine F.c (hCl) ?_ | refine F.w (s2') ?_
              refine ARg.nil (ATh.normal ?_)
              refine dO 12 false ?_
              first | refine s1 ?_ | refine F.aL Pth ?_ (hsrc := .own rfl rfl (E_length _ _))
              refine ARg.nil (ATh.normal ?_)
              refine dP 13 ?_
              refine dN ?_
              repeat' first | refine s1 ?_ | fail
              exact ⟨k + 1, F.fit ⟨slE (by rw [hks]; simp), rfl, trivial⟩ ⟨obE (by rw [hks]), trivial⟩, by omega, by omega⟩
            · refine ⟨_, false, rfl, rfl, ?_⟩
              first | refine s1 ?_ | refine F.c (hCl) ?_ | refine F.w (s2') ?_
              refine ARg.nil (ATh.normal ?_)
              refine ARA.any [3, 9] (by kernel_rfl) (by simp) ?_
              intro k hk
              simp only [List.mem_cons, List.not_mem_nil, or_false] at hk
              rcases hk with rfl | rfl
              · refine ⟨_, true, rfl, rfl, ?_⟩
                refine s1 ?_
                refine ARg.nil (ATh.normal ?_)
                refine dO 9 false ?_
                first | refine s1 ?_ | refine F.a1 Int ?_
                refine ARg.nil (ATh.normal ?_)
                refine dzA (α := Int) 32 rfl rfl (by simp) ?_
                refine dP 10 ?_
                refine dO 11 false ?_
                first | refine s1 ?_ | refine F.c (hCl) ?_ | refine F.w (s2') ?_
                refine ARg.nil (ATh.normal ?_)
                refine dO 12 false ?_
                first | refine s1 ?_ | refine F.aL Pth ?_ (hsrc := .own rfl rfl (E_length _ _))
                refine ARg.nil (ATh.normal ?_)
                refine dP 13 ?_
                refine dN ?_
                repeat' first | refine s1 ?_ | fail
                exact ⟨k + 1, F.fit ⟨slE (by rw [hks]; simp), rfl, trivial⟩ ⟨obE (by rw [hks]), trivial⟩, by omega, by omega⟩
              · refine ⟨_, false, rfl, rfl, ?_⟩
                first | refine s1 ?_ | refine F.a1 Int ?_
                refine ARg.nil (ATh.normal ?_)
                refine dzA (α := Int) 32 rfl rfl (by simp) ?_
                refine dO 3 true ?_
                refine s1 ?_
                refine ARg.nil (ATh.normal ?_)
                refine dP 10 ?_
                refine dO 11 false ?_
                first | refine s1 ?_ | refine F.c (hCl) ?_ | refine F.w (s2') ?_
                refine ARg.nil (ATh.normal ?_)
                refine dO 12 false ?_
                first | refine s1 ?_ | refine F.aL Pth ?_ (hsrc := .own rfl rfl (E_length _ _))
                refine ARg.nil (ATh.normal ?_)
                refine dP 13 ?_
                refine dN ?_
                repeat' first | refine s1 ?_ | fail
                exact ⟨k + 1, F.fit ⟨slE (by rw [hks]; simp), rfl, trivial⟩ ⟨obE (by rw [hks]), trivial⟩, by omega, by omega⟩
        · refine ⟨_, true, rfl, rfl, ?_⟩
          refine s1 ?_
          refine ARg.nil (ATh.normal ?_)
          refine ARA.any [1, 6, 8] (by kernel_rfl) (by simp) ?_
          intro k hk
          simp only [List.mem_cons, List.not_mem_nil, or_false] at hk
          rcases hk with rfl | rfl | rfl
          · refine ⟨_, true, rfl, rfl, ?_⟩
            refine s1 ?_
            refine ARg.nil (ATh.normal ?_)
            refine ARA.any [6, 8] (by kernel_rfl) (by simp) ?_
            intro k hk
            simp only [List.mem_cons, List.not_mem_nil, or_false] at hk
            rcases hk with rfl | rfl
            · refine ⟨_, false, rfl, rfl, ?_⟩
              first | refine s1 ?_ | refine F.c (hCl) ?_ | refine F.w (s2') ?_
              refine ARg.nil (ATh.normal ?_)
              refine dO 8 true ?_
              refine s1 ?_
              refine ARg.nil (ATh.normal ?_)
              refine dO 9 false ?_
              first | refine s1 ?_ | refine F.a1 Int ?_
              refine ARg.nil (ATh.normal ?_)
              refine dzA (α := Int) 32 rfl rfl (by simp) ?_
              refine dP 10 ?_
              refine dO 11 false ?_
              first | refine s1 ?_ | refine F.c (hCl) ?_ | refine F.w (s2') ?_
              refine ARg.nil (ATh.normal ?_)
              refine dO 12 false ?_
              first | refine s1 ?_ | refine F.aL Pth ?_ (hsrc := .own rfl rfl (E_length _ _))
              refine ARg.nil (ATh.normal ?_)
              refine dP 13 ?_
              refine dN ?_
              repeat' first | refine s1 ?_ | fail
              exact ⟨k + 1, F.fit ⟨slE (by rw [hks]; simp), rfl, trivial⟩ ⟨obE (by rw [hks]), trivial⟩, by omega, by omega⟩
            · refine ⟨_, true, rfl, rfl, ?_⟩
              refine s1 ?_
              refine ARg.nil (ATh.normal ?_)
              refine dO 6 false ?_
              first | refine s1 ?_ | refine F.c (hCl) ?_ | refine F.w (s2') ?_
              refine ARg.nil (ATh.normal ?_)
              refine dO 9 false ?_
              first | refine s1 ?_ | refine F.a1 Int ?_
              refine ARg.nil (ATh.normal ?_)
              refine dzA (α := Int) 32 rfl rfl (by simp) ?_
              refine dP 10 ?_
              refine dO 11 false ?_
              first | refine s1 ?_ | refine F.c (hCl) ?_ | refine F.w (s2') ?_
              refine ARg.nil (ATh.normal ?_)
              refine dO 12 false ?_
              first | refine s1 ?_ | refine F.aL Pth ?_ (hsrc := .own rfl rfl (E_length _ _))
              refine ARg.nil (ATh.normal ?_)
              refine dP 13 ?_
              refine dN ?_
              repeat' first | refine s1 ?_ | fail
              exact ⟨k + 1, F.fit ⟨slE (by rw [hks]; simp), rfl, trivial⟩ ⟨obE (by rw [hks]), trivial⟩, by omega, by omega⟩
          · refine ⟨_, false, rfl, rfl, ?_⟩
            first | refine s1 ?_ | refine F.c (hCl) ?_ | refine F.w (s2') ?_
            refine ARg.nil (ATh.normal ?_)
            refine ARA.any [1, 8] (by kernel_rfl) (by simp) ?_
            intro k hk
            simp only [List.mem_cons, List.not_mem_nil, or_false] at hk
            rcases hk with rfl | rfl
            · refine ⟨_, true, rfl, rfl, ?_⟩
              refine s1 ?_
              refine ARg.nil (ATh.normal ?_)
              refine dO 8 true ?_
              refine s1 ?_
              refine ARg.nil (ATh.normal ?_)
              refine dO 9 false ?_
              first | refine s1 ?_ | refine F.a1 Int ?_
              refine ARg.nil (ATh.normal ?_)
              refine dzA (α := Int) 32 rfl rfl (by simp) ?_
              refine dP 10 ?_
              refine dO 11 false ?_
              first | refine s1 ?_ | refine F.c (hCl) ?_ | refine F.w (s2') ?_
              refine ARg.nil (ATh.normal ?_)
              refine dO 12 false ?_
              first | refine s1 ?_ | refine F.aL Pth ?_ (hsrc := .own rfl rfl (E_length _ _))
              refine ARg.nil (ATh.normal ?_)
              refine dP 13 ?_
              refine dN ?_
              repeat' first | refine s1 ?_ | fail
              exact ⟨k + 1, F.fit ⟨slE (by rw [hks]; simp), rfl, trivial⟩ ⟨obE (by rw [hks]), trivial⟩, by omega, by omega⟩
            · refine ⟨_, true, rfl, rfl, ?_⟩
              refine s1 ?_
              refine ARg.nil (ATh.normal ?_)
              refine ARA.any [1, 9] (by kernel_rfl) (by simp) ?_
              intro k hk
              simp only [List.mem_cons, List.not_mem_nil, or_false] at hk
              rcases hk with rfl | rfl
              · refine ⟨_, true, rfl, rfl, ?_⟩
                refine s1 ?_
                refine ARg.nil (ATh.normal ?_)
                refine dO 9 false ?_
                first | refine s1 ?_ | refine F.a1 Int ?_
                refine ARg.nil (ATh.normal ?_)
                refine dzA (α := Int) 32 rfl rfl (by simp) ?_
                refine dP 10 ?_
                refine dO 11 false ?_
                first | refine s1 ?_ | refine F.c (hCl) ?_ | refine F.w (s2') ?_
                refine ARg.nil (ATh.normal ?_)
                refine dO 12 false ?_
                first | refine s1 ?_ | refine F.aL Pth ?_ (hsrc := .own rfl rfl (E_length _ _))
                refine ARg.nil (ATh.normal ?_)
                refine dP 13 ?_
                refine dN ?_
                repeat' first | refine s1 ?_ | fail
                exact ⟨k + 1, F.fit ⟨slE (by rw [hks]; simp), rfl, trivial⟩ ⟨obE (by rw [hks]), trivial⟩, by omega, by omega⟩
              · refine ⟨_, false, rfl, rfl, ?_⟩
                first | refine s1 ?_ | refine F.a1 Int ?_
                refine ARg.nil (ATh.normal ?_)
                refine dzA (α := Int) 32 rfl rfl (by simp) ?_
                refine dP 10 ?_
                refine dO 1 true ?_
                refine s1 ?_
                refine ARg.nil (ATh.normal ?_)
                refine dO 11 false ?_
                first | refine s1 ?_ | refine F.c (hCl) ?_ | refine F.w (s2') ?_
                refine ARg.nil (ATh.normal ?_)
                refine dO 12 false ?_
                first | refine s1 ?_ | refine F.aL Pth ?_ (hsrc := .own rfl rfl (E_length _ _))
                refine ARg.nil (ATh.normal ?_)
                refine dP 13 ?_
                refine dN ?_
                repeat' first | refine s1 ?_ | fail
                exact ⟨k + 1, F.fit ⟨slE (by rw [hks]; simp), rfl, trivial⟩ ⟨obE (by rw [hks]), trivial⟩, by omega, by omega⟩
          · refine ⟨_, true, rfl, rfl, ?_⟩
            refine s1 ?_
            refine ARg.nil (ATh.normal ?_)
            refine ARA.any [1, 6] (by kernel_rfl) (by simp) ?_
            intro k hk
            simp only [List.mem_cons, List.not_mem_nil, or_false] at hk
            rcases hk with rfl | rfl
            · refine ⟨_, true, rfl, rfl, ?_⟩
              refine s1 ?_
              refine ARg.nil (ATh.normal ?_)
              refine dO 6 false ?_
              first | refine s1 ?_ | refine F.c (hCl) ?_ | refine F.w (s2') ?_
              refine ARg.nil (ATh.normal ?_)
              refine dO 9 false ?_
              first | refine s1 ?_ | refine F.a1 Int ?_
              refine ARg.nil (ATh.normal ?_)
              refine dzA (α := Int) 32 rfl rfl (by simp) ?_
              refine dP 10 ?_
              refine dO 11 false ?_
              first | refine s1 ?_ | refine F.c (hCl) ?_ | refine F.w (s2') ?_
              refine ARg.nil (ATh.normal ?_)
              refine dO 12 false ?_
              first | refine s1 ?_ | refine F.aL Pth ?_ (hsrc := .own rfl rfl (E_length _ _))
              refine ARg.nil (ATh.normal ?_)
              refine dP 13 ?_
              refine dN ?_
              repeat' first | refine s1 ?_ | fail
              exact ⟨k + 1, F.fit ⟨slE (by rw [hks]; simp), rfl, trivial⟩ ⟨obE (by rw [hks]), trivial⟩, by omega, by omega⟩
            · refine ⟨_, false, rfl, rfl, ?_⟩
              first | refine s1 ?_ | refine F.c (hCl) ?_ | refine F.w (s2') ?_
              refine ARg.nil (ATh.normal ?_)
              refine ARA.any [1, 9] (by kernel_rfl) (by simp) ?_
              intro k hk
              simp only [List.mem_cons, List.not_mem_nil, or_false] at hk
              rcases hk with rfl | rfl
              · refine ⟨_, true, rfl, rfl, ?_⟩
                refine s1 ?_
                refine ARg.nil (ATh.normal ?_)
                refine dO 9 false ?_
                first | refine s1 ?_ | refine F.a1 Int ?_
                refine ARg.nil (ATh.normal ?_)
                refine dzA (α := Int) 32 rfl rfl (by simp) ?_
                refine dP 10 ?_
                refine dO 11 false ?_
                first | refine s1 ?_ | refine F.c (hCl) ?_ | refine F.w (s2') ?_
                refine ARg.nil (ATh.normal ?_)
                refine dO 12 false ?_
                first | refine s1 ?_ | refine F.aL Pth ?_ (hsrc := .own rfl rfl (E_length _ _))
                refine ARg.nil (ATh.normal ?_)
                refine dP 13 ?_
                refine dN ?_
                repeat' first | refine s1 ?_ | fail
                exact ⟨k + 1, F.fit ⟨slE (by rw [hks]; simp), rfl, trivial⟩ ⟨obE (by rw [hks]), trivial⟩, by omega, by omega⟩
              · refine ⟨_, false, rfl, rfl, ?_⟩
                first | refine s1 ?_ | refine F.a1 Int ?_
                refine ARg.nil (ATh.normal ?_)
                refine dzA (α := Int) 32 rfl rfl (by simp) ?_
                refine dP 10 ?_
                refine dO 1 true ?_
                refine s1 ?_
                refine ARg.nil (ATh.normal ?_)
                refine dO 11 false ?_
                first | refine s1 ?_ | refine F.c (hCl) ?_ | refine F.w (s2') ?_
                refine ARg.nil (ATh.normal ?_)
                refine dO 12 false ?_
                first | refine s1 ?_ | refine F.aL Pth ?_ (hsrc := .own rfl rfl (E_length _ _))
                refine ARg.nil (ATh.normal ?_)
                refine dP 13 ?_
                refine dN ?_
                repeat' first | refine s1 ?_ | fail
                exact ⟨k + 1, F.fit ⟨slE (by rw [hks]; simp), rfl, trivial⟩ ⟨obE (by rw [hks]), trivial⟩, by omega, by omega⟩
        · refine ⟨_, false, rfl, rfl, ?_⟩
          first | refine s1 ?_ | refine F.c (hCl) ?_ | refine F.w (s2') ?_
          refine ARg.nil (ATh.normal ?_)
          refine ARA.any [1, 3, 8] (by kernel_rfl) (by simp) ?_
          intro k hk
          simp only [List.mem_cons, List.not_mem_nil, or_false] at hk
          rcases hk with rfl | rfl | rfl
          · refine ⟨_, true, rfl, rfl, ?_⟩
            refine s1 ?_
            refine ARg.nil (ATh.normal ?_)
            refine ARA.any [3, 8] (by kernel_rfl) (by simp) ?_
            intro k hk
            simp only [List.mem_cons, List.not_mem_nil, or_false] at hk
            rcases hk with rfl | rfl
            · refine ⟨_, true, rfl, rfl, ?_⟩
              refine s1 ?_
              refine ARg.nil (ATh.normal ?_)
              refine dO 8 true ?_
              refine s1 ?_
              refine ARg.nil (ATh.normal ?_)
              refine dO 9 false ?_
              first | refine s1 ?_ | refine F.a1 Int ?_
              refine ARg.nil (ATh.normal ?_)
              refine dzA (α := Int) 32 rfl rfl (by simp) ?_
              refine dP 10 ?_
              refine dO 11 false ?_
              first | refine s1 ?_ | refine F.c (hCl) ?_ | refine F.w (s2') ?_
              refine ARg.nil (ATh.normal ?_)
              refine dO 12 false ?_
              first | refine s1 ?_ | refine F.aL Pth ?_ (hsrc := .own rfl rfl (E_length _ _))
              refine ARg.nil (ATh.normal ?_)
              refine dP 13 ?_
              refine dN ?_
              repeat' first | refine s1 ?_ | fail
              exact ⟨k + 1, F.fit ⟨slE (by rw [hks]; simp), rfl, trivial⟩ ⟨obE (by rw [hks]), trivial⟩, by omega, by omega⟩
            · refine ⟨_, true, rfl, rfl, ?_⟩
              refine s1 ?_
              refine ARg.nil (ATh.normal ?_)
              refine ARA.any [3, 9] (by kernel_rfl) (by simp) ?_
              intro k hk
              simp only [List.mem_cons, List.not_mem_nil, or_false] at hk
              rcases hk with rfl | rfl
              · refine ⟨_, true, rfl, rfl, ?_⟩
                refine s1 ?_
                refine ARg.nil (ATh.normal ?_)
                refine dO 9 false ?_
                first | refine s1 ?_ | refine F.a1 Int ?_
                refine ARg.nil (ATh.normal ?_)
                refine dzA (α := Int) 32 rfl rfl (by simp) ?_
                refine dP 10 ?_
                refine dO 11 false ?_
                first | refine s1 ?_ | refine F.c (hCl) ?_ | refine F.w (s2') ?_
                refine ARg.nil (ATh.normal ?_)
                refine dO 12 false ?_
                first | refine s1 ?_ | refine F.aL Pth ?_ (hsrc := .own rfl rfl (E_length _ _))
                refine ARg.nil (ATh.normal ?_)
                refine dP 13 ?_
                refine dN ?_
                repeat' first | refine s1 ?_ | fail
                exact ⟨k + 1, F.fit ⟨slE (by rw [hks]; simp), rfl, trivial⟩ ⟨obE (by rw [hks]), trivial⟩, by omega, by omega⟩
              · refine ⟨_, false, rfl, rfl, ?_⟩
                first | refine s1 ?_ | refine F.a1 Int ?_
                refine ARg.nil (ATh.normal ?_)
                refine dzA (α := Int) 32 rfl rfl (by simp) ?_
                refine dO 3 true ?_
                refine s1 ?_
                refine ARg.nil (ATh.normal ?_)
                refine dP 10 ?_
                refine dO 11 false ?_
                first | refine s1 ?_ | refine F.c (hCl) ?_ | refine F.w (s2') ?_
                refine ARg.nil (ATh.normal ?_)
                refine dO 12 false ?_
                first | refine s1 ?_ | refine F.aL Pth ?_ (hsrc := .own rfl rfl (E_length _ _))
                refine ARg.nil (ATh.normal ?_)
                refine dP 13 ?_
                refine dN ?_
                repeat' first | refine s1 ?_ | fail
                exact ⟨k + 1, F.fit ⟨slE (by rw [hks]; simp), rfl, trivial⟩ ⟨obE (by rw [hks]), trivial⟩, by omega, by omega⟩
          · refine ⟨_, true, rfl, rfl, ?_⟩
            refine s1 ?_
            refine ARg.nil (ATh.normal ?_)
            refine ARA.any [1, 8] (by kernel_rfl) (by simp) ?_
            intro k hk
            simp only [List.mem_cons, List.not_mem_nil, or_false] at hk
            rcases hk with rfl | rfl
            · refine ⟨_, true, rfl, rfl, ?_⟩
              refine s1 ?_
              refine ARg.nil (ATh.normal ?_)
              refine dO 8 true ?_
              refine s1 ?_
              refine ARg.nil (ATh.normal ?_)
              refine dO 9 false ?_
              first | refine s1 ?_ | refine F.a1 Int ?_
              refine ARg.nil (ATh.normal ?_)
              refine dzA (α := Int) 32 rfl rfl (by simp) ?_
              refine dP 10 ?_
              refine dO 11 false ?_
              first | refine s1 ?_ | refine F.c (hCl) ?_ | refine F.w (s2') ?_
              refine ARg.nil (ATh.normal ?_)
              refine dO 12 false ?_
              first | refine s1 ?_ | refine F.aL Pth ?_ (hsrc := .own rfl rfl (E_length _ _))
              refine ARg.nil (ATh.normal ?_)
              refine dP 13 ?_
              refine dN ?_
              repeat' first | refine s1 ?_ | fail
              exact ⟨k + 1, F.fit ⟨slE (by rw [hks]; simp), rfl, trivial⟩ ⟨obE (by rw [hks]), trivial⟩, by omega, by omega⟩
            · refine ⟨_, true, rfl, rfl, ?_⟩
              refine s1 ?_
              refine ARg.nil (ATh.normal ?_)
              refine ARA.any [1, 9] (by kernel_rfl) (by simp) ?_
              intro k hk
              simp only [List.mem_cons, List.not_mem_nil, or_false] at hk
              rcases hk with rfl | rfl
              · refine ⟨_, true, rfl, rfl, ?_⟩
                refine s1 ?_
                refine ARg.nil (ATh.normal ?_)
                refine dO 9 false ?_
                first | refine s1 ?_ | refine F.a1 Int ?_
                refine ARg.nil (ATh.normal ?_)
                refine dzA (α := Int) 32 rfl rfl (by simp) ?_
                refine dP 10 ?_
                refine dO 11 false ?_
                first | refine s1 ?_ | refine F.c (hCl) ?_ | refine F.w (s2') ?_
                refine ARg.nil (ATh.normal ?_)
                refine dO 12 false ?_
                first | refine s1 ?_ | refine F.aL Pth ?_ (hsrc := .own rfl rfl (E_length _ _))
                refine ARg.nil (ATh.normal ?_)
                refine dP 13 ?_
                refine dN ?_
                repeat' first | refine s1 ?_ | fail
                exact ⟨k + 1, F.fit ⟨slE (by rw [hks]; simp), rfl, trivial⟩ ⟨obE (by rw [hks]), trivial⟩, by omega, by omega⟩
              · refine ⟨_, false, rfl, rfl, ?_⟩
                first | refine s1 ?_ | refine F.a1 Int ?_
                refine ARg.nil (ATh.normal ?_)
                refine dzA (α := Int) 32 rfl rfl (by simp) ?_
                refine dP 10 ?_
                refine dO 1 true ?_
                refine s1 ?_
                refine ARg.nil (ATh.normal ?_)
                refine dO 11 false ?_
                first | refine s1 ?_ | refine F.c (hCl) ?_ | refine F.w (s2') ?_
                refine ARg.nil (ATh.normal ?_)
                refine dO 12 false ?_
                first | refine s1 ?_ | refine F.aL Pth ?_ (hsrc := .own rfl rfl (E_length _ _))
                refine ARg.nil (ATh.normal ?_)
                refine dP 13 ?_
                refine dN ?_
                repeat' first | refine s1 ?_ | fail
                exact ⟨k + 1, F.fit ⟨slE (by rw [hks]; simp), rfl, trivial⟩ ⟨obE (by rw [hks]), trivial⟩, by omega, by omega⟩
          · refine ⟨_, true, rfl, rfl, ?_⟩
            refine s1 ?_
            refine ARg.nil (ATh.normal ?_)
            refine ARA.any [1, 3, 9] (by kernel_rfl) (by simp) ?_
            intro k hk
            simp only [List.mem_cons, List.not_mem_nil, or_false] at hk
            rcases hk with rfl | rfl | rfl
            · refine ⟨_, true, rfl, rfl, ?_⟩
              refine s1 ?_
              refine ARg.nil (ATh.normal ?_)
              refine ARA.any [3, 9] (by kernel_rfl) (by simp) ?_
              intro k hk
              simp only [List.mem_cons, List.not_mem_nil, or_false] at hk
              rcases hk with rfl | rfl
              · refine ⟨_, true, rfl, rfl, ?_⟩
                refine s1 ?_
                refine ARg.nil (ATh.normal ?_)
                refine dO 9 false ?_
                first | refine s1 ?_ | refine F.a1 Int ?_
                refine ARg.nil (ATh.normal ?_)
                refine dzA (α := Int) 32 rfl rfl (by simp) ?_
                refine dP 10 ?_
                refine dO 11 false ?_
                first | refine s1 ?_ | refine F.c (hCl) ?_ | refine F.w (s2') ?_
                refine ARg.nil (ATh.normal ?_)
                refine dO 12 false ?_
                first | refine s1 ?_ | refine F.aL Pth ?_ (hsrc := .own rfl rfl (E_length _ _))
                refine ARg.nil (ATh.normal ?_)
                refine dP 13 ?_
                refine dN ?_
                repeat' first | refine s1 ?_ | fail
                exact ⟨k + 1, F.fit ⟨slE (by rw [hks]; simp), rfl, trivial⟩ ⟨obE (by rw [hks]), trivial⟩, by omega, by omega⟩
              · refine ⟨_, false, rfl, rfl, ?_⟩
                first | refine s1 ?_ | refine F.a1 Int ?_
                refine ARg.nil (ATh.normal ?_)
                refine dzA (α := Int) 32 rfl rfl (by simp) ?_
                refine dO 3 true ?_
                refine s1 ?_
                refine ARg.nil (ATh.normal ?_)
                refine dP 10 ?_
                refine dO 11 false ?_
                first | refine s1 ?_ | refine F.c (hCl) ?_ | refine F.w (s2') ?_
                refine ARg.nil (ATh.normal ?_)
                refine dO 12 false ?_
                first | refine s1 ?_ | refine F.aL Pth ?_ (hsrc := .own rfl rfl (E_length _ _))
                refine ARg.nil (ATh.normal ?_)
                refine dP 13 ?_
                refine dN ?_
                repeat' first | refine s1 ?_ | fail
                exact ⟨k + 1, F.fit ⟨slE (by rw [hks]; simp), rfl, trivial⟩ ⟨obE (by rw [hks]), trivial⟩, by omega, by omega⟩
            · refine ⟨_, true, rfl, rfl, ?_⟩
              refine s1 ?_
              refine ARg.nil (ATh.normal ?_)
              refine ARA.any [1, 9] (by kernel_rfl) (by simp) ?_
              intro k hk
              simp only [List.mem_cons, List.not_mem_nil, or_false] at hk
              rcases hk with rfl | rfl
              · refine ⟨_, true, rfl, rfl, ?_⟩
                refine s1 ?_
                refine ARg.nil (ATh.normal ?_)
                refine dO 9 false ?_
                first | refine s1 ?_ | refine F.a1 Int ?_
                refine ARg.nil (ATh.normal ?_)
                refine dzA (α := Int) 32 rfl rfl (by simp) ?_
                refine dP 10 ?_
                refine dO 11 false ?_
                first | refine s1 ?_ | refine F.c (hCl) ?_ | refine F.w (s2') ?_
                refine ARg.nil (ATh.normal ?_)
                refine dO 12 false ?_
                first | refine s1 ?_ | refine F.aL Pth ?_ (hsrc := .own rfl rfl (E_length _ _))
                refine ARg.nil (ATh.normal ?_)
                refine dP 13 ?_
                refine dN ?_
                repeat' first | refine s1 ?_ | fail
                exact ⟨k + 1, F.fit ⟨slE (by rw [hks]; simp), rfl, trivial⟩ ⟨obE (by rw [hks]), trivial⟩, by omega, by omega⟩
              · refine ⟨_, false, rfl, rfl, ?_⟩
                first | refine s1 ?_ | refine F.a1 Int ?_
                refine ARg.nil (ATh.normal ?_)
                refine dzA (α := Int) 32 rfl rfl (by simp) ?_
                refine dP 10 ?_
                refine dO 1 true ?_
                refine s1 ?_
                refine ARg.nil (ATh.normal ?_)
                refine dO 11 false ?_
                first | refine s1 ?_ | refine F.c (hCl) ?_ | refine F.w (s2') ?_
                refine ARg.nil (ATh.normal ?_)
                refine dO 12 false ?_
                first | refine s1 ?_ | refine F.aL Pth ?_ (hsrc := .own rfl rfl (E_length _ _))
                refine ARg.nil (ATh.normal ?_)
                refine dP 13 ?_
                refine dN ?_
                repeat' first | refine s1 ?_ | fail
                exact ⟨k + 1, F.fit ⟨slE (by rw [hks]; simp), rfl, trivial⟩ ⟨obE (by rw [hks]), trivial⟩, by omega, by omega⟩
            · refine ⟨_, false, rfl, rfl, ?_⟩
              first | refine s1 ?_ | refine F.a1 Int ?_
              refine ARg.nil (ATh.normal ?_)
              refine dzA (α := Int) 32 rfl rfl (by simp) ?_
              refine ARA.any [1, 3] (by kernel_rfl) (by simp) ?_
              intro k hk
              simp only [List.mem_cons, List.not_mem_nil, or_false] at hk
              rcases hk with rfl | rfl
              · refine ⟨_, true, rfl, rfl, ?_⟩
                refine s1 ?_
                refine ARg.nil (ATh.normal ?_)
                refine dO 3 true ?_
                refine s1 ?_
                refine ARg.nil (ATh.normal ?_)
                refine dP 10 ?_
                refine dO 11 false ?_
                first | refine s1 ?_ | refine F.c (hCl) ?_ | refine F.w (s2') ?_
                refine ARg.nil (ATh.normal ?_)
                refine dO 12 false ?_
                first | refine s1 ?_ | refine F.aL Pth ?_ (hsrc := .own rfl rfl (E_length _ _))
                refine ARg.nil (ATh.normal ?_)
                refine dP 13 ?_
                refine dN ?_
                repeat' first | refine s1 ?_ | fail
                exact ⟨k + 1, F.fit ⟨slE (by rw [hks]; simp), rfl, trivial⟩ ⟨obE (by rw [hks]), trivial⟩, by omega, by omega⟩
              · refine ⟨_, true, rfl, rfl, ?_⟩
                refine s1 ?_
                refine ARg.nil (ATh.normal ?_)
                refine dP 10 ?_
                refine dO 1 true ?_
                refine s1 ?_
                refine ARg.nil (ATh.normal ?_)
                refine dO 11 false ?_
                first | refine s1 ?_ | refine F.c (hCl) ?_ | refine F.w (s2') ?_
                refine ARg.nil (ATh.normal ?_)
                refine dO 12 false ?_
                first | refine s1 ?_ | refine F.aL Pth ?_ (hsrc := .own rfl rfl (E_length _ _))
                refine ARg.nil (ATh.normal ?_)
                refine dP 13 ?_
                refine dN ?_
                repeat' first | refine s1 ?_ | fail
                exact ⟨k + 1, F.fit ⟨slE (by rw [hks]; simp), rfl, trivial⟩ ⟨obE (by rw [hks]), trivial⟩, by omega, by omega⟩
        · refine ⟨_, true, rfl, rfl, ?_⟩
          refine s1 ?_
          refine ARg.nil (ATh.normal ?_)
          refine ARA.any [1, 3, 6] (by kernel_rfl) (by simp) ?_
          intro k hk
          simp only [List.mem_cons, List.not_mem_nil, or_false] at hk
          rcases hk with rfl | rfl | rfl
          · refine ⟨_, true, rfl, rfl, ?_⟩
            refine s1 ?_
            refine ARg.nil (ATh.normal ?_)
            refine ARA.any [3, 6] (by kernel_rfl) (by simp) ?_
            intro k hk
            simp only [List.mem_cons, List.not_mem_nil, or_false] at hk
            rcases hk with rfl | rfl
            · refine ⟨_, true, rfl, rfl, ?_⟩
              refine s1 ?_
              refine ARg.nil (ATh.normal ?_)
              refine dO 6 false ?_
              first | refine s1 ?_ | refine F.c (hCl) ?_ | refine F.w (s2') ?_
              refine ARg.nil (ATh.normal ?_)
              refine dO 9 false ?_
              first | refine s1 ?_ | refine F.a1 Int ?_
              refine ARg.nil (ATh.normal ?_)
              refine dzA (α := Int) 32 rfl rfl (by simp) ?_
              refine dP 10 ?_
              refine dO 11 false ?_
              first | refine s1 ?_ | refine F.c (hCl) ?_ | refine F.w (s2') ?_
              refine ARg.nil (ATh.normal ?_)
              refine dO 12 false ?_
              first | refine s1 ?_ | refine F.aL Pth ?_ (hsrc := .own rfl rfl (E_length _ _))
              refine ARg.nil (ATh.normal ?_)
              refine dP 13 ?_
              refine dN ?_
              repeat' first | refine s1 ?_ | fail
              exact ⟨k + 1, F.fit ⟨slE (by rw [hks]; simp), rfl, trivial⟩ ⟨obE (by rw [hks]), trivial⟩, by omega, by omega⟩
            · refine ⟨_, false, rfl, rfl, ?_⟩
              first | refine s1 ?_ | refine F.c (hCl) ?_ | refine F.w (s2') ?_
              refine ARg.nil (ATh.normal ?_)
              refine ARA.any [3, 9] (by kernel_rfl) (by simp) ?_
              intro k hk
              simp only [List.mem_cons, List.not_mem_nil, or_false] at hk
              rcases hk with rfl | rfl
              · refine ⟨_, true, rfl, rfl, ?_⟩
                refine s1 ?_
                refine ARg.nil (ATh.normal ?_)
                refine dO 9 false ?_
                first | refine s1 ?_ | refine F.a1 Int ?_
                refine ARg.nil (ATh.normal ?_)
                refine dzA (α := Int) 32 rfl rfl (by simp) ?_
                refine dP 10 ?_
                refine dO 11 false ?_
                first | refine s1 ?_ | refine F.c (hCl) ?_ | refine F.w (s2') ?_
                refine ARg.nil (ATh.normal ?_)
                refine dO 12 false ?_
                first | refine s1 ?_ | refine F.aL Pth ?_ (hsrc := .own rfl rfl (E_length _ _))
                refine ARg.nil (ATh.normal ?_)
                refine dP 13 ?_
                refine dN ?_
                repeat' first | refine s1 ?_ | fail
                exact ⟨k + 1, F.fit ⟨slE (by rw [hks]; simp), rfl, trivial⟩ ⟨obE (by rw [hks]), trivial⟩, by omega, by omega⟩
              · refine ⟨_, false, rfl, rfl, ?_⟩
                first | refine s1 ?_ | refine F.a1 Int ?_
                refine ARg.nil (ATh.normal ?_)
                refine dzA (α := Int) 32 rfl rfl (by simp) ?_
                refine dO 3 true ?_
                refine s1 ?_
                refine ARg.nil (ATh.normal ?_)
                refine dP 10 ?_
                refine dO 11 false ?_
                first | refine s1 ?_ | refine F.c (hCl) ?_ | refine F.w (s2') ?_
                refine ARg.nil (ATh.normal ?_)
                refine dO 12 false ?_
                first | refine s1 ?_ | refine F.aL Pth ?_ (hsrc := .own rfl rfl (E_length _ _))
                refine ARg.nil (ATh.normal ?_)
                refine dP 13 ?_
                refine dN ?_
                repeat' first | refine s1 ?_ | fail
                exact ⟨k + 1, F.fit ⟨slE (by rw [hks]; simp), rfl, trivial⟩ ⟨obE (by rw [hks]), trivial⟩, by omega, by omega⟩
          · refine ⟨_, true, rfl, rfl, ?_⟩
            refine s1 ?_
            refine ARg.nil (ATh.normal ?_)
            refine ARA.any [1, 6] (by kernel_rfl) (by simp) ?_
            intro k hk
            simp only [List.mem_cons, List.not_mem_nil, or_false] at hk
            rcases hk with rfl | rfl
            · refine ⟨_, true, rfl, rfl, ?_⟩
              refine s1 ?_
              refine ARg.nil (ATh.normal ?_)
              refine dO 6 false ?_
              first | refine s1 ?_ | refine F.c (hCl) ?_ | refine F.w (s2') ?_
              refine ARg.nil (ATh.normal ?_)
              refine dO 9 false ?_
              first | refine s1 ?_ | refine F.a1 Int ?_
              refine ARg.nil (ATh.normal ?_)
              refine dzA (α := Int) 32 rfl rfl (by simp) ?_
              refine dP 10 ?_
              refine dO 11 false ?_
              first | refine s1 ?_ | refine F.c (hCl) ?_ | refine F.w (s2') ?_
              refine ARg.nil (ATh.normal ?_)
              refine dO 12 false ?_
              first | refine s1 ?_ | refine F.aL Pth ?_ (hsrc := .own rfl rfl (E_length _ _))
              refine ARg.nil (ATh.normal ?_)
              refine dP 13 ?_
              refine dN ?_
              repeat' first | refine s1 ?_ | fail
              exact ⟨k + 1, F.fit ⟨slE (by rw [hks]; simp), rfl, trivial⟩ ⟨obE (by rw [hks]), trivial⟩, by omega, by omega⟩
            · refine ⟨_, false, rfl, rfl, ?_⟩
              first | refine s1 ?_ | refine F.c (hCl) ?_ | refine F.w (s2') ?_
              refine ARg.nil (ATh.normal ?_)
              refine ARA.any [1, 9] (by kernel_rfl) (by simp) ?_
              intro k hk
              simp only [List.mem_cons, List.not_mem_nil, or_false] at hk
              rcases hk with rfl | rfl
              · refine ⟨_, true, rfl, rfl, ?_⟩
                refine s1 ?_
                refine ARg.nil (ATh.normal ?_)
                refine dO 9 false ?_
                first | refine s1 ?_ | refine F.a1 Int ?_
                refine ARg.nil (ATh.normal ?_)
                refine dzA (α := Int) 32 rfl rfl (by simp) ?_
                refine dP 10 ?_
                refine dO 11 false ?_
                first | refine s1 ?_ | refine F.c (hCl) ?_ | refine F.w (s2') ?_
                refine ARg.nil (ATh.normal ?_)
                refine dO 12 false ?_
                first | refine s1 ?_ | refine F.aL Pth ?_ (hsrc := .own rfl rfl (E_length _ _))
                refine ARg.nil (ATh.normal ?_)
                refine dP 13 ?_
                refine dN ?_
                repeat' first | refine s1 ?_ | fail
                exact ⟨k + 1, F.fit ⟨slE (by rw [hks]; simp), rfl, trivial⟩ ⟨obE (by rw [hks]), trivial⟩, by omega, by omega⟩
              · refine ⟨_, false, rfl, rfl, ?_⟩
                first | refine s1 ?_ | refine F.a1 Int ?_
                refine ARg.nil (ATh.normal ?_)
                refine dzA (α := Int) 32 rfl rfl (by simp) ?_
                refine dP 10 ?_
                refine dO 1 true ?_
                refine s1 ?_
                refine ARg.nil (ATh.normal ?_)
                refine dO 11 false ?_
                first | refine s1 ?_ | refine F.c (hCl) ?_ | refine F.w (s2') ?_
                refine ARg.nil (ATh.normal ?_)
                refine dO 12 false ?_
                first | refine s1 ?_ | refine F.aL Pth ?_ (hsrc := .own rfl rfl (E_length _ _))
                refine ARg.nil (ATh.normal ?_)
                refine dP 13 ?_
                refine dN ?_
                repeat' first | refine s1 ?_ | fail
                exact ⟨k + 1, F.fit ⟨slE (by rw [hks]; simp), rfl, trivial⟩ ⟨obE (by rw [hks]), trivial⟩, by omega, by omega⟩
          · refine ⟨_, false, rfl, rfl, ?_⟩
            first | refine s1 ?_ | refine F.c (hCl) ?_ | refine F.w (s2') ?_
            refine ARg.nil (ATh.normal ?_)
            refine ARA.any [1, 3, 9] (by kernel_rfl) (by simp) ?_
            intro k hk
            simp only [List.mem_cons, List.not_mem_nil, or_false] at hk
            rcases hk with rfl | rfl | rfl
            · refine ⟨_, true, rfl, rfl, ?_⟩
              refine s1 ?_
              refine ARg.nil (ATh.normal ?_)
              refine ARA.any [3, 9] (by kernel_rfl) (by simp) ?_
              intro k hk
              simp only [List.mem_cons, List.not_mem_nil, or_false] at hk
              rcases hk with rfl | rfl
              · refine ⟨_, true, rfl, rfl, ?_⟩
                refine s1 ?_
                refine ARg.nil (ATh.normal ?_)
                refine dO 9 false ?_
                first | refine s1 ?_ | refine F.a1 Int ?_
                refine ARg.nil (ATh.normal ?_)
                refine dzA (α := Int) 32 rfl rfl (by simp) ?_
                refine dP 10 ?_
                refine dO 11 false ?_
                first | refine s1 ?_ | refine F.c (hCl) ?_ | refine F.w (s2') ?_
                refine ARg.nil (ATh.normal ?_)
                refine dO 12 false ?_
                first | refine s1 ?_ | refine F.aL Pth ?_ (hsrc := .own rfl rfl (E_length _ _))
                refine ARg.nil (ATh.normal ?_)
                refine dP 13 ?_
                refine dN ?_
                repeat' first | refine s1 ?_ | fail
                exact ⟨k + 1, F.fit ⟨slE (by rw [hks]; simp), rfl, trivial⟩ ⟨obE (by rw [hks]), trivial⟩, by omega, by omega⟩
              · refine ⟨_, false, rfl, rfl, ?_⟩
                first | refine s1 ?_ | refine F.a1 Int ?_
                refine ARg.nil (ATh.normal ?_)
                refine dzA (α := Int) 32 rfl rfl (by simp) ?_
                refine dO 3 true ?_
                refine s1 ?_
                refine ARg.nil (ATh.normal ?_)
                refine dP 10 ?_
                refine dO 11 false ?_
                first | refine s1 ?_ | refine F.c (hCl) ?_ | refine F.w (s2') ?_
                refine ARg.nil (ATh.normal ?_)
                refine dO 12 false ?_
                first | refine s1 ?_ | refine F.aL Pth ?_ (hsrc := .own rfl rfl (E_length _ _))
                refine ARg.nil (ATh.normal ?_)
                refine dP 13 ?_
                refine dN ?_
                repeat' first | refine s1 ?_ | fail
                exact ⟨k + 1, F.fit ⟨slE (by rw [hks]; simp), rfl, trivial⟩ ⟨obE (by rw [hks]), trivial⟩, by omega, by omega⟩
            · refine ⟨_, true, rfl, rfl, ?_⟩
              refine s1 ?_
              refine ARg.nil (ATh.normal ?_)
              refine ARA.any [1, 9] (by kernel_rfl) (by simp) ?_
              intro k hk
              simp only [List.mem_cons, List.not_mem_nil, or_false] at hk
              rcases hk with rfl | rfl
              · refine ⟨_, true, rfl, rfl, ?_⟩
                refine s1 ?_
                refine ARg.nil (ATh.normal ?_)
                refine dO 9 false ?_
                first | refine s1 ?_ | refine F.a1 Int ?_
                refine ARg.nil (ATh.normal ?_)
                refine dzA (α := Int) 32 rfl rfl (by simp) ?_
                refine dP 10 ?_
                refine dO 11 false ?_
                first | refine s1 ?_ | refine F.c (hCl) ?_ | refine F.w (s2') ?_
                refine ARg.nil (ATh.normal ?_)
                refine dO 12 false ?_
                first | refine s1 ?_ | refine F.aL Pth ?_ (hsrc := .own rfl rfl (E_length _ _))
                refine ARg.nil (ATh.normal ?_)
                refine dP 13 ?_
                refine dN ?_
                repeat' first | refine s1 ?_ | fail
                exact ⟨k + 1, F.fit ⟨slE (by rw [hks]; simp), rfl, trivial⟩ ⟨obE (by rw [hks]), trivial⟩, by omega, by omega⟩
              · refine ⟨_, false, rfl, rfl, ?_⟩
                first | refine s1 ?_ | refine F.a1 Int ?_
                refine ARg.nil (ATh.normal ?_)
                refine dzA (α := Int) 32 rfl rfl (by simp) ?_
                refine dP 10 ?_
                refine dO 1 true ?_
                refine s1 ?_
                refine ARg.nil (ATh.normal ?_)
                refine dO 11 false ?_
                first | refine s1 ?_ | refine F.c (hCl) ?_ | refine F.w (s2') ?_
                refine ARg.nil (ATh.normal ?_)
                refine dO 12 false ?_
                first | refine s1 ?_ | refine F.aL Pth ?_ (hsrc := .own rfl rfl (E_length _ _))
                refine ARg.nil (ATh.normal ?_)
                refine dP 13 ?_
                refine dN ?_
                repeat' first | refine s1 ?_ | fail
                exact ⟨k + 1, F.fit ⟨slE (by rw [hks]; simp), rfl, trivial⟩ ⟨obE (by rw [hks]), trivial⟩, by omega, by omega⟩
            · refine ⟨_, false, rfl, rfl, ?_⟩
              first | refine s1 ?_ | refine F.a1 Int ?_
              refine ARg.nil (ATh.normal ?_)
              refine dzA (α := Int) 32 rfl rfl (by simp) ?_
              refine ARA.any [1, 3] (by kernel_rfl) (by simp) ?_
              intro k hk
              simp only [List.mem_cons, List.not_mem_nil, or_false] at hk
              rcases hk with rfl | rfl
              · refine ⟨_, true, rfl, rfl, ?_⟩
                refine s1 ?_
                refine ARg.nil (ATh.normal ?_)
                refine dO 3 true ?_
                refine s1 ?_
                refine ARg.nil (ATh.normal ?_)
                refine dP 10 ?_
                refine dO 11 false ?_
                first | refine s1 ?_ | refine F.c (hCl) ?_ | refine F.w (s2') ?_
                refine ARg.nil (ATh.normal ?_)
                refine dO 12 false ?_
                first | refine s1 ?_ | refine F.aL Pth ?_ (hsrc := .own rfl rfl (E_length _ _))
                refine ARg.nil (ATh.normal ?_)
                refine dP 13 ?_
                refine dN ?_
                repeat' first | refine s1 ?_ | fail
                exact ⟨k + 1, F.fit ⟨slE (by rw [hks]; simp), rfl, trivial⟩ ⟨obE (by rw [hks]), trivial⟩, by omega, by omega⟩
              · refine ⟨_, true, rfl, rfl, ?_⟩
                refine s1 ?_
                refine ARg.nil (ATh.normal ?_)
                refine dP 10 ?_
                refine dO 1 true ?_
                refine s1 ?_
                refine ARg.nil (ATh.normal ?_)
                refine dO 11 false ?_
                first | refine s1 ?_ | refine F.c (hCl) ?_ | refine F.w (s2') ?_
                refine ARg.nil (ATh.normal ?_)
                refine dO 12 false ?_
                first | refine s1 ?_ | refine F.aL Pth ?_ (hsrc := .own rfl rfl (E_length _ _))
                refine ARg.nil (ATh.normal ?_)
                refine dP 13 ?_
                refine dN ?_
                repeat' first | refine s1 ?_ | fail
                exact ⟨k + 1, F.fit ⟨slE (by rw [hks]; simp), rfl, trivial⟩ ⟨obE (by rw [hks]), trivial⟩, by omega, by omega⟩
      · refine ⟨_, true, rfl, rfl, ?_⟩
        refine s1 ?_
        refine ARg.nil (ATh.normal ?_)
        refine ARA.any [1, 3, 5] (by kernel_rfl) (by simp) ?_
        intro k hk
        simp only [List.mem_cons, List.not_mem_nil, or_false] at hk
        rcases hk with rfl | rfl | rfl
        · refine ⟨_, true, rfl, rfl, ?_⟩
          refine s1 ?_
          refine ARg.nil (ATh.normal ?_)
          refine ARA.any [3, 5] (by kernel_rfl) (by simp) ?_
          intro k hk
          simp only [List.mem_cons, List.not_mem_nil, or_false] at hk
          rcases hk with rfl | rfl
          · refine ⟨_, true, rfl, rfl, ?_⟩
            refine s1 ?_
            refine ARg.nil (ATh.normal ?_)
            refine dO 5 true ?_
            refine s1 ?_
            refine ARg.nil (ATh.normal ?_)
            refine dO 6 false ?_
            first | refine s1 ?_ | refine F.c (hCl) ?_ | refine F.w (s2') ?_
            refine ARg.nil (ATh.normal ?_)
            refine dO 9 false ?_
            first | refine s1 ?_ | refine F.a1 Int ?_
            refine ARg.nil (ATh.normal ?_)
            refine dzA (α := Int) 32 rfl rfl (by simp) ?_
            refine dP 10 ?_
            refine dO 11 false ?_
            first | refine s1 ?_ | refine F.c (hCl) ?_ | refine F.w (s2') ?_
            refine ARg.nil (ATh.normal ?_)
            refine dO 12 false ?_
            first | refine s1 ?_ | refine F.aL Pth ?_ (hsrc := .own rfl rfl (E_length _ _))
            refine ARg.nil (ATh.normal ?_)
            refine dP 13 ?_
            refine dN ?_
            repeat' first | refine s1 ?_ | fail
            exact ⟨k + 1, F.fit ⟨slE (by rw [hks]; simp), rfl, trivial⟩ ⟨obE (by rw [hks]), trivial⟩, by omega, by omega⟩
          · refine ⟨_, true, rfl, rfl, ?_⟩
            refine s1 ?_
            refine ARg.nil (ATh.normal ?_)
            refine ARA.any [3, 6] (by kernel_rfl) (by simp) ?_
            intro k hk
            simp only [List.mem_cons, List.not_mem_nil, or_false] at hk
            rcases hk with rfl | rfl
            · refine ⟨_, true, rfl, rfl, ?_⟩
              refine s1 ?_
              refine ARg.nil (ATh.normal ?_)
              refine dO 6 false ?_
              first | refine s1 ?_ | refine F.c (hCl) ?_ | refine F.w (s2') ?_
              refine ARg.nil (ATh.normal ?_)
              refine dO 9 false ?_
              first | refine s1 ?_ | refine F.a1 Int ?_
              refine ARg.nil (ATh.normal ?_)
              refine dzA (α := Int) 32 rfl rfl (by simp) ?_
              refine dP 10 ?_
              refine dO 11 false ?_
              first | refine s1 ?_ | refine F.c (hCl) ?_ | refine F.w (s2') ?_
              refine ARg.nil (ATh.normal ?_)
              refine dO 12 false ?_
              first | refine s1 ?_ | refine F.aL Pth ?_ (hsrc := .own rfl rfl (E_length _ _))
              refine ARg.nil (ATh.normal ?_)
              refine dP 13 ?_
              refine dN ?_
              repeat' first | refine s1 ?_ | fail
              exact ⟨k + 1, F.fit ⟨slE (by rw [hks]; simp), rfl, trivial⟩ ⟨obE (by rw [hks]), trivial⟩, by omega, by omega⟩
            · refine ⟨_, false, rfl, rfl, ?_⟩
              first | refine s1 ?_ | refine F.c (hCl) ?_ | refine F.w (s2') ?_
              refine ARg.nil (ATh.normal ?_)
              refine ARA.any [3, 9] (by kernel_rfl) (by simp) ?_
              intro k hk
              simp only [List.mem_cons, List.not_mem_nil, or_false] at hk
              rcases hk with rfl | rfl
              · refine ⟨_, true, rfl, rfl, ?_⟩
                refine s1 ?_
                refine ARg.nil (ATh.normal ?_)
                refine dO 9 false ?_
                first | refine s1 ?_ | refine F.a1 Int ?_
                refine ARg.nil (ATh.normal ?_)
                refine dzA (α := Int) 32 rfl rfl (by simp) ?_
                refine dP 10 ?_
                refine dO 11 false ?_
                first | refine s1 ?_ | refine F.c (hCl) ?_ | refine F.w (s2') ?_
                refine ARg.nil (ATh.normal ?_)
                refine dO 12 false ?_
                first | refine s1 ?_ | refine F.aL Pth ?_ (hsrc := .own rfl rfl (E_length _ _))
                refine ARg.nil (ATh.normal ?_)
                refine dP 13 ?_
                refine dN ?_
                repeat' first | refine s1 ?_ | fail
                exact ⟨k + 1, F.fit ⟨slE (by rw [hks]; simp), rfl, trivial⟩ ⟨obE (by rw [hks]), trivial⟩, by omega, by omega⟩
              · refine ⟨_, false, rfl, rfl, ?_⟩
                first | refine s1 ?_ | refine F.a1 Int ?_
                refine ARg.nil (ATh.normal ?_)
                refine dzA (α := Int) 32 rfl rfl (by simp) ?_
                refine dO 3 true ?_
                refine s1 ?_
                refine ARg.nil (ATh.normal ?_)
                refine dP 10 ?_
                refine dO 11 false ?_
                first | refine s1 ?_ | refine F.c (hCl) ?_ | refine F.w (s2') ?_
                refine ARg.nil (ATh.normal ?_)
                refine dO 12 false ?_
                first | refine s1 ?_ | refine F.aL Pth ?_ (hsrc := .own rfl rfl (E_length _ _))
                refine ARg.nil (ATh.normal ?_)
                refine dP 13 ?_
                refine dN ?_
                repeat' first | refine s1 ?_ | fail
                exact ⟨k + 1, F.fit ⟨slE (by rw [hks]; simp), rfl, trivial⟩ ⟨obE (by rw [hks]), trivial⟩, by omega, by omega⟩
        · refine ⟨_, true, rfl, rfl, ?_⟩
          refine s1 ?_
          refine ARg.nil (ATh.normal ?_)
          refine ARA.any [1, 5] (by kernel_rfl) (by simp) ?_
          intro k hk
          simp only [List.mem_cons, List.not_mem_nil, or_false] at hk
          rcases hk with rfl | rfl
          · refine ⟨_, true, rfl, rfl, ?_⟩
            refine s1 ?_
            refine ARg.nil (ATh.normal ?_)
            refine dO 5 true ?_
            refine s1 ?_
            refine ARg.nil (ATh.normal ?_)
            refine dO 6 false ?_
            first | refine s1 ?_ | refine F.c (hCl) ?_ | refine F.w (s2') ?_
            refine ARg.nil (ATh.normal ?_)
            refine dO 9 false ?_
            first | refine s1 ?_ | refine F.a1 Int ?_
            refine ARg.nil (ATh.normal ?_)
            refine dzA (α := Int) 32 rfl rfl (by simp) ?_
            refine dP 10 ?_
            refine dO 11 false ?_
            first | refine s1 ?_ | refine F.c (hCl) ?_ | refine F.w (s2') ?_
            refine ARg.nil (ATh.normal ?_)
            refine dO 12 false ?_
            first | refine s1 ?_ | refine F.aL Pth ?_ (hsrc := .own rfl rfl (E_length _ _))
            refine ARg.nil (ATh.normal ?_)
            refine dP 13 ?_
            refine dN ?_
            repeat' first | refine s1 ?_ | fail
            exact ⟨k + 1, F.fit ⟨slE (by rw [hks]; simp), rfl, trivial⟩ ⟨obE (by rw [hks]), trivial⟩, by omega, by omega⟩
          · refine ⟨_, true, rfl, rfl, ?_⟩
            refine s1 ?_
            refine ARg.nil (ATh.normal ?_)
            refine ARA.any [1, 6] (by kernel_rfl) (by simp) ?_
            intro k hk
            simp only [List.mem_cons, List.not_mem_nil, or_false] at hk
            rcases hk with rfl | rfl
            · refine ⟨_, true, rfl, rfl, ?_⟩
              refine s1 ?_
              refine ARg.nil (ATh.normal ?_)
              refine dO 6 false ?_
              first | refine s1 ?_ | refine F.c (hCl) ?_ | refine F.w (s2') ?_
              refine ARg.nil (ATh.normal ?_)
              refine dO 9 false ?_
              first | refine s1 ?_ | refine F.a1 Int ?_
              refine ARg.nil (ATh.normal ?_)
              refine dzA (α := Int) 32 rfl rfl (by simp) ?_
              refine dP 10 ?_
              refine dO 11 false ?_
              first | refine s1 ?_ | refine F.c (hCl) ?_ | refine F.w (s2') ?_
              refine ARg.nil (ATh.normal ?_)
              refine dO 12 false ?_
              first | refine s1 ?_ | refine F.aL Pth ?_ (hsrc := .own rfl rfl (E_length _ _))
              refine ARg.nil (ATh.normal ?_)
              refine dP 13 ?_
              refine dN ?_
              repeat' first | refine s1 ?_ | fail
              exact ⟨k + 1, F.fit ⟨slE (by rw [hks]; simp), rfl, trivial⟩ ⟨obE (by rw [hks]), trivial⟩, by omega, by omega⟩
            · refine ⟨_, false, rfl, rfl, ?_⟩
              first | refine s1 ?_ | refine F.c (hCl) ?_ | refine F.w (s2') ?_
              refine ARg.nil (ATh.normal ?_)
              refine ARA.any [1, 9] (by kernel_rfl) (by simp) ?_
              intro k hk
              simp only [List.mem_cons, List.not_mem_nil, or_false] at hk
              rcases hk with rfl | rfl
              · refine ⟨_, true, rfl, rfl, ?_⟩
                refine s1 ?_
                refine ARg.nil (ATh.normal ?_)
                refine dO 9 false ?_
                first | refine s1 ?_ | refine F.a1 Int ?_
                refine ARg.nil (ATh.normal ?_)
                refine dzA (α := Int) 32 rfl rfl (by simp) ?_
                refine dP 10 ?_
                refine dO 11 false ?_
                first | refine s1 ?_ | refine F.c (hCl) ?_ | refine F.w (s2') ?_
                refine ARg.nil (ATh.normal ?_)
                refine dO 12 false ?_
                first | refine s1 ?_ | refine F.aL Pth ?_ (hsrc := .own rfl rfl (E_length _ _))
                refine ARg.nil (ATh.normal ?_)
                refine dP 13 ?_
                refine dN ?_
                repeat' first | refine s1 ?_ | fail
                exact ⟨k + 1, F.fit ⟨slE (by rw [hks]; simp), rfl, trivial⟩ ⟨obE (by rw [hks]), trivial⟩, by omega, by omega⟩
              · refine ⟨_, false, rfl, rfl, ?_⟩
                first | refine s1 ?_ | refine F.a1 Int ?_
                refine ARg.nil (ATh.normal ?_)
                refine dzA (α := Int) 32 rfl rfl (by simp) ?_
                refine dP 10 ?_
                refine dO 1 true ?_
                refine s1 ?_
                refine ARg.nil (ATh.normal ?_)
                refine dO 11 false ?_
                first | refine s1 ?_ | refine F.c (hCl) ?_ | refine F.w (s2') ?_
                refine ARg.nil (ATh.normal ?_)
                refine dO 12 false ?_
                first | refine s1 ?_ | refine F.aL Pth ?_ (hsrc := .own rfl rfl (E_length _ _))
                refine ARg.nil (ATh.normal ?_)
                refine dP 13 ?_
                refine dN ?_
                repeat' first | refine s1 ?_ | fail
                exact ⟨k + 1, F.fit ⟨slE (by rw [hks]; simp), rfl, trivial⟩ ⟨obE (by rw [hks]), trivial⟩, by omega, by omega⟩
        · refine ⟨_, true, rfl, rfl, ?_⟩
          refine s1 ?_
          refine ARg.nil (ATh.normal ?_)
          refine ARA.any [1, 3, 6] (by kernel_rfl) (by simp) ?_
          intro k hk
          simp only [List.mem_cons, List.not_mem_nil, or_false] at hk
          rcases hk with rfl | rfl | rfl
          · refine ⟨_, true, rfl, rfl, ?_⟩
            refine s1 ?_
            refine ARg.nil (ATh.normal ?_)
            refine ARA.any [3, 6] (by kernel_rfl) (by simp) ?_
            intro k hk
            simp only [List.mem_cons, List.not_mem_nil, or_false] at hk
            rcases hk with rfl | rfl
            · refine ⟨_, true, rfl, rfl, ?_⟩
              refine s1 ?_
              refine ARg.nil (ATh.normal ?_)
              refine dO 6 false ?_
              first | refine s1 ?_ | refine F.c (hCl) ?_ | refine F.w (s2') ?_
              refine ARg.nil (ATh.normal ?_)
              refine dO 9 false ?_
              first | refine s1 ?_ | refine F.a1 Int ?_
              refine ARg.nil (ATh.normal ?_)
              refine dzA (α := Int) 32 rfl rfl (by simp) ?_
              refine dP 10 ?_
              refine dO 11 false ?_
              first | refine s1 ?_ | refine F.c (hCl) ?_ | refine F.w (s2') ?_
              refine ARg.nil (ATh.normal ?_)
              refine dO 12 false ?_
              first | refine s1 ?_ | refine F.aL Pth ?_ (hsrc := .own rfl rfl (E_length _ _))
              refine ARg.nil (ATh.normal ?_)
              refine dP 13 ?_
              refine dN ?_
              repeat' first | refine s1 ?_ | fail
              exact ⟨k + 1, F.fit ⟨slE (by rw [hks]; simp), rfl, trivial⟩ ⟨obE (by rw [hks]), trivial⟩, by omega, by omega⟩
            · refine ⟨_, false, rfl, rfl, ?_⟩
              first | refine s1 ?_ | refine F.c (hCl) ?_ | refine F.w (s2') ?_
              refine ARg.nil (ATh.normal ?_)
              refine ARA.any [3, 9] (by kernel_rfl) (by simp) ?_
              intro k hk
              simp only [List.mem_cons, List.not_mem_nil, or_false] at hk
              rcases hk with rfl | rfl
              · refine ⟨_, true, rfl, rfl, ?_⟩
                refine s1 ?_
                refine ARg.nil (ATh.normal ?_)
                refine dO 9 false ?_
                first | refine s1 ?_ | refine F.a1 Int ?_
                refine ARg.nil (ATh.normal ?_)
                refine dzA (α := Int) 32 rfl rfl (by simp) ?_
                refine dP 10 ?_
                refine dO 11 false ?_
                first | refine s1 ?_ | refine F.c (hCl) ?_ | refine F.w (s2') ?_
                refine ARg.nil (ATh.normal ?_)
                refine dO 12 false ?_
                first | refine s1 ?_ | refine F.aL Pth ?_ (hsrc := .own rfl rfl (E_length _ _))
                refine ARg.nil (ATh.normal ?_)
                refine dP 13 ?_
                refine dN ?_
                repeat' first | refine s1 ?_ | fail
                exact ⟨k + 1, F.fit ⟨slE (by rw [hks]; simp), rfl, trivial⟩ ⟨obE (by rw [hks]), trivial⟩, by omega, by omega⟩
              · refine ⟨_, false, rfl, rfl, ?_⟩
                first | refine s1 ?_ | refine F.a1 Int ?_
                refine ARg.nil (ATh.normal ?_)
                refine dzA (α := Int) 32 rfl rfl (by simp) ?_
                refine dO 3 true ?_
                refine s1 ?_
                refine ARg.nil (ATh.normal ?_)
                refine dP 10 ?_
                refine dO 11 false ?_
                first | refine s1 ?_ | refine F.c (hCl) ?_ | refine F.w (s2') ?_
                refine ARg.nil (ATh.normal ?_)
                refine dO 12 false ?_
                first | refine s1 ?_ | refine F.aL Pth ?_ (hsrc := .own rfl rfl (E_length _ _))
                refine ARg.nil (ATh.normal ?_)
                refine dP 13 ?_
                refine dN ?_
                repeat' first | refine s1 ?_ | fail
                exact ⟨k + 1, F.fit ⟨slE (by rw [hks]; simp), rfl, trivial⟩ ⟨obE (by rw [hks]), trivial⟩, by omega, by omega⟩
          · refine ⟨_, true, rfl, rfl, ?_⟩
            refine s1 ?_
            refine ARg.nil (ATh.normal ?_)
            refine ARA.any [1, 6] (by kernel_rfl) (by simp) ?_
            intro k hk
            simp only [List.mem_cons, List.not_mem_nil, or_false] at hk
            rcases hk with rfl | rfl
            · refine ⟨_, true, rfl, rfl, ?_⟩
              refine s1 ?_
              refine ARg.nil (ATh.normal ?_)
              refine dO 6 false ?_
              first | refine s1 ?_ | refine F.c (hCl) ?_ | refine F.w (s2') ?_
              refine ARg.nil (ATh.normal ?_)
              refine dO 9 false ?_
              first | refine s1 ?_ | refine F.a1 Int ?_
              refine ARg.nil (ATh.normal ?_)
              refine dzA (α := Int) 32 rfl rfl (by simp) ?_
              refine dP 10 ?_
              refine dO 11 false ?_
              first | refine s1 ?_ | refine F.c (hCl) ?_ | refine F.w (s2') ?_
              refine ARg.nil (ATh.normal ?_)
              refine dO 12 false ?_
              first | refine s1 ?_ | refine F.aL Pth ?_ (hsrc := .own rfl rfl (E_length _ _))
              refine ARg.nil (ATh.normal ?_)
              refine dP 13 ?_
              refine dN ?_
              repeat' first | refine s1 ?_ | fail
              exact ⟨k + 1, F.fit ⟨slE (by rw [hks]; simp), rfl, trivial⟩ ⟨obE (by rw [hks]), trivial⟩, by omega, by omega⟩
            · refine ⟨_, false, rfl, rfl, ?_⟩
              first | refine s1 ?_ | refine F.c (hCl) ?_ | refine F.w (s2') ?_
              refine ARg.nil (ATh.normal ?_)
              refine ARA.any [1, 9] (by kernel_rfl) (by simp) ?_
              intro k hk
              simp only [List.mem_cons, List.not_mem_nil, or_false] at hk
              rcases hk with rfl | rfl
              · refine ⟨_, true, rfl, rfl, ?_⟩
                refine s1 ?_
                refine ARg.nil (ATh.normal ?_)
                refine dO 9 false ?_
                first | refine s1 ?_ | refine F.a1 Int ?_
                refine ARg.nil (ATh.normal ?_)
                refine dzA (α := Int) 32 rfl rfl (by simp) ?_
                refine dP 10 ?_
                refine dO 11 false ?_
                first | refine s1 ?_ | refine F.c (hCl) ?_ | refine F.w (s2') ?_
                refine ARg.nil (ATh.normal ?_)
                refine dO 12 false ?_
                first | refine s1 ?_ | refine F.aL Pth ?_ (hsrc := .own rfl rfl (E_length _ _))
                refine ARg.nil (ATh.normal ?_)
                refine dP 13 ?_
                refine dN ?_
                repeat' first | refine s1 ?_ | fail
                exact ⟨k + 1, F.fit ⟨slE (by rw [hks]; simp), rfl, trivial⟩ ⟨obE (by rw [hks]), trivial⟩, by omega, by omega⟩
              · refine ⟨_, false, rfl, rfl, ?_⟩
                first | refine s1 ?_ | refine F.a1 Int ?_
                refine ARg.nil (ATh.normal ?_)
                refine dzA (α := Int) 32 rfl rfl (by simp) ?_
                refine dP 10 ?_
                refine dO 1 true ?_
                refine s1 ?_
                refine ARg.nil (ATh.normal ?_)
                refine dO 11 false ?_
                first | refine s1 ?_ | refine F.c (hCl) ?_ | refine F.w (s2') ?_
                refine ARg.nil (ATh.normal ?_)
                refine dO 12 false ?_
                first | refine s1 ?_ | refine F.aL Pth ?_ (hsrc := .own rfl rfl (E_length _ _))
                refine ARg.nil (ATh.normal ?_)
                refine dP 13 ?_
                refine dN ?_
                repeat' first | refine s1 ?_ | fail
                exact ⟨k + 1, F.fit ⟨slE (by rw [hks]; simp), rfl, trivial⟩ ⟨obE (by rw [hks]), trivial⟩, by omega, by omega⟩
          · refine ⟨_, false, rfl, rfl, ?_⟩
            first | refine s1 ?_ | refine F.c (hCl) ?_ | refine F.w (s2') ?_
            refine ARg.nil (ATh.normal ?_)
            refine ARA.any [1, 3, 9] (by kernel_rfl) (by simp) ?_
            intro k hk
            simp only [List.mem_cons, List.not_mem_nil, or_false] at hk
            rcases hk with rfl | rfl | rfl
            · refine ⟨_, true, rfl, rfl, ?_⟩
              refine s1 ?_
              refine ARg.nil (ATh.normal ?_)
              refine ARA.any [3, 9] (by kernel_rfl) (by simp) ?_
              intro k hk
              simp only [List.mem_cons, List.not_mem_nil, or_false] at hk
              rcases hk with rfl | rfl
              · refine ⟨_, true, rfl, rfl, ?_⟩
                refine s1 ?_
                refine ARg.nil (ATh.normal ?_)
                refine dO 9 false ?_
                first | refine s1 ?_ | refine F.a1 Int ?_
                refine ARg.nil (ATh.normal ?_)
                refine dzA (α := Int) 32 rfl rfl (by simp) ?_
                refine dP 10 ?_
                refine dO 11 false ?_
                first | refine s1 ?_ | refine F.c (hCl) ?_ | refine F.w (s2') ?_
                refine ARg.nil (ATh.normal ?_)
                refine dO 12 false ?_
                first | refine s1 ?_ | refine F.aL Pth ?_ (hsrc := .own rfl rfl (E_length _ _))
                refine ARg.nil (ATh.normal ?_)
                refine dP 13 ?_
                refine dN ?_
                repeat' first | refine s1 ?_ | fail
                exact ⟨k + 1, F.fit ⟨slE (by rw [hks]; simp), rfl, trivial⟩ ⟨obE (by rw [hks]), trivial⟩, by omega, by omega⟩
              · refine ⟨_, false, rfl, rfl, ?_⟩
                first | refine s1 ?_ | refine F.a1 Int ?_
                refine ARg.nil (ATh.normal ?_)
                refine dzA (α := Int) 32 rfl rfl (by simp) ?_
                refine dO 3 true ?_
                refine s1 ?_
                refine ARg.nil (ATh.normal ?_)
                refine dP 10 ?_
                refine dO 11 false ?_
                first | refine s1 ?_ | refine F.c (hCl) ?_ | refine F.w (s2') ?_
                refine ARg.nil (ATh.normal ?_)
                refine dO 12 false ?_
                first | refine s1 ?_ | refine F.aL Pth ?_ (hsrc := .own rfl rfl (E_length _ _))
                refine ARg.nil (ATh.normal ?_)
                refine dP 13 ?_
                refine dN ?_
                repeat' first | refine s1 ?_ | fail
                exact ⟨k + 1, F.fit ⟨slE (by rw [hks]; simp), rfl, trivial⟩ ⟨obE (by rw [hks]), trivial⟩, by omega, by omega⟩
            · refine ⟨_, true, rfl, rfl, ?_⟩
              refine s1 ?_
              refine ARg.nil (ATh.normal ?_)
              refine ARA.any [1, 9] (by kernel_rfl) (by simp) ?_
              intro k hk
              simp only [List.mem_cons, List.not_mem_nil, or_false] at hk
              rcases hk with rfl | rfl
              · refine ⟨_, true, rfl, rfl, ?_⟩
                refine s1 ?_
                refine ARg.nil (ATh.normal ?_)
                refine dO 9 false ?_
                first | refine s1 ?_ | refine F.a1 Int ?_
                refine ARg.nil (ATh.normal ?_)
                refine dzA (α := Int) 32 rfl rfl (by simp) ?_
                refine dP 10 ?_
                refine dO 11 false ?_
                first | refine s1 ?_ | refine F.c (hCl) ?_ | refine F.w (s2') ?_
                refine ARg.nil (ATh.normal ?_)
                refine dO 12 false ?_
                first | refine s1 ?_ | refine F.aL Pth ?_ (hsrc := .own rfl rfl (E_length _ _))
                refine ARg.nil (ATh.normal ?_)
                refine dP 13 ?_
                refine dN ?_
                repeat' first | refine s1 ?_ | fail
                exact ⟨k + 1, F.fit ⟨slE (by rw [hks]; simp), rfl, trivial⟩ ⟨obE (by rw [hks]), trivial⟩, by omega, by omega⟩
              · refine ⟨_, false, rfl, rfl, ?_⟩
                first | refine s1 ?_ | refine F.a1 Int ?_
                refine ARg.nil (ATh.normal ?_)
                refine dzA (α := Int) 32 rfl rfl (by simp) ?_
                refine dP 10 ?_
                refine dO 1 true ?_
                refine s1 ?_
                refine ARg.nil (ATh.normal ?_)
                refine dO 11 false ?_
                first | refine s1 ?_ | refine F.c (hCl) ?_ | refine F.w (s2') ?_
                refine ARg.nil (ATh.normal ?_)
                refine dO 12 false ?_
                first | refine s1 ?_ | refine F.aL Pth ?_ (hsrc := .own rfl rfl (E_length _ _))
                refine ARg.nil (ATh.normal ?_)
                refine dP 13 ?_
                refine dN ?_
                repeat' first | refine s1 ?_ | fail
                exact ⟨k + 1, F.fit ⟨slE (by rw [hks]; simp), rfl, trivial⟩ ⟨obE (by rw [hks]), trivial⟩, by omega, by omega⟩
            · refine ⟨_, false, rfl, rfl, ?_⟩
              first | refine s1 ?_ | refine F.a1 Int ?_
              refine ARg.nil (ATh.normal ?_)
              refine dzA (α := Int) 32 rfl rfl (by simp) ?_
              refine ARA.any [1, 3] (by kernel_rfl) (by simp) ?_
              intro k hk
              simp only [List.mem_cons, List.not_mem_nil, or_false] at hk
              rcases hk with rfl | rfl
              · refine ⟨_, true, rfl, rfl, ?_⟩
                refine s1 ?_
                refine ARg.nil (ATh.normal ?_)
                refine dO 3 true ?_
                refine s1 ?_
                refine ARg.nil (ATh.normal ?_)
                refine dP 10 ?_
                refine dO 11 false ?_
                first | refine s1 ?_ | refine F.c (hCl) ?_ | refine F.w (s2') ?_
                refine ARg.nil (ATh.normal ?_)
                refine dO 12 false ?_
                first | refine s1 ?_ | refine F.aL Pth ?_ (hsrc := .own rfl rfl (E_length _ _))
                refine ARg.nil (ATh.normal ?_)
                refine dP 13 ?_
                refine dN ?_
                repeat' first | refine s1 ?_ | fail
                exact ⟨k + 1, F.fit ⟨slE (by rw [hks]; simp), rfl, trivial⟩ ⟨obE (by rw [hks]), trivial⟩, by omega, by omega⟩
              · refine ⟨_, true, rfl, rfl, ?_⟩
                refine s1 ?_
                refine ARg.nil (ATh.normal ?_)
                refine dP 10 ?_
                refine dO 1 true ?_
                refine s1 ?_
                refine ARg.nil (ATh.normal ?_)
                refine dO 11 false ?_
                first | refine s1 ?_ | refine F.c (hCl) ?_ | refine F.w (s2') ?_
                refine ARg.nil (ATh.normal ?_)
                refine dO 12 false ?_
                first | refine s1 ?_ | refine F.aL Pth ?_ (hsrc := .own rfl rfl (E_length _ _))
                refine ARg.nil (ATh.normal ?_)
                refine dP 13 ?_
                refine dN ?_
                repeat' first | refine s1 ?_ | fail
                exact ⟨k + 1, F.fit ⟨slE (by rw [hks]; simp), rfl, trivial⟩ ⟨obE (by rw [hks]), trivial⟩, by omega, by omega⟩
    · rw [if_neg he, List.append_nil] at hks
      repeat' first | refine s1 ?_ | (refine kR ?_; first | refine F.c (hE) ?_) | fail
      exact ⟨k + 1, F.fit ⟨slE (by rw [hks]), rfl, trivial⟩ ⟨obE (by rw [hks]), trivial⟩, by omega, by omega⟩
  · obtain rfl : k = q.fr.length := by omega
    repeat' first | refine s1 ?_ | fail
    refine kM ?_
    exact F.retM rfl trivial
end Go.Proofs.YtedjajokbdokhaaGreat.V
