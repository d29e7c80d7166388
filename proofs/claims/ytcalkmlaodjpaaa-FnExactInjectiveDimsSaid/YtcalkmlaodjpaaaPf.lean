/- Orders of vertices, and paths. No program is spoken of. -/
import Derived.Test.YtcalkmlaodjpaaaHk
namespace Go.Proofs.Ytcalkmlaodjpaaa.V
open Go.RowKit G D
set_option linter.unusedVariables false
set_option linter.unusedSimpArgs false

/-- all arrows to v come from some vertices -/
def ready (q : Quiv) (out : List Int) (v : Int) : Bool := (List.range q.fr.length).all fun i => decide (q.to.getD i default ≠ v) || decide (q.fr.getD i default ∈ out)
def freeV (q : Quiv) (out : List Int) (v : Int) : Bool := !decide (v ∈ out) && ready q out v
/-- the least free vertex from u on; -1 -/
def nextV (q : Quiv) (out : List Int) : Nat → Nat → Int
  | 0, _ => -1
  | f + 1, u => if freeV q out u = true then (u : Int) else nextV q out f (u + 1)
def ordQ (q : Quiv) : Nat → List Int → List Int × Bool
  | 0, out => (out, true)
  | f + 1, out => if nextV q out q.n.toNat 0 < 0 then ([], false) else ordQ q f (out ++ [nextV q out q.n.toNat 0])
def orderQ (q : Quiv) : List Int × Bool := if okQ q = true then ordQ q q.n.toNat [] else ([], false)
theorem nextV_bd (q : Quiv) (out : List Int) : ∀ f u, -1 ≤ nextV q out f u ∧ nextV q out f u < (u + f : Nat)
  | 0, u => by simp [nextV]; omega
  | f + 1, u => by
    simp only [nextV]
    split
    · omega
    · have := nextV_bd q out f (u + 1); omega
theorem nextV_free {q : Quiv} {out : List Int} : ∀ {f u : Nat}, 0 ≤ nextV q out f u → freeV q out (nextV q out f u) = true
  | 0, u, h => by simp [nextV] at h
  | f + 1, u, h => by
    simp only [nextV] at h ⊢
    split
    · assumption
    · rename_i hn; rw [if_neg hn] at h; exact nextV_free h
theorem nextV_hit {q : Quiv} {out : List Int} {n i : Nat} (hi : i < n) (h : freeV q out (i : Int) = true) : nextV q out (n - i) i = i := by
  obtain ⟨m, hm⟩ : ∃ m, n - i = m + 1 := ⟨n - i - 1, by omega⟩
  rw [hm, nextV, if_pos h]
theorem nextV_miss {q : Quiv} {out : List Int} {n i : Nat} (hi : i < n) (h : freeV q out (i : Int) = false) : nextV q out (n - i) i = nextV q out (n - (i + 1)) (i + 1) := by
  obtain ⟨m, hm⟩ : ∃ m, n - i = m + 1 := ⟨n - i - 1, by omega⟩
  rw [hm, nextV, if_neg (by simp [h]), show n - (i + 1) = m by omega]
/-- ranks of vertices that fall along the arrows -/
structure Acy (q : Quiv) (rk : Int → Nat) : Prop where
  ok : okQ q = true
  le : ∀ v, rk v ≤ 5
  dec : ∀ i, i < q.fr.length → rk (q.to.getD i default) < rk (q.fr.getD i default)
theorem count_snoc {out : List Int} {v : Nat} (hv : (v : Int) ∉ out) : ∀ n, (List.range n).countP (fun (u : Nat) => decide ((u : Int) ∉ out ++ [(v : Int)])) + (if v < n then 1 else 0) = (List.range n).countP (fun (u : Nat) => decide ((u : Int) ∉ out))
  | 0 => by simp
  | n + 1 => by
    have ih := count_snoc hv n
    rw [List.range_succ, List.countP_append, List.countP_append]
    by_cases h1 : v = n
    · subst h1
      simp only [Nat.lt_irrefl, if_false, Nat.add_zero] at ih
      rw [ih]; simp [hv]
    · have h2 : ((n : Int) ∈ out ++ [(v : Int)]) ↔ (n : Int) ∈ out := by simp; omega
      have h3 : (v < n + 1) ↔ v < n := by omega
      simp only [List.countP_cons, List.countP_nil, h2, h3]; omega
theorem ordQ_acy {q : Quiv} (hq : okQ q = true) : ∀ (f : Nat) (out : List Int), out.length + f = q.n.toNat → (∀ v ∈ out, 0 ≤ v ∧ v < q.n) → (List.range q.n.toNat).countP (fun (u : Nat) => decide ((u : Int) ∉ out)) = f →
    (∃ ps : Int → Nat, (∀ v ∈ out, ps v < out.length) ∧ ∀ i, i < q.fr.length → q.to.getD i default ∈ out → q.fr.getD i default ∈ out ∧ ps (q.fr.getD i default) < ps (q.to.getD i default)) → (ordQ q f out).2 = true → ∃ rk, Acy q rk
  | 0, out, hl, hr, hc, ⟨ps, h1, h2⟩, _ => by
    have h5 := okQ_spec hq
    have hall : ∀ v : Int, 0 ≤ v → v < q.n → v ∈ out := fun v a b => by
      rw [List.countP_eq_zero] at hc
      have := hc v.toNat (by simp; omega)
      rw [show ((v.toNat : Nat) : Int) = v by omega] at this
      simpa using this
    refine ⟨fun v => 5 - ps v, hq, fun v => by omega, fun i hi => ?_⟩
    have ft := okQ_to hq hi
    have ft' : 0 ≤ q.to.getD i default ∧ q.to.getD i default < q.n := ft
    have hto := hall _ ft'.1 ft'.2
    have h3 := h2 i hi hto
    have h4 := h1 _ hto
    show 5 - ps _ < 5 - ps _
    omega
  | f + 1, out, hl, hr, hc, ⟨ps, h1, h2⟩, h => by
    have h5 := okQ_spec hq
    rw [ordQ] at h
    split at h
    · cases h
    · rename_i hn
      have hb := nextV_bd q out q.n.toNat 0
      have hfree := nextV_free (q := q) (out := out) (f := q.n.toNat) (u := 0) (by omega)
      generalize nextV q out q.n.toNat 0 = v at h hn hb hfree
      simp only [freeV, ready, Bool.and_eq_true, Bool.not_eq_true', decide_eq_false_iff_not, List.all_eq_true, Bool.or_eq_true, decide_eq_true_eq] at hfree
      obtain ⟨hv, hrd⟩ := hfree
      obtain ⟨k, rfl⟩ : ∃ k : Nat, v = (k : Int) := ⟨v.toNat, by omega⟩
      have hcs := count_snoc hv q.n.toNat
      rw [if_pos (by omega), hc] at hcs
      refine ordQ_acy hq f (out ++ [(k : Int)]) (by simp; omega) (fun x hx => ?_) (by omega) ⟨fun x => if x = (k : Int) then out.length else ps x, fun x hx => ?_, fun i hi hto => ?_⟩ h
      · rcases List.mem_append.1 hx with hx | hx
        · exact hr x hx
        · simp at hx; omega
      · simp only [List.length_append, List.length_singleton]
        split
        · omega
        · rename_i hne
          rcases List.mem_append.1 hx with hx | hx
          · have := h1 x hx; omega
          · simp at hx; exact absurd hx hne
      · rcases List.mem_append.1 hto with ht | ht
        · have h3 := h2 i hi ht
          refine ⟨List.mem_append.2 (.inl h3.1), ?_⟩
          have e1 : q.fr.getD i default ≠ (k : Int) := fun e => hv (by rw [← e]; exact h3.1)
          have e2 : q.to.getD i default ≠ (k : Int) := fun e => hv (by rw [← e]; exact ht)
          show (if q.fr.getD i default = (k : Int) then out.length else ps _) < (if q.to.getD i default = (k : Int) then out.length else ps _)
          rw [if_neg e1, if_neg e2]
          exact h3.2
        · simp only [List.mem_singleton] at ht
          have h3 : q.fr.getD i default ∈ out := (hrd i (by simpa using hi)).resolve_left (fun e => e ht)
          refine ⟨List.mem_append.2 (.inl h3), ?_⟩
          have e1 : q.fr.getD i default ≠ (k : Int) := fun e => hv (by rw [← e]; exact h3)
          show (if q.fr.getD i default = (k : Int) then out.length else ps _) < (if q.to.getD i default = (k : Int) then out.length else ps _)
          rw [if_neg e1, if_pos ht]
          exact h1 _ h3
theorem acy_of {q : Quiv} (h : (orderQ q).2 = true) : ∃ rk, Acy q rk := by
  unfold orderQ at h
  split at h
  · rename_i hq
    have h5 := okQ_spec hq
    exact ordQ_acy hq q.n.toNat [] (by simp) (by simp) (by simp) ⟨fun _ => 0, by simp, by simp⟩ h
  · cases h
/-! ### paths -/
/-- the paths from a vertex: the empty one, then by the first arrow; f: so many arrows at most -/
def lfQ (q : Quiv) : Nat → Int → List Pth
  | 0, v => [⟨v, []⟩]
  | f + 1, v => ⟨v, []⟩ :: (List.range q.fr.length).flatMap fun i => if q.fr.getD i default = v then (lfQ q f (q.to.getD i default)).map fun y => ⟨v, (i : Int) :: y.a⟩ else []
/-- where a path ends -/
def endQ (q : Quiv) (x : Pth) : Int := if x.a.length = 0 then x.s else q.to.getD (x.a.getD (x.a.length - 1) default).toNat default
/-- a path with all that continue it -/
def pfQ (q : Quiv) : Nat → Pth → List Pth
  | 0, x => [x]
  | f + 1, x => x :: (List.range q.fr.length).flatMap fun i => if q.fr.getD i default = endQ q x then pfQ q f ⟨x.s, x.a ++ [(i : Int)]⟩ else []
theorem endQ_snoc (q : Quiv) (s : Int) (a : List Int) (i : Nat) : endQ q ⟨s, a ++ [(i : Int)]⟩ = q.to.getD i default := by
  unfold endQ
  rw [if_neg (by simp)]
  congr 1
  simp
theorem pfQ_lfQ (q : Quiv) : ∀ (f : Nat) (x : Pth), pfQ q f x = (lfQ q f (endQ q x)).map fun y => ⟨x.s, x.a ++ y.a⟩
  | 0, x => by simp [pfQ, lfQ]
  | f + 1, x => by
    simp only [pfQ, lfQ, List.map_cons, List.append_nil, List.map_flatMap]
    congr 1
    refine congrArg (fun g => List.flatMap g (List.range q.fr.length)) (funext fun i => ?_)
    split
    · rw [pfQ_lfQ q f ⟨x.s, x.a ++ [(i : Int)]⟩, endQ_snoc, List.map_map]
      apply List.map_congr_left
      intro y _
      simp
    · rfl
theorem lfQ_s (q : Quiv) : ∀ (f : Nat) (v : Int), ∀ y ∈ lfQ q f v, y.s = v
  | 0, v, y, hy => by simp [lfQ] at hy; rw [hy]
  | f + 1, v, y, hy => by
    rcases List.mem_cons.1 hy with rfl | hy
    · rfl
    · obtain ⟨i, _, hy⟩ := List.mem_flatMap.1 hy
      split at hy
      · obtain ⟨z, _, rfl⟩ := List.mem_map.1 hy; rfl
      · cases hy
theorem pfQ_start (q : Quiv) (f : Nat) (v : Int) : pfQ q f ⟨v, []⟩ = lfQ q f v := by
  rw [pfQ_lfQ]
  have e : endQ q ⟨v, []⟩ = v := by simp [endQ]
  rw [e]
  conv => rhs; rw [← List.map_id (lfQ q f v)]
  apply List.map_congr_left
  intro y hy
  have := lfQ_s q f v y hy
  cases y; simp_all
theorem lfQ_len (q : Quiv) (h : q.fr.length ≤ 6) : ∀ (f : Nat) (v : Int), (lfQ q f v).length ≤ 7 ^ f
  | 0, v => by simp [lfQ]
  | f + 1, v => by
    have hs : ∀ l : List Nat, l.length ≤ 6 → (l.flatMap fun i => if q.fr.getD i default = v then (lfQ q f (q.to.getD i default)).map fun y => (⟨v, (i : Int) :: y.a⟩ : Pth) else []).length ≤ l.length * 7 ^ f := by
      intro l
      induction l with
      | nil => intro _; simp
      | cons a l ih =>
        intro hl
        have h1 := ih (by simp at hl; omega)
        rw [List.flatMap_cons, List.length_append, List.length_cons, Nat.add_mul, Nat.one_mul]
        have : (if q.fr.getD a default = v then (lfQ q f (q.to.getD a default)).map fun y => (⟨v, (a : Int) :: y.a⟩ : Pth) else []).length ≤ 7 ^ f := by
          split
          · rw [List.length_map]; exact lfQ_len q h f _
          · simp
        omega
    have h1 := hs (List.range q.fr.length) (by simpa using h)
    rw [List.length_range] at h1
    simp only [lfQ, List.length_cons, Nat.pow_succ]
    have h2 : q.fr.length * 7 ^ f ≤ 6 * 7 ^ f := Nat.mul_le_mul_right _ h
    have h3 : 0 < 7 ^ f := Nat.pow_pos (by omega)
    omega
/-- a chain of arrows from v -/
def chain (q : Quiv) : Int → List Int → Prop
  | _, [] => True
  | v, i :: l => 0 ≤ i ∧ i < q.fr.length ∧ q.fr.getD i.toNat default = v ∧ chain q (q.to.getD i.toNat default) l
theorem lfQ_chain (q : Quiv) : ∀ (f : Nat) (v : Int), ∀ y ∈ lfQ q f v, chain q v y.a ∧ y.a.length ≤ f
  | 0, v, y, hy => by simp [lfQ] at hy; rw [hy]; exact ⟨trivial, by simp⟩
  | f + 1, v, y, hy => by
    rcases List.mem_cons.1 hy with rfl | hy
    · exact ⟨trivial, by simp⟩
    · obtain ⟨i, hi, hy⟩ := List.mem_flatMap.1 hy
      split at hy
      · rename_i he
        obtain ⟨z, hz, rfl⟩ := List.mem_map.1 hy
        have h1 := lfQ_chain q f _ z hz
        have hi' : i < q.fr.length := by simpa using hi
        refine ⟨⟨by omega, by omega, ?_, ?_⟩, by simp; omega⟩
        · simpa using he
        · simpa using h1.1
      · cases hy
/-- more room changes nothing -/
theorem lfQ_stable {q : Quiv} {rk : Int → Nat} (h : Acy q rk) : ∀ (f : Nat) (v : Int), rk v ≤ f → lfQ q (f + 1) v = lfQ q f v
  | 0, v, hv => by
    simp only [lfQ]
    congr 1
    refine List.flatMap_eq_nil_iff.2 fun i hi => ?_
    have := h.dec i (by simpa using hi)
    rw [if_neg (fun e => by rw [e] at this; omega)]
  | f + 1, v, hv => by
    rw [lfQ]
    conv => rhs; rw [lfQ]
    congr 1
    rw [List.flatMap_def, List.flatMap_def]
    congr 1
    apply List.map_congr_left
    intro i hi
    split
    · rename_i he
      have := h.dec i (by simpa using hi)
      rw [lfQ_stable h f _ (by rw [he] at this; omega)]
    · rfl
end Go.Proofs.Ytcalkmlaodjpaaa.V
