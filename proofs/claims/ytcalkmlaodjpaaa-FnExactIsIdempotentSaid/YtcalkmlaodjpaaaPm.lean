/- Products and sums of tables. No program is spoken of. -/
import Derived.Test.YtcalkmlaodjpaaaQ
namespace Go.Proofs.Ytcalkmlaodjpaaa.V
open Go.RowKit G D
set_option linter.unusedVariables false
set_option linter.unusedSimpArgs false

/-- a multiple of b is added to a part of xs: the first j numbers -/
def addK (p k : Int) (off : Nat) (b xs : List Int) (j : Nat) : List Int := (List.range xs.length).map fun t => if off ≤ t ∧ t < off + j then (xs.getD t default + k * b.getD (t - off) default) % p else xs.getD t default
theorem addK_len (p k : Int) (off : Nat) (b xs : List Int) (j : Nat) : (addK p k off b xs j).length = xs.length := by simp [addK]
attribute [simp] addK_len
theorem addK_zero (p k : Int) (off : Nat) (b xs : List Int) : addK p k off b xs 0 = xs := by
  apply List.ext_getElem (by simp)
  intro t h1 h2
  have : ¬ (off ≤ t ∧ t < off + 0) := by omega
  simp only [addK, List.getElem_map, List.getElem_range, if_neg this]
  simp [h2]
theorem addK_at (p k : Int) (off : Nat) (b xs : List Int) {j : Nat} (h : off + j < xs.length) : (addK p k off b xs j).getD (off + j) default = xs.getD (off + j) default := by
  have : ¬ (off ≤ off + j ∧ off + j < off + j) := by omega
  simp only [addK, List.getD_eq_getElem?_getD, List.getElem?_map, List.getElem?_range h, Option.map_some, Option.getD_some, this, if_false]
theorem addK_set (p k : Int) (off : Nat) (b xs : List Int) {j : Nat} (h : off + j < xs.length) : (addK p k off b xs j).set (off + j) ((xs.getD (off + j) default + k * b.getD j default) % p) = addK p k off b xs (j + 1) := by
  apply List.ext_getElem (by simp)
  intro t h1 h2
  rw [List.getElem_set]
  simp only [addK, List.getElem_map, List.getElem_range]
  by_cases ht : off + j = t
  · subst ht
    rw [if_pos rfl, if_pos (by omega), Nat.add_sub_cancel_left]
  · rw [if_neg ht]
    have : (off ≤ t ∧ t < off + j) ↔ (off ≤ t ∧ t < off + (j + 1)) := by omega
    simp only [this]
/-- to row i is added -/
def addR (p k : Int) (i : Nat) (f : Nat → Nat → Int) (g : Nat → Int) : Nat → Nat → Int := fun i' j => if i' = i then (f i j + k * g j) % p else f i' j
theorem addK_tab (p k : Int) {r c i : Nat} (f : Nat → Nat → Int) (g : Nat → Int) (hi : i < r) : addK p k (i * c) (rowL c g) (tab r c f) c = tab r c (addR p k i f g) := by
  apply List.ext_getElem (by simp)
  intro t h1 h2
  have ht : t < r * c := by simpa using h2
  have hc := pos_of_mul ht
  have e : t / c * c + t % c = t := Nat.div_add_mod' t c
  have hm : t % c < c := Nat.mod_lt _ hc
  have hd : t / c < r := Nat.div_lt_of_lt_mul (by rw [Nat.mul_comm]; exact ht)
  have hget : (tab r c f).getD t default = f (t / c) (t % c) := by
    have := tab_get f hd hm
    rwa [e] at this
  simp only [addK, List.getElem_map, List.getElem_range, hget]
  by_cases h : t / c = i
  · have h3 : i * c ≤ t ∧ t < i * c + c := by rw [← h]; omega
    have h4 : t - i * c = t % c := by rw [← h]; omega
    rw [if_pos h3, h4, rowL_get g hm]
    simp [tab, addR, h]
  · have h3 : ¬ (i * c ≤ t ∧ t < i * c + c) := fun ⟨a, b⟩ => h (by
      rcases Nat.lt_trichotomy (t / c) i with h5 | h5 | h5
      · have := Nat.mul_le_mul_right c (show t / c + 1 ≤ i from h5)
        rw [Nat.add_mul, Nat.one_mul] at this; omega
      · exact h5
      · have := Nat.mul_le_mul_right c (show i + 1 ≤ t / c from h5)
        rw [Nat.add_mul, Nat.one_mul] at this; omega)
    rw [if_neg h3]
    simp [tab, addR, h]
/-- the first k terms of a product's number -/
def dotK (f g : Nat → Nat → Int) (i c : Nat) : Nat → Int
  | 0 => 0
  | k + 1 => dotK f g i c k + f i k * g k c
theorem dotK_bd {f g : Nat → Nat → Int} {i c n : Nat} (hf : ∀ k, k < n → 0 ≤ f i k ∧ f i k ≤ 4) (hg : ∀ k, k < n → 0 ≤ g k c ∧ g k c ≤ 4) : ∀ k, k ≤ n → 0 ≤ dotK f g i c k ∧ dotK f g i c k ≤ 16 * k
  | 0, _ => by simp [dotK]
  | k + 1, h => by
    have h1 := dotK_bd hf hg k (by omega)
    have h2 := hf k (by omega)
    have h3 := hg k (by omega)
    have h4 : f i k * g k c ≤ 4 * 4 := Int.mul_le_mul h2.2 h3.2 h3.1 (by omega)
    have h5 := Int.mul_nonneg h2.1 h3.1
    simp only [dotK]; push_cast; omega
def mulF (p : Int) (f g : Nat → Nat → Int) (n : Nat) : Nat → Nat → Int := fun i c => dotK f g i c n % p
/-- rows below i are done, and k terms of row i -/
def mulK (p : Int) (f g : Nat → Nat → Int) (n i k : Nat) : Nat → Nat → Int := fun i' c => if i' < i then mulF p f g n i' c else if i' = i then dotK f g i c k % p else 0
theorem mulK_zero (p : Int) (f g : Nat → Nat → Int) (n : Nat) : mulK p f g n 0 0 = fun _ _ => 0 := by
  funext i c
  simp [mulK, dotK]
theorem mulK_step (p : Int) (f g : Nat → Nat → Int) (n i k : Nat) : addR p (f i k) i (mulK p f g n i k) (g k) = mulK p f g n i (k + 1) := by
  funext i' c
  simp only [addR, mulK]
  by_cases h : i' = i
  · subst h
    simp only [Nat.lt_irrefl, if_false, if_true, dotK]
    rw [Int.emod_add_emod]
  · simp [h]
theorem mulK_next (p : Int) (f g : Nat → Nat → Int) (n i : Nat) : mulK p f g n i n = mulK p f g n (i + 1) 0 := by
  funext i' c
  simp only [mulK]
  rcases Nat.lt_trichotomy i' i with h | h | h
  · rw [if_pos h, if_pos (by omega)]
  · subst h
    rw [if_neg (by omega), if_pos rfl, if_pos (by omega)]; rfl
  · rw [if_neg (by omega), if_neg (by omega), if_neg (by omega)]
    split <;> simp [dotK]
theorem mulK_all (p : Int) (f g : Nat → Nat → Int) (n r c : Nat) : tab r c (mulK p f g n r 0) = tab r c (mulF p f g n) := tab_ext fun i hi j hj => by simp [mulK, hi]
theorem mulF_bd {p : Int} (hp : 0 < p) (f g : Nat → Nat → Int) (n r c : Nat) : BdF p r c (mulF p f g n) := fun i hi j hj => mod_bd hp
theorem mulK_bd {p : Int} (hp : 0 < p) (f g : Nat → Nat → Int) (n i k r c : Nat) : BdF p r c (mulK p f g n i k) := fun i' hi j hj => by
  unfold mulK
  split
  · exact mod_bd hp
  · split
    · exact mod_bd hp
    · omega
/-- rows below i are done, and k numbers of row i -/
def mulP (p : Int) (f g : Nat → Nat → Int) (n i k : Nat) : Nat → Nat → Int := fun i' c => if i' < i ∨ (i' = i ∧ c < k) then mulF p f g n i' c else 0
theorem mulP_zero (p : Int) (f g : Nat → Nat → Int) (n : Nat) : mulP p f g n 0 0 = fun _ _ => 0 := by
  funext i c
  simp [mulP]
theorem mulP_set (p : Int) (f g : Nat → Nat → Int) (n i k : Nat) : updF (mulP p f g n i k) i k (dotK f g i k n % p) = mulP p f g n i (k + 1) := by
  funext i' c
  simp only [updF, mulP]
  by_cases h : i' = i ∧ c = k
  · obtain ⟨rfl, rfl⟩ := h
    rw [if_pos ⟨rfl, rfl⟩, if_pos (.inr ⟨rfl, by omega⟩)]; rfl
  · rw [if_neg h]
    have : (i' < i ∨ (i' = i ∧ c < k)) ↔ (i' < i ∨ (i' = i ∧ c < k + 1)) := by omega
    simp only [this]
theorem mulP_next (p : Int) (f g : Nat → Nat → Int) (n i r c : Nat) : tab r c (mulP p f g n i c) = tab r c (mulP p f g n (i + 1) 0) := tab_ext fun i' hi j hj => by
  have e : (i' < i ∨ (i' = i ∧ j < c)) ↔ (i' < i + 1 ∨ (i' = i + 1 ∧ j < 0)) := by omega
  simp only [mulP, e]
theorem mulP_all (p : Int) (f g : Nat → Nat → Int) (n r c : Nat) : tab r c (mulP p f g n r 0) = tab r c (mulF p f g n) := tab_ext fun i hi j hj => by simp [mulP, hi]
/-- the product of two matrices -/
def mulM (p : Int) (x y : Mat) : Mat := tm x.r.toNat y.c.toNat (mulF p (ent x) (ent y) x.c.toNat)
def plusM (p : Int) (x : Mat) (k : Int) (y : Mat) : Mat := ⟨x.r, x.c, addK p k 0 y.m x.m y.m.length⟩
theorem addK_full (p k : Int) (f g : Nat → Nat → Int) (r c : Nat) : addK p k 0 (tab r c g) (tab r c f) (tab r c g).length = tab r c (fun i j => (f i j + k * g i j) % p) := by
  apply List.ext_getElem (by simp)
  intro t h1 h2
  have ht : t < r * c := by simpa using h2
  have hg : ∀ h : Nat → Nat → Int, (tab r c h).getD t default = h (t / c) (t % c) := fun h => by simp [tab, ht]
  simp only [addK, List.getElem_map, List.getElem_range, hg, Nat.sub_zero]
  rw [if_pos (by rw [tab_len]; omega)]
  simp [tab]
section
variable {P : Program} {w0 : World} {MP : Fr} {d : Option Tmp} {ty : TypeId} {pos : String} {af : Array Edge} {g : Option (Nat × Bool)} {x y : Operand} {E : Nat → AV} {hp : Nat → Ob} {nx : Nat}
/-- a row of a table -/
theorem A.slcQ {t e bys o n r c i : Nat} {zz : Value} {ol oh : Operand} {l oo : Bool} {f : Nat → Nat → Int} [hu : HasU P t (.slice e)] [hi : HasI P e 1 bys zz] (hx : evA ⟨E, hp, nx⟩ x = .sl o n 0 n) (hh : hp o = .live l 1 (V.E oo (tab r c f))) (hl : evA ⟨E, hp, nx⟩ ol = .i ((i : Int) * (c : Int))) (hr : evA ⟨E, hp, nx⟩ oh = .i (((i : Int) + 1) * (c : Int))) (h1 : i < r) (hn : n = r * c) :
    ASil true P w0 MP ⟨E, hp, nx⟩ ⟨d, .slice t x (some ol) (some oh) none, ty, pos, af, g⟩ (.sl o n (i * c) c) := by
  have hle : (i + 1) * c ≤ r * c := Nat.mul_le_mul_right c h1
  have e1 : (i + 1) * c = i * c + c := by rw [Nat.add_mul, Nat.one_mul]
  have h := A.slcS (P := P) (w0 := w0) (MP := MP) (d := d) (ty := ty) (pos := pos) (af := af) (g := g) (t := t) (e := e) (ol := some ol) (oh := some oh) (lo := i * c) (hi' := (i + 1) * c) hx hh (by rw [E_length, tab_len, hn]) (by show evA _ ol = _; rw [hl]; push_cast; rfl) (by show evA _ oh = _; rw [hr]; push_cast; rfl) (by omega) (by omega)
  have e2 : (i + 1) * c - i * c = c := by omega
  rwa [Nat.zero_add, e2] at h
theorem A.slcQD {t e bys r c i : Nat} {zz : Value} {ol oh : Operand} {o oo : Bool} {f : Nat → Nat → Int} [hu : HasU P t (.slice e)] [hi : HasI P e 1 bys zz] (hx : evA ⟨E, hp, nx⟩ x = .dt o 1 (V.E oo (tab r c f))) (hl : evA ⟨E, hp, nx⟩ ol = .i ((i : Int) * (c : Int))) (hr : evA ⟨E, hp, nx⟩ oh = .i (((i : Int) + 1) * (c : Int))) (h1 : i < r) :
    ASil true P w0 MP ⟨E, hp, nx⟩ ⟨d, .slice t x (some ol) (some oh) none, ty, pos, af, g⟩ (.dt false 1 (V.E oo (rowL c (f i)))) := by
  have hle : (i + 1) * c ≤ r * c := Nat.mul_le_mul_right c h1
  have e1 : (i + 1) * c = i * c + c := by rw [Nat.add_mul, Nat.one_mul]
  have h := A.slcD (α := Int) (P := P) (w0 := w0) (MP := MP) (d := d) (ty := ty) (pos := pos) (af := af) (g := g) (t := t) (e := e) (ol := some ol) (oh := some oh) (lo := i * c) (hi' := (i + 1) * c) hx (by show evA _ ol = _; rw [hl]; push_cast; rfl) (by show evA _ oh = _; rw [hr]; push_cast; rfl) (by omega) (by rw [tab_len]; exact hle)
  have e2 : ((tab r c f).take ((i + 1) * c)).drop (i * c) = rowL c (f i) := by
    rw [← tab_row f h1, List.drop_take]
    congr 1; omega
  rwa [e2] at h
end
end Go.Proofs.Ytcalkmlaodjpaaa.V
