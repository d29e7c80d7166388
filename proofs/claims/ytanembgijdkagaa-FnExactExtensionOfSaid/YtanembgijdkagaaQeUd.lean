/- Plain definitions: forms, determinants, tables, reduced form, orders, paths, products (several texts joined). Over any program; nothing is claimed of the given one. -/
import Derived.Test.YtanembgijdkagaaQeUa
import Derived.Test.YtanembgijdkagaaQeUc
namespace Go.Proofs.Ytanembgijdkagaa.D
open Go.RowKit G
set_option linter.unusedVariables false
/-- a square matrix of n rows, with numbers in bounds -/
def Sq (m : List (List Int)) (n : Nat) (lo hi : Int) : Prop := m.length = n ∧ ∀ v, v < n → (m.getD v []).length = n ∧ ∀ j, j < n → lo ≤ get2 m v j ∧ get2 m v j ≤ hi
theorem Sq.mono {m : List (List Int)} {n : Nat} {lo hi lo' hi' : Int} (h : Sq m n lo hi) (h1 : lo' ≤ lo) (h2 : hi ≤ hi') : Sq m n lo' hi' :=
  ⟨h.1, fun v hv => ⟨(h.2 v hv).1, fun j hj => by have := (h.2 v hv).2 j hj; omega⟩⟩
end Go.Proofs.Ytanembgijdkagaa.D
namespace Go.Proofs.Ytanembgijdkagaa
/-- r rows of c numbers between -100 and 100 -/
def Rows (r c : Nat) (m : List (List Int)) : Prop := m.length = r ∧ ∀ x ∈ m, x.length = c ∧ ∀ y ∈ x, -100 ≤ y ∧ y ≤ 100
theorem Rows.row {r c k : Nat} {m : List (List Int)} (h : Rows r c m) (hk : k < r) : (m.getD k default).length = c ∧ ∀ j, j < c → -100 ≤ (m.getD k default).getD j default ∧ (m.getD k default).getD j default ≤ 100 := by
  have hm : m.getD k default ∈ m := by simp [h.1, hk]
  have h1 := h.2 _ hm
  refine ⟨h1.1, fun j hj => h1.2 _ ?_⟩
  have : j < (m.getD k default).length := by omega
  generalize m.getD k default = l at this
  simp [this]
end Go.Proofs.Ytanembgijdkagaa
namespace Go.Proofs.Ytanembgijdkagaa.V
open Go.RowKit G D
set_option linter.unusedVariables false
set_option linter.unusedSimpArgs false
def tab (r c : Nat) (f : Nat → Nat → Int) : List Int := (List.range (r * c)).map fun t => f (t / c) (t % c)
theorem tab_len (r c : Nat) (f : Nat → Nat → Int) : (tab r c f).length = r * c := by simp [tab]
theorem tab_lt {r c i j : Nat} (hi : i < r) (hj : j < c) : i * c + j < r * c := by
  have : (i + 1) * c ≤ r * c := Nat.mul_le_mul_right c hi
  rw [Nat.add_mul, Nat.one_mul] at this; omega
theorem tab_div {c i j : Nat} (hj : j < c) : (i * c + j) / c = i ∧ (i * c + j) % c = j := by
  constructor
  · rw [Nat.mul_comm, Nat.mul_add_div (by omega), Nat.div_eq_of_lt hj]; omega
  · rw [Nat.mul_comm, Nat.mul_add_mod, Nat.mod_eq_of_lt hj]
theorem tab_get {r c i j : Nat} (f : Nat → Nat → Int) (hi : i < r) (hj : j < c) : (tab r c f).getD (i * c + j) default = f i j := by
  have h := tab_lt hi hj
  have d := tab_div (i := i) hj
  simp [tab, h, d.1, d.2]
theorem pos_of_mul {r c t : Nat} (h : t < r * c) : 0 < c := by
  rcases Nat.eq_zero_or_pos c with h0 | h0
  · subst h0; simp at h
  · exact h0
theorem tab_ext {r c : Nat} {f g : Nat → Nat → Int} (h : ∀ i, i < r → ∀ j, j < c → f i j = g i j) : tab r c f = tab r c g := by
  apply List.map_congr_left
  intro t ht
  have ht : t < r * c := by simpa using ht
  have hc := pos_of_mul ht
  exact h _ (Nat.div_lt_of_lt_mul (by rw [Nat.mul_comm]; exact ht)) _ (Nat.mod_lt _ hc)
def updF (f : Nat → Nat → Int) (i j : Nat) (v : Int) : Nat → Nat → Int := fun i' j' => if i' = i ∧ j' = j then v else f i' j'
theorem tab_set {r c i j : Nat} (f : Nat → Nat → Int) (v : Int) (hi : i < r) (hj : j < c) : (tab r c f).set (i * c + j) v = tab r c (updF f i j v) := by
  apply List.ext_getElem (by simp [tab_len])
  intro t h1 h2
  have ht : t < r * c := by simpa [tab_len] using h2
  have e : t / c * c + t % c = t := Nat.div_add_mod' t c
  have d := tab_div (i := i) hj
  rw [List.getElem_set]
  simp only [tab, List.getElem_map, List.getElem_range, updF]
  by_cases h : i * c + j = t
  · rw [if_pos h, if_pos]
    rw [← h]; exact d
  · rw [if_neg h, if_neg]
    rintro ⟨a, b⟩
    exact h (by rw [← a, ← b]; exact e)
theorem tab_of {l : List Int} {r c : Nat} (h : l.length = r * c) : tab r c (fun i j => l.getD (i * c + j) default) = l := by
  apply List.ext_getElem (by rw [tab_len, h])
  intro t h1 h2
  simp only [tab, List.getElem_map, List.getElem_range, Nat.div_add_mod' t c]
  simp [h2]
/-- a row -/
def rowL (c : Nat) (g : Nat → Int) : List Int := (List.range c).map g
theorem rowL_len (c : Nat) (g : Nat → Int) : (rowL c g).length = c := by simp [rowL]
theorem rowL_get {c j : Nat} (g : Nat → Int) (hj : j < c) : (rowL c g).getD j default = g j := by simp [rowL, hj]
theorem rowL_of {l : List Int} {c : Nat} (h : l.length = c) : rowL c (fun j => l.getD j default) = l := by
  subst h
  apply List.ext_getElem (by simp [rowL])
  intro t h1 h2
  simp [rowL, h2]
theorem tab_row {r c i : Nat} (f : Nat → Nat → Int) (hi : i < r) : ((tab r c f).drop (i * c)).take c = rowL c (f i) := by
  have hle : (i + 1) * c ≤ r * c := Nat.mul_le_mul_right c hi
  rw [Nat.add_mul, Nat.one_mul] at hle
  apply List.ext_getElem
  · simp [tab_len, rowL_len]; omega
  · intro t h1 h2
    have ht : t < c := by simpa [rowL_len] using h2
    have d := tab_div (i := i) ht
    simp [tab, rowL, d.1, d.2]
attribute [simp] tab_len rowL_len
theorem tab_in {r c i j : Nat} (hi : i < r) (hj : j < c) (hr : r ≤ 1024) (hc : c ≤ 1024) : In64 ((i : Int) * (c : Int)) ∧ In64 ((i : Int) * (c : Int) + (j : Int)) := by
  have h : (i : Int) * (c : Int) ≤ 1024 * 1024 := Int.mul_le_mul (by omega) (by omega) (by omega) (by omega)
  have h0 : 0 ≤ (i : Int) * (c : Int) := Int.mul_nonneg (by omega) (by omega)
  unfold In64; omega
/-- the first row from a on, of n, with a number that is not 0 in column k -/
def findR (f : Nat → Nat → Int) (k : Nat) : Nat → Nat → Nat
  | 0, a => a
  | n + 1, a => if f a k = 0 then findR f k n (a + 1) else a
def swapF (f : Nat → Nat → Int) (t a : Nat) : Nat → Nat → Int := fun i j => if i = t then f a j else if i = a then f t j else f i j
def scaleF (p : Int) (f : Nat → Nat → Int) (t : Nat) (s : Int) : Nat → Nat → Int := fun i j => if i = t then f i j * s % p else f i j
def clearF (p : Int) (f : Nat → Nat → Int) (t k : Nat) : Nat → Nat → Int := fun i j => if i = t then f i j else (f i j + (p - f i k) * f t j) % p
def powP (p x : Int) : Nat → Int
  | 0 => 1
  | n + 1 => powP p x n * x % p
def invP (p x : Int) : Int := powP p x (max (p - 2) 1).toNat
def stepE (p : Int) (r : Nat) (s : (Nat → Nat → Int) × List Nat) (k : Nat) : (Nat → Nat → Int) × List Nat :=
  if findR s.1 k (r - s.2.length) s.2.length = r then s else
    (clearF p (scaleF p (swapF s.1 s.2.length (findR s.1 k (r - s.2.length) s.2.length)) s.2.length (invP p (swapF s.1 s.2.length (findR s.1 k (r - s.2.length) s.2.length) s.2.length k))) s.2.length k, s.2 ++ [k])
def redK (p : Int) (r : Nat) (f : Nat → Nat → Int) : Nat → (Nat → Nat → Int) × List Nat
  | 0 => (f, [])
  | k + 1 => stepE p r (redK p r f k) k
/-- entries from 0 to p - 1 -/
def BdF (p : Int) (r c : Nat) (f : Nat → Nat → Int) : Prop := ∀ i, i < r → ∀ j, j < c → 0 ≤ f i j ∧ f i j ≤ p - 1
theorem mod_bd {p x : Int} (hp : 0 < p) : 0 ≤ x % p ∧ x % p ≤ p - 1 := by
  have h1 := Int.emod_nonneg x (show p ≠ 0 by omega)
  have h2 := Int.emod_lt_of_pos x hp
  omega
end Go.Proofs.Ytanembgijdkagaa.V
namespace Go.Proofs.Ytanembgijdkagaa.V
open Go.RowKit G D
set_option linter.unusedVariables false
set_option linter.unusedSimpArgs false
end Go.Proofs.Ytanembgijdkagaa.V
namespace Go.Proofs.Ytanembgijdkagaa.V
open Go.RowKit G D
set_option linter.unusedVariables false
set_option linter.unusedSimpArgs false
section
variable {P : Program} {w0 : World} {MP : Fr} {st : St} {d : Option Tmp} {ty : TypeId} {pos : String} {af : Array Edge} {g : Option (Nat × Bool)} {x y : Operand}
theorem A.idxQ {t e bys : Nat} {zz : Value} [hu : HasU P t (.slice e)] [hi : HasI P e 1 bys zz] {o n m r c i j : Nat} {l oo : Bool} {f : Nat → Nat → Int} (hx : evA st x = .sl o n 0 m) (hy : evA st y = .i ((i : Int) * (c : Int) + (j : Int))) (hh : st.hp o = .live l 1 (V.E oo (tab r c f))) (h1 : i < r) (h2 : j < c) (hn : n = r * c) (hm : m = r * c) :
    ASil true P w0 MP st ⟨d, .indexAddr t x y, ty, pos, af, g⟩ (.pt o n (i * c + j) 0) := by
  have h := A.idxE (P := P) (w0 := w0) (MP := MP) (d := d) (ty := ty) (pos := pos) (af := af) (g := g) (t := t) (k := i * c + j) hx hy hh (by rw [tab_len, hn]) (by push_cast; rfl) (by rw [hm]; exact tab_lt h1 h2)
  rwa [Nat.zero_add] at h
theorem A.ldQ {t : TypeId} [h1 : One P t] {o n r c i j : Nat} {l oo : Bool} {f : Nat → Nat → Int} (hx : evA st x = .pt o n (i * c + j) 0) (hh : st.hp o = .live l 1 (V.E oo (tab r c f))) (h1 : i < r) (h2 : j < c) (hn : n = r * c) : ASil false P w0 MP st ⟨d, .load t x, ty, pos, af, g⟩ (.i (f i j)) :=
  A.ldE hx hh (by rw [tab_len, hn]) (by rw [tab_len]; exact tab_lt h1 h2) (by rw [tab_get f h1 h2]; rfl) rfl
/-- an element of a table that does not change -/
theorem A.idxQD {t e bys : Nat} {zz : Value} [hu : HasU P t (.slice e)] [hi : HasI P e 1 bys zz] {r c i j : Nat} {o oo : Bool} {f : Nat → Nat → Int} (hx : evA st x = .dt o 1 (V.E oo (tab r c f))) (hy : evA st y = .i ((i : Int) * (c : Int) + (j : Int))) (h1 : i < r) (h2 : j < c) :
    ASil true P w0 MP st ⟨d, .indexAddr t x y, ty, pos, af, g⟩ (.ip [.i (f i j)]) := by
  have h := A.idxF (P := P) (w0 := w0) (MP := MP) (d := d) (ty := ty) (pos := pos) (af := af) (g := g) (t := t) (e := e) (k := i * c + j) hx hy (by push_cast; rfl) (by rw [tab_len]; exact tab_lt h1 h2)
  rwa [tab_get f h1 h2] at h
/-- an element of a row that does not change -/
theorem A.idxRD {t e bys : Nat} {zz : Value} [hu : HasU P t (.slice e)] [hi : HasI P e 1 bys zz] {c j : Nat} {o oo : Bool} {f : Nat → Int} (hx : evA st x = .dt o 1 (V.E oo (rowL c f))) (hy : evA st y = .i (j : Int)) (h2 : j < c) :
    ASil true P w0 MP st ⟨d, .indexAddr t x y, ty, pos, af, g⟩ (.ip [.i (f j)]) := by
  have h := A.idxF (P := P) (w0 := w0) (MP := MP) (d := d) (ty := ty) (pos := pos) (af := af) (g := g) (t := t) (e := e) (k := j) hx hy rfl (by rw [rowL_len]; exact h2)
  rwa [rowL_get f h2] at h
end
section
variable {P : Program} {n : Nat} {w0 : World} {MP : Fr} {Q : Exit → St → Prop} {E : Nat → AV} {hp : Nat → Ob} {nx : Nat} {lb : Bool} {ops : Array Oper} {os : List Oper} {d : Option Tmp} {ty : TypeId} {pos : String} {af : Array Edge} {g : Option (Nat × Bool)} {x y : Operand}
theorem F.stQ {t bys o nn r c i j : Nat} {zz : Value} {l oo : Bool} {f : Nat → Nat → Int} {v : Int} [hi : HasI P t 1 bys zz] (hx : evA ⟨E, hp, nx⟩ x = .pt o nn (i * c + j) 0) (hy : evA ⟨E, hp, nx⟩ y = .i v) (hh : hp o = .live l 1 (V.E oo (tab r c f))) (h1 : i < r) (h2 : j < c) (hn : nn = r * c)
    (hw : awant n ops ⟨d, .store t x y, ty, pos, af, g⟩ E true = true) (hd : fits n d = true) (hlb : lb = false)
    (h : ARg P n w0 MP lb ops os Q ⟨putE E d .no, updA hp o (.live l 1 (V.E oo (tab r c (updF f i j v)))), nx⟩) : ARg P n w0 MP lb ops (⟨d, .store t x y, ty, pos, af, g⟩ :: os) Q ⟨E, hp, nx⟩ :=
  F.stI hx hy hh (by rw [tab_len, hn]) (by rw [tab_len]; exact tab_lt h1 h2) hw hd hlb (by rw [tab_set f v h1 h2]; exact h)
end
/-- a matrix by its table -/
abbrev tm (r c : Nat) (f : Nat → Nat → Int) : Mat := ⟨(r : Int), (c : Int), tab r c f⟩
/-- a matrix's entry -/
def ent (m : Mat) : Nat → Nat → Int := fun i j => m.m.getD (i * m.c.toNat + j) default
theorem tm_of {m : Mat} (hr : 0 ≤ m.r) (hc : 0 ≤ m.c) (hl : (m.m.length : Int) = m.r * m.c) : tm m.r.toNat m.c.toNat (ent m) = m := by
  have e1 : ((m.r.toNat : Nat) : Int) = m.r := Int.toNat_of_nonneg hr
  have e2 : ((m.c.toNat : Nat) : Int) = m.c := Int.toNat_of_nonneg hc
  have e3 : m.m.length = m.r.toNat * m.c.toNat := by
    have : (m.m.length : Int) = ((m.r.toNat * m.c.toNat : Nat) : Int) := by push_cast; rw [e1, e2]; exact hl
    exact_mod_cast this
  unfold tm ent
  rw [e1, e2, tab_of e3]
end Go.Proofs.Ytanembgijdkagaa.V
namespace Go.Proofs.Ytanembgijdkagaa.V
open Go.RowKit G D
set_option linter.unusedVariables false
set_option linter.unusedSimpArgs false
section
variable {P : Program} {w0 : World} {MP : Fr} {d : Option Tmp} {ty : TypeId} {pos : String} {af : Array Edge} {g : Option (Nat × Bool)} {x y : Operand} {E : Nat → AV} {hp : Nat → Ob} {nx : Nat}
theorem A.slcQD {t e bys r c i : Nat} {zz : Value} {ol oh : Operand} {o oo : Bool} {f : Nat → Nat → Int} [hu : HasU P t (.slice e)] [hi : HasI P e 1 bys zz] (hx : evA ⟨E, hp, nx⟩ x = .dt o 1 (V.E oo (tab r c f))) (hl : evA ⟨E, hp, nx⟩ ol = .i ((i : Int) * (c : Int))) (hr : evA ⟨E, hp, nx⟩ oh = .i (((i : Int) + 1) * (c : Int))) (h1 : i < r) :
    ASil true P w0 MP ⟨E, hp, nx⟩ ⟨d, .slice t x (some ol) (some oh) none, ty, pos, af, g⟩ (.dt false 1 (V.E oo (rowL c (f i)))) := by
  have hle : (i + 1) * c ≤ r * c := Nat.mul_le_mul_right c h1
  have e1 : (i + 1) * c = i * c + c := by rw [Nat.add_mul, Nat.one_mul]
  have h := A.slcD (α := Int) (P := P) (w0 := w0) (MP := MP) (d := d) (ty := ty) (pos := pos) (af := af) (g := g) (t := t) (e := e) (ol := some ol) (oh := some oh) (lo := i * c) (hi' := (i + 1) * c) hx (by show evA _ ol = _; rw [hl]; push_cast; rfl) (by show evA _ oh = _; rw [hr]; push_cast; rfl) (by omega) (by rw [tab_len]; exact hle)
  have e2 : ((tab r c f).take ((i + 1) * c)).drop (i * c) = rowL c (f i) := by
    rw [← tab_row f h1, List.drop_take]
    congr 1; omega
  rwa [e2] at h
end
end Go.Proofs.Ytanembgijdkagaa.V
