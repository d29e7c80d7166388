/- Tables in memory: elements by row and column. Over any program; nothing is claimed of the given one. -/
import Derived.Test.YtcalkmlaodjpaaaPe
import Derived.Test.YtcalkmlaodjpaaaHp
namespace Go.Proofs.Ytcalkmlaodjpaaa.V
open Go.RowKit G D
set_option linter.unusedVariables false
set_option linter.unusedSimpArgs false
section
variable {P : Program} {w0 : World} {MP : Fr} {st : St} {d : Option Tmp} {ty : TypeId} {pos : String} {af : Array Edge} {g : Option (Nat × Bool)} {x y : Operand}
theorem A.idxQ {t e bys : Nat} {zz : Value} [hu : HasU P t (.slice e)] [hi : HasI P e 1 bys zz] {o n m r c i j : Nat} {l oo : Bool} {f : Nat → Nat → Int} (hx : evA st x = .sl o n 0 m) (hy : evA st y = .i ((i : Int) * (c : Int) + (j : Int))) (hh : st.hp o = .live l 1 (V.E oo (tab r c f))) (h1 : i < r) (h2 : j < c) (hn : n = r * c) (hm : m = r * c) :
    ASil true P w0 MP st ⟨d, .indexAddr t x y, ty, pos, af, g⟩ (.pt o n (i * c + j) 0) := by
  have h := A.idxE (P := P) (w0 := w0) (MP := MP) (d := d) (ty := ty) (pos := pos) (af := af) (g := g) (t := t) (k := i * c + j) hx hy hh (by rw [tab_len, hn]) (by push_cast; rfl) (by rw [hm]; exact tab_lt h1 h2)
  rwa [Nat.zero_add] at h
theorem A.ldQ {t : TypeId} [h1 : One P t] {o n r c i j : Nat} {l oo : Bool} {f : Nat → Nat → Int} (hx : evA st x = .pt o n (i * c + j) 0) (hh : st.hp o = .live l 1 (V.E oo (tab r c f))) (h1 : i < r) (h2 : j < c) (hn : n = r * c) : ASil false P w0 MP st ⟨d, .load t x, ty, pos, af, g⟩ (.i (f i j)) :=
  A.ldE hx hh (by rw [tab_len, hn]) (by rw [tab_len]; exact tab_lt h1 h2) (by rw [tab_get f h1 h2]; rfl) rfl
/-- an element of a table that does not change -/
theorem A.idxQD {t e bys : Nat} {zz : Value} [hu : HasU P t (.slice e)] [hi : HasI P e 1 bys zz] {r c i j : Nat} {o oo : Bool} {f : Nat → Nat → Int} (hx : evA st x = .dt o 1 (V.E oo (tab r c f))) (hy : evA st y = .i ((i : Int) * (c : Int) + (j : Int))) (h1 : i < r) (h2 : j < c) :
    ASil true P w0 MP st ⟨d, .indexAddr t x y, ty, pos, af, g⟩ (.ip [.i (f i j)]) := by
  have h := A.idxF (P := P) (w0 := w0) (MP := MP) (d := d) (ty := ty) (pos := pos) (af := af) (g := g) (t := t) (e := e) (k := i * c + j) hx hy (by push_cast; rfl) (by rw [tab_len]; exact tab_lt h1 h2)
  rwa [tab_get f h1 h2] at h
/-- an element of a row that does not change -/
theorem A.idxRD {t e bys : Nat} {zz : Value} [hu : HasU P t (.slice e)] [hi : HasI P e 1 bys zz] {c j : Nat} {o oo : Bool} {f : Nat → Int} (hx : evA st x = .dt o 1 (V.E oo (rowL c f))) (hy : evA st y = .i (j : Int)) (h2 : j < c) :
    ASil true P w0 MP st ⟨d, .indexAddr t x y, ty, pos, af, g⟩ (.ip [.i (f j)]) := by
  have h := A.idxF (P := P) (w0 := w0) (MP := MP) (d := d) (ty := ty) (pos := pos) (af := af) (g := g) (t := t) (e := e) (k := j) hx hy rfl (by rw [rowL_len]; exact h2)
  rwa [rowL_get f h2] at h
end
section
variable {P : Program} {n : Nat} {w0 : World} {MP : Fr} {Q : Exit → St → Prop} {E : Nat → AV} {hp : Nat → Ob} {nx : Nat} {lb : Bool} {ops : Array Oper} {os : List Oper} {d : Option Tmp} {ty : TypeId} {pos : String} {af : Array Edge} {g : Option (Nat × Bool)} {x y : Operand}
theorem F.stQ {t bys o nn r c i j : Nat} {zz : Value} {l oo : Bool} {f : Nat → Nat → Int} {v : Int} [hi : HasI P t 1 bys zz] (hx : evA ⟨E, hp, nx⟩ x = .pt o nn (i * c + j) 0) (hy : evA ⟨E, hp, nx⟩ y = .i v) (hh : hp o = .live l 1 (V.E oo (tab r c f))) (h1 : i < r) (h2 : j < c) (hn : nn = r * c)
    (hw : awant n ops ⟨d, .store t x y, ty, pos, af, g⟩ E true = true) (hd : fits n d = true) (hlb : lb = false)
    (h : ARg P n w0 MP lb ops os Q ⟨putE E d .no, updA hp o (.live l 1 (V.E oo (tab r c (updF f i j v)))), nx⟩) : ARg P n w0 MP lb ops (⟨d, .store t x y, ty, pos, af, g⟩ :: os) Q ⟨E, hp, nx⟩ :=
  F.stI hx hy hh (by rw [tab_len, hn]) (by rw [tab_len]; exact tab_lt h1 h2) hw hd hlb (by rw [tab_set f v h1 h2]; exact h)
end
/-- a matrix by its table -/
abbrev tm (r c : Nat) (f : Nat → Nat → Int) : Mat := ⟨(r : Int), (c : Int), tab r c f⟩
/-- a matrix's entry -/
def ent (m : Mat) : Nat → Nat → Int := fun i j => m.m.getD (i * m.c.toNat + j) default
theorem tm_of {m : Mat} (hr : 0 ≤ m.r) (hc : 0 ≤ m.c) (hl : (m.m.length : Int) = m.r * m.c) : tm m.r.toNat m.c.toNat (ent m) = m := by
  have e1 : ((m.r.toNat : Nat) : Int) = m.r := Int.toNat_of_nonneg hr
  have e2 : ((m.c.toNat : Nat) : Int) = m.c := Int.toNat_of_nonneg hc
  have e3 : m.m.length = m.r.toNat * m.c.toNat := by
    have : (m.m.length : Int) = ((m.r.toNat * m.c.toNat : Nat) : Int) := by push_cast; rw [e1, e2]; exact hl
    exact_mod_cast this
  unfold tm ent
  rw [e1, e2, tab_of e3]
end Go.Proofs.Ytcalkmlaodjpaaa.V
