/- The program's data, as Lean's own and as abstract cells. No program is spoken of. -/
import Derived.Test.YtcalkmlaodjpaaaHj
import Derived.Test.YtcalkmlaodjpaaaPa
namespace Go.Proofs.Ytcalkmlaodjpaaa.V
open Go.RowKit G D
set_option linter.unusedVariables false
set_option linter.unusedSimpArgs false

/-- a matrix: rows, columns, cells -/
structure Mat where
  r : Int
  c : Int
  m : List Int
/-- a space: the size, the basis -/
structure Spc where
  n : Int
  b : List (List Int)
/-- a path: the start, the arrows -/
structure Pth where
  s : Int
  a : List Int
/-- a representation: the prime, the quiver, the dimensions, the maps -/
structure Rep where
  p : Int
  q : Quiv
  d : List Int
  m : List Mat
instance : Inhabited Mat := ⟨⟨0, 0, []⟩⟩
instance : Inhabited Spc := ⟨⟨0, []⟩⟩
instance : Inhabited Pth := ⟨⟨0, []⟩⟩
instance : Inhabited Quiv := ⟨⟨0, [], []⟩⟩
instance : Inhabited Rep := ⟨⟨0, default, [], []⟩⟩
/-- a list's cell -/
abbrev ar {α : Type} [Enc α] (o : Bool) (l : List α) : AV := .dt o (Enc.nc α) (E o l)
theorem frz_ar {α : Type} [Enc α] (o o' : Bool) (l : List α) : frz (.dt o (Enc.nc α) (E o' l)) = ar false l := by simp [frz, E_frz]
instance : Enc Mat := ⟨fun o x => [.i x.r, .i x.c, .dt o (Enc.nc Int) (E o x.m)], 3, fun _ _ => rfl, fun o x => by simp [frzL, frz, E_frz], fun _ _ => rfl, fun x => by simp [ownL', ownA, E_own]⟩
instance : Enc Spc := ⟨fun o x => [.i x.n, .dt o (Enc.nc (List Int)) (E o x.b)], 2, fun _ _ => rfl, fun o x => by simp [frzL, frz, E_frz], fun _ _ => rfl, fun x => by simp [ownL', ownA, E_own]⟩
instance : Enc Pth := ⟨fun o x => [.i x.s, .dt o (Enc.nc Int) (E o x.a)], 2, fun _ _ => rfl, fun o x => by simp [frzL, frz, E_frz], fun _ _ => rfl, fun x => by simp [ownL', ownA, E_own]⟩
instance : Enc Quiv := ⟨fun o x => [.i x.n, .dt o (Enc.nc Int) (E o x.fr), .dt o (Enc.nc Int) (E o x.to)], 3, fun _ _ => rfl, fun o x => by simp [frzL, frz, E_frz], fun _ _ => rfl, fun x => by simp [ownL', ownA, E_own]⟩
instance : Enc Rep := ⟨fun o x => [.i x.p, .i x.q.n, .dt o (Enc.nc Int) (E o x.q.fr), .dt o (Enc.nc Int) (E o x.q.to), .dt o (Enc.nc Int) (E o x.d), .dt o (Enc.nc Mat) (E o x.m)], 6, fun _ _ => rfl, fun o x => by simp [frzL, frz, E_frz], fun _ _ => rfl, fun x => by simp [ownL', ownA, E_own]⟩
theorem ZeroE.int {P : Program} {e bys : Nat} (h : HasI P e 1 bys (.int .i64 0)) : ZeroE P e Int 0 :=
  ⟨bys, _, [.int .i64 0], h, rfl, by simp, rfl, fun Im w => .at1 (.int ⟨by omega, by omega⟩ .nil) .nil⟩
theorem OwnC.nil1 {α : Type} [Enc α] (Im : Nat → Prop) (w : World) : OwnC Im w [ar true ([] : List α)] [.slice none 0 0] [] :=
  OwnC.ow (Im := Im) (w := w) (sz := Enc.nc α) (xs := E true ([] : List α)) (us := []) (G := []) (F := []) ⟨0, Buf.nil w 0 _⟩ .nil (fun x hx => by cases hx) .nil
theorem ZeroE.lst {P : Program} {e bys : Nat} {α : Type} [Enc α] (h : HasI P e 1 bys (.slice none 0 0)) : ZeroE P e (List α) [] :=
  ⟨bys, _, [.slice none 0 0], h, rfl, by simp, rfl, fun Im w => OwnC.nil1 Im w⟩
theorem OwnC.int1 {Im : Nat → Prop} {w : World} {n : Int} (h : In64 n) : OwnC Im w [.i n] [.int .i64 n] [] := .at1 (.int h .nil) .nil
theorem ZeroE.mat {P : Program} {e bys : Nat} (h : HasI P e 3 bys (.agg #[.int .i64 0, .int .i64 0, .slice none 0 0])) : ZeroE P e Mat ⟨0, 0, []⟩ :=
  ⟨bys, _, [.int .i64 0, .int .i64 0, .slice none 0 0], h, rfl, by simp, rfl, fun Im w => ((OwnC.int1 (n := 0) ⟨by omega, by omega⟩).append (OwnC.int1 (n := 0) ⟨by omega, by omega⟩)).append (OwnC.nil1 (α := Int) Im w)⟩
theorem ZeroE.spc {P : Program} {e bys : Nat} (h : HasI P e 2 bys (.agg #[.int .i64 0, .slice none 0 0])) : ZeroE P e Spc ⟨0, []⟩ :=
  ⟨bys, _, [.int .i64 0, .slice none 0 0], h, rfl, by simp, rfl, fun Im w => (OwnC.int1 (n := 0) ⟨by omega, by omega⟩).append (OwnC.nil1 (α := List Int) Im w)⟩
theorem ZeroE.pth {P : Program} {e bys : Nat} (h : HasI P e 2 bys (.agg #[.int .i64 0, .slice none 0 0])) : ZeroE P e Pth ⟨0, []⟩ :=
  ⟨bys, _, [.int .i64 0, .slice none 0 0], h, rfl, by simp, rfl, fun Im w => (OwnC.int1 (n := 0) ⟨by omega, by omega⟩).append (OwnC.nil1 (α := Int) Im w)⟩
theorem ZeroE.rep {P : Program} {e bys : Nat} (h : HasI P e 6 bys (.agg #[.int .i64 0, .int .i64 0, .slice none 0 0, .slice none 0 0, .slice none 0 0, .slice none 0 0])) : ZeroE P e Rep ⟨0, ⟨0, [], []⟩, [], []⟩ :=
  ⟨bys, _, [.int .i64 0, .int .i64 0, .slice none 0 0, .slice none 0 0, .slice none 0 0, .slice none 0 0], h, rfl, by simp, rfl, fun Im w => ((((((OwnC.int1 (n := 0) ⟨by omega, by omega⟩).append (OwnC.int1 (n := 0) ⟨by omega, by omega⟩)).append (OwnC.nil1 (α := Int) Im w)).append (OwnC.nil1 (α := Int) Im w)).append (OwnC.nil1 (α := Int) Im w)).append (OwnC.nil1 (α := Mat) Im w))⟩
end Go.Proofs.Ytcalkmlaodjpaaa.V
