/- Texts that the proof needs: A106. -/
import Derived.Test.YtbcfbcfiahmncaaGreatQddA8
import Derived.Test.YtbcfbcfiahmncaaGreatQddA97
namespace Go.Proofs.YtbcfbcfiahmncaaGreat.V
open Go.RowKit G D
set_option linter.unusedVariables false
set_option linter.unusedSimpArgs false
set_option maxHeartbeats 1000000
set_option maxRecDepth 4000
def zerF : Nat → Nat → Int := fun _ _ => 0
def blkF (r c : Nat) (f h g : Nat → Nat → Int) : Nat → Nat → Int := fun i j => if i < r then (if j < c then f i j else h i (j - c)) else (if j < c then 0 else g (i - r) (j - c))
def belF (r : Nat) (f g : Nat → Nat → Int) : Nat → Nat → Int := fun i j => if i < r then f i j else g (i - r) j
theorem bel_bes (r c : Nat) (f h g : Nat → Nat → Int) : belF r (besF c f h) (besF c zerF g) = blkF r c f h g := by
 funext i j
 unfold belF besF blkF zerF
 rfl
theorem bel_rows (r1 r2 c : Nat) (f g : Nat → Nat → Int) : tm (rowsL r1 c f ++ rowsL r2 c g).length c (vecF (rowsL r1 c f ++ rowsL r2 c g)) = tm (r1 + r2) c (belF r1 f g) := by
 unfold tm
 rw [List.length_append, rowsL_len, rowsL_len]
 congr 1
 apply tab_ext
 intro i hi j hj
 unfold belF vecF
 rw [app_getD, rowsL_len]
 by_cases h : i < r1
 ·rw [if_pos h, if_pos h, rowsL_get _ _ h, rowL_get _ hj]
 ·rw [if_neg h, if_neg h, rowsL_get _ _ (by omega), rowL_get _ hj]
def blkM (x y : Mat) (h : Nat → Nat → Int) : Mat := tm (x.r.toNat + y.r.toNat) (x.c.toNat + y.c.toNat) (blkF x.r.toNat x.c.toNat (ent x) h (ent y))
def sumDs (b a : Rep) : List Int := (List.range b.d.length).map fun v => b.d.getD v default + a.d.getD v default
theorem sumDs_len (b a : Rep) : (sumDs b a).length = b.d.length := by simp [sumDs]
theorem sumDs_get (b a : Rep) {v : Nat} (hv : v < b.d.length) : (sumDs b a).getD v default = b.d.getD v default + a.d.getD v default := by simp [sumDs, hv]
theorem sumDs_take (b a : Rep) {k : Nat} (h : k < b.d.length) : (sumDs b a).take (k + 1) = (sumDs b a).take k ++ [b.d.getD k default + a.d.getD k default] := by
 simp only [sumDs, ← List.map_take, range_take h, List.map_append, List.map_cons, List.map_nil]
def sumMs (b a : Rep) (H : Nat → Nat → Nat → Int) : List Mat := (List.range b.m.length).map fun i => blkM (b.m.getD i default) (a.m.getD i default) (H i)
theorem sumMs_len (b a : Rep) (H : Nat → Nat → Nat → Int) : (sumMs b a H).length = b.m.length := by simp [sumMs]
theorem sumMs_get (b a : Rep) (H : Nat → Nat → Nat → Int) {i : Nat} (hi : i < b.m.length) : (sumMs b a H).getD i default = blkM (b.m.getD i default) (a.m.getD i default) (H i) := by simp [sumMs, hi]
theorem sumMs_take (b a : Rep) (H : Nat → Nat → Nat → Int) {k : Nat} (h : k < b.m.length) : (sumMs b a H).take (k + 1) = (sumMs b a H).take k ++ [blkM (b.m.getD k default) (a.m.getD k default) (H k)] := by
 simp only [sumMs, ← List.map_take, range_take h, List.map_append, List.map_cons, List.map_nil]
def sumR (b a : Rep) (H : Nat → Nat → Nat → Int) : Rep := ⟨b.p, b.q, sumDs b a, sumMs b a H⟩
def sumP (b a : Rep) : Rep × Bool := if fitR b a = true ∧ isRep (sumR b a fun _ => zerF) = true then (sumR b a fun _ => zerF, true) else (noR, false)
end Go.Proofs.YtbcfbcfiahmncaaGreat.V
