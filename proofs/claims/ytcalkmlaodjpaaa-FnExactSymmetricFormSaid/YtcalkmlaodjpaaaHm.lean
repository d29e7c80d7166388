/- What a law's parameter is read as, as abstract cells. Over any program; nothing is claimed of the given one. -/
import Derived.Test.YtcalkmlaodjpaaaHk
import Derived.Test.YtcalkmlaodjpaaaGf
namespace Go.Proofs.Ytcalkmlaodjpaaa.V
open V.Enc (enc)
open Go.RowKit G D
set_option linter.unusedVariables false
set_option linter.unusedSimpArgs false
class RdE {α : Type} [Enc α] (R : Rp α) : Prop where
  nc : R.nc = Enc.nc α
  h : ∀ {w x vs F}, R.V w x vs F → Imm (fun k => k < w.heap.size) w (enc false x) vs
instance : RdE intR := ⟨rfl, fun h => by obtain ⟨rfl, _, hi⟩ := h; exact .int hi .nil⟩
theorem RdE.elems {α : Type} [Enc α] {R : Rp α} [hr : RdE R] {w : World} {b : Nat} : ∀ (l : List α) (o : Nat), (∀ k x, l[k]? = some x → ∃ vs F, Cells w b (o + k * R.nc) vs ∧ R.V w x vs F) → ∃ us, Cells w b o us ∧ Imm (fun k => k < w.heap.size) w (V.E false l).flatten us
  | [], o, _ => ⟨[], fun i v h => by simp at h, .nil⟩
  | a :: l, o, h => by
    obtain ⟨v1, F1, h1, h2⟩ := h 0 a rfl
    obtain ⟨us, h3, h4⟩ := RdE.elems l (o + R.nc) (fun k x hk => by
      obtain ⟨vs, F, g1, g2⟩ := h (k + 1) x (by simpa using hk)
      exact ⟨vs, F, by rw [show o + R.nc + k * R.nc = o + (k + 1) * R.nc by rw [Nat.succ_mul]; omega]; exact g1, g2⟩)
    have hl := R.len h2
    refine ⟨v1 ++ us, fun i v hv => ?_, ?_⟩
    · rcases Nat.lt_or_ge i v1.length with hi | hi
      · rw [List.getElem?_append_left hi] at hv
        have := h1 i v hv
        rw [Nat.zero_mul, Nat.add_zero] at this; exact this
      · rw [List.getElem?_append_right hi] at hv
        have := h3 _ v hv
        rw [show o + R.nc + (i - v1.length) = o + i by omega] at this; exact this
    · have := (hr.h h2).append h4
      simpa [V.E] using this
instance {α : Type} [Enc α] {R : Rp α} [hr : RdE R] : RdE (listR R) := ⟨rfl, fun {w x vs F} h => by
  obtain ⟨p, c, rfl, h1, h2, h3⟩ := h
  rcases h3 with ⟨rfl, _⟩ | ⟨b, o, Fs, rfl, rfl, ht, hlen, he⟩
  · exact .sl0 h2 .nil
  · obtain ⟨us, g1, g2⟩ := RdE.elems (R := R) (w := w) (b := b) x o (fun k y hk => by obtain ⟨vs, q1, q2⟩ := he k y hk; exact ⟨vs, _, q1, q2⟩)
    have e : x.length = (V.E false x).length := (E_length _ _).symm
    show Imm _ w [.dt false (Enc.nc α) (V.E false x)] _
    rw [e]
    exact .sl (by rw [E_length]; exact h1) h2 ht.lt g1 g2 (E_len false x) .nil⟩
theorem RVs.nil (w : World) : RVs w [] [] := rfl
theorem RVs.cons {w : World} {a : AV} {v : Value} {bs : List AV} {us : List Value} (h : Imm (fun k => k < w.heap.size) w [a] [v]) (hs : RVs w bs us) : RVs w (a :: bs) (v :: us) := ⟨v, us, rfl, RV.imm h, hs⟩
theorem RVs.int {w : World} {n : Int} {bs : List AV} {us : List Value} (h : In64 n) (hs : RVs w bs us) : RVs w (.i n :: bs) (.int .i64 n :: us) := ⟨_, us, rfl, ⟨rfl, h⟩, hs⟩
theorem RVL.ofImm {N : Nat} {C : Nat → Option Conc} {Im : Nat → Prop} {w : World} : ∀ {cs : List AV} {vs : List Value}, Imm Im w cs vs → RVL N C Im w cs vs
  | [], vs, h => by cases h; rfl
  | a :: cs, [], h => by cases h
  | a :: cs, v :: vs, h => by
    obtain ⟨v1, v2, e, h1, h2⟩ := Imm.split (cs := [a]) (ds := cs) h
    have hl := h1.length
    match v1, hl with
    | [u], _ =>
      injection e with e1 e2
      subst e1; subst e2
      exact ⟨_, _, rfl, RV.imm h1, RVL.ofImm h2⟩
theorem RVs.agg {w : World} {cs : List AV} {vs : List Value} {bs : List AV} {us : List Value} (h : Imm (fun k => k < w.heap.size) w cs vs) (hs : RVs w bs us) : RVs w (.agg cs :: bs) (.agg vs.toArray :: us) := ⟨_, us, rfl, ⟨vs, rfl, RVL.ofImm h⟩, hs⟩
/-- a law that returns true -/
theorem AC.law {P : Program} {f : FuncId} {bs : List AV} (h : AC P f bs [.b true]) {w : World} {us : List Value} (hs : RVs w bs us) : Run P f us w fun v w' => v = .bool true ∧ Later w w' :=
  (h w us hs).mono fun v w' ⟨h1, vs, F, e, h2, _, _⟩ => by
    cases h2 with
    | cell h3 h4 =>
      cases h4
      cases h3 with
      | at1 h5 h6 => cases h6; cases h5; exact ⟨e, h1⟩
end Go.Proofs.Ytcalkmlaodjpaaa.V
