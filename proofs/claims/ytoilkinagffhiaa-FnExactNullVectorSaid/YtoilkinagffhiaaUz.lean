/- Abstract values: a contract of a call that gets no objects and returns memory of its own alone writes nothing of its caller's. Over any program; nothing is claimed of the given one. -/
import Derived.Test.YtoilkinagffhiaaUc
namespace Go.Proofs.Ytoilkinagffhiaa.V
open Go.RowKit G
set_option linter.unusedVariables false
set_option linter.unusedSimpArgs false
def outB : AV → Bool
  | .agg cs => cs.all pureB && ownL' cs
  | a => pureB a && ownA a
theorem ResM.resL {N : Nat} {C : Nat → Option Conc} {J : Nat → Prop} {w : World} {rs : List AV} {vs : List Value} {F : List Nat} (h : ResM N C J w rs vs F) (ho : rs.all outB = true) : ResL w rs vs F := by
  induction h with
  | nil => exact .nil
  | @cell a v rs vs F G h1 _ ih =>
    rw [List.all_cons, Bool.and_eq_true] at ho
    refine .cell ?_ (ih ho.2)
    cases a with
    | agg cs =>
      cases h1 with
      | at1 h3 h4 _ => obtain ⟨us, rfl, _⟩ := h3; cases h4
    | _ =>
      have h2 := ho.1
      simp only [outB, Bool.and_eq_true] at h2
      exact (h1.pure (by simp [h2.1])).own (by simp [ownL', h2.2])
  | @agg cs us rs vs F G h1 _ ih =>
    rw [List.all_cons, Bool.and_eq_true] at ho
    have h2 := ho.1
    simp only [outB, Bool.and_eq_true] at h2
    exact .agg ((h1.pure h2.1).own h2.2) (ih ho.2)
theorem AC.ofAM {P : Program} {f : FuncId} {bs rs : List AV} (h : AM P f bs [] rs []) (ho : rs.all outB = true) : AC P f bs rs := fun w us hus => by
  have hS : Sm w (Fr0 w) ⟨fun _ => .no, obS [], 0⟩ noC (Fr0 w).J (fr []) w := by
    refine ⟨⟨fun _ _ _ => rfl, Nat.le_refl _, rfl, rfl, rfl⟩, fun _ h => h, fun t => trivial, fun _ _ => rfl, (fun o l sz xs h => by cases h), fun _ _ => rfl, (fun o o' cc cc' _ h => by cases h), fun k hk => .inl hk, fun p hp => by cases hp⟩
  refine (h w (Fr0 w) noC (fr []) us hS hus).mono fun v w' ⟨C', J', E', hb, vs, F, e, hR, hL, hF⟩ => ?_
  exact ⟨Later.ofTouched hb.tch, vs, F, e, hR.resL ho, hL.nd, fun k hk => (hL.ge k hk).elim id fun h => by cases h⟩
end Go.Proofs.Ytoilkinagffhiaa.V
