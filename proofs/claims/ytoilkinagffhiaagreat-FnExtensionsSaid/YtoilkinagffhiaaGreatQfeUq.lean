/- Texts that the proof needs: Uq. -/
import Derived.Test.YtoilkinagffhiaaGreatQfeUd
namespace Go.Proofs.YtoilkinagffhiaaGreat.V
open Go.RowKit G D
set_option linter.unusedVariables false
set_option linter.unusedSimpArgs false
theorem q1 {p p' : Prop} (h : p') (hs : p' → p := by
 intro h
 (refine kR ?_; first
  | exact F.sil (A.idxQ rfl rfl rfl (by omega) (by omega) (by first | rfl | (simp [tab_len]; done)) (by first | rfl | (simp [tab_len]; done))) rfl rfl h
  | exact F.sil (A.ldQ rfl rfl (by omega) (by omega) (by first | rfl | (simp [tab_len]; done))) rfl rfl h
  | exact F.sil (A.idxQD rfl rfl (by omega) (by omega)) rfl rfl h
  | exact F.sil (A.idxRD rfl rfl (by omega)) rfl rfl h
  | exact F.stQ rfl rfl rfl (by omega) (by omega) (by first | rfl | (simp [tab_len]; done)) rfl rfl rfl h)) : p := hs h
section
variable {P : Program} {n : Nat} {w0 : World} {MP : Fr} {Q : Exit → St → Prop} {E : Nat → AV} {hp : Nat → Ob} {nx : Nat} {ops : Array Oper} {m fuel : Nat} {listed : Array Bool} {d : Option Tmp} {ty : TypeId} {pos : String} {af : Array Edge} {g : Option (Nat × Bool)} {op : Op}
theorem dQ [ANoPan Q] (i : Nat) {a : AV} (h : ARA P n w0 MP m ops fuel (listed.setIfInBounds i true) Q ⟨putE E d a, hp, nx⟩) (ho : ops[i]? = some ⟨d, op, ty, pos, af, g⟩ := by exact rfl) (hc : (Region.free .any ops listed i && (Region.ready .any ops listed).contains i) = true := by kernel_rfl)
    (hs : ASil true P w0 MP ⟨E, hp, nx⟩ ⟨d, op, ty, pos, af, g⟩ a := by
      first
        | exact A.idxQ rfl rfl rfl (by omega) (by omega) (by first | rfl | (simp [tab_len]; done)) (by first | rfl | (simp [tab_len]; done))
        | exact A.idxQD rfl rfl (by omega) (by omega)
        | exact A.idxRD rfl rfl (by omega)) (hw : awant n ops ⟨d, op, ty, pos, af, g⟩ E true = true := by exact rfl) (hd : fits n d = true := by exact rfl) : ARA P n w0 MP m ops (fuel + 1) listed Q ⟨E, hp, nx⟩ := dP i h ho hc hs hw hd
theorem dLQ [ANoPan Q] (i : Nat) {a : AV} (h : ARA P n w0 MP m ops fuel (listed.setIfInBounds i true) Q ⟨putE E d a, hp, nx⟩) (ho : ops[i]? = some ⟨d, op, ty, pos, af, g⟩ := by exact rfl) (hc : (Nat.blt i m && isLoad ops i && Region.free .any ops listed i && (Region.ready .any ops listed).contains i) = true := by kernel_rfl)
    (hs : ASil false P w0 MP ⟨E, hp, nx⟩ ⟨d, op, ty, pos, af, g⟩ a := by exact A.ldQ rfl rfl (by omega) (by omega) (by first | rfl | (simp [tab_len]; done))) (hw : awant n ops ⟨d, op, ty, pos, af, g⟩ E true = true := by exact rfl) (hd : fits n d = true := by exact rfl) : ARA P n w0 MP m ops (fuel + 1) listed Q ⟨E, hp, nx⟩ := dL i h ho hc hs hw hd
end
end Go.Proofs.YtoilkinagffhiaaGreat.V
