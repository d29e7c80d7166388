/-
  No cell of these rows narrows 'for every input' (looked for: loops, veiled, ifaces, maps, wideKeys, modest, calm, conditions, laid).
  DERIVED. THE GIVEN ROWS OF THIS SEAT. 7 by the template 'for every input the law returns true; each argument reads behind the call as it read before'; 0 by the template 'total and deterministic' (their statements: YtjnhjfgcfclamaaGreatTotals.lean).
  GIVEN WITH THE SEED: the statements are not yours to turn. If you find one false, say at which input.
  Laid BY PROGRAM, IN A SANDBOX (cutbox-rows.mjs): the forced cells as the released guide's own fill.sh prints them over the translation c5c2bd20ebd927ca… (all of the seat's roots in one cut). By AI agents, Wed Nov 11 2026. No macro, syntax, notation, axiom, sorry.
-/
import Derived.Test.YtjnhjfgcfclamaaGreatChecked
import GoSem.Claim
import GoSem.ClaimJoined
import GoSem.ClaimMapViews
import Derived.JoinedTies
import Derived.KernelRfl
namespace Go.Proofs.YtjnhjfgcfclamaaGreat
/- THE CELL 'sum', in the pinned program and in every row, IS THE sha256 OF THE DUMP (.gsa) THAT YtjnhjfgcfclamaaGreatProg.lean LOADS. Nothing in Lean hashes anything: it is a label: what it is worth is what the hold of that sum in a sandbox is worth. -/
noncomputable def Tryz.pinned : Pinned := { name := "ytjnhjfgcfclamaagreat", sum := "c5c2bd20ebd927caff665cacf87561ff9ffb886162dc28a73f14357e2eb668e8", checked := Tryz.checked }
namespace Rows
def none {H : Type} : Left H := { results := [], args := [] }

/-- 'laws.FnExactSubRep': WHATEVER THE INPUT: true; the input reads as it did. -/
def fnExactSubRepSpec : ChangeSpec := { name := "fnExactSubRep", fn := fun _ => fun
  | [d1, d2] => { results := [.lit (.bool true)], args := [d1, d2] }
  | _ => none }
def fnExactSubRepRow : OpenClaim := { program := "ytjnhjfgcfclamaagreat", sum := "c5c2bd20ebd927caff665cacf87561ff9ffb886162dc28a73f14357e2eb668e8", func := "loop.example/g03404/laws.FnExactSubRep", spec := "fnExactSubRep", unfollowed := true, recurses := true, apart := false }
def FnExactSubRepSaid : Prop := fnExactSubRepRow.holds Tryz.pinned (OpenSpec.ofChange fnExactSubRepSpec)

/-- ITS FALSE NEIGHBOUR: 'it returns false'. Refute it at one input. -/
def fnExactSubRepWrong : ChangeSpec := { name := "fnExactSubRep", fn := fun _ => fun
  | [d1, d2] => { results := [.lit (.bool false)], args := [d1, d2] }
  | _ => none }
def FnExactSubRepWrongFalsely : Prop := fnExactSubRepRow.holds Tryz.pinned (OpenSpec.ofChange fnExactSubRepWrong)

/-- 'laws.FnExactRadicalLayers': WHATEVER THE INPUT: true; the input reads as it did. -/
def fnExactRadicalLayersSpec : ChangeSpec := { name := "fnExactRadicalLayers", fn := fun _ => fun
  | [d] => { results := [.lit (.bool true)], args := [d] }
  | _ => none }
def fnExactRadicalLayersRow : OpenClaim := { program := "ytjnhjfgcfclamaagreat", sum := "c5c2bd20ebd927caff665cacf87561ff9ffb886162dc28a73f14357e2eb668e8", func := "loop.example/g03404/laws.FnExactRadicalLayers", spec := "fnExactRadicalLayers", unfollowed := true, recurses := true, apart := false }
def FnExactRadicalLayersSaid : Prop := fnExactRadicalLayersRow.holds Tryz.pinned (OpenSpec.ofChange fnExactRadicalLayersSpec)

/-- ITS FALSE NEIGHBOUR: 'it returns false'. Refute it at one input. -/
def fnExactRadicalLayersWrong : ChangeSpec := { name := "fnExactRadicalLayers", fn := fun _ => fun
  | [d] => { results := [.lit (.bool false)], args := [d] }
  | _ => none }
def FnExactRadicalLayersWrongFalsely : Prop := fnExactRadicalLayersRow.holds Tryz.pinned (OpenSpec.ofChange fnExactRadicalLayersWrong)

/-- 'laws.FnExactQuotientRep': WHATEVER THE INPUT: true; the input reads as it did. -/
def fnExactQuotientRepSpec : ChangeSpec := { name := "fnExactQuotientRep", fn := fun _ => fun
  | [d1, d2] => { results := [.lit (.bool true)], args := [d1, d2] }
  | _ => none }
def fnExactQuotientRepRow : OpenClaim := { program := "ytjnhjfgcfclamaagreat", sum := "c5c2bd20ebd927caff665cacf87561ff9ffb886162dc28a73f14357e2eb668e8", func := "loop.example/g03404/laws.FnExactQuotientRep", spec := "fnExactQuotientRep", unfollowed := true, recurses := true, apart := false }
def FnExactQuotientRepSaid : Prop := fnExactQuotientRepRow.holds Tryz.pinned (OpenSpec.ofChange fnExactQuotientRepSpec)

/-- ITS FALSE NEIGHBOUR: 'it returns false'. Refute it at one input. -/
def fnExactQuotientRepWrong : ChangeSpec := { name := "fnExactQuotientRep", fn := fun _ => fun
  | [d1, d2] => { results := [.lit (.bool false)], args := [d1, d2] }
  | _ => none }
def FnExactQuotientRepWrongFalsely : Prop := fnExactQuotientRepRow.holds Tryz.pinned (OpenSpec.ofChange fnExactQuotientRepWrong)

/-- 'laws.FnExactCokernelRep': WHATEVER THE INPUT: true; the input reads as it did. -/
def fnExactCokernelRepSpec : ChangeSpec := { name := "fnExactCokernelRep", fn := fun _ => fun
  | [d1, d2, d3] => { results := [.lit (.bool true)], args := [d1, d2, d3] }
  | _ => none }
def fnExactCokernelRepRow : OpenClaim := { program := "ytjnhjfgcfclamaagreat", sum := "c5c2bd20ebd927caff665cacf87561ff9ffb886162dc28a73f14357e2eb668e8", func := "loop.example/g03404/laws.FnExactCokernelRep", spec := "fnExactCokernelRep", unfollowed := true, recurses := true, apart := false }
def FnExactCokernelRepSaid : Prop := fnExactCokernelRepRow.holds Tryz.pinned (OpenSpec.ofChange fnExactCokernelRepSpec)

/-- ITS FALSE NEIGHBOUR: 'it returns false'. Refute it at one input. -/
def fnExactCokernelRepWrong : ChangeSpec := { name := "fnExactCokernelRep", fn := fun _ => fun
  | [d1, d2, d3] => { results := [.lit (.bool false)], args := [d1, d2, d3] }
  | _ => none }
def FnExactCokernelRepWrongFalsely : Prop := fnExactCokernelRepRow.holds Tryz.pinned (OpenSpec.ofChange fnExactCokernelRepWrong)

/-- 'laws.FnExactSequenceOf': WHATEVER THE INPUT: true; the input reads as it did. -/
def fnExactSequenceOfSpec : ChangeSpec := { name := "fnExactSequenceOf", fn := fun _ => fun
  | [d1, d2] => { results := [.lit (.bool true)], args := [d1, d2] }
  | _ => none }
def fnExactSequenceOfRow : OpenClaim := { program := "ytjnhjfgcfclamaagreat", sum := "c5c2bd20ebd927caff665cacf87561ff9ffb886162dc28a73f14357e2eb668e8", func := "loop.example/g03404/laws.FnExactSequenceOf", spec := "fnExactSequenceOf", unfollowed := true, recurses := true, apart := false }
def FnExactSequenceOfSaid : Prop := fnExactSequenceOfRow.holds Tryz.pinned (OpenSpec.ofChange fnExactSequenceOfSpec)

/-- ITS FALSE NEIGHBOUR: 'it returns false'. Refute it at one input. -/
def fnExactSequenceOfWrong : ChangeSpec := { name := "fnExactSequenceOf", fn := fun _ => fun
  | [d1, d2] => { results := [.lit (.bool false)], args := [d1, d2] }
  | _ => none }
def FnExactSequenceOfWrongFalsely : Prop := fnExactSequenceOfRow.holds Tryz.pinned (OpenSpec.ofChange fnExactSequenceOfWrong)

/-- 'laws.FnExactElementOfMap': WHATEVER THE INPUT: true; the input reads as it did. -/
def fnExactElementOfMapSpec : ChangeSpec := { name := "fnExactElementOfMap", fn := fun _ => fun
  | [d1, d2, d3] => { results := [.lit (.bool true)], args := [d1, d2, d3] }
  | _ => none }
def fnExactElementOfMapRow : OpenClaim := { program := "ytjnhjfgcfclamaagreat", sum := "c5c2bd20ebd927caff665cacf87561ff9ffb886162dc28a73f14357e2eb668e8", func := "loop.example/g03404/laws.FnExactElementOfMap", spec := "fnExactElementOfMap", unfollowed := true, recurses := true, apart := false }
def FnExactElementOfMapSaid : Prop := fnExactElementOfMapRow.holds Tryz.pinned (OpenSpec.ofChange fnExactElementOfMapSpec)

/-- ITS FALSE NEIGHBOUR: 'it returns false'. Refute it at one input. -/
def fnExactElementOfMapWrong : ChangeSpec := { name := "fnExactElementOfMap", fn := fun _ => fun
  | [d1, d2, d3] => { results := [.lit (.bool false)], args := [d1, d2, d3] }
  | _ => none }
def FnExactElementOfMapWrongFalsely : Prop := fnExactElementOfMapRow.holds Tryz.pinned (OpenSpec.ofChange fnExactElementOfMapWrong)

/-- 'laws.FnExactSplitBy': WHATEVER THE INPUT: true; the input reads as it did. -/
def fnExactSplitBySpec : ChangeSpec := { name := "fnExactSplitBy", fn := fun _ => fun
  | [d1, d2] => { results := [.lit (.bool true)], args := [d1, d2] }
  | _ => none }
def fnExactSplitByRow : OpenClaim := { program := "ytjnhjfgcfclamaagreat", sum := "c5c2bd20ebd927caff665cacf87561ff9ffb886162dc28a73f14357e2eb668e8", func := "loop.example/g03404/laws.FnExactSplitBy", spec := "fnExactSplitBy", unfollowed := true, recurses := true, apart := false }
def FnExactSplitBySaid : Prop := fnExactSplitByRow.holds Tryz.pinned (OpenSpec.ofChange fnExactSplitBySpec)

/-- ITS FALSE NEIGHBOUR: 'it returns false'. Refute it at one input. -/
def fnExactSplitByWrong : ChangeSpec := { name := "fnExactSplitBy", fn := fun _ => fun
  | [d1, d2] => { results := [.lit (.bool false)], args := [d1, d2] }
  | _ => none }
def FnExactSplitByWrongFalsely : Prop := fnExactSplitByRow.holds Tryz.pinned (OpenSpec.ofChange fnExactSplitByWrong)

/- THE SECOND FORM. 'bulk': how many values and letters a reading holds, each counted each time it is reached (what is shared counts as often as it is met; a slice's spare places count too). A statement '..UptoSaid' is the law's where the arguments, and the package variables that the reading takes, are together of bulk at most 1048576: NARROWER than '..Said'. Prove '..Said' where nothing that the law and all that it calls make is longer than what came in: it says more and counts as full. Else prove '..UptoSaid'. A law counts once. -/
mutual
def uptoBulk {H : Type} : DataW H → Nat
  | .lit (.string bytes) => bytes.length + 1
  | .lit _ => 1
  | .nil => 1
  | .ptr d => uptoBulk d + 1
  | .slice elems spare => uptoBulkAll elems + uptoBulkAll spare + 1
  | .agg parts => uptoBulkAll parts + 1
  | .iface _ d => uptoBulk d + 1
  | .map entries => uptoBulkEntries entries + 1
  | .held _ => 1
def uptoBulkAll {H : Type} : List (DataW H) → Nat
  | [] => 0
  | d :: r => uptoBulk d + uptoBulkAll r
def uptoBulkEntries {H : Type} : List (Lit × DataW H) → Nat
  | [] => 0
  | x :: r => uptoBulkEntry x + uptoBulkEntries r
def uptoBulkEntry {H : Type} : Lit × DataW H → Nat
  | (.string bytes, d) => bytes.length + uptoBulk d + 1
  | (_, d) => uptoBulk d + 1
 end
def uptoSmall : (H : Type) → List (DataW H) → Bool := fun _ ds => decide (uptoBulkAll ds ≤ 1048576)
def OpenSpec.upto (s : _root_.Go.ChangeSpec) : _root_.Go.OpenSpec := { _root_.Go.OpenSpec.ofChange s with cond := some uptoSmall }

/-- 'laws.FnExactSubRep', WHERE WHAT IT READS IS OF BULK AT MOST 1048576: true; the input reads as it did. -/
def fnExactSubRepUptoRow : OpenClaim := { program := "ytjnhjfgcfclamaagreat", sum := "c5c2bd20ebd927caff665cacf87561ff9ffb886162dc28a73f14357e2eb668e8", func := "loop.example/g03404/laws.FnExactSubRep", spec := "fnExactSubRep", unfollowed := true, recurses := true, apart := false, narrowed := true }
def FnExactSubRepUptoSaid : Prop := fnExactSubRepUptoRow.holds Tryz.pinned (OpenSpec.upto fnExactSubRepSpec)

/-- 'laws.FnExactRadicalLayers', WHERE WHAT IT READS IS OF BULK AT MOST 1048576: true; the input reads as it did. -/
def fnExactRadicalLayersUptoRow : OpenClaim := { program := "ytjnhjfgcfclamaagreat", sum := "c5c2bd20ebd927caff665cacf87561ff9ffb886162dc28a73f14357e2eb668e8", func := "loop.example/g03404/laws.FnExactRadicalLayers", spec := "fnExactRadicalLayers", unfollowed := true, recurses := true, apart := false, narrowed := true }
def FnExactRadicalLayersUptoSaid : Prop := fnExactRadicalLayersUptoRow.holds Tryz.pinned (OpenSpec.upto fnExactRadicalLayersSpec)

/-- 'laws.FnExactQuotientRep', WHERE WHAT IT READS IS OF BULK AT MOST 1048576: true; the input reads as it did. -/
def fnExactQuotientRepUptoRow : OpenClaim := { program := "ytjnhjfgcfclamaagreat", sum := "c5c2bd20ebd927caff665cacf87561ff9ffb886162dc28a73f14357e2eb668e8", func := "loop.example/g03404/laws.FnExactQuotientRep", spec := "fnExactQuotientRep", unfollowed := true, recurses := true, apart := false, narrowed := true }
def FnExactQuotientRepUptoSaid : Prop := fnExactQuotientRepUptoRow.holds Tryz.pinned (OpenSpec.upto fnExactQuotientRepSpec)

/-- 'laws.FnExactCokernelRep', WHERE WHAT IT READS IS OF BULK AT MOST 1048576: true; the input reads as it did. -/
def fnExactCokernelRepUptoRow : OpenClaim := { program := "ytjnhjfgcfclamaagreat", sum := "c5c2bd20ebd927caff665cacf87561ff9ffb886162dc28a73f14357e2eb668e8", func := "loop.example/g03404/laws.FnExactCokernelRep", spec := "fnExactCokernelRep", unfollowed := true, recurses := true, apart := false, narrowed := true }
def FnExactCokernelRepUptoSaid : Prop := fnExactCokernelRepUptoRow.holds Tryz.pinned (OpenSpec.upto fnExactCokernelRepSpec)

/-- 'laws.FnExactSequenceOf', WHERE WHAT IT READS IS OF BULK AT MOST 1048576: true; the input reads as it did. -/
def fnExactSequenceOfUptoRow : OpenClaim := { program := "ytjnhjfgcfclamaagreat", sum := "c5c2bd20ebd927caff665cacf87561ff9ffb886162dc28a73f14357e2eb668e8", func := "loop.example/g03404/laws.FnExactSequenceOf", spec := "fnExactSequenceOf", unfollowed := true, recurses := true, apart := false, narrowed := true }
def FnExactSequenceOfUptoSaid : Prop := fnExactSequenceOfUptoRow.holds Tryz.pinned (OpenSpec.upto fnExactSequenceOfSpec)

/-- 'laws.FnExactElementOfMap', WHERE WHAT IT READS IS OF BULK AT MOST 1048576: true; the input reads as it did. -/
def fnExactElementOfMapUptoRow : OpenClaim := { program := "ytjnhjfgcfclamaagreat", sum := "c5c2bd20ebd927caff665cacf87561ff9ffb886162dc28a73f14357e2eb668e8", func := "loop.example/g03404/laws.FnExactElementOfMap", spec := "fnExactElementOfMap", unfollowed := true, recurses := true, apart := false, narrowed := true }
def FnExactElementOfMapUptoSaid : Prop := fnExactElementOfMapUptoRow.holds Tryz.pinned (OpenSpec.upto fnExactElementOfMapSpec)

/-- 'laws.FnExactSplitBy', WHERE WHAT IT READS IS OF BULK AT MOST 1048576: true; the input reads as it did. -/
def fnExactSplitByUptoRow : OpenClaim := { program := "ytjnhjfgcfclamaagreat", sum := "c5c2bd20ebd927caff665cacf87561ff9ffb886162dc28a73f14357e2eb668e8", func := "loop.example/g03404/laws.FnExactSplitBy", spec := "fnExactSplitBy", unfollowed := true, recurses := true, apart := false, narrowed := true }
def FnExactSplitByUptoSaid : Prop := fnExactSplitByUptoRow.holds Tryz.pinned (OpenSpec.upto fnExactSplitBySpec)

end Rows
end Go.Proofs.YtjnhjfgcfclamaaGreat
