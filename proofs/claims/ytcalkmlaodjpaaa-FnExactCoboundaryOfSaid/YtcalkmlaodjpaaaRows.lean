/-
  No cell of these rows narrows 'for every input' (looked for: loops, veiled, ifaces, maps, wideKeys, modest, calm, conditions, laid).
  DERIVED. THE GIVEN ROWS OF THIS SEAT. 12 by the template 'for every input the law returns true; each argument reads behind the call as it read before'; 0 by the template 'total and deterministic' (their statements: YtcalkmlaodjpaaaTotals.lean).
  GIVEN WITH THE SEED: the statements are not yours to turn. If you find one false, say at which input.
  Laid BY PROGRAM, IN A SANDBOX (cutbox-rows.mjs): the forced cells as the released guide's own fill.sh prints them over the translation 06fea1870e6797c1… (all of the seat's roots in one cut). By AI agents, Wed Nov 11 2026. No macro, syntax, notation, axiom, sorry.
-/
import Derived.Test.YtcalkmlaodjpaaaChecked
import GoSem.Claim
import GoSem.ClaimJoined
import GoSem.ClaimMapViews
import Derived.JoinedTies
import Derived.KernelRfl
namespace Go.Proofs.Ytcalkmlaodjpaaa
/- THE CELL 'sum', in the pinned program and in every row, IS THE sha256 OF THE DUMP (.gsa) THAT YtcalkmlaodjpaaaProg.lean LOADS. Nothing in Lean hashes anything: it is a label: what it is worth is what the hold of that sum in a sandbox is worth. -/
noncomputable def Try.pinned : Pinned := { name := "ytcalkmlaodjpaaa", sum := "06fea1870e6797c17f724b66285e6fecaf685289be41f589721164ffde7b8121", checked := Try.checked }
namespace Rows
def none {H : Type} : Left H := { results := [], args := [] }

/-- 'laws.FnExactDeterminantOf': WHATEVER THE INPUT: true; the input reads as it did. -/
def fnExactDeterminantOfSpec : ChangeSpec := { name := "fnExactDeterminantOf", fn := fun _ => fun
  | [d] => { results := [.lit (.bool true)], args := [d] }
  | _ => none }
def fnExactDeterminantOfRow : OpenClaim := { program := "ytcalkmlaodjpaaa", sum := "06fea1870e6797c17f724b66285e6fecaf685289be41f589721164ffde7b8121", func := "loop.example/g03404/laws.FnExactDeterminantOf", spec := "fnExactDeterminantOf", unfollowed := true, recurses := true, apart := false }
def FnExactDeterminantOfSaid : Prop := fnExactDeterminantOfRow.holds Try.pinned (OpenSpec.ofChange fnExactDeterminantOfSpec)

/-- ITS FALSE NEIGHBOUR: 'it returns false'. Refute it at one input. -/
def fnExactDeterminantOfWrong : ChangeSpec := { name := "fnExactDeterminantOf", fn := fun _ => fun
  | [d] => { results := [.lit (.bool false)], args := [d] }
  | _ => none }
def FnExactDeterminantOfWrongFalsely : Prop := fnExactDeterminantOfRow.holds Try.pinned (OpenSpec.ofChange fnExactDeterminantOfWrong)

/-- 'laws.FnExactSymmetricForm': WHATEVER THE INPUT: true; the input reads as it did. -/
def fnExactSymmetricFormSpec : ChangeSpec := { name := "fnExactSymmetricForm", fn := fun _ => fun
  | [d] => { results := [.lit (.bool true)], args := [d] }
  | _ => none }
def fnExactSymmetricFormRow : OpenClaim := { program := "ytcalkmlaodjpaaa", sum := "06fea1870e6797c17f724b66285e6fecaf685289be41f589721164ffde7b8121", func := "loop.example/g03404/laws.FnExactSymmetricForm", spec := "fnExactSymmetricForm", unfollowed := true, recurses := true, apart := false }
def FnExactSymmetricFormSaid : Prop := fnExactSymmetricFormRow.holds Try.pinned (OpenSpec.ofChange fnExactSymmetricFormSpec)

/-- ITS FALSE NEIGHBOUR: 'it returns false'. Refute it at one input. -/
def fnExactSymmetricFormWrong : ChangeSpec := { name := "fnExactSymmetricForm", fn := fun _ => fun
  | [d] => { results := [.lit (.bool false)], args := [d] }
  | _ => none }
def FnExactSymmetricFormWrongFalsely : Prop := fnExactSymmetricFormRow.holds Try.pinned (OpenSpec.ofChange fnExactSymmetricFormWrong)

/-- 'laws.FnExactKindOfQuiver': WHATEVER THE INPUT: true; the input reads as it did. -/
def fnExactKindOfQuiverSpec : ChangeSpec := { name := "fnExactKindOfQuiver", fn := fun _ => fun
  | [d] => { results := [.lit (.bool true)], args := [d] }
  | _ => none }
def fnExactKindOfQuiverRow : OpenClaim := { program := "ytcalkmlaodjpaaa", sum := "06fea1870e6797c17f724b66285e6fecaf685289be41f589721164ffde7b8121", func := "loop.example/g03404/laws.FnExactKindOfQuiver", spec := "fnExactKindOfQuiver", unfollowed := true, recurses := true, apart := false }
def FnExactKindOfQuiverSaid : Prop := fnExactKindOfQuiverRow.holds Try.pinned (OpenSpec.ofChange fnExactKindOfQuiverSpec)

/-- ITS FALSE NEIGHBOUR: 'it returns false'. Refute it at one input. -/
def fnExactKindOfQuiverWrong : ChangeSpec := { name := "fnExactKindOfQuiver", fn := fun _ => fun
  | [d] => { results := [.lit (.bool false)], args := [d] }
  | _ => none }
def FnExactKindOfQuiverWrongFalsely : Prop := fnExactKindOfQuiverRow.holds Try.pinned (OpenSpec.ofChange fnExactKindOfQuiverWrong)

/-- 'laws.FnExactSimpleRep': WHATEVER THE INPUT: true; the input reads as it did. -/
def fnExactSimpleRepSpec : ChangeSpec := { name := "fnExactSimpleRep", fn := fun _ => fun
  | [d1, d2, d3] => { results := [.lit (.bool true)], args := [d1, d2, d3] }
  | _ => none }
def fnExactSimpleRepRow : OpenClaim := { program := "ytcalkmlaodjpaaa", sum := "06fea1870e6797c17f724b66285e6fecaf685289be41f589721164ffde7b8121", func := "loop.example/g03404/laws.FnExactSimpleRep", spec := "fnExactSimpleRep", unfollowed := true, recurses := true, apart := false }
def FnExactSimpleRepSaid : Prop := fnExactSimpleRepRow.holds Try.pinned (OpenSpec.ofChange fnExactSimpleRepSpec)

/-- ITS FALSE NEIGHBOUR: 'it returns false'. Refute it at one input. -/
def fnExactSimpleRepWrong : ChangeSpec := { name := "fnExactSimpleRep", fn := fun _ => fun
  | [d1, d2, d3] => { results := [.lit (.bool false)], args := [d1, d2, d3] }
  | _ => none }
def FnExactSimpleRepWrongFalsely : Prop := fnExactSimpleRepRow.holds Try.pinned (OpenSpec.ofChange fnExactSimpleRepWrong)

/-- 'laws.FnExactInjectiveDims': WHATEVER THE INPUT: true; the input reads as it did. -/
def fnExactInjectiveDimsSpec : ChangeSpec := { name := "fnExactInjectiveDims", fn := fun _ => fun
  | [d1, d2] => { results := [.lit (.bool true)], args := [d1, d2] }
  | _ => none }
def fnExactInjectiveDimsRow : OpenClaim := { program := "ytcalkmlaodjpaaa", sum := "06fea1870e6797c17f724b66285e6fecaf685289be41f589721164ffde7b8121", func := "loop.example/g03404/laws.FnExactInjectiveDims", spec := "fnExactInjectiveDims", unfollowed := true, recurses := true, apart := false }
def FnExactInjectiveDimsSaid : Prop := fnExactInjectiveDimsRow.holds Try.pinned (OpenSpec.ofChange fnExactInjectiveDimsSpec)

/-- ITS FALSE NEIGHBOUR: 'it returns false'. Refute it at one input. -/
def fnExactInjectiveDimsWrong : ChangeSpec := { name := "fnExactInjectiveDims", fn := fun _ => fun
  | [d1, d2] => { results := [.lit (.bool false)], args := [d1, d2] }
  | _ => none }
def FnExactInjectiveDimsWrongFalsely : Prop := fnExactInjectiveDimsRow.holds Try.pinned (OpenSpec.ofChange fnExactInjectiveDimsWrong)

/-- 'laws.FnExactProjectiveDims': WHATEVER THE INPUT: true; the input reads as it did. -/
def fnExactProjectiveDimsSpec : ChangeSpec := { name := "fnExactProjectiveDims", fn := fun _ => fun
  | [d1, d2] => { results := [.lit (.bool true)], args := [d1, d2] }
  | _ => none }
def fnExactProjectiveDimsRow : OpenClaim := { program := "ytcalkmlaodjpaaa", sum := "06fea1870e6797c17f724b66285e6fecaf685289be41f589721164ffde7b8121", func := "loop.example/g03404/laws.FnExactProjectiveDims", spec := "fnExactProjectiveDims", unfollowed := true, recurses := true, apart := false }
def FnExactProjectiveDimsSaid : Prop := fnExactProjectiveDimsRow.holds Try.pinned (OpenSpec.ofChange fnExactProjectiveDimsSpec)

/-- ITS FALSE NEIGHBOUR: 'it returns false'. Refute it at one input. -/
def fnExactProjectiveDimsWrong : ChangeSpec := { name := "fnExactProjectiveDims", fn := fun _ => fun
  | [d1, d2] => { results := [.lit (.bool false)], args := [d1, d2] }
  | _ => none }
def FnExactProjectiveDimsWrongFalsely : Prop := fnExactProjectiveDimsRow.holds Try.pinned (OpenSpec.ofChange fnExactProjectiveDimsWrong)

/-- 'laws.FnExactIsCocycle': WHATEVER THE INPUT: true; the input reads as it did. -/
def fnExactIsCocycleSpec : ChangeSpec := { name := "fnExactIsCocycle", fn := fun _ => fun
  | [d1, d2, d3] => { results := [.lit (.bool true)], args := [d1, d2, d3] }
  | _ => none }
def fnExactIsCocycleRow : OpenClaim := { program := "ytcalkmlaodjpaaa", sum := "06fea1870e6797c17f724b66285e6fecaf685289be41f589721164ffde7b8121", func := "loop.example/g03404/laws.FnExactIsCocycle", spec := "fnExactIsCocycle", unfollowed := true, recurses := true, apart := false }
def FnExactIsCocycleSaid : Prop := fnExactIsCocycleRow.holds Try.pinned (OpenSpec.ofChange fnExactIsCocycleSpec)

/-- ITS FALSE NEIGHBOUR: 'it returns false'. Refute it at one input. -/
def fnExactIsCocycleWrong : ChangeSpec := { name := "fnExactIsCocycle", fn := fun _ => fun
  | [d1, d2, d3] => { results := [.lit (.bool false)], args := [d1, d2, d3] }
  | _ => none }
def FnExactIsCocycleWrongFalsely : Prop := fnExactIsCocycleRow.holds Try.pinned (OpenSpec.ofChange fnExactIsCocycleWrong)

/-- 'laws.FnExactIsSemisimple': WHATEVER THE INPUT: true; the input reads as it did. -/
def fnExactIsSemisimpleSpec : ChangeSpec := { name := "fnExactIsSemisimple", fn := fun _ => fun
  | [d] => { results := [.lit (.bool true)], args := [d] }
  | _ => none }
def fnExactIsSemisimpleRow : OpenClaim := { program := "ytcalkmlaodjpaaa", sum := "06fea1870e6797c17f724b66285e6fecaf685289be41f589721164ffde7b8121", func := "loop.example/g03404/laws.FnExactIsSemisimple", spec := "fnExactIsSemisimple", unfollowed := true, recurses := true, apart := false }
def FnExactIsSemisimpleSaid : Prop := fnExactIsSemisimpleRow.holds Try.pinned (OpenSpec.ofChange fnExactIsSemisimpleSpec)

/-- ITS FALSE NEIGHBOUR: 'it returns false'. Refute it at one input. -/
def fnExactIsSemisimpleWrong : ChangeSpec := { name := "fnExactIsSemisimple", fn := fun _ => fun
  | [d] => { results := [.lit (.bool false)], args := [d] }
  | _ => none }
def FnExactIsSemisimpleWrongFalsely : Prop := fnExactIsSemisimpleRow.holds Try.pinned (OpenSpec.ofChange fnExactIsSemisimpleWrong)

/-- 'laws.FnExactCartanOf': WHATEVER THE INPUT: true; the input reads as it did. -/
def fnExactCartanOfSpec : ChangeSpec := { name := "fnExactCartanOf", fn := fun _ => fun
  | [d] => { results := [.lit (.bool true)], args := [d] }
  | _ => none }
def fnExactCartanOfRow : OpenClaim := { program := "ytcalkmlaodjpaaa", sum := "06fea1870e6797c17f724b66285e6fecaf685289be41f589721164ffde7b8121", func := "loop.example/g03404/laws.FnExactCartanOf", spec := "fnExactCartanOf", unfollowed := true, recurses := true, apart := false }
def FnExactCartanOfSaid : Prop := fnExactCartanOfRow.holds Try.pinned (OpenSpec.ofChange fnExactCartanOfSpec)

/-- ITS FALSE NEIGHBOUR: 'it returns false'. Refute it at one input. -/
def fnExactCartanOfWrong : ChangeSpec := { name := "fnExactCartanOf", fn := fun _ => fun
  | [d] => { results := [.lit (.bool false)], args := [d] }
  | _ => none }
def FnExactCartanOfWrongFalsely : Prop := fnExactCartanOfRow.holds Try.pinned (OpenSpec.ofChange fnExactCartanOfWrong)

/-- 'laws.FnExactNullVector': WHATEVER THE INPUT: true; the input reads as it did. -/
def fnExactNullVectorSpec : ChangeSpec := { name := "fnExactNullVector", fn := fun _ => fun
  | [d] => { results := [.lit (.bool true)], args := [d] }
  | _ => none }
def fnExactNullVectorRow : OpenClaim := { program := "ytcalkmlaodjpaaa", sum := "06fea1870e6797c17f724b66285e6fecaf685289be41f589721164ffde7b8121", func := "loop.example/g03404/laws.FnExactNullVector", spec := "fnExactNullVector", unfollowed := true, recurses := true, apart := false }
def FnExactNullVectorSaid : Prop := fnExactNullVectorRow.holds Try.pinned (OpenSpec.ofChange fnExactNullVectorSpec)

/-- ITS FALSE NEIGHBOUR: 'it returns false'. Refute it at one input. -/
def fnExactNullVectorWrong : ChangeSpec := { name := "fnExactNullVector", fn := fun _ => fun
  | [d] => { results := [.lit (.bool false)], args := [d] }
  | _ => none }
def FnExactNullVectorWrongFalsely : Prop := fnExactNullVectorRow.holds Try.pinned (OpenSpec.ofChange fnExactNullVectorWrong)

/-- 'laws.FnExactIsIdempotent': WHATEVER THE INPUT: true; the input reads as it did. -/
def fnExactIsIdempotentSpec : ChangeSpec := { name := "fnExactIsIdempotent", fn := fun _ => fun
  | [d1, d2] => { results := [.lit (.bool true)], args := [d1, d2] }
  | _ => none }
def fnExactIsIdempotentRow : OpenClaim := { program := "ytcalkmlaodjpaaa", sum := "06fea1870e6797c17f724b66285e6fecaf685289be41f589721164ffde7b8121", func := "loop.example/g03404/laws.FnExactIsIdempotent", spec := "fnExactIsIdempotent", unfollowed := true, recurses := true, apart := false }
def FnExactIsIdempotentSaid : Prop := fnExactIsIdempotentRow.holds Try.pinned (OpenSpec.ofChange fnExactIsIdempotentSpec)

/-- ITS FALSE NEIGHBOUR: 'it returns false'. Refute it at one input. -/
def fnExactIsIdempotentWrong : ChangeSpec := { name := "fnExactIsIdempotent", fn := fun _ => fun
  | [d1, d2] => { results := [.lit (.bool false)], args := [d1, d2] }
  | _ => none }
def FnExactIsIdempotentWrongFalsely : Prop := fnExactIsIdempotentRow.holds Try.pinned (OpenSpec.ofChange fnExactIsIdempotentWrong)

/-- 'laws.FnExactCoboundaryOf': WHATEVER THE INPUT: true; the input reads as it did. -/
def fnExactCoboundaryOfSpec : ChangeSpec := { name := "fnExactCoboundaryOf", fn := fun _ => fun
  | [d1, d2, d3] => { results := [.lit (.bool true)], args := [d1, d2, d3] }
  | _ => none }
def fnExactCoboundaryOfRow : OpenClaim := { program := "ytcalkmlaodjpaaa", sum := "06fea1870e6797c17f724b66285e6fecaf685289be41f589721164ffde7b8121", func := "loop.example/g03404/laws.FnExactCoboundaryOf", spec := "fnExactCoboundaryOf", unfollowed := true, recurses := true, apart := false }
def FnExactCoboundaryOfSaid : Prop := fnExactCoboundaryOfRow.holds Try.pinned (OpenSpec.ofChange fnExactCoboundaryOfSpec)

/-- ITS FALSE NEIGHBOUR: 'it returns false'. Refute it at one input. -/
def fnExactCoboundaryOfWrong : ChangeSpec := { name := "fnExactCoboundaryOf", fn := fun _ => fun
  | [d1, d2, d3] => { results := [.lit (.bool false)], args := [d1, d2, d3] }
  | _ => none }
def FnExactCoboundaryOfWrongFalsely : Prop := fnExactCoboundaryOfRow.holds Try.pinned (OpenSpec.ofChange fnExactCoboundaryOfWrong)

/- THE SECOND FORM. 'bulk': how many values and letters a reading holds, each counted each time it is reached (what is shared counts as often as it is met; a slice's spare places count too). A statement '..UptoSaid' is the law's where the arguments, and the package variables that the reading takes, are together of bulk at most 1048576: NARROWER than '..Said'. Prove '..Said' where nothing that the law and all that it calls make is longer than what came in: it says more and counts as full. Else prove '..UptoSaid'. A law counts once. -/
mutual
def uptoBulk {H : Type} : DataW H → Nat
  | .lit (.string bytes) => bytes.length + 1
  | .lit _ => 1
  | .nil => 1
  | .ptr d => uptoBulk d + 1
  | .slice elems spare => uptoBulkAll elems + uptoBulkAll spare + 1
  | .agg parts => uptoBulkAll parts + 1
  | .iface _ d => uptoBulk d + 1
  | .map entries => uptoBulkEntries entries + 1
  | .held _ => 1
def uptoBulkAll {H : Type} : List (DataW H) → Nat
  | [] => 0
  | d :: r => uptoBulk d + uptoBulkAll r
def uptoBulkEntries {H : Type} : List (Lit × DataW H) → Nat
  | [] => 0
  | x :: r => uptoBulkEntry x + uptoBulkEntries r
def uptoBulkEntry {H : Type} : Lit × DataW H → Nat
  | (.string bytes, d) => bytes.length + uptoBulk d + 1
  | (_, d) => uptoBulk d + 1
 end
def uptoSmall : (H : Type) → List (DataW H) → Bool := fun _ ds => decide (uptoBulkAll ds ≤ 1048576)
def OpenSpec.upto (s : _root_.Go.ChangeSpec) : _root_.Go.OpenSpec := { _root_.Go.OpenSpec.ofChange s with cond := some uptoSmall }

/-- 'laws.FnExactDeterminantOf', WHERE WHAT IT READS IS OF BULK AT MOST 1048576: true; the input reads as it did. -/
def fnExactDeterminantOfUptoRow : OpenClaim := { program := "ytcalkmlaodjpaaa", sum := "06fea1870e6797c17f724b66285e6fecaf685289be41f589721164ffde7b8121", func := "loop.example/g03404/laws.FnExactDeterminantOf", spec := "fnExactDeterminantOf", unfollowed := true, recurses := true, apart := false, narrowed := true }
def FnExactDeterminantOfUptoSaid : Prop := fnExactDeterminantOfUptoRow.holds Try.pinned (OpenSpec.upto fnExactDeterminantOfSpec)

/-- 'laws.FnExactSymmetricForm', WHERE WHAT IT READS IS OF BULK AT MOST 1048576: true; the input reads as it did. -/
def fnExactSymmetricFormUptoRow : OpenClaim := { program := "ytcalkmlaodjpaaa", sum := "06fea1870e6797c17f724b66285e6fecaf685289be41f589721164ffde7b8121", func := "loop.example/g03404/laws.FnExactSymmetricForm", spec := "fnExactSymmetricForm", unfollowed := true, recurses := true, apart := false, narrowed := true }
def FnExactSymmetricFormUptoSaid : Prop := fnExactSymmetricFormUptoRow.holds Try.pinned (OpenSpec.upto fnExactSymmetricFormSpec)

/-- 'laws.FnExactKindOfQuiver', WHERE WHAT IT READS IS OF BULK AT MOST 1048576: true; the input reads as it did. -/
def fnExactKindOfQuiverUptoRow : OpenClaim := { program := "ytcalkmlaodjpaaa", sum := "06fea1870e6797c17f724b66285e6fecaf685289be41f589721164ffde7b8121", func := "loop.example/g03404/laws.FnExactKindOfQuiver", spec := "fnExactKindOfQuiver", unfollowed := true, recurses := true, apart := false, narrowed := true }
def FnExactKindOfQuiverUptoSaid : Prop := fnExactKindOfQuiverUptoRow.holds Try.pinned (OpenSpec.upto fnExactKindOfQuiverSpec)

/-- 'laws.FnExactSimpleRep', WHERE WHAT IT READS IS OF BULK AT MOST 1048576: true; the input reads as it did. -/
def fnExactSimpleRepUptoRow : OpenClaim := { program := "ytcalkmlaodjpaaa", sum := "06fea1870e6797c17f724b66285e6fecaf685289be41f589721164ffde7b8121", func := "loop.example/g03404/laws.FnExactSimpleRep", spec := "fnExactSimpleRep", unfollowed := true, recurses := true, apart := false, narrowed := true }
def FnExactSimpleRepUptoSaid : Prop := fnExactSimpleRepUptoRow.holds Try.pinned (OpenSpec.upto fnExactSimpleRepSpec)

/-- 'laws.FnExactInjectiveDims', WHERE WHAT IT READS IS OF BULK AT MOST 1048576: true; the input reads as it did. -/
def fnExactInjectiveDimsUptoRow : OpenClaim := { program := "ytcalkmlaodjpaaa", sum := "06fea1870e6797c17f724b66285e6fecaf685289be41f589721164ffde7b8121", func := "loop.example/g03404/laws.FnExactInjectiveDims", spec := "fnExactInjectiveDims", unfollowed := true, recurses := true, apart := false, narrowed := true }
def FnExactInjectiveDimsUptoSaid : Prop := fnExactInjectiveDimsUptoRow.holds Try.pinned (OpenSpec.upto fnExactInjectiveDimsSpec)

/-- 'laws.FnExactProjectiveDims', WHERE WHAT IT READS IS OF BULK AT MOST 1048576: true; the input reads as it did. -/
def fnExactProjectiveDimsUptoRow : OpenClaim := { program := "ytcalkmlaodjpaaa", sum := "06fea1870e6797c17f724b66285e6fecaf685289be41f589721164ffde7b8121", func := "loop.example/g03404/laws.FnExactProjectiveDims", spec := "fnExactProjectiveDims", unfollowed := true, recurses := true, apart := false, narrowed := true }
def FnExactProjectiveDimsUptoSaid : Prop := fnExactProjectiveDimsUptoRow.holds Try.pinned (OpenSpec.upto fnExactProjectiveDimsSpec)

/-- 'laws.FnExactIsCocycle', WHERE WHAT IT READS IS OF BULK AT MOST 1048576: true; the input reads as it did. -/
def fnExactIsCocycleUptoRow : OpenClaim := { program := "ytcalkmlaodjpaaa", sum := "06fea1870e6797c17f724b66285e6fecaf685289be41f589721164ffde7b8121", func := "loop.example/g03404/laws.FnExactIsCocycle", spec := "fnExactIsCocycle", unfollowed := true, recurses := true, apart := false, narrowed := true }
def FnExactIsCocycleUptoSaid : Prop := fnExactIsCocycleUptoRow.holds Try.pinned (OpenSpec.upto fnExactIsCocycleSpec)

/-- 'laws.FnExactIsSemisimple', WHERE WHAT IT READS IS OF BULK AT MOST 1048576: true; the input reads as it did. -/
def fnExactIsSemisimpleUptoRow : OpenClaim := { program := "ytcalkmlaodjpaaa", sum := "06fea1870e6797c17f724b66285e6fecaf685289be41f589721164ffde7b8121", func := "loop.example/g03404/laws.FnExactIsSemisimple", spec := "fnExactIsSemisimple", unfollowed := true, recurses := true, apart := false, narrowed := true }
def FnExactIsSemisimpleUptoSaid : Prop := fnExactIsSemisimpleUptoRow.holds Try.pinned (OpenSpec.upto fnExactIsSemisimpleSpec)

/-- 'laws.FnExactCartanOf', WHERE WHAT IT READS IS OF BULK AT MOST 1048576: true; the input reads as it did. -/
def fnExactCartanOfUptoRow : OpenClaim := { program := "ytcalkmlaodjpaaa", sum := "06fea1870e6797c17f724b66285e6fecaf685289be41f589721164ffde7b8121", func := "loop.example/g03404/laws.FnExactCartanOf", spec := "fnExactCartanOf", unfollowed := true, recurses := true, apart := false, narrowed := true }
def FnExactCartanOfUptoSaid : Prop := fnExactCartanOfUptoRow.holds Try.pinned (OpenSpec.upto fnExactCartanOfSpec)

/-- 'laws.FnExactNullVector', WHERE WHAT IT READS IS OF BULK AT MOST 1048576: true; the input reads as it did. -/
def fnExactNullVectorUptoRow : OpenClaim := { program := "ytcalkmlaodjpaaa", sum := "06fea1870e6797c17f724b66285e6fecaf685289be41f589721164ffde7b8121", func := "loop.example/g03404/laws.FnExactNullVector", spec := "fnExactNullVector", unfollowed := true, recurses := true, apart := false, narrowed := true }
def FnExactNullVectorUptoSaid : Prop := fnExactNullVectorUptoRow.holds Try.pinned (OpenSpec.upto fnExactNullVectorSpec)

/-- 'laws.FnExactIsIdempotent', WHERE WHAT IT READS IS OF BULK AT MOST 1048576: true; the input reads as it did. -/
def fnExactIsIdempotentUptoRow : OpenClaim := { program := "ytcalkmlaodjpaaa", sum := "06fea1870e6797c17f724b66285e6fecaf685289be41f589721164ffde7b8121", func := "loop.example/g03404/laws.FnExactIsIdempotent", spec := "fnExactIsIdempotent", unfollowed := true, recurses := true, apart := false, narrowed := true }
def FnExactIsIdempotentUptoSaid : Prop := fnExactIsIdempotentUptoRow.holds Try.pinned (OpenSpec.upto fnExactIsIdempotentSpec)

/-- 'laws.FnExactCoboundaryOf', WHERE WHAT IT READS IS OF BULK AT MOST 1048576: true; the input reads as it did. -/
def fnExactCoboundaryOfUptoRow : OpenClaim := { program := "ytcalkmlaodjpaaa", sum := "06fea1870e6797c17f724b66285e6fecaf685289be41f589721164ffde7b8121", func := "loop.example/g03404/laws.FnExactCoboundaryOf", spec := "fnExactCoboundaryOf", unfollowed := true, recurses := true, apart := false, narrowed := true }
def FnExactCoboundaryOfUptoSaid : Prop := fnExactCoboundaryOfUptoRow.holds Try.pinned (OpenSpec.upto fnExactCoboundaryOfSpec)

end Rows
end Go.Proofs.Ytcalkmlaodjpaaa
