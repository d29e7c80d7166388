/-
  No cell of these rows narrows 'for every input' (looked for: loops, veiled, ifaces, maps, wideKeys, modest, calm, conditions, laid).
  DERIVED. THE GIVEN ROWS OF THIS SEAT. 12 by the template 'for every input the law returns true; each argument reads behind the call as it read before'; 0 by the template 'total and deterministic' (their statements: YtlmenmacepeeaaaTotals.lean).
  GIVEN WITH THE SEED: the statements are not yours to turn. If you find one false, say at which input.
  Laid BY PROGRAM, IN A SANDBOX (cutbox-rows.mjs): the forced cells as the released guide's own fill.sh prints them over the translation 679e56ce8a94994d… (all of the seat's roots in one cut). By AI agents, Wed Nov 11 2026. No macro, syntax, notation, axiom, sorry.
-/
import Derived.Test.YtlmenmacepeeaaaChecked
import GoSem.Claim
import GoSem.ClaimJoined
import GoSem.ClaimMapViews
import Derived.JoinedTies
import Derived.KernelRfl
namespace Go.Proofs.Ytlmenmacepeeaaa
/- THE CELL 'sum', in the pinned program and in every row, IS THE sha256 OF THE DUMP (.gsa) THAT YtlmenmacepeeaaaProg.lean LOADS. Nothing in Lean hashes anything: it is a label: what it is worth is what the hold of that sum in a sandbox is worth. -/
noncomputable def Try.pinned : Pinned := { name := "ytlmenmacepeeaaa", sum := "679e56ce8a94994d636a5ad2e531d7c27d3b2352210f83ae7a412bdbfb237742", checked := Try.checked }
namespace Rows
def none {H : Type} : Left H := { results := [], args := [] }

/-- 'laws.FnExactProjectiveRep': WHATEVER THE INPUT: true; the input reads as it did. -/
def fnExactProjectiveRepSpec : ChangeSpec := { name := "fnExactProjectiveRep", fn := fun _ => fun
  | [d1, d2, d3] => { results := [.lit (.bool true)], args := [d1, d2, d3] }
  | _ => none }
def fnExactProjectiveRepRow : OpenClaim := { program := "ytlmenmacepeeaaa", sum := "679e56ce8a94994d636a5ad2e531d7c27d3b2352210f83ae7a412bdbfb237742", func := "loop.example/g03404/laws.FnExactProjectiveRep", spec := "fnExactProjectiveRep", unfollowed := true, recurses := true, apart := false }
def FnExactProjectiveRepSaid : Prop := fnExactProjectiveRepRow.holds Try.pinned (OpenSpec.ofChange fnExactProjectiveRepSpec)

/-- ITS FALSE NEIGHBOUR: 'it returns false'. Refute it at one input. -/
def fnExactProjectiveRepWrong : ChangeSpec := { name := "fnExactProjectiveRep", fn := fun _ => fun
  | [d1, d2, d3] => { results := [.lit (.bool false)], args := [d1, d2, d3] }
  | _ => none }
def FnExactProjectiveRepWrongFalsely : Prop := fnExactProjectiveRepRow.holds Try.pinned (OpenSpec.ofChange fnExactProjectiveRepWrong)

/-- 'laws.FnExactExtDim': WHATEVER THE INPUT: true; the input reads as it did. -/
def fnExactExtDimSpec : ChangeSpec := { name := "fnExactExtDim", fn := fun _ => fun
  | [d1, d2] => { results := [.lit (.bool true)], args := [d1, d2] }
  | _ => none }
def fnExactExtDimRow : OpenClaim := { program := "ytlmenmacepeeaaa", sum := "679e56ce8a94994d636a5ad2e531d7c27d3b2352210f83ae7a412bdbfb237742", func := "loop.example/g03404/laws.FnExactExtDim", spec := "fnExactExtDim", unfollowed := true, recurses := true, apart := false }
def FnExactExtDimSaid : Prop := fnExactExtDimRow.holds Try.pinned (OpenSpec.ofChange fnExactExtDimSpec)

/-- ITS FALSE NEIGHBOUR: 'it returns false'. Refute it at one input. -/
def fnExactExtDimWrong : ChangeSpec := { name := "fnExactExtDim", fn := fun _ => fun
  | [d1, d2] => { results := [.lit (.bool false)], args := [d1, d2] }
  | _ => none }
def FnExactExtDimWrongFalsely : Prop := fnExactExtDimRow.holds Try.pinned (OpenSpec.ofChange fnExactExtDimWrong)

/-- 'laws.FnExactIsRigid': WHATEVER THE INPUT: true; the input reads as it did. -/
def fnExactIsRigidSpec : ChangeSpec := { name := "fnExactIsRigid", fn := fun _ => fun
  | [d] => { results := [.lit (.bool true)], args := [d] }
  | _ => none }
def fnExactIsRigidRow : OpenClaim := { program := "ytlmenmacepeeaaa", sum := "679e56ce8a94994d636a5ad2e531d7c27d3b2352210f83ae7a412bdbfb237742", func := "loop.example/g03404/laws.FnExactIsRigid", spec := "fnExactIsRigid", unfollowed := true, recurses := true, apart := false }
def FnExactIsRigidSaid : Prop := fnExactIsRigidRow.holds Try.pinned (OpenSpec.ofChange fnExactIsRigidSpec)

/-- ITS FALSE NEIGHBOUR: 'it returns false'. Refute it at one input. -/
def fnExactIsRigidWrong : ChangeSpec := { name := "fnExactIsRigid", fn := fun _ => fun
  | [d] => { results := [.lit (.bool false)], args := [d] }
  | _ => none }
def FnExactIsRigidWrongFalsely : Prop := fnExactIsRigidRow.holds Try.pinned (OpenSpec.ofChange fnExactIsRigidWrong)

/-- 'laws.FnExactTopDims': WHATEVER THE INPUT: true; the input reads as it did. -/
def fnExactTopDimsSpec : ChangeSpec := { name := "fnExactTopDims", fn := fun _ => fun
  | [d] => { results := [.lit (.bool true)], args := [d] }
  | _ => none }
def fnExactTopDimsRow : OpenClaim := { program := "ytlmenmacepeeaaa", sum := "679e56ce8a94994d636a5ad2e531d7c27d3b2352210f83ae7a412bdbfb237742", func := "loop.example/g03404/laws.FnExactTopDims", spec := "fnExactTopDims", unfollowed := true, recurses := true, apart := false }
def FnExactTopDimsSaid : Prop := fnExactTopDimsRow.holds Try.pinned (OpenSpec.ofChange fnExactTopDimsSpec)

/-- ITS FALSE NEIGHBOUR: 'it returns false'. Refute it at one input. -/
def fnExactTopDimsWrong : ChangeSpec := { name := "fnExactTopDims", fn := fun _ => fun
  | [d] => { results := [.lit (.bool false)], args := [d] }
  | _ => none }
def FnExactTopDimsWrongFalsely : Prop := fnExactTopDimsRow.holds Try.pinned (OpenSpec.ofChange fnExactTopDimsWrong)

/-- 'laws.FnExactExtensionOf': WHATEVER THE INPUT: true; the input reads as it did. -/
def fnExactExtensionOfSpec : ChangeSpec := { name := "fnExactExtensionOf", fn := fun _ => fun
  | [d1, d2, d3] => { results := [.lit (.bool true)], args := [d1, d2, d3] }
  | _ => none }
def fnExactExtensionOfRow : OpenClaim := { program := "ytlmenmacepeeaaa", sum := "679e56ce8a94994d636a5ad2e531d7c27d3b2352210f83ae7a412bdbfb237742", func := "loop.example/g03404/laws.FnExactExtensionOf", spec := "fnExactExtensionOf", unfollowed := true, recurses := true, apart := false }
def FnExactExtensionOfSaid : Prop := fnExactExtensionOfRow.holds Try.pinned (OpenSpec.ofChange fnExactExtensionOfSpec)

/-- ITS FALSE NEIGHBOUR: 'it returns false'. Refute it at one input. -/
def fnExactExtensionOfWrong : ChangeSpec := { name := "fnExactExtensionOf", fn := fun _ => fun
  | [d1, d2, d3] => { results := [.lit (.bool false)], args := [d1, d2, d3] }
  | _ => none }
def FnExactExtensionOfWrongFalsely : Prop := fnExactExtensionOfRow.holds Try.pinned (OpenSpec.ofChange fnExactExtensionOfWrong)

/-- 'laws.FnExactIsCoboundary': WHATEVER THE INPUT: true; the input reads as it did. -/
def fnExactIsCoboundarySpec : ChangeSpec := { name := "fnExactIsCoboundary", fn := fun _ => fun
  | [d1, d2, d3] => { results := [.lit (.bool true)], args := [d1, d2, d3] }
  | _ => none }
def fnExactIsCoboundaryRow : OpenClaim := { program := "ytlmenmacepeeaaa", sum := "679e56ce8a94994d636a5ad2e531d7c27d3b2352210f83ae7a412bdbfb237742", func := "loop.example/g03404/laws.FnExactIsCoboundary", spec := "fnExactIsCoboundary", unfollowed := true, recurses := true, apart := false }
def FnExactIsCoboundarySaid : Prop := fnExactIsCoboundaryRow.holds Try.pinned (OpenSpec.ofChange fnExactIsCoboundarySpec)

/-- ITS FALSE NEIGHBOUR: 'it returns false'. Refute it at one input. -/
def fnExactIsCoboundaryWrong : ChangeSpec := { name := "fnExactIsCoboundary", fn := fun _ => fun
  | [d1, d2, d3] => { results := [.lit (.bool false)], args := [d1, d2, d3] }
  | _ => none }
def FnExactIsCoboundaryWrongFalsely : Prop := fnExactIsCoboundaryRow.holds Try.pinned (OpenSpec.ofChange fnExactIsCoboundaryWrong)

/-- 'laws.FnExactRadicalOf': WHATEVER THE INPUT: true; the input reads as it did. -/
def fnExactRadicalOfSpec : ChangeSpec := { name := "fnExactRadicalOf", fn := fun _ => fun
  | [d] => { results := [.lit (.bool true)], args := [d] }
  | _ => none }
def fnExactRadicalOfRow : OpenClaim := { program := "ytlmenmacepeeaaa", sum := "679e56ce8a94994d636a5ad2e531d7c27d3b2352210f83ae7a412bdbfb237742", func := "loop.example/g03404/laws.FnExactRadicalOf", spec := "fnExactRadicalOf", unfollowed := true, recurses := true, apart := false }
def FnExactRadicalOfSaid : Prop := fnExactRadicalOfRow.holds Try.pinned (OpenSpec.ofChange fnExactRadicalOfSpec)

/-- ITS FALSE NEIGHBOUR: 'it returns false'. Refute it at one input. -/
def fnExactRadicalOfWrong : ChangeSpec := { name := "fnExactRadicalOf", fn := fun _ => fun
  | [d] => { results := [.lit (.bool false)], args := [d] }
  | _ => none }
def FnExactRadicalOfWrongFalsely : Prop := fnExactRadicalOfRow.holds Try.pinned (OpenSpec.ofChange fnExactRadicalOfWrong)

/-- 'laws.FnExactHaveSameHoms': WHATEVER THE INPUT: true; the input reads as it did. -/
def fnExactHaveSameHomsSpec : ChangeSpec := { name := "fnExactHaveSameHoms", fn := fun _ => fun
  | [d1, d2, d3] => { results := [.lit (.bool true)], args := [d1, d2, d3] }
  | _ => none }
def fnExactHaveSameHomsRow : OpenClaim := { program := "ytlmenmacepeeaaa", sum := "679e56ce8a94994d636a5ad2e531d7c27d3b2352210f83ae7a412bdbfb237742", func := "loop.example/g03404/laws.FnExactHaveSameHoms", spec := "fnExactHaveSameHoms", unfollowed := true, recurses := true, apart := false }
def FnExactHaveSameHomsSaid : Prop := fnExactHaveSameHomsRow.holds Try.pinned (OpenSpec.ofChange fnExactHaveSameHomsSpec)

/-- ITS FALSE NEIGHBOUR: 'it returns false'. Refute it at one input. -/
def fnExactHaveSameHomsWrong : ChangeSpec := { name := "fnExactHaveSameHoms", fn := fun _ => fun
  | [d1, d2, d3] => { results := [.lit (.bool false)], args := [d1, d2, d3] }
  | _ => none }
def FnExactHaveSameHomsWrongFalsely : Prop := fnExactHaveSameHomsRow.holds Try.pinned (OpenSpec.ofChange fnExactHaveSameHomsWrong)

/-- 'laws.FnExactInjectiveRep': WHATEVER THE INPUT: true; the input reads as it did. -/
def fnExactInjectiveRepSpec : ChangeSpec := { name := "fnExactInjectiveRep", fn := fun _ => fun
  | [d1, d2, d3] => { results := [.lit (.bool true)], args := [d1, d2, d3] }
  | _ => none }
def fnExactInjectiveRepRow : OpenClaim := { program := "ytlmenmacepeeaaa", sum := "679e56ce8a94994d636a5ad2e531d7c27d3b2352210f83ae7a412bdbfb237742", func := "loop.example/g03404/laws.FnExactInjectiveRep", spec := "fnExactInjectiveRep", unfollowed := true, recurses := true, apart := false }
def FnExactInjectiveRepSaid : Prop := fnExactInjectiveRepRow.holds Try.pinned (OpenSpec.ofChange fnExactInjectiveRepSpec)

/-- ITS FALSE NEIGHBOUR: 'it returns false'. Refute it at one input. -/
def fnExactInjectiveRepWrong : ChangeSpec := { name := "fnExactInjectiveRep", fn := fun _ => fun
  | [d1, d2, d3] => { results := [.lit (.bool false)], args := [d1, d2, d3] }
  | _ => none }
def FnExactInjectiveRepWrongFalsely : Prop := fnExactInjectiveRepRow.holds Try.pinned (OpenSpec.ofChange fnExactInjectiveRepWrong)

/-- 'laws.FnExactSocleDims': WHATEVER THE INPUT: true; the input reads as it did. -/
def fnExactSocleDimsSpec : ChangeSpec := { name := "fnExactSocleDims", fn := fun _ => fun
  | [d] => { results := [.lit (.bool true)], args := [d] }
  | _ => none }
def fnExactSocleDimsRow : OpenClaim := { program := "ytlmenmacepeeaaa", sum := "679e56ce8a94994d636a5ad2e531d7c27d3b2352210f83ae7a412bdbfb237742", func := "loop.example/g03404/laws.FnExactSocleDims", spec := "fnExactSocleDims", unfollowed := true, recurses := true, apart := false }
def FnExactSocleDimsSaid : Prop := fnExactSocleDimsRow.holds Try.pinned (OpenSpec.ofChange fnExactSocleDimsSpec)

/-- ITS FALSE NEIGHBOUR: 'it returns false'. Refute it at one input. -/
def fnExactSocleDimsWrong : ChangeSpec := { name := "fnExactSocleDims", fn := fun _ => fun
  | [d] => { results := [.lit (.bool false)], args := [d] }
  | _ => none }
def FnExactSocleDimsWrongFalsely : Prop := fnExactSocleDimsRow.holds Try.pinned (OpenSpec.ofChange fnExactSocleDimsWrong)

/-- 'laws.FnExactHomRow': WHATEVER THE INPUT: true; the input reads as it did. -/
def fnExactHomRowSpec : ChangeSpec := { name := "fnExactHomRow", fn := fun _ => fun
  | [d1, d2] => { results := [.lit (.bool true)], args := [d1, d2] }
  | _ => none }
def fnExactHomRowRow : OpenClaim := { program := "ytlmenmacepeeaaa", sum := "679e56ce8a94994d636a5ad2e531d7c27d3b2352210f83ae7a412bdbfb237742", func := "loop.example/g03404/laws.FnExactHomRow", spec := "fnExactHomRow", unfollowed := true, recurses := true, apart := false }
def FnExactHomRowSaid : Prop := fnExactHomRowRow.holds Try.pinned (OpenSpec.ofChange fnExactHomRowSpec)

/-- ITS FALSE NEIGHBOUR: 'it returns false'. Refute it at one input. -/
def fnExactHomRowWrong : ChangeSpec := { name := "fnExactHomRow", fn := fun _ => fun
  | [d1, d2] => { results := [.lit (.bool false)], args := [d1, d2] }
  | _ => none }
def FnExactHomRowWrongFalsely : Prop := fnExactHomRowRow.holds Try.pinned (OpenSpec.ofChange fnExactHomRowWrong)

/-- 'laws.FnExactExtBasis': WHATEVER THE INPUT: true; the input reads as it did. -/
def fnExactExtBasisSpec : ChangeSpec := { name := "fnExactExtBasis", fn := fun _ => fun
  | [d1, d2] => { results := [.lit (.bool true)], args := [d1, d2] }
  | _ => none }
def fnExactExtBasisRow : OpenClaim := { program := "ytlmenmacepeeaaa", sum := "679e56ce8a94994d636a5ad2e531d7c27d3b2352210f83ae7a412bdbfb237742", func := "loop.example/g03404/laws.FnExactExtBasis", spec := "fnExactExtBasis", unfollowed := true, recurses := true, apart := false }
def FnExactExtBasisSaid : Prop := fnExactExtBasisRow.holds Try.pinned (OpenSpec.ofChange fnExactExtBasisSpec)

/-- ITS FALSE NEIGHBOUR: 'it returns false'. Refute it at one input. -/
def fnExactExtBasisWrong : ChangeSpec := { name := "fnExactExtBasis", fn := fun _ => fun
  | [d1, d2] => { results := [.lit (.bool false)], args := [d1, d2] }
  | _ => none }
def FnExactExtBasisWrongFalsely : Prop := fnExactExtBasisRow.holds Try.pinned (OpenSpec.ofChange fnExactExtBasisWrong)

/- THE SECOND FORM. 'bulk': how many values and letters a reading holds, each counted each time it is reached (what is shared counts as often as it is met; a slice's spare places count too). A statement '..UptoSaid' is the law's where the arguments, and the package variables that the reading takes, are together of bulk at most 1048576: NARROWER than '..Said'. Prove '..Said' where nothing that the law and all that it calls make is longer than what came in: it says more and counts as full. Else prove '..UptoSaid'. A law counts once. -/
mutual
def uptoBulk {H : Type} : DataW H → Nat
  | .lit (.string bytes) => bytes.length + 1
  | .lit _ => 1
  | .nil => 1
  | .ptr d => uptoBulk d + 1
  | .slice elems spare => uptoBulkAll elems + uptoBulkAll spare + 1
  | .agg parts => uptoBulkAll parts + 1
  | .iface _ d => uptoBulk d + 1
  | .map entries => uptoBulkEntries entries + 1
  | .held _ => 1
def uptoBulkAll {H : Type} : List (DataW H) → Nat
  | [] => 0
  | d :: r => uptoBulk d + uptoBulkAll r
def uptoBulkEntries {H : Type} : List (Lit × DataW H) → Nat
  | [] => 0
  | x :: r => uptoBulkEntry x + uptoBulkEntries r
def uptoBulkEntry {H : Type} : Lit × DataW H → Nat
  | (.string bytes, d) => bytes.length + uptoBulk d + 1
  | (_, d) => uptoBulk d + 1
 end
def uptoSmall : (H : Type) → List (DataW H) → Bool := fun _ ds => decide (uptoBulkAll ds ≤ 1048576)
def OpenSpec.upto (s : _root_.Go.ChangeSpec) : _root_.Go.OpenSpec := { _root_.Go.OpenSpec.ofChange s with cond := some uptoSmall }

/-- 'laws.FnExactProjectiveRep', WHERE WHAT IT READS IS OF BULK AT MOST 1048576: true; the input reads as it did. -/
def fnExactProjectiveRepUptoRow : OpenClaim := { program := "ytlmenmacepeeaaa", sum := "679e56ce8a94994d636a5ad2e531d7c27d3b2352210f83ae7a412bdbfb237742", func := "loop.example/g03404/laws.FnExactProjectiveRep", spec := "fnExactProjectiveRep", unfollowed := true, recurses := true, apart := false, narrowed := true }
def FnExactProjectiveRepUptoSaid : Prop := fnExactProjectiveRepUptoRow.holds Try.pinned (OpenSpec.upto fnExactProjectiveRepSpec)

/-- 'laws.FnExactExtDim', WHERE WHAT IT READS IS OF BULK AT MOST 1048576: true; the input reads as it did. -/
def fnExactExtDimUptoRow : OpenClaim := { program := "ytlmenmacepeeaaa", sum := "679e56ce8a94994d636a5ad2e531d7c27d3b2352210f83ae7a412bdbfb237742", func := "loop.example/g03404/laws.FnExactExtDim", spec := "fnExactExtDim", unfollowed := true, recurses := true, apart := false, narrowed := true }
def FnExactExtDimUptoSaid : Prop := fnExactExtDimUptoRow.holds Try.pinned (OpenSpec.upto fnExactExtDimSpec)

/-- 'laws.FnExactIsRigid', WHERE WHAT IT READS IS OF BULK AT MOST 1048576: true; the input reads as it did. -/
def fnExactIsRigidUptoRow : OpenClaim := { program := "ytlmenmacepeeaaa", sum := "679e56ce8a94994d636a5ad2e531d7c27d3b2352210f83ae7a412bdbfb237742", func := "loop.example/g03404/laws.FnExactIsRigid", spec := "fnExactIsRigid", unfollowed := true, recurses := true, apart := false, narrowed := true }
def FnExactIsRigidUptoSaid : Prop := fnExactIsRigidUptoRow.holds Try.pinned (OpenSpec.upto fnExactIsRigidSpec)

/-- 'laws.FnExactTopDims', WHERE WHAT IT READS IS OF BULK AT MOST 1048576: true; the input reads as it did. -/
def fnExactTopDimsUptoRow : OpenClaim := { program := "ytlmenmacepeeaaa", sum := "679e56ce8a94994d636a5ad2e531d7c27d3b2352210f83ae7a412bdbfb237742", func := "loop.example/g03404/laws.FnExactTopDims", spec := "fnExactTopDims", unfollowed := true, recurses := true, apart := false, narrowed := true }
def FnExactTopDimsUptoSaid : Prop := fnExactTopDimsUptoRow.holds Try.pinned (OpenSpec.upto fnExactTopDimsSpec)

/-- 'laws.FnExactExtensionOf', WHERE WHAT IT READS IS OF BULK AT MOST 1048576: true; the input reads as it did. -/
def fnExactExtensionOfUptoRow : OpenClaim := { program := "ytlmenmacepeeaaa", sum := "679e56ce8a94994d636a5ad2e531d7c27d3b2352210f83ae7a412bdbfb237742", func := "loop.example/g03404/laws.FnExactExtensionOf", spec := "fnExactExtensionOf", unfollowed := true, recurses := true, apart := false, narrowed := true }
def FnExactExtensionOfUptoSaid : Prop := fnExactExtensionOfUptoRow.holds Try.pinned (OpenSpec.upto fnExactExtensionOfSpec)

/-- 'laws.FnExactIsCoboundary', WHERE WHAT IT READS IS OF BULK AT MOST 1048576: true; the input reads as it did. -/
def fnExactIsCoboundaryUptoRow : OpenClaim := { program := "ytlmenmacepeeaaa", sum := "679e56ce8a94994d636a5ad2e531d7c27d3b2352210f83ae7a412bdbfb237742", func := "loop.example/g03404/laws.FnExactIsCoboundary", spec := "fnExactIsCoboundary", unfollowed := true, recurses := true, apart := false, narrowed := true }
def FnExactIsCoboundaryUptoSaid : Prop := fnExactIsCoboundaryUptoRow.holds Try.pinned (OpenSpec.upto fnExactIsCoboundarySpec)

/-- 'laws.FnExactRadicalOf', WHERE WHAT IT READS IS OF BULK AT MOST 1048576: true; the input reads as it did. -/
def fnExactRadicalOfUptoRow : OpenClaim := { program := "ytlmenmacepeeaaa", sum := "679e56ce8a94994d636a5ad2e531d7c27d3b2352210f83ae7a412bdbfb237742", func := "loop.example/g03404/laws.FnExactRadicalOf", spec := "fnExactRadicalOf", unfollowed := true, recurses := true, apart := false, narrowed := true }
def FnExactRadicalOfUptoSaid : Prop := fnExactRadicalOfUptoRow.holds Try.pinned (OpenSpec.upto fnExactRadicalOfSpec)

/-- 'laws.FnExactHaveSameHoms', WHERE WHAT IT READS IS OF BULK AT MOST 1048576: true; the input reads as it did. -/
def fnExactHaveSameHomsUptoRow : OpenClaim := { program := "ytlmenmacepeeaaa", sum := "679e56ce8a94994d636a5ad2e531d7c27d3b2352210f83ae7a412bdbfb237742", func := "loop.example/g03404/laws.FnExactHaveSameHoms", spec := "fnExactHaveSameHoms", unfollowed := true, recurses := true, apart := false, narrowed := true }
def FnExactHaveSameHomsUptoSaid : Prop := fnExactHaveSameHomsUptoRow.holds Try.pinned (OpenSpec.upto fnExactHaveSameHomsSpec)

/-- 'laws.FnExactInjectiveRep', WHERE WHAT IT READS IS OF BULK AT MOST 1048576: true; the input reads as it did. -/
def fnExactInjectiveRepUptoRow : OpenClaim := { program := "ytlmenmacepeeaaa", sum := "679e56ce8a94994d636a5ad2e531d7c27d3b2352210f83ae7a412bdbfb237742", func := "loop.example/g03404/laws.FnExactInjectiveRep", spec := "fnExactInjectiveRep", unfollowed := true, recurses := true, apart := false, narrowed := true }
def FnExactInjectiveRepUptoSaid : Prop := fnExactInjectiveRepUptoRow.holds Try.pinned (OpenSpec.upto fnExactInjectiveRepSpec)

/-- 'laws.FnExactSocleDims', WHERE WHAT IT READS IS OF BULK AT MOST 1048576: true; the input reads as it did. -/
def fnExactSocleDimsUptoRow : OpenClaim := { program := "ytlmenmacepeeaaa", sum := "679e56ce8a94994d636a5ad2e531d7c27d3b2352210f83ae7a412bdbfb237742", func := "loop.example/g03404/laws.FnExactSocleDims", spec := "fnExactSocleDims", unfollowed := true, recurses := true, apart := false, narrowed := true }
def FnExactSocleDimsUptoSaid : Prop := fnExactSocleDimsUptoRow.holds Try.pinned (OpenSpec.upto fnExactSocleDimsSpec)

/-- 'laws.FnExactHomRow', WHERE WHAT IT READS IS OF BULK AT MOST 1048576: true; the input reads as it did. -/
def fnExactHomRowUptoRow : OpenClaim := { program := "ytlmenmacepeeaaa", sum := "679e56ce8a94994d636a5ad2e531d7c27d3b2352210f83ae7a412bdbfb237742", func := "loop.example/g03404/laws.FnExactHomRow", spec := "fnExactHomRow", unfollowed := true, recurses := true, apart := false, narrowed := true }
def FnExactHomRowUptoSaid : Prop := fnExactHomRowUptoRow.holds Try.pinned (OpenSpec.upto fnExactHomRowSpec)

/-- 'laws.FnExactExtBasis', WHERE WHAT IT READS IS OF BULK AT MOST 1048576: true; the input reads as it did. -/
def fnExactExtBasisUptoRow : OpenClaim := { program := "ytlmenmacepeeaaa", sum := "679e56ce8a94994d636a5ad2e531d7c27d3b2352210f83ae7a412bdbfb237742", func := "loop.example/g03404/laws.FnExactExtBasis", spec := "fnExactExtBasis", unfollowed := true, recurses := true, apart := false, narrowed := true }
def FnExactExtBasisUptoSaid : Prop := fnExactExtBasisUptoRow.holds Try.pinned (OpenSpec.upto fnExactExtBasisSpec)

end Rows
end Go.Proofs.Ytlmenmacepeeaaa
