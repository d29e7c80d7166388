/-
  No cell of these rows narrows 'for every input' (looked for: loops, veiled, ifaces, maps, wideKeys, modest, calm, conditions, laid).
  DERIVED. THE GIVEN ROWS OF THIS SEAT. 4 by the template 'for every input the law returns true; each argument reads behind the call as it read before'; 0 by the template 'total and deterministic' (their statements: YtedjajokbdokhaaTotals.lean).
  GIVEN WITH THE SEED: the statements are not yours to turn. If you find one false, say at which input.
  Laid BY PROGRAM, IN A SANDBOX (cutbox-rows.mjs): the forced cells as the released guide's own fill.sh prints them over the translation 8ee9269a33903a73… (all of the seat's roots in one cut). By AI agents, Wed Nov 11 2026. No macro, syntax, notation, axiom, sorry.
-/
import Derived.Test.YtedjajokbdokhaaChecked
import GoSem.Claim
import GoSem.ClaimJoined
import GoSem.ClaimMapViews
import Derived.JoinedTies
import Derived.KernelRfl
namespace Go.Proofs.Ytedjajokbdokhaa
/- THE CELL 'sum', in the pinned program and in every row, IS THE sha256 OF THE DUMP (.gsa) THAT YtedjajokbdokhaaProg.lean LOADS. Nothing in Lean hashes anything: it is a label: what it is worth is what the hold of that sum in a sandbox is worth. -/
noncomputable def Try.pinned : Pinned := { name := "ytedjajokbdokhaa", sum := "8ee9269a33903a73beaaa2cf9ee750c07b85804d6bbdbbc1f2b06830e33227b5", checked := Try.checked }
namespace Rows
def none {H : Type} : Left H := { results := [], args := [] }

/-- 'laws.FnExactSocleDims': WHATEVER THE INPUT: true; the input reads as it did. -/
def fnExactSocleDimsSpec : ChangeSpec := { name := "fnExactSocleDims", fn := fun _ => fun
  | [d] => { results := [.lit (.bool true)], args := [d] }
  | _ => none }
def fnExactSocleDimsRow : OpenClaim := { program := "ytedjajokbdokhaa", sum := "8ee9269a33903a73beaaa2cf9ee750c07b85804d6bbdbbc1f2b06830e33227b5", func := "loop.example/g03404/laws.FnExactSocleDims", spec := "fnExactSocleDims", unfollowed := true, recurses := true, apart := false }
def FnExactSocleDimsSaid : Prop := fnExactSocleDimsRow.holds Try.pinned (OpenSpec.ofChange fnExactSocleDimsSpec)

/-- ITS FALSE NEIGHBOUR: 'it returns false'. Refute it at one input. -/
def fnExactSocleDimsWrong : ChangeSpec := { name := "fnExactSocleDims", fn := fun _ => fun
  | [d] => { results := [.lit (.bool false)], args := [d] }
  | _ => none }
def FnExactSocleDimsWrongFalsely : Prop := fnExactSocleDimsRow.holds Try.pinned (OpenSpec.ofChange fnExactSocleDimsWrong)

/-- 'laws.FnExactImageSub': WHATEVER THE INPUT: true; the input reads as it did. -/
def fnExactImageSubSpec : ChangeSpec := { name := "fnExactImageSub", fn := fun _ => fun
  | [d1, d2, d3] => { results := [.lit (.bool true)], args := [d1, d2, d3] }
  | _ => none }
def fnExactImageSubRow : OpenClaim := { program := "ytedjajokbdokhaa", sum := "8ee9269a33903a73beaaa2cf9ee750c07b85804d6bbdbbc1f2b06830e33227b5", func := "loop.example/g03404/laws.FnExactImageSub", spec := "fnExactImageSub", unfollowed := true, recurses := true, apart := false }
def FnExactImageSubSaid : Prop := fnExactImageSubRow.holds Try.pinned (OpenSpec.ofChange fnExactImageSubSpec)

/-- ITS FALSE NEIGHBOUR: 'it returns false'. Refute it at one input. -/
def fnExactImageSubWrong : ChangeSpec := { name := "fnExactImageSub", fn := fun _ => fun
  | [d1, d2, d3] => { results := [.lit (.bool false)], args := [d1, d2, d3] }
  | _ => none }
def FnExactImageSubWrongFalsely : Prop := fnExactImageSubRow.holds Try.pinned (OpenSpec.ofChange fnExactImageSubWrong)

/-- 'laws.FnExactSocleOf': WHATEVER THE INPUT: true; the input reads as it did. -/
def fnExactSocleOfSpec : ChangeSpec := { name := "fnExactSocleOf", fn := fun _ => fun
  | [d] => { results := [.lit (.bool true)], args := [d] }
  | _ => none }
def fnExactSocleOfRow : OpenClaim := { program := "ytedjajokbdokhaa", sum := "8ee9269a33903a73beaaa2cf9ee750c07b85804d6bbdbbc1f2b06830e33227b5", func := "loop.example/g03404/laws.FnExactSocleOf", spec := "fnExactSocleOf", unfollowed := true, recurses := true, apart := false }
def FnExactSocleOfSaid : Prop := fnExactSocleOfRow.holds Try.pinned (OpenSpec.ofChange fnExactSocleOfSpec)

/-- ITS FALSE NEIGHBOUR: 'it returns false'. Refute it at one input. -/
def fnExactSocleOfWrong : ChangeSpec := { name := "fnExactSocleOf", fn := fun _ => fun
  | [d] => { results := [.lit (.bool false)], args := [d] }
  | _ => none }
def FnExactSocleOfWrongFalsely : Prop := fnExactSocleOfRow.holds Try.pinned (OpenSpec.ofChange fnExactSocleOfWrong)

/-- 'laws.FnExactKernelSub': WHATEVER THE INPUT: true; the input reads as it did. -/
def fnExactKernelSubSpec : ChangeSpec := { name := "fnExactKernelSub", fn := fun _ => fun
  | [d1, d2, d3] => { results := [.lit (.bool true)], args := [d1, d2, d3] }
  | _ => none }
def fnExactKernelSubRow : OpenClaim := { program := "ytedjajokbdokhaa", sum := "8ee9269a33903a73beaaa2cf9ee750c07b85804d6bbdbbc1f2b06830e33227b5", func := "loop.example/g03404/laws.FnExactKernelSub", spec := "fnExactKernelSub", unfollowed := true, recurses := true, apart := false }
def FnExactKernelSubSaid : Prop := fnExactKernelSubRow.holds Try.pinned (OpenSpec.ofChange fnExactKernelSubSpec)

/-- ITS FALSE NEIGHBOUR: 'it returns false'. Refute it at one input. -/
def fnExactKernelSubWrong : ChangeSpec := { name := "fnExactKernelSub", fn := fun _ => fun
  | [d1, d2, d3] => { results := [.lit (.bool false)], args := [d1, d2, d3] }
  | _ => none }
def FnExactKernelSubWrongFalsely : Prop := fnExactKernelSubRow.holds Try.pinned (OpenSpec.ofChange fnExactKernelSubWrong)

/- THE SECOND FORM. 'bulk': how many values and letters a reading holds, each counted each time it is reached (what is shared counts as often as it is met; a slice's spare places count too). A statement '..UptoSaid' is the law's where the arguments, and the package variables that the reading takes, are together of bulk at most 1048576: NARROWER than '..Said'. Prove '..Said' where nothing that the law and all that it calls make is longer than what came in: it says more and counts as full. Else prove '..UptoSaid'. A law counts once. -/
mutual
def uptoBulk {H : Type} : DataW H → Nat
  | .lit (.string bytes) => bytes.length + 1
  | .lit _ => 1
  | .nil => 1
  | .ptr d => uptoBulk d + 1
  | .slice elems spare => uptoBulkAll elems + uptoBulkAll spare + 1
  | .agg parts => uptoBulkAll parts + 1
  | .iface _ d => uptoBulk d + 1
  | .map entries => uptoBulkEntries entries + 1
  | .held _ => 1
def uptoBulkAll {H : Type} : List (DataW H) → Nat
  | [] => 0
  | d :: r => uptoBulk d + uptoBulkAll r
def uptoBulkEntries {H : Type} : List (Lit × DataW H) → Nat
  | [] => 0
  | x :: r => uptoBulkEntry x + uptoBulkEntries r
def uptoBulkEntry {H : Type} : Lit × DataW H → Nat
  | (.string bytes, d) => bytes.length + uptoBulk d + 1
  | (_, d) => uptoBulk d + 1
 end
def uptoSmall : (H : Type) → List (DataW H) → Bool := fun _ ds => decide (uptoBulkAll ds ≤ 1048576)
def OpenSpec.upto (s : _root_.Go.ChangeSpec) : _root_.Go.OpenSpec := { _root_.Go.OpenSpec.ofChange s with cond := some uptoSmall }

/-- 'laws.FnExactSocleDims', WHERE WHAT IT READS IS OF BULK AT MOST 1048576: true; the input reads as it did. -/
def fnExactSocleDimsUptoRow : OpenClaim := { program := "ytedjajokbdokhaa", sum := "8ee9269a33903a73beaaa2cf9ee750c07b85804d6bbdbbc1f2b06830e33227b5", func := "loop.example/g03404/laws.FnExactSocleDims", spec := "fnExactSocleDims", unfollowed := true, recurses := true, apart := false, narrowed := true }
def FnExactSocleDimsUptoSaid : Prop := fnExactSocleDimsUptoRow.holds Try.pinned (OpenSpec.upto fnExactSocleDimsSpec)

/-- 'laws.FnExactImageSub', WHERE WHAT IT READS IS OF BULK AT MOST 1048576: true; the input reads as it did. -/
def fnExactImageSubUptoRow : OpenClaim := { program := "ytedjajokbdokhaa", sum := "8ee9269a33903a73beaaa2cf9ee750c07b85804d6bbdbbc1f2b06830e33227b5", func := "loop.example/g03404/laws.FnExactImageSub", spec := "fnExactImageSub", unfollowed := true, recurses := true, apart := false, narrowed := true }
def FnExactImageSubUptoSaid : Prop := fnExactImageSubUptoRow.holds Try.pinned (OpenSpec.upto fnExactImageSubSpec)

/-- 'laws.FnExactSocleOf', WHERE WHAT IT READS IS OF BULK AT MOST 1048576: true; the input reads as it did. -/
def fnExactSocleOfUptoRow : OpenClaim := { program := "ytedjajokbdokhaa", sum := "8ee9269a33903a73beaaa2cf9ee750c07b85804d6bbdbbc1f2b06830e33227b5", func := "loop.example/g03404/laws.FnExactSocleOf", spec := "fnExactSocleOf", unfollowed := true, recurses := true, apart := false, narrowed := true }
def FnExactSocleOfUptoSaid : Prop := fnExactSocleOfUptoRow.holds Try.pinned (OpenSpec.upto fnExactSocleOfSpec)

/-- 'laws.FnExactKernelSub', WHERE WHAT IT READS IS OF BULK AT MOST 1048576: true; the input reads as it did. -/
def fnExactKernelSubUptoRow : OpenClaim := { program := "ytedjajokbdokhaa", sum := "8ee9269a33903a73beaaa2cf9ee750c07b85804d6bbdbbc1f2b06830e33227b5", func := "loop.example/g03404/laws.FnExactKernelSub", spec := "fnExactKernelSub", unfollowed := true, recurses := true, apart := false, narrowed := true }
def FnExactKernelSubUptoSaid : Prop := fnExactKernelSubUptoRow.holds Try.pinned (OpenSpec.upto fnExactKernelSubSpec)

end Rows
end Go.Proofs.Ytedjajokbdokhaa
