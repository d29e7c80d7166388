/-
  No cell of these rows narrows 'for every input' (looked for: loops, veiled, ifaces, maps, wideKeys, modest, calm, conditions, laid).
  DERIVED. THE GIVEN ROWS OF THIS SEAT. 5 by the template 'for every input the law returns true; each argument reads behind the call as it read before'; 0 by the template 'total and deterministic' (their statements: YtjmjamhhppoimaaGreatTotals.lean).
  GIVEN WITH THE SEED: the statements are not yours to turn. If you find one false, say at which input.
  Laid BY PROGRAM, IN A SANDBOX (cutbox-rows.mjs): the forced cells as the released guide's own fill.sh prints them over the translation 6e5b646b7fee287f… (all of the seat's roots in one cut). By AI agents, Wed Nov 11 2026. No macro, syntax, notation, axiom, sorry.
-/
import Derived.Test.YtjmjamhhppoimaaGreatChecked
import GoSem.Claim
import GoSem.ClaimJoined
import GoSem.ClaimMapViews
import Derived.JoinedTies
import Derived.KernelRfl
namespace Go.Proofs.YtjmjamhhppoimaaGreat
/- THE CELL 'sum', in the pinned program and in every row, IS THE sha256 OF THE DUMP (.gsa) THAT YtjmjamhhppoimaaGreatProg.lean LOADS. Nothing in Lean hashes anything: it is a label: what it is worth is what the hold of that sum in a sandbox is worth. -/
noncomputable def Tryz.pinned : Pinned := { name := "ytjmjamhhppoimaagreat", sum := "6e5b646b7fee287fdf5ecf34ca874511cc2fd3778d2a29d8dcdf7b8aec0df4c8", checked := Tryz.checked }
namespace Rows
def none {H : Type} : Left H := { results := [], args := [] }

/-- 'laws.FnStandard': WHATEVER THE INPUT: true; the input reads as it did. -/
def fnStandardSpec : ChangeSpec := { name := "fnStandard", fn := fun _ => fun
  | [d] => { results := [.lit (.bool true)], args := [d] }
  | _ => none }
def fnStandardRow : OpenClaim := { program := "ytjmjamhhppoimaagreat", sum := "6e5b646b7fee287fdf5ecf34ca874511cc2fd3778d2a29d8dcdf7b8aec0df4c8", func := "loop.example/g03404/laws.FnStandard", spec := "fnStandard", unfollowed := true, recurses := true, apart := false }
def FnStandardSaid : Prop := fnStandardRow.holds Tryz.pinned (OpenSpec.ofChange fnStandardSpec)

/-- ITS FALSE NEIGHBOUR: 'it returns false'. Refute it at one input. -/
def fnStandardWrong : ChangeSpec := { name := "fnStandard", fn := fun _ => fun
  | [d] => { results := [.lit (.bool false)], args := [d] }
  | _ => none }
def FnStandardWrongFalsely : Prop := fnStandardRow.holds Tryz.pinned (OpenSpec.ofChange fnStandardWrong)

/-- 'laws.FnParts': WHATEVER THE INPUT: true; the input reads as it did. -/
def fnPartsSpec : ChangeSpec := { name := "fnParts", fn := fun _ => fun
  | [d] => { results := [.lit (.bool true)], args := [d] }
  | _ => none }
def fnPartsRow : OpenClaim := { program := "ytjmjamhhppoimaagreat", sum := "6e5b646b7fee287fdf5ecf34ca874511cc2fd3778d2a29d8dcdf7b8aec0df4c8", func := "loop.example/g03404/laws.FnParts", spec := "fnParts", unfollowed := true, recurses := true, apart := false }
def FnPartsSaid : Prop := fnPartsRow.holds Tryz.pinned (OpenSpec.ofChange fnPartsSpec)

/-- ITS FALSE NEIGHBOUR: 'it returns false'. Refute it at one input. -/
def fnPartsWrong : ChangeSpec := { name := "fnParts", fn := fun _ => fun
  | [d] => { results := [.lit (.bool false)], args := [d] }
  | _ => none }
def FnPartsWrongFalsely : Prop := fnPartsRow.holds Tryz.pinned (OpenSpec.ofChange fnPartsWrong)

/-- 'laws.FnRadicals': WHATEVER THE INPUT: true; the input reads as it did. -/
def fnRadicalsSpec : ChangeSpec := { name := "fnRadicals", fn := fun _ => fun
  | [d] => { results := [.lit (.bool true)], args := [d] }
  | _ => none }
def fnRadicalsRow : OpenClaim := { program := "ytjmjamhhppoimaagreat", sum := "6e5b646b7fee287fdf5ecf34ca874511cc2fd3778d2a29d8dcdf7b8aec0df4c8", func := "loop.example/g03404/laws.FnRadicals", spec := "fnRadicals", unfollowed := true, recurses := true, apart := false }
def FnRadicalsSaid : Prop := fnRadicalsRow.holds Tryz.pinned (OpenSpec.ofChange fnRadicalsSpec)

/-- ITS FALSE NEIGHBOUR: 'it returns false'. Refute it at one input. -/
def fnRadicalsWrong : ChangeSpec := { name := "fnRadicals", fn := fun _ => fun
  | [d] => { results := [.lit (.bool false)], args := [d] }
  | _ => none }
def FnRadicalsWrongFalsely : Prop := fnRadicalsRow.holds Tryz.pinned (OpenSpec.ofChange fnRadicalsWrong)

/-- 'laws.FnIsomorphisms': WHATEVER THE INPUT: true; the input reads as it did. -/
def fnIsomorphismsSpec : ChangeSpec := { name := "fnIsomorphisms", fn := fun _ => fun
  | [d] => { results := [.lit (.bool true)], args := [d] }
  | _ => none }
def fnIsomorphismsRow : OpenClaim := { program := "ytjmjamhhppoimaagreat", sum := "6e5b646b7fee287fdf5ecf34ca874511cc2fd3778d2a29d8dcdf7b8aec0df4c8", func := "loop.example/g03404/laws.FnIsomorphisms", spec := "fnIsomorphisms", unfollowed := true, recurses := true, apart := false }
def FnIsomorphismsSaid : Prop := fnIsomorphismsRow.holds Tryz.pinned (OpenSpec.ofChange fnIsomorphismsSpec)

/-- ITS FALSE NEIGHBOUR: 'it returns false'. Refute it at one input. -/
def fnIsomorphismsWrong : ChangeSpec := { name := "fnIsomorphisms", fn := fun _ => fun
  | [d] => { results := [.lit (.bool false)], args := [d] }
  | _ => none }
def FnIsomorphismsWrongFalsely : Prop := fnIsomorphismsRow.holds Tryz.pinned (OpenSpec.ofChange fnIsomorphismsWrong)

/-- 'laws.FnSplits': WHATEVER THE INPUT: true; the input reads as it did. -/
def fnSplitsSpec : ChangeSpec := { name := "fnSplits", fn := fun _ => fun
  | [d] => { results := [.lit (.bool true)], args := [d] }
  | _ => none }
def fnSplitsRow : OpenClaim := { program := "ytjmjamhhppoimaagreat", sum := "6e5b646b7fee287fdf5ecf34ca874511cc2fd3778d2a29d8dcdf7b8aec0df4c8", func := "loop.example/g03404/laws.FnSplits", spec := "fnSplits", unfollowed := true, recurses := true, apart := false }
def FnSplitsSaid : Prop := fnSplitsRow.holds Tryz.pinned (OpenSpec.ofChange fnSplitsSpec)

/-- ITS FALSE NEIGHBOUR: 'it returns false'. Refute it at one input. -/
def fnSplitsWrong : ChangeSpec := { name := "fnSplits", fn := fun _ => fun
  | [d] => { results := [.lit (.bool false)], args := [d] }
  | _ => none }
def FnSplitsWrongFalsely : Prop := fnSplitsRow.holds Tryz.pinned (OpenSpec.ofChange fnSplitsWrong)

/- THE SECOND FORM. 'bulk': how many values and letters a reading holds, each counted each time it is reached (what is shared counts as often as it is met; a slice's spare places count too). A statement '..UptoSaid' is the law's where the arguments, and the package variables that the reading takes, are together of bulk at most 1048576: NARROWER than '..Said'. Prove '..Said' where nothing that the law and all that it calls make is longer than what came in: it says more and counts as full. Else prove '..UptoSaid'. A law counts once. -/
mutual
def uptoBulk {H : Type} : DataW H → Nat
  | .lit (.string bytes) => bytes.length + 1
  | .lit _ => 1
  | .nil => 1
  | .ptr d => uptoBulk d + 1
  | .slice elems spare => uptoBulkAll elems + uptoBulkAll spare + 1
  | .agg parts => uptoBulkAll parts + 1
  | .iface _ d => uptoBulk d + 1
  | .map entries => uptoBulkEntries entries + 1
  | .held _ => 1
def uptoBulkAll {H : Type} : List (DataW H) → Nat
  | [] => 0
  | d :: r => uptoBulk d + uptoBulkAll r
def uptoBulkEntries {H : Type} : List (Lit × DataW H) → Nat
  | [] => 0
  | x :: r => uptoBulkEntry x + uptoBulkEntries r
def uptoBulkEntry {H : Type} : Lit × DataW H → Nat
  | (.string bytes, d) => bytes.length + uptoBulk d + 1
  | (_, d) => uptoBulk d + 1
 end
def uptoSmall : (H : Type) → List (DataW H) → Bool := fun _ ds => decide (uptoBulkAll ds ≤ 1048576)
def OpenSpec.upto (s : _root_.Go.ChangeSpec) : _root_.Go.OpenSpec := { _root_.Go.OpenSpec.ofChange s with cond := some uptoSmall }

/-- 'laws.FnStandard', WHERE WHAT IT READS IS OF BULK AT MOST 1048576: true; the input reads as it did. -/
def fnStandardUptoRow : OpenClaim := { program := "ytjmjamhhppoimaagreat", sum := "6e5b646b7fee287fdf5ecf34ca874511cc2fd3778d2a29d8dcdf7b8aec0df4c8", func := "loop.example/g03404/laws.FnStandard", spec := "fnStandard", unfollowed := true, recurses := true, apart := false, narrowed := true }
def FnStandardUptoSaid : Prop := fnStandardUptoRow.holds Tryz.pinned (OpenSpec.upto fnStandardSpec)

/-- 'laws.FnParts', WHERE WHAT IT READS IS OF BULK AT MOST 1048576: true; the input reads as it did. -/
def fnPartsUptoRow : OpenClaim := { program := "ytjmjamhhppoimaagreat", sum := "6e5b646b7fee287fdf5ecf34ca874511cc2fd3778d2a29d8dcdf7b8aec0df4c8", func := "loop.example/g03404/laws.FnParts", spec := "fnParts", unfollowed := true, recurses := true, apart := false, narrowed := true }
def FnPartsUptoSaid : Prop := fnPartsUptoRow.holds Tryz.pinned (OpenSpec.upto fnPartsSpec)

/-- 'laws.FnRadicals', WHERE WHAT IT READS IS OF BULK AT MOST 1048576: true; the input reads as it did. -/
def fnRadicalsUptoRow : OpenClaim := { program := "ytjmjamhhppoimaagreat", sum := "6e5b646b7fee287fdf5ecf34ca874511cc2fd3778d2a29d8dcdf7b8aec0df4c8", func := "loop.example/g03404/laws.FnRadicals", spec := "fnRadicals", unfollowed := true, recurses := true, apart := false, narrowed := true }
def FnRadicalsUptoSaid : Prop := fnRadicalsUptoRow.holds Tryz.pinned (OpenSpec.upto fnRadicalsSpec)

/-- 'laws.FnIsomorphisms', WHERE WHAT IT READS IS OF BULK AT MOST 1048576: true; the input reads as it did. -/
def fnIsomorphismsUptoRow : OpenClaim := { program := "ytjmjamhhppoimaagreat", sum := "6e5b646b7fee287fdf5ecf34ca874511cc2fd3778d2a29d8dcdf7b8aec0df4c8", func := "loop.example/g03404/laws.FnIsomorphisms", spec := "fnIsomorphisms", unfollowed := true, recurses := true, apart := false, narrowed := true }
def FnIsomorphismsUptoSaid : Prop := fnIsomorphismsUptoRow.holds Tryz.pinned (OpenSpec.upto fnIsomorphismsSpec)

/-- 'laws.FnSplits', WHERE WHAT IT READS IS OF BULK AT MOST 1048576: true; the input reads as it did. -/
def fnSplitsUptoRow : OpenClaim := { program := "ytjmjamhhppoimaagreat", sum := "6e5b646b7fee287fdf5ecf34ca874511cc2fd3778d2a29d8dcdf7b8aec0df4c8", func := "loop.example/g03404/laws.FnSplits", spec := "fnSplits", unfollowed := true, recurses := true, apart := false, narrowed := true }
def FnSplitsUptoSaid : Prop := fnSplitsUptoRow.holds Tryz.pinned (OpenSpec.upto fnSplitsSpec)

end Rows
end Go.Proofs.YtjmjamhhppoimaaGreat
