/-
  No cell of these rows narrows 'for every input' (looked for: loops, veiled, ifaces, maps, wideKeys, modest, calm, conditions, laid).
  DERIVED. THE GIVEN ROWS OF THIS SEAT. 7 by the template 'for every input the law returns true; each argument reads behind the call as it read before'; 0 by the template 'total and deterministic' (their statements: YtanembgijdkagaaGreatTotals.lean).
  GIVEN WITH THE SEED: the statements are not yours to turn. If you find one false, say at which input.
  Laid BY PROGRAM, IN A SANDBOX (cutbox-rows.mjs): the forced cells as the released guide's own fill.sh prints them over the translation 4b01604ccf2f83d7… (all of the seat's roots in one cut). By AI agents, Wed Nov 11 2026. No macro, syntax, notation, axiom, sorry.
-/
import Derived.Test.YtanembgijdkagaaGreatChecked
import GoSem.Claim
import GoSem.ClaimJoined
import GoSem.ClaimMapViews
import Derived.JoinedTies
import Derived.KernelRfl
namespace Go.Proofs.YtanembgijdkagaaGreat
/- THE CELL 'sum', in the pinned program and in every row, IS THE sha256 OF THE DUMP (.gsa) THAT YtanembgijdkagaaGreatProg.lean LOADS. Nothing in Lean hashes anything: it is a label: what it is worth is what the hold of that sum in a sandbox is worth. -/
noncomputable def Tryz.pinned : Pinned := { name := "ytanembgijdkagaagreat", sum := "4b01604ccf2f83d789ed60ea42e3860c24a1225e6f7352d9d21b10ae683561b9", checked := Tryz.checked }
namespace Rows
def none {H : Type} : Left H := { results := [], args := [] }

/-- 'laws.FnExactCountIsomorphisms': WHATEVER THE INPUT: true; the input reads as it did. -/
def fnExactCountIsomorphismsSpec : ChangeSpec := { name := "fnExactCountIsomorphisms", fn := fun _ => fun
  | [d1, d2] => { results := [.lit (.bool true)], args := [d1, d2] }
  | _ => none }
def fnExactCountIsomorphismsRow : OpenClaim := { program := "ytanembgijdkagaagreat", sum := "4b01604ccf2f83d789ed60ea42e3860c24a1225e6f7352d9d21b10ae683561b9", func := "loop.example/g03404/laws.FnExactCountIsomorphisms", spec := "fnExactCountIsomorphisms", unfollowed := true, recurses := true, apart := false }
def FnExactCountIsomorphismsSaid : Prop := fnExactCountIsomorphismsRow.holds Tryz.pinned (OpenSpec.ofChange fnExactCountIsomorphismsSpec)

/-- ITS FALSE NEIGHBOUR: 'it returns false'. Refute it at one input. -/
def fnExactCountIsomorphismsWrong : ChangeSpec := { name := "fnExactCountIsomorphisms", fn := fun _ => fun
  | [d1, d2] => { results := [.lit (.bool false)], args := [d1, d2] }
  | _ => none }
def FnExactCountIsomorphismsWrongFalsely : Prop := fnExactCountIsomorphismsRow.holds Tryz.pinned (OpenSpec.ofChange fnExactCountIsomorphismsWrong)

/-- 'laws.FnExactAreIsomorphic': WHATEVER THE INPUT: true; the input reads as it did. -/
def fnExactAreIsomorphicSpec : ChangeSpec := { name := "fnExactAreIsomorphic", fn := fun _ => fun
  | [d1, d2] => { results := [.lit (.bool true)], args := [d1, d2] }
  | _ => none }
def fnExactAreIsomorphicRow : OpenClaim := { program := "ytanembgijdkagaagreat", sum := "4b01604ccf2f83d789ed60ea42e3860c24a1225e6f7352d9d21b10ae683561b9", func := "loop.example/g03404/laws.FnExactAreIsomorphic", spec := "fnExactAreIsomorphic", unfollowed := true, recurses := true, apart := false }
def FnExactAreIsomorphicSaid : Prop := fnExactAreIsomorphicRow.holds Tryz.pinned (OpenSpec.ofChange fnExactAreIsomorphicSpec)

/-- ITS FALSE NEIGHBOUR: 'it returns false'. Refute it at one input. -/
def fnExactAreIsomorphicWrong : ChangeSpec := { name := "fnExactAreIsomorphic", fn := fun _ => fun
  | [d1, d2] => { results := [.lit (.bool false)], args := [d1, d2] }
  | _ => none }
def FnExactAreIsomorphicWrongFalsely : Prop := fnExactAreIsomorphicRow.holds Tryz.pinned (OpenSpec.ofChange fnExactAreIsomorphicWrong)

/-- 'laws.FnExactIsSplitSequence': WHATEVER THE INPUT: true; the input reads as it did. -/
def fnExactIsSplitSequenceSpec : ChangeSpec := { name := "fnExactIsSplitSequence", fn := fun _ => fun
  | [d1, d2, d3] => { results := [.lit (.bool true)], args := [d1, d2, d3] }
  | _ => none }
def fnExactIsSplitSequenceRow : OpenClaim := { program := "ytanembgijdkagaagreat", sum := "4b01604ccf2f83d789ed60ea42e3860c24a1225e6f7352d9d21b10ae683561b9", func := "loop.example/g03404/laws.FnExactIsSplitSequence", spec := "fnExactIsSplitSequence", unfollowed := true, recurses := true, apart := false }
def FnExactIsSplitSequenceSaid : Prop := fnExactIsSplitSequenceRow.holds Tryz.pinned (OpenSpec.ofChange fnExactIsSplitSequenceSpec)

/-- ITS FALSE NEIGHBOUR: 'it returns false'. Refute it at one input. -/
def fnExactIsSplitSequenceWrong : ChangeSpec := { name := "fnExactIsSplitSequence", fn := fun _ => fun
  | [d1, d2, d3] => { results := [.lit (.bool false)], args := [d1, d2, d3] }
  | _ => none }
def FnExactIsSplitSequenceWrongFalsely : Prop := fnExactIsSplitSequenceRow.holds Tryz.pinned (OpenSpec.ofChange fnExactIsSplitSequenceWrong)

/-- 'laws.FnExactFindIsomorphism': WHATEVER THE INPUT: true; the input reads as it did. -/
def fnExactFindIsomorphismSpec : ChangeSpec := { name := "fnExactFindIsomorphism", fn := fun _ => fun
  | [d1, d2] => { results := [.lit (.bool true)], args := [d1, d2] }
  | _ => none }
def fnExactFindIsomorphismRow : OpenClaim := { program := "ytanembgijdkagaagreat", sum := "4b01604ccf2f83d789ed60ea42e3860c24a1225e6f7352d9d21b10ae683561b9", func := "loop.example/g03404/laws.FnExactFindIsomorphism", spec := "fnExactFindIsomorphism", unfollowed := true, recurses := true, apart := false }
def FnExactFindIsomorphismSaid : Prop := fnExactFindIsomorphismRow.holds Tryz.pinned (OpenSpec.ofChange fnExactFindIsomorphismSpec)

/-- ITS FALSE NEIGHBOUR: 'it returns false'. Refute it at one input. -/
def fnExactFindIsomorphismWrong : ChangeSpec := { name := "fnExactFindIsomorphism", fn := fun _ => fun
  | [d1, d2] => { results := [.lit (.bool false)], args := [d1, d2] }
  | _ => none }
def FnExactFindIsomorphismWrongFalsely : Prop := fnExactFindIsomorphismRow.holds Tryz.pinned (OpenSpec.ofChange fnExactFindIsomorphismWrong)

/-- 'laws.FnExactIsIndecomposable': WHATEVER THE INPUT: true; the input reads as it did. -/
def fnExactIsIndecomposableSpec : ChangeSpec := { name := "fnExactIsIndecomposable", fn := fun _ => fun
  | [d] => { results := [.lit (.bool true)], args := [d] }
  | _ => none }
def fnExactIsIndecomposableRow : OpenClaim := { program := "ytanembgijdkagaagreat", sum := "4b01604ccf2f83d789ed60ea42e3860c24a1225e6f7352d9d21b10ae683561b9", func := "loop.example/g03404/laws.FnExactIsIndecomposable", spec := "fnExactIsIndecomposable", unfollowed := true, recurses := true, apart := false }
def FnExactIsIndecomposableSaid : Prop := fnExactIsIndecomposableRow.holds Tryz.pinned (OpenSpec.ofChange fnExactIsIndecomposableSpec)

/-- ITS FALSE NEIGHBOUR: 'it returns false'. Refute it at one input. -/
def fnExactIsIndecomposableWrong : ChangeSpec := { name := "fnExactIsIndecomposable", fn := fun _ => fun
  | [d] => { results := [.lit (.bool false)], args := [d] }
  | _ => none }
def FnExactIsIndecomposableWrongFalsely : Prop := fnExactIsIndecomposableRow.holds Tryz.pinned (OpenSpec.ofChange fnExactIsIndecomposableWrong)

/-- 'laws.FnExactIdempotentOf': WHATEVER THE INPUT: true; the input reads as it did. -/
def fnExactIdempotentOfSpec : ChangeSpec := { name := "fnExactIdempotentOf", fn := fun _ => fun
  | [d1, d2, d3] => { results := [.lit (.bool true)], args := [d1, d2, d3] }
  | _ => none }
def fnExactIdempotentOfRow : OpenClaim := { program := "ytanembgijdkagaagreat", sum := "4b01604ccf2f83d789ed60ea42e3860c24a1225e6f7352d9d21b10ae683561b9", func := "loop.example/g03404/laws.FnExactIdempotentOf", spec := "fnExactIdempotentOf", unfollowed := true, recurses := true, apart := false }
def FnExactIdempotentOfSaid : Prop := fnExactIdempotentOfRow.holds Tryz.pinned (OpenSpec.ofChange fnExactIdempotentOfSpec)

/-- ITS FALSE NEIGHBOUR: 'it returns false'. Refute it at one input. -/
def fnExactIdempotentOfWrong : ChangeSpec := { name := "fnExactIdempotentOf", fn := fun _ => fun
  | [d1, d2, d3] => { results := [.lit (.bool false)], args := [d1, d2, d3] }
  | _ => none }
def FnExactIdempotentOfWrongFalsely : Prop := fnExactIdempotentOfRow.holds Tryz.pinned (OpenSpec.ofChange fnExactIdempotentOfWrong)

/-- 'laws.FnExactFindSplit': WHATEVER THE INPUT: true; the input reads as it did. -/
def fnExactFindSplitSpec : ChangeSpec := { name := "fnExactFindSplit", fn := fun _ => fun
  | [d] => { results := [.lit (.bool true)], args := [d] }
  | _ => none }
def fnExactFindSplitRow : OpenClaim := { program := "ytanembgijdkagaagreat", sum := "4b01604ccf2f83d789ed60ea42e3860c24a1225e6f7352d9d21b10ae683561b9", func := "loop.example/g03404/laws.FnExactFindSplit", spec := "fnExactFindSplit", unfollowed := true, recurses := true, apart := false }
def FnExactFindSplitSaid : Prop := fnExactFindSplitRow.holds Tryz.pinned (OpenSpec.ofChange fnExactFindSplitSpec)

/-- ITS FALSE NEIGHBOUR: 'it returns false'. Refute it at one input. -/
def fnExactFindSplitWrong : ChangeSpec := { name := "fnExactFindSplit", fn := fun _ => fun
  | [d] => { results := [.lit (.bool false)], args := [d] }
  | _ => none }
def FnExactFindSplitWrongFalsely : Prop := fnExactFindSplitRow.holds Tryz.pinned (OpenSpec.ofChange fnExactFindSplitWrong)

/- THE SECOND FORM. 'bulk': how many values and letters a reading holds, each counted each time it is reached (what is shared counts as often as it is met; a slice's spare places count too). A statement '..UptoSaid' is the law's where the arguments, and the package variables that the reading takes, are together of bulk at most 1048576: NARROWER than '..Said'. Prove '..Said' where nothing that the law and all that it calls make is longer than what came in: it says more and counts as full. Else prove '..UptoSaid'. A law counts once. -/
mutual
def uptoBulk {H : Type} : DataW H → Nat
  | .lit (.string bytes) => bytes.length + 1
  | .lit _ => 1
  | .nil => 1
  | .ptr d => uptoBulk d + 1
  | .slice elems spare => uptoBulkAll elems + uptoBulkAll spare + 1
  | .agg parts => uptoBulkAll parts + 1
  | .iface _ d => uptoBulk d + 1
  | .map entries => uptoBulkEntries entries + 1
  | .held _ => 1
def uptoBulkAll {H : Type} : List (DataW H) → Nat
  | [] => 0
  | d :: r => uptoBulk d + uptoBulkAll r
def uptoBulkEntries {H : Type} : List (Lit × DataW H) → Nat
  | [] => 0
  | x :: r => uptoBulkEntry x + uptoBulkEntries r
def uptoBulkEntry {H : Type} : Lit × DataW H → Nat
  | (.string bytes, d) => bytes.length + uptoBulk d + 1
  | (_, d) => uptoBulk d + 1
 end
def uptoSmall : (H : Type) → List (DataW H) → Bool := fun _ ds => decide (uptoBulkAll ds ≤ 1048576)
def OpenSpec.upto (s : _root_.Go.ChangeSpec) : _root_.Go.OpenSpec := { _root_.Go.OpenSpec.ofChange s with cond := some uptoSmall }

/-- 'laws.FnExactCountIsomorphisms', WHERE WHAT IT READS IS OF BULK AT MOST 1048576: true; the input reads as it did. -/
def fnExactCountIsomorphismsUptoRow : OpenClaim := { program := "ytanembgijdkagaagreat", sum := "4b01604ccf2f83d789ed60ea42e3860c24a1225e6f7352d9d21b10ae683561b9", func := "loop.example/g03404/laws.FnExactCountIsomorphisms", spec := "fnExactCountIsomorphisms", unfollowed := true, recurses := true, apart := false, narrowed := true }
def FnExactCountIsomorphismsUptoSaid : Prop := fnExactCountIsomorphismsUptoRow.holds Tryz.pinned (OpenSpec.upto fnExactCountIsomorphismsSpec)

/-- 'laws.FnExactAreIsomorphic', WHERE WHAT IT READS IS OF BULK AT MOST 1048576: true; the input reads as it did. -/
def fnExactAreIsomorphicUptoRow : OpenClaim := { program := "ytanembgijdkagaagreat", sum := "4b01604ccf2f83d789ed60ea42e3860c24a1225e6f7352d9d21b10ae683561b9", func := "loop.example/g03404/laws.FnExactAreIsomorphic", spec := "fnExactAreIsomorphic", unfollowed := true, recurses := true, apart := false, narrowed := true }
def FnExactAreIsomorphicUptoSaid : Prop := fnExactAreIsomorphicUptoRow.holds Tryz.pinned (OpenSpec.upto fnExactAreIsomorphicSpec)

/-- 'laws.FnExactIsSplitSequence', WHERE WHAT IT READS IS OF BULK AT MOST 1048576: true; the input reads as it did. -/
def fnExactIsSplitSequenceUptoRow : OpenClaim := { program := "ytanembgijdkagaagreat", sum := "4b01604ccf2f83d789ed60ea42e3860c24a1225e6f7352d9d21b10ae683561b9", func := "loop.example/g03404/laws.FnExactIsSplitSequence", spec := "fnExactIsSplitSequence", unfollowed := true, recurses := true, apart := false, narrowed := true }
def FnExactIsSplitSequenceUptoSaid : Prop := fnExactIsSplitSequenceUptoRow.holds Tryz.pinned (OpenSpec.upto fnExactIsSplitSequenceSpec)

/-- 'laws.FnExactFindIsomorphism', WHERE WHAT IT READS IS OF BULK AT MOST 1048576: true; the input reads as it did. -/
def fnExactFindIsomorphismUptoRow : OpenClaim := { program := "ytanembgijdkagaagreat", sum := "4b01604ccf2f83d789ed60ea42e3860c24a1225e6f7352d9d21b10ae683561b9", func := "loop.example/g03404/laws.FnExactFindIsomorphism", spec := "fnExactFindIsomorphism", unfollowed := true, recurses := true, apart := false, narrowed := true }
def FnExactFindIsomorphismUptoSaid : Prop := fnExactFindIsomorphismUptoRow.holds Tryz.pinned (OpenSpec.upto fnExactFindIsomorphismSpec)

/-- 'laws.FnExactIsIndecomposable', WHERE WHAT IT READS IS OF BULK AT MOST 1048576: true; the input reads as it did. -/
def fnExactIsIndecomposableUptoRow : OpenClaim := { program := "ytanembgijdkagaagreat", sum := "4b01604ccf2f83d789ed60ea42e3860c24a1225e6f7352d9d21b10ae683561b9", func := "loop.example/g03404/laws.FnExactIsIndecomposable", spec := "fnExactIsIndecomposable", unfollowed := true, recurses := true, apart := false, narrowed := true }
def FnExactIsIndecomposableUptoSaid : Prop := fnExactIsIndecomposableUptoRow.holds Tryz.pinned (OpenSpec.upto fnExactIsIndecomposableSpec)

/-- 'laws.FnExactIdempotentOf', WHERE WHAT IT READS IS OF BULK AT MOST 1048576: true; the input reads as it did. -/
def fnExactIdempotentOfUptoRow : OpenClaim := { program := "ytanembgijdkagaagreat", sum := "4b01604ccf2f83d789ed60ea42e3860c24a1225e6f7352d9d21b10ae683561b9", func := "loop.example/g03404/laws.FnExactIdempotentOf", spec := "fnExactIdempotentOf", unfollowed := true, recurses := true, apart := false, narrowed := true }
def FnExactIdempotentOfUptoSaid : Prop := fnExactIdempotentOfUptoRow.holds Tryz.pinned (OpenSpec.upto fnExactIdempotentOfSpec)

/-- 'laws.FnExactFindSplit', WHERE WHAT IT READS IS OF BULK AT MOST 1048576: true; the input reads as it did. -/
def fnExactFindSplitUptoRow : OpenClaim := { program := "ytanembgijdkagaagreat", sum := "4b01604ccf2f83d789ed60ea42e3860c24a1225e6f7352d9d21b10ae683561b9", func := "loop.example/g03404/laws.FnExactFindSplit", spec := "fnExactFindSplit", unfollowed := true, recurses := true, apart := false, narrowed := true }
def FnExactFindSplitUptoSaid : Prop := fnExactFindSplitUptoRow.holds Tryz.pinned (OpenSpec.upto fnExactFindSplitSpec)

end Rows
end Go.Proofs.YtanembgijdkagaaGreat
