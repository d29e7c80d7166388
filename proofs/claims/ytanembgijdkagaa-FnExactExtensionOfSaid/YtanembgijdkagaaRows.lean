/-
  No cell of these rows narrows 'for every input' (looked for: loops, veiled, ifaces, maps, wideKeys, modest, calm, conditions, laid).
  DERIVED. THE GIVEN ROWS OF THIS SEAT. 5 by the template 'for every input the law returns true; each argument reads behind the call as it read before'; 0 by the template 'total and deterministic' (their statements: YtanembgijdkagaaTotals.lean).
  GIVEN WITH THE SEED: the statements are not yours to turn. If you find one false, say at which input.
  Laid BY PROGRAM, IN A SANDBOX (cutbox-rows.mjs): the forced cells as the released guide's own fill.sh prints them over the translation 61d73e6e94cab0ea… (all of the seat's roots in one cut). By AI agents, Wed Nov 11 2026. No macro, syntax, notation, axiom, sorry.
-/
import Derived.Test.YtanembgijdkagaaChecked
import GoSem.Claim
import GoSem.ClaimJoined
import GoSem.ClaimMapViews
import Derived.JoinedTies
import Derived.KernelRfl
namespace Go.Proofs.Ytanembgijdkagaa
/- THE CELL 'sum', in the pinned program and in every row, IS THE sha256 OF THE DUMP (.gsa) THAT YtanembgijdkagaaProg.lean LOADS. Nothing in Lean hashes anything: it is a label: what it is worth is what the hold of that sum in a sandbox is worth. -/
noncomputable def Try.pinned : Pinned := { name := "ytanembgijdkagaa", sum := "61d73e6e94cab0ea8d2ac5450070ed1b231317b66bb6a0311bf008257b509636", checked := Try.checked }
namespace Rows
def none {H : Type} : Left H := { results := [], args := [] }

/-- 'laws.FnExactProjectiveRep': WHATEVER THE INPUT: true; the input reads as it did. -/
def fnExactProjectiveRepSpec : ChangeSpec := { name := "fnExactProjectiveRep", fn := fun _ => fun
  | [d1, d2, d3] => { results := [.lit (.bool true)], args := [d1, d2, d3] }
  | _ => none }
def fnExactProjectiveRepRow : OpenClaim := { program := "ytanembgijdkagaa", sum := "61d73e6e94cab0ea8d2ac5450070ed1b231317b66bb6a0311bf008257b509636", func := "loop.example/g03404/laws.FnExactProjectiveRep", spec := "fnExactProjectiveRep", unfollowed := true, recurses := true, apart := false }
def FnExactProjectiveRepSaid : Prop := fnExactProjectiveRepRow.holds Try.pinned (OpenSpec.ofChange fnExactProjectiveRepSpec)

/-- ITS FALSE NEIGHBOUR: 'it returns false'. Refute it at one input. -/
def fnExactProjectiveRepWrong : ChangeSpec := { name := "fnExactProjectiveRep", fn := fun _ => fun
  | [d1, d2, d3] => { results := [.lit (.bool false)], args := [d1, d2, d3] }
  | _ => none }
def FnExactProjectiveRepWrongFalsely : Prop := fnExactProjectiveRepRow.holds Try.pinned (OpenSpec.ofChange fnExactProjectiveRepWrong)

/-- 'laws.FnExactInjectiveRep': WHATEVER THE INPUT: true; the input reads as it did. -/
def fnExactInjectiveRepSpec : ChangeSpec := { name := "fnExactInjectiveRep", fn := fun _ => fun
  | [d1, d2, d3] => { results := [.lit (.bool true)], args := [d1, d2, d3] }
  | _ => none }
def fnExactInjectiveRepRow : OpenClaim := { program := "ytanembgijdkagaa", sum := "61d73e6e94cab0ea8d2ac5450070ed1b231317b66bb6a0311bf008257b509636", func := "loop.example/g03404/laws.FnExactInjectiveRep", spec := "fnExactInjectiveRep", unfollowed := true, recurses := true, apart := false }
def FnExactInjectiveRepSaid : Prop := fnExactInjectiveRepRow.holds Try.pinned (OpenSpec.ofChange fnExactInjectiveRepSpec)

/-- ITS FALSE NEIGHBOUR: 'it returns false'. Refute it at one input. -/
def fnExactInjectiveRepWrong : ChangeSpec := { name := "fnExactInjectiveRep", fn := fun _ => fun
  | [d1, d2, d3] => { results := [.lit (.bool false)], args := [d1, d2, d3] }
  | _ => none }
def FnExactInjectiveRepWrongFalsely : Prop := fnExactInjectiveRepRow.holds Try.pinned (OpenSpec.ofChange fnExactInjectiveRepWrong)

/-- 'laws.FnExactExtensionOf': WHATEVER THE INPUT: true; the input reads as it did. -/
def fnExactExtensionOfSpec : ChangeSpec := { name := "fnExactExtensionOf", fn := fun _ => fun
  | [d1, d2, d3] => { results := [.lit (.bool true)], args := [d1, d2, d3] }
  | _ => none }
def fnExactExtensionOfRow : OpenClaim := { program := "ytanembgijdkagaa", sum := "61d73e6e94cab0ea8d2ac5450070ed1b231317b66bb6a0311bf008257b509636", func := "loop.example/g03404/laws.FnExactExtensionOf", spec := "fnExactExtensionOf", unfollowed := true, recurses := true, apart := false }
def FnExactExtensionOfSaid : Prop := fnExactExtensionOfRow.holds Try.pinned (OpenSpec.ofChange fnExactExtensionOfSpec)

/-- ITS FALSE NEIGHBOUR: 'it returns false'. Refute it at one input. -/
def fnExactExtensionOfWrong : ChangeSpec := { name := "fnExactExtensionOf", fn := fun _ => fun
  | [d1, d2, d3] => { results := [.lit (.bool false)], args := [d1, d2, d3] }
  | _ => none }
def FnExactExtensionOfWrongFalsely : Prop := fnExactExtensionOfRow.holds Try.pinned (OpenSpec.ofChange fnExactExtensionOfWrong)

/-- 'laws.FnExactIsSimple': WHATEVER THE INPUT: true; the input reads as it did. -/
def fnExactIsSimpleSpec : ChangeSpec := { name := "fnExactIsSimple", fn := fun _ => fun
  | [d] => { results := [.lit (.bool true)], args := [d] }
  | _ => none }
def fnExactIsSimpleRow : OpenClaim := { program := "ytanembgijdkagaa", sum := "61d73e6e94cab0ea8d2ac5450070ed1b231317b66bb6a0311bf008257b509636", func := "loop.example/g03404/laws.FnExactIsSimple", spec := "fnExactIsSimple", unfollowed := true, recurses := true, apart := false }
def FnExactIsSimpleSaid : Prop := fnExactIsSimpleRow.holds Try.pinned (OpenSpec.ofChange fnExactIsSimpleSpec)

/-- ITS FALSE NEIGHBOUR: 'it returns false'. Refute it at one input. -/
def fnExactIsSimpleWrong : ChangeSpec := { name := "fnExactIsSimple", fn := fun _ => fun
  | [d] => { results := [.lit (.bool false)], args := [d] }
  | _ => none }
def FnExactIsSimpleWrongFalsely : Prop := fnExactIsSimpleRow.holds Try.pinned (OpenSpec.ofChange fnExactIsSimpleWrong)

/-- 'laws.FnExactMapFromProjective': WHATEVER THE INPUT: true; the input reads as it did. -/
def fnExactMapFromProjectiveSpec : ChangeSpec := { name := "fnExactMapFromProjective", fn := fun _ => fun
  | [d1, d2, d3] => { results := [.lit (.bool true)], args := [d1, d2, d3] }
  | _ => none }
def fnExactMapFromProjectiveRow : OpenClaim := { program := "ytanembgijdkagaa", sum := "61d73e6e94cab0ea8d2ac5450070ed1b231317b66bb6a0311bf008257b509636", func := "loop.example/g03404/laws.FnExactMapFromProjective", spec := "fnExactMapFromProjective", unfollowed := true, recurses := true, apart := false }
def FnExactMapFromProjectiveSaid : Prop := fnExactMapFromProjectiveRow.holds Try.pinned (OpenSpec.ofChange fnExactMapFromProjectiveSpec)

/-- ITS FALSE NEIGHBOUR: 'it returns false'. Refute it at one input. -/
def fnExactMapFromProjectiveWrong : ChangeSpec := { name := "fnExactMapFromProjective", fn := fun _ => fun
  | [d1, d2, d3] => { results := [.lit (.bool false)], args := [d1, d2, d3] }
  | _ => none }
def FnExactMapFromProjectiveWrongFalsely : Prop := fnExactMapFromProjectiveRow.holds Try.pinned (OpenSpec.ofChange fnExactMapFromProjectiveWrong)

/- THE SECOND FORM. 'bulk': how many values and letters a reading holds, each counted each time it is reached (what is shared counts as often as it is met; a slice's spare places count too). A statement '..UptoSaid' is the law's where the arguments, and the package variables that the reading takes, are together of bulk at most 1048576: NARROWER than '..Said'. Prove '..Said' where nothing that the law and all that it calls make is longer than what came in: it says more and counts as full. Else prove '..UptoSaid'. A law counts once. -/
mutual
def uptoBulk {H : Type} : DataW H → Nat
  | .lit (.string bytes) => bytes.length + 1
  | .lit _ => 1
  | .nil => 1
  | .ptr d => uptoBulk d + 1
  | .slice elems spare => uptoBulkAll elems + uptoBulkAll spare + 1
  | .agg parts => uptoBulkAll parts + 1
  | .iface _ d => uptoBulk d + 1
  | .map entries => uptoBulkEntries entries + 1
  | .held _ => 1
def uptoBulkAll {H : Type} : List (DataW H) → Nat
  | [] => 0
  | d :: r => uptoBulk d + uptoBulkAll r
def uptoBulkEntries {H : Type} : List (Lit × DataW H) → Nat
  | [] => 0
  | x :: r => uptoBulkEntry x + uptoBulkEntries r
def uptoBulkEntry {H : Type} : Lit × DataW H → Nat
  | (.string bytes, d) => bytes.length + uptoBulk d + 1
  | (_, d) => uptoBulk d + 1
 end
def uptoSmall : (H : Type) → List (DataW H) → Bool := fun _ ds => decide (uptoBulkAll ds ≤ 1048576)
def OpenSpec.upto (s : _root_.Go.ChangeSpec) : _root_.Go.OpenSpec := { _root_.Go.OpenSpec.ofChange s with cond := some uptoSmall }

/-- 'laws.FnExactProjectiveRep', WHERE WHAT IT READS IS OF BULK AT MOST 1048576: true; the input reads as it did. -/
def fnExactProjectiveRepUptoRow : OpenClaim := { program := "ytanembgijdkagaa", sum := "61d73e6e94cab0ea8d2ac5450070ed1b231317b66bb6a0311bf008257b509636", func := "loop.example/g03404/laws.FnExactProjectiveRep", spec := "fnExactProjectiveRep", unfollowed := true, recurses := true, apart := false, narrowed := true }
def FnExactProjectiveRepUptoSaid : Prop := fnExactProjectiveRepUptoRow.holds Try.pinned (OpenSpec.upto fnExactProjectiveRepSpec)

/-- 'laws.FnExactInjectiveRep', WHERE WHAT IT READS IS OF BULK AT MOST 1048576: true; the input reads as it did. -/
def fnExactInjectiveRepUptoRow : OpenClaim := { program := "ytanembgijdkagaa", sum := "61d73e6e94cab0ea8d2ac5450070ed1b231317b66bb6a0311bf008257b509636", func := "loop.example/g03404/laws.FnExactInjectiveRep", spec := "fnExactInjectiveRep", unfollowed := true, recurses := true, apart := false, narrowed := true }
def FnExactInjectiveRepUptoSaid : Prop := fnExactInjectiveRepUptoRow.holds Try.pinned (OpenSpec.upto fnExactInjectiveRepSpec)

/-- 'laws.FnExactExtensionOf', WHERE WHAT IT READS IS OF BULK AT MOST 1048576: true; the input reads as it did. -/
def fnExactExtensionOfUptoRow : OpenClaim := { program := "ytanembgijdkagaa", sum := "61d73e6e94cab0ea8d2ac5450070ed1b231317b66bb6a0311bf008257b509636", func := "loop.example/g03404/laws.FnExactExtensionOf", spec := "fnExactExtensionOf", unfollowed := true, recurses := true, apart := false, narrowed := true }
def FnExactExtensionOfUptoSaid : Prop := fnExactExtensionOfUptoRow.holds Try.pinned (OpenSpec.upto fnExactExtensionOfSpec)

/-- 'laws.FnExactIsSimple', WHERE WHAT IT READS IS OF BULK AT MOST 1048576: true; the input reads as it did. -/
def fnExactIsSimpleUptoRow : OpenClaim := { program := "ytanembgijdkagaa", sum := "61d73e6e94cab0ea8d2ac5450070ed1b231317b66bb6a0311bf008257b509636", func := "loop.example/g03404/laws.FnExactIsSimple", spec := "fnExactIsSimple", unfollowed := true, recurses := true, apart := false, narrowed := true }
def FnExactIsSimpleUptoSaid : Prop := fnExactIsSimpleUptoRow.holds Try.pinned (OpenSpec.upto fnExactIsSimpleSpec)

/-- 'laws.FnExactMapFromProjective', WHERE WHAT IT READS IS OF BULK AT MOST 1048576: true; the input reads as it did. -/
def fnExactMapFromProjectiveUptoRow : OpenClaim := { program := "ytanembgijdkagaa", sum := "61d73e6e94cab0ea8d2ac5450070ed1b231317b66bb6a0311bf008257b509636", func := "loop.example/g03404/laws.FnExactMapFromProjective", spec := "fnExactMapFromProjective", unfollowed := true, recurses := true, apart := false, narrowed := true }
def FnExactMapFromProjectiveUptoSaid : Prop := fnExactMapFromProjectiveUptoRow.holds Try.pinned (OpenSpec.upto fnExactMapFromProjectiveSpec)

end Rows
end Go.Proofs.Ytanembgijdkagaa
