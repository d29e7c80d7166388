/-
  No cell of these rows narrows 'for every input' (looked for: loops, veiled, ifaces, maps, wideKeys, modest, calm, conditions, laid).
  DERIVED. THE GIVEN ROWS OF THIS SEAT. 6 by the template 'for every input the law returns true; each argument reads behind the call as it read before'; 0 by the template 'total and deterministic' (their statements: YthgdabghhcbmgaaTotals.lean).
  GIVEN WITH THE SEED: the statements are not yours to turn. If you find one false, say at which input.
  Laid BY PROGRAM, IN A SANDBOX (cutbox-rows.mjs): the forced cells as the released guide's own fill.sh prints them over the translation 9c7e4bd3884fa8df… (all of the seat's roots in one cut). By AI agents, Wed Nov 11 2026. No macro, syntax, notation, axiom, sorry.
-/
import Derived.Test.YthgdabghhcbmgaaChecked
import GoSem.Claim
import GoSem.ClaimJoined
import GoSem.ClaimMapViews
import Derived.JoinedTies
import Derived.KernelRfl
namespace Go.Proofs.Ythgdabghhcbmgaa
/- THE CELL 'sum', in the pinned program and in every row, IS THE sha256 OF THE DUMP (.gsa) THAT YthgdabghhcbmgaaProg.lean LOADS. Nothing in Lean hashes anything: it is a label: what it is worth is what the hold of that sum in a sandbox is worth. -/
noncomputable def Try.pinned : Pinned := { name := "ythgdabghhcbmgaa", sum := "9c7e4bd3884fa8dfb214bb1958b9b51d8bcc8391549ac312259ed9c38eea7b3b", checked := Try.checked }
namespace Rows
def none {H : Type} : Left H := { results := [], args := [] }

/-- 'laws.FnExactKindWord': WHATEVER THE INPUT: true; the input reads as it did. -/
def fnExactKindWordSpec : ChangeSpec := { name := "fnExactKindWord", fn := fun _ => fun
  | [d] => { results := [.lit (.bool true)], args := [d] }
  | _ => none }
def fnExactKindWordRow : OpenClaim := { program := "ythgdabghhcbmgaa", sum := "9c7e4bd3884fa8dfb214bb1958b9b51d8bcc8391549ac312259ed9c38eea7b3b", func := "loop.example/g03404/laws.FnExactKindWord", spec := "fnExactKindWord", apart := false }
def FnExactKindWordSaid : Prop := fnExactKindWordRow.holds Try.pinned (OpenSpec.ofChange fnExactKindWordSpec)

/-- ITS FALSE NEIGHBOUR: 'it returns false'. Refute it at one input. -/
def fnExactKindWordWrong : ChangeSpec := { name := "fnExactKindWord", fn := fun _ => fun
  | [d] => { results := [.lit (.bool false)], args := [d] }
  | _ => none }
def FnExactKindWordWrongFalsely : Prop := fnExactKindWordRow.holds Try.pinned (OpenSpec.ofChange fnExactKindWordWrong)

/-- 'laws.FnExactEulerForm': WHATEVER THE INPUT: true; the input reads as it did. -/
def fnExactEulerFormSpec : ChangeSpec := { name := "fnExactEulerForm", fn := fun _ => fun
  | [d1, d2, d3] => { results := [.lit (.bool true)], args := [d1, d2, d3] }
  | _ => none }
def fnExactEulerFormRow : OpenClaim := { program := "ythgdabghhcbmgaa", sum := "9c7e4bd3884fa8dfb214bb1958b9b51d8bcc8391549ac312259ed9c38eea7b3b", func := "loop.example/g03404/laws.FnExactEulerForm", spec := "fnExactEulerForm", unfollowed := true, recurses := true, apart := false }
def FnExactEulerFormSaid : Prop := fnExactEulerFormRow.holds Try.pinned (OpenSpec.ofChange fnExactEulerFormSpec)

/-- ITS FALSE NEIGHBOUR: 'it returns false'. Refute it at one input. -/
def fnExactEulerFormWrong : ChangeSpec := { name := "fnExactEulerForm", fn := fun _ => fun
  | [d1, d2, d3] => { results := [.lit (.bool false)], args := [d1, d2, d3] }
  | _ => none }
def FnExactEulerFormWrongFalsely : Prop := fnExactEulerFormRow.holds Try.pinned (OpenSpec.ofChange fnExactEulerFormWrong)

/-- 'laws.FnExactTitsForm': WHATEVER THE INPUT: true; the input reads as it did. -/
def fnExactTitsFormSpec : ChangeSpec := { name := "fnExactTitsForm", fn := fun _ => fun
  | [d1, d2] => { results := [.lit (.bool true)], args := [d1, d2] }
  | _ => none }
def fnExactTitsFormRow : OpenClaim := { program := "ythgdabghhcbmgaa", sum := "9c7e4bd3884fa8dfb214bb1958b9b51d8bcc8391549ac312259ed9c38eea7b3b", func := "loop.example/g03404/laws.FnExactTitsForm", spec := "fnExactTitsForm", unfollowed := true, recurses := true, apart := false }
def FnExactTitsFormSaid : Prop := fnExactTitsFormRow.holds Try.pinned (OpenSpec.ofChange fnExactTitsFormSpec)

/-- ITS FALSE NEIGHBOUR: 'it returns false'. Refute it at one input. -/
def fnExactTitsFormWrong : ChangeSpec := { name := "fnExactTitsForm", fn := fun _ => fun
  | [d1, d2] => { results := [.lit (.bool false)], args := [d1, d2] }
  | _ => none }
def FnExactTitsFormWrongFalsely : Prop := fnExactTitsFormRow.holds Try.pinned (OpenSpec.ofChange fnExactTitsFormWrong)

/-- 'laws.FnExactDeterminantOf': WHATEVER THE INPUT: true; the input reads as it did. -/
def fnExactDeterminantOfSpec : ChangeSpec := { name := "fnExactDeterminantOf", fn := fun _ => fun
  | [d] => { results := [.lit (.bool true)], args := [d] }
  | _ => none }
def fnExactDeterminantOfRow : OpenClaim := { program := "ythgdabghhcbmgaa", sum := "9c7e4bd3884fa8dfb214bb1958b9b51d8bcc8391549ac312259ed9c38eea7b3b", func := "loop.example/g03404/laws.FnExactDeterminantOf", spec := "fnExactDeterminantOf", unfollowed := true, recurses := true, apart := false }
def FnExactDeterminantOfSaid : Prop := fnExactDeterminantOfRow.holds Try.pinned (OpenSpec.ofChange fnExactDeterminantOfSpec)

/-- ITS FALSE NEIGHBOUR: 'it returns false'. Refute it at one input. -/
def fnExactDeterminantOfWrong : ChangeSpec := { name := "fnExactDeterminantOf", fn := fun _ => fun
  | [d] => { results := [.lit (.bool false)], args := [d] }
  | _ => none }
def FnExactDeterminantOfWrongFalsely : Prop := fnExactDeterminantOfRow.holds Try.pinned (OpenSpec.ofChange fnExactDeterminantOfWrong)

/-- 'laws.FnExactSymmetricForm': WHATEVER THE INPUT: true; the input reads as it did. -/
def fnExactSymmetricFormSpec : ChangeSpec := { name := "fnExactSymmetricForm", fn := fun _ => fun
  | [d] => { results := [.lit (.bool true)], args := [d] }
  | _ => none }
def fnExactSymmetricFormRow : OpenClaim := { program := "ythgdabghhcbmgaa", sum := "9c7e4bd3884fa8dfb214bb1958b9b51d8bcc8391549ac312259ed9c38eea7b3b", func := "loop.example/g03404/laws.FnExactSymmetricForm", spec := "fnExactSymmetricForm", unfollowed := true, recurses := true, apart := false }
def FnExactSymmetricFormSaid : Prop := fnExactSymmetricFormRow.holds Try.pinned (OpenSpec.ofChange fnExactSymmetricFormSpec)

/-- ITS FALSE NEIGHBOUR: 'it returns false'. Refute it at one input. -/
def fnExactSymmetricFormWrong : ChangeSpec := { name := "fnExactSymmetricForm", fn := fun _ => fun
  | [d] => { results := [.lit (.bool false)], args := [d] }
  | _ => none }
def FnExactSymmetricFormWrongFalsely : Prop := fnExactSymmetricFormRow.holds Try.pinned (OpenSpec.ofChange fnExactSymmetricFormWrong)

/-- 'laws.FnExactKindOfQuiver': WHATEVER THE INPUT: true; the input reads as it did. -/
def fnExactKindOfQuiverSpec : ChangeSpec := { name := "fnExactKindOfQuiver", fn := fun _ => fun
  | [d] => { results := [.lit (.bool true)], args := [d] }
  | _ => none }
def fnExactKindOfQuiverRow : OpenClaim := { program := "ythgdabghhcbmgaa", sum := "9c7e4bd3884fa8dfb214bb1958b9b51d8bcc8391549ac312259ed9c38eea7b3b", func := "loop.example/g03404/laws.FnExactKindOfQuiver", spec := "fnExactKindOfQuiver", unfollowed := true, recurses := true, apart := false }
def FnExactKindOfQuiverSaid : Prop := fnExactKindOfQuiverRow.holds Try.pinned (OpenSpec.ofChange fnExactKindOfQuiverSpec)

/-- ITS FALSE NEIGHBOUR: 'it returns false'. Refute it at one input. -/
def fnExactKindOfQuiverWrong : ChangeSpec := { name := "fnExactKindOfQuiver", fn := fun _ => fun
  | [d] => { results := [.lit (.bool false)], args := [d] }
  | _ => none }
def FnExactKindOfQuiverWrongFalsely : Prop := fnExactKindOfQuiverRow.holds Try.pinned (OpenSpec.ofChange fnExactKindOfQuiverWrong)

/- THE SECOND FORM. 'bulk': how many values and letters a reading holds, each counted each time it is reached (what is shared counts as often as it is met; a slice's spare places count too). A statement '..UptoSaid' is the law's where the arguments, and the package variables that the reading takes, are together of bulk at most 1048576: NARROWER than '..Said'. Prove '..Said' where nothing that the law and all that it calls make is longer than what came in: it says more and counts as full. Else prove '..UptoSaid'. A law counts once. -/
mutual
def uptoBulk {H : Type} : DataW H → Nat
  | .lit (.string bytes) => bytes.length + 1
  | .lit _ => 1
  | .nil => 1
  | .ptr d => uptoBulk d + 1
  | .slice elems spare => uptoBulkAll elems + uptoBulkAll spare + 1
  | .agg parts => uptoBulkAll parts + 1
  | .iface _ d => uptoBulk d + 1
  | .map entries => uptoBulkEntries entries + 1
  | .held _ => 1
def uptoBulkAll {H : Type} : List (DataW H) → Nat
  | [] => 0
  | d :: r => uptoBulk d + uptoBulkAll r
def uptoBulkEntries {H : Type} : List (Lit × DataW H) → Nat
  | [] => 0
  | x :: r => uptoBulkEntry x + uptoBulkEntries r
def uptoBulkEntry {H : Type} : Lit × DataW H → Nat
  | (.string bytes, d) => bytes.length + uptoBulk d + 1
  | (_, d) => uptoBulk d + 1
 end
def uptoSmall : (H : Type) → List (DataW H) → Bool := fun _ ds => decide (uptoBulkAll ds ≤ 1048576)
def OpenSpec.upto (s : _root_.Go.ChangeSpec) : _root_.Go.OpenSpec := { _root_.Go.OpenSpec.ofChange s with cond := some uptoSmall }

/-- 'laws.FnExactKindWord', WHERE WHAT IT READS IS OF BULK AT MOST 1048576: true; the input reads as it did. -/
def fnExactKindWordUptoRow : OpenClaim := { program := "ythgdabghhcbmgaa", sum := "9c7e4bd3884fa8dfb214bb1958b9b51d8bcc8391549ac312259ed9c38eea7b3b", func := "loop.example/g03404/laws.FnExactKindWord", spec := "fnExactKindWord", apart := false, narrowed := true }
def FnExactKindWordUptoSaid : Prop := fnExactKindWordUptoRow.holds Try.pinned (OpenSpec.upto fnExactKindWordSpec)

/-- 'laws.FnExactEulerForm', WHERE WHAT IT READS IS OF BULK AT MOST 1048576: true; the input reads as it did. -/
def fnExactEulerFormUptoRow : OpenClaim := { program := "ythgdabghhcbmgaa", sum := "9c7e4bd3884fa8dfb214bb1958b9b51d8bcc8391549ac312259ed9c38eea7b3b", func := "loop.example/g03404/laws.FnExactEulerForm", spec := "fnExactEulerForm", unfollowed := true, recurses := true, apart := false, narrowed := true }
def FnExactEulerFormUptoSaid : Prop := fnExactEulerFormUptoRow.holds Try.pinned (OpenSpec.upto fnExactEulerFormSpec)

/-- 'laws.FnExactTitsForm', WHERE WHAT IT READS IS OF BULK AT MOST 1048576: true; the input reads as it did. -/
def fnExactTitsFormUptoRow : OpenClaim := { program := "ythgdabghhcbmgaa", sum := "9c7e4bd3884fa8dfb214bb1958b9b51d8bcc8391549ac312259ed9c38eea7b3b", func := "loop.example/g03404/laws.FnExactTitsForm", spec := "fnExactTitsForm", unfollowed := true, recurses := true, apart := false, narrowed := true }
def FnExactTitsFormUptoSaid : Prop := fnExactTitsFormUptoRow.holds Try.pinned (OpenSpec.upto fnExactTitsFormSpec)

/-- 'laws.FnExactDeterminantOf', WHERE WHAT IT READS IS OF BULK AT MOST 1048576: true; the input reads as it did. -/
def fnExactDeterminantOfUptoRow : OpenClaim := { program := "ythgdabghhcbmgaa", sum := "9c7e4bd3884fa8dfb214bb1958b9b51d8bcc8391549ac312259ed9c38eea7b3b", func := "loop.example/g03404/laws.FnExactDeterminantOf", spec := "fnExactDeterminantOf", unfollowed := true, recurses := true, apart := false, narrowed := true }
def FnExactDeterminantOfUptoSaid : Prop := fnExactDeterminantOfUptoRow.holds Try.pinned (OpenSpec.upto fnExactDeterminantOfSpec)

/-- 'laws.FnExactSymmetricForm', WHERE WHAT IT READS IS OF BULK AT MOST 1048576: true; the input reads as it did. -/
def fnExactSymmetricFormUptoRow : OpenClaim := { program := "ythgdabghhcbmgaa", sum := "9c7e4bd3884fa8dfb214bb1958b9b51d8bcc8391549ac312259ed9c38eea7b3b", func := "loop.example/g03404/laws.FnExactSymmetricForm", spec := "fnExactSymmetricForm", unfollowed := true, recurses := true, apart := false, narrowed := true }
def FnExactSymmetricFormUptoSaid : Prop := fnExactSymmetricFormUptoRow.holds Try.pinned (OpenSpec.upto fnExactSymmetricFormSpec)

/-- 'laws.FnExactKindOfQuiver', WHERE WHAT IT READS IS OF BULK AT MOST 1048576: true; the input reads as it did. -/
def fnExactKindOfQuiverUptoRow : OpenClaim := { program := "ythgdabghhcbmgaa", sum := "9c7e4bd3884fa8dfb214bb1958b9b51d8bcc8391549ac312259ed9c38eea7b3b", func := "loop.example/g03404/laws.FnExactKindOfQuiver", spec := "fnExactKindOfQuiver", unfollowed := true, recurses := true, apart := false, narrowed := true }
def FnExactKindOfQuiverUptoSaid : Prop := fnExactKindOfQuiverUptoRow.holds Try.pinned (OpenSpec.upto fnExactKindOfQuiverSpec)

end Rows
end Go.Proofs.Ythgdabghhcbmgaa
