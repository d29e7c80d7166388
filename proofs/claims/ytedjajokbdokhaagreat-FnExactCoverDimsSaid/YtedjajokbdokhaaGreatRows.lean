/-
  No cell of these rows narrows 'for every input' (looked for: loops, veiled, ifaces, maps, wideKeys, modest, calm, conditions, laid).
  DERIVED. THE GIVEN ROWS OF THIS SEAT. 8 by the template 'for every input the law returns true; each argument reads behind the call as it read before'; 0 by the template 'total and deterministic' (their statements: YtedjajokbdokhaaGreatTotals.lean).
  GIVEN WITH THE SEED: the statements are not yours to turn. If you find one false, say at which input.
  Laid BY PROGRAM, IN A SANDBOX (cutbox-rows.mjs): the forced cells as the released guide's own fill.sh prints them over the translation 6191db17f6387d23… (all of the seat's roots in one cut). By AI agents, Wed Nov 11 2026. No macro, syntax, notation, axiom, sorry.
-/
import Derived.Test.YtedjajokbdokhaaGreatChecked
import GoSem.Claim
import GoSem.ClaimJoined
import GoSem.ClaimMapViews
import Derived.JoinedTies
import Derived.KernelRfl
namespace Go.Proofs.YtedjajokbdokhaaGreat
/- THE CELL 'sum', in the pinned program and in every row, IS THE sha256 OF THE DUMP (.gsa) THAT YtedjajokbdokhaaGreatProg.lean LOADS. Nothing in Lean hashes anything: it is a label: what it is worth is what the hold of that sum in a sandbox is worth. -/
noncomputable def Tryz.pinned : Pinned := { name := "ytedjajokbdokhaagreat", sum := "6191db17f6387d231d891a813511d34b0a412489b31b818961951b439465ef7b", checked := Tryz.checked }
namespace Rows
def none {H : Type} : Left H := { results := [], args := [] }

/-- 'laws.FnExactIsExactAt': WHATEVER THE INPUT: true; the input reads as it did. -/
def fnExactIsExactAtSpec : ChangeSpec := { name := "fnExactIsExactAt", fn := fun _ => fun
  | [d1, d2, d3, d4, d5] => { results := [.lit (.bool true)], args := [d1, d2, d3, d4, d5] }
  | _ => none }
def fnExactIsExactAtRow : OpenClaim := { program := "ytedjajokbdokhaagreat", sum := "6191db17f6387d231d891a813511d34b0a412489b31b818961951b439465ef7b", func := "loop.example/g03404/laws.FnExactIsExactAt", spec := "fnExactIsExactAt", unfollowed := true, recurses := true, apart := false }
def FnExactIsExactAtSaid : Prop := fnExactIsExactAtRow.holds Tryz.pinned (OpenSpec.ofChange fnExactIsExactAtSpec)

/-- ITS FALSE NEIGHBOUR: 'it returns false'. Refute it at one input. -/
def fnExactIsExactAtWrong : ChangeSpec := { name := "fnExactIsExactAt", fn := fun _ => fun
  | [d1, d2, d3, d4, d5] => { results := [.lit (.bool false)], args := [d1, d2, d3, d4, d5] }
  | _ => none }
def FnExactIsExactAtWrongFalsely : Prop := fnExactIsExactAtRow.holds Tryz.pinned (OpenSpec.ofChange fnExactIsExactAtWrong)

/-- 'laws.FnExactIsShortExact': WHATEVER THE INPUT: true; the input reads as it did. -/
def fnExactIsShortExactSpec : ChangeSpec := { name := "fnExactIsShortExact", fn := fun _ => fun
  | [d1, d2, d3, d4, d5] => { results := [.lit (.bool true)], args := [d1, d2, d3, d4, d5] }
  | _ => none }
def fnExactIsShortExactRow : OpenClaim := { program := "ytedjajokbdokhaagreat", sum := "6191db17f6387d231d891a813511d34b0a412489b31b818961951b439465ef7b", func := "loop.example/g03404/laws.FnExactIsShortExact", spec := "fnExactIsShortExact", unfollowed := true, recurses := true, apart := false }
def FnExactIsShortExactSaid : Prop := fnExactIsShortExactRow.holds Tryz.pinned (OpenSpec.ofChange fnExactIsShortExactSpec)

/-- ITS FALSE NEIGHBOUR: 'it returns false'. Refute it at one input. -/
def fnExactIsShortExactWrong : ChangeSpec := { name := "fnExactIsShortExact", fn := fun _ => fun
  | [d1, d2, d3, d4, d5] => { results := [.lit (.bool false)], args := [d1, d2, d3, d4, d5] }
  | _ => none }
def FnExactIsShortExactWrongFalsely : Prop := fnExactIsShortExactRow.holds Tryz.pinned (OpenSpec.ofChange fnExactIsShortExactWrong)

/-- 'laws.FnExactAddSubs': WHATEVER THE INPUT: true; the input reads as it did. -/
def fnExactAddSubsSpec : ChangeSpec := { name := "fnExactAddSubs", fn := fun _ => fun
  | [d1, d2, d3] => { results := [.lit (.bool true)], args := [d1, d2, d3] }
  | _ => none }
def fnExactAddSubsRow : OpenClaim := { program := "ytedjajokbdokhaagreat", sum := "6191db17f6387d231d891a813511d34b0a412489b31b818961951b439465ef7b", func := "loop.example/g03404/laws.FnExactAddSubs", spec := "fnExactAddSubs", unfollowed := true, recurses := true, apart := false }
def FnExactAddSubsSaid : Prop := fnExactAddSubsRow.holds Tryz.pinned (OpenSpec.ofChange fnExactAddSubsSpec)

/-- ITS FALSE NEIGHBOUR: 'it returns false'. Refute it at one input. -/
def fnExactAddSubsWrong : ChangeSpec := { name := "fnExactAddSubs", fn := fun _ => fun
  | [d1, d2, d3] => { results := [.lit (.bool false)], args := [d1, d2, d3] }
  | _ => none }
def FnExactAddSubsWrongFalsely : Prop := fnExactAddSubsRow.holds Tryz.pinned (OpenSpec.ofChange fnExactAddSubsWrong)

/-- 'laws.FnExactMeetSubs': WHATEVER THE INPUT: true; the input reads as it did. -/
def fnExactMeetSubsSpec : ChangeSpec := { name := "fnExactMeetSubs", fn := fun _ => fun
  | [d1, d2, d3] => { results := [.lit (.bool true)], args := [d1, d2, d3] }
  | _ => none }
def fnExactMeetSubsRow : OpenClaim := { program := "ytedjajokbdokhaagreat", sum := "6191db17f6387d231d891a813511d34b0a412489b31b818961951b439465ef7b", func := "loop.example/g03404/laws.FnExactMeetSubs", spec := "fnExactMeetSubs", unfollowed := true, recurses := true, apart := false }
def FnExactMeetSubsSaid : Prop := fnExactMeetSubsRow.holds Tryz.pinned (OpenSpec.ofChange fnExactMeetSubsSpec)

/-- ITS FALSE NEIGHBOUR: 'it returns false'. Refute it at one input. -/
def fnExactMeetSubsWrong : ChangeSpec := { name := "fnExactMeetSubs", fn := fun _ => fun
  | [d1, d2, d3] => { results := [.lit (.bool false)], args := [d1, d2, d3] }
  | _ => none }
def FnExactMeetSubsWrongFalsely : Prop := fnExactMeetSubsRow.holds Tryz.pinned (OpenSpec.ofChange fnExactMeetSubsWrong)

/-- 'laws.FnExactCoverDims': WHATEVER THE INPUT: true; the input reads as it did. -/
def fnExactCoverDimsSpec : ChangeSpec := { name := "fnExactCoverDims", fn := fun _ => fun
  | [d] => { results := [.lit (.bool true)], args := [d] }
  | _ => none }
def fnExactCoverDimsRow : OpenClaim := { program := "ytedjajokbdokhaagreat", sum := "6191db17f6387d231d891a813511d34b0a412489b31b818961951b439465ef7b", func := "loop.example/g03404/laws.FnExactCoverDims", spec := "fnExactCoverDims", unfollowed := true, recurses := true, apart := false }
def FnExactCoverDimsSaid : Prop := fnExactCoverDimsRow.holds Tryz.pinned (OpenSpec.ofChange fnExactCoverDimsSpec)

/-- ITS FALSE NEIGHBOUR: 'it returns false'. Refute it at one input. -/
def fnExactCoverDimsWrong : ChangeSpec := { name := "fnExactCoverDims", fn := fun _ => fun
  | [d] => { results := [.lit (.bool false)], args := [d] }
  | _ => none }
def FnExactCoverDimsWrongFalsely : Prop := fnExactCoverDimsRow.holds Tryz.pinned (OpenSpec.ofChange fnExactCoverDimsWrong)

/-- 'laws.FnExactIsComplementPair': WHATEVER THE INPUT: true; the input reads as it did. -/
def fnExactIsComplementPairSpec : ChangeSpec := { name := "fnExactIsComplementPair", fn := fun _ => fun
  | [d1, d2, d3] => { results := [.lit (.bool true)], args := [d1, d2, d3] }
  | _ => none }
def fnExactIsComplementPairRow : OpenClaim := { program := "ytedjajokbdokhaagreat", sum := "6191db17f6387d231d891a813511d34b0a412489b31b818961951b439465ef7b", func := "loop.example/g03404/laws.FnExactIsComplementPair", spec := "fnExactIsComplementPair", unfollowed := true, recurses := true, apart := false }
def FnExactIsComplementPairSaid : Prop := fnExactIsComplementPairRow.holds Tryz.pinned (OpenSpec.ofChange fnExactIsComplementPairSpec)

/-- ITS FALSE NEIGHBOUR: 'it returns false'. Refute it at one input. -/
def fnExactIsComplementPairWrong : ChangeSpec := { name := "fnExactIsComplementPair", fn := fun _ => fun
  | [d1, d2, d3] => { results := [.lit (.bool false)], args := [d1, d2, d3] }
  | _ => none }
def FnExactIsComplementPairWrongFalsely : Prop := fnExactIsComplementPairRow.holds Tryz.pinned (OpenSpec.ofChange fnExactIsComplementPairWrong)

/-- 'laws.FnExactRadicalLayers': WHATEVER THE INPUT: true; the input reads as it did. -/
def fnExactRadicalLayersSpec : ChangeSpec := { name := "fnExactRadicalLayers", fn := fun _ => fun
  | [d] => { results := [.lit (.bool true)], args := [d] }
  | _ => none }
def fnExactRadicalLayersRow : OpenClaim := { program := "ytedjajokbdokhaagreat", sum := "6191db17f6387d231d891a813511d34b0a412489b31b818961951b439465ef7b", func := "loop.example/g03404/laws.FnExactRadicalLayers", spec := "fnExactRadicalLayers", unfollowed := true, recurses := true, apart := false }
def FnExactRadicalLayersSaid : Prop := fnExactRadicalLayersRow.holds Tryz.pinned (OpenSpec.ofChange fnExactRadicalLayersSpec)

/-- ITS FALSE NEIGHBOUR: 'it returns false'. Refute it at one input. -/
def fnExactRadicalLayersWrong : ChangeSpec := { name := "fnExactRadicalLayers", fn := fun _ => fun
  | [d] => { results := [.lit (.bool false)], args := [d] }
  | _ => none }
def FnExactRadicalLayersWrongFalsely : Prop := fnExactRadicalLayersRow.holds Tryz.pinned (OpenSpec.ofChange fnExactRadicalLayersWrong)

/-- 'laws.FnExactSubRep': WHATEVER THE INPUT: true; the input reads as it did. -/
def fnExactSubRepSpec : ChangeSpec := { name := "fnExactSubRep", fn := fun _ => fun
  | [d1, d2] => { results := [.lit (.bool true)], args := [d1, d2] }
  | _ => none }
def fnExactSubRepRow : OpenClaim := { program := "ytedjajokbdokhaagreat", sum := "6191db17f6387d231d891a813511d34b0a412489b31b818961951b439465ef7b", func := "loop.example/g03404/laws.FnExactSubRep", spec := "fnExactSubRep", unfollowed := true, recurses := true, apart := false }
def FnExactSubRepSaid : Prop := fnExactSubRepRow.holds Tryz.pinned (OpenSpec.ofChange fnExactSubRepSpec)

/-- ITS FALSE NEIGHBOUR: 'it returns false'. Refute it at one input. -/
def fnExactSubRepWrong : ChangeSpec := { name := "fnExactSubRep", fn := fun _ => fun
  | [d1, d2] => { results := [.lit (.bool false)], args := [d1, d2] }
  | _ => none }
def FnExactSubRepWrongFalsely : Prop := fnExactSubRepRow.holds Tryz.pinned (OpenSpec.ofChange fnExactSubRepWrong)

/- THE SECOND FORM. 'bulk': how many values and letters a reading holds, each counted each time it is reached (what is shared counts as often as it is met; a slice's spare places count too). A statement '..UptoSaid' is the law's where the arguments, and the package variables that the reading takes, are together of bulk at most 1048576: NARROWER than '..Said'. Prove '..Said' where nothing that the law and all that it calls make is longer than what came in: it says more and counts as full. Else prove '..UptoSaid'. A law counts once. -/
mutual
def uptoBulk {H : Type} : DataW H → Nat
  | .lit (.string bytes) => bytes.length + 1
  | .lit _ => 1
  | .nil => 1
  | .ptr d => uptoBulk d + 1
  | .slice elems spare => uptoBulkAll elems + uptoBulkAll spare + 1
  | .agg parts => uptoBulkAll parts + 1
  | .iface _ d => uptoBulk d + 1
  | .map entries => uptoBulkEntries entries + 1
  | .held _ => 1
def uptoBulkAll {H : Type} : List (DataW H) → Nat
  | [] => 0
  | d :: r => uptoBulk d + uptoBulkAll r
def uptoBulkEntries {H : Type} : List (Lit × DataW H) → Nat
  | [] => 0
  | x :: r => uptoBulkEntry x + uptoBulkEntries r
def uptoBulkEntry {H : Type} : Lit × DataW H → Nat
  | (.string bytes, d) => bytes.length + uptoBulk d + 1
  | (_, d) => uptoBulk d + 1
 end
def uptoSmall : (H : Type) → List (DataW H) → Bool := fun _ ds => decide (uptoBulkAll ds ≤ 1048576)
def OpenSpec.upto (s : _root_.Go.ChangeSpec) : _root_.Go.OpenSpec := { _root_.Go.OpenSpec.ofChange s with cond := some uptoSmall }

/-- 'laws.FnExactIsExactAt', WHERE WHAT IT READS IS OF BULK AT MOST 1048576: true; the input reads as it did. -/
def fnExactIsExactAtUptoRow : OpenClaim := { program := "ytedjajokbdokhaagreat", sum := "6191db17f6387d231d891a813511d34b0a412489b31b818961951b439465ef7b", func := "loop.example/g03404/laws.FnExactIsExactAt", spec := "fnExactIsExactAt", unfollowed := true, recurses := true, apart := false, narrowed := true }
def FnExactIsExactAtUptoSaid : Prop := fnExactIsExactAtUptoRow.holds Tryz.pinned (OpenSpec.upto fnExactIsExactAtSpec)

/-- 'laws.FnExactIsShortExact', WHERE WHAT IT READS IS OF BULK AT MOST 1048576: true; the input reads as it did. -/
def fnExactIsShortExactUptoRow : OpenClaim := { program := "ytedjajokbdokhaagreat", sum := "6191db17f6387d231d891a813511d34b0a412489b31b818961951b439465ef7b", func := "loop.example/g03404/laws.FnExactIsShortExact", spec := "fnExactIsShortExact", unfollowed := true, recurses := true, apart := false, narrowed := true }
def FnExactIsShortExactUptoSaid : Prop := fnExactIsShortExactUptoRow.holds Tryz.pinned (OpenSpec.upto fnExactIsShortExactSpec)

/-- 'laws.FnExactAddSubs', WHERE WHAT IT READS IS OF BULK AT MOST 1048576: true; the input reads as it did. -/
def fnExactAddSubsUptoRow : OpenClaim := { program := "ytedjajokbdokhaagreat", sum := "6191db17f6387d231d891a813511d34b0a412489b31b818961951b439465ef7b", func := "loop.example/g03404/laws.FnExactAddSubs", spec := "fnExactAddSubs", unfollowed := true, recurses := true, apart := false, narrowed := true }
def FnExactAddSubsUptoSaid : Prop := fnExactAddSubsUptoRow.holds Tryz.pinned (OpenSpec.upto fnExactAddSubsSpec)

/-- 'laws.FnExactMeetSubs', WHERE WHAT IT READS IS OF BULK AT MOST 1048576: true; the input reads as it did. -/
def fnExactMeetSubsUptoRow : OpenClaim := { program := "ytedjajokbdokhaagreat", sum := "6191db17f6387d231d891a813511d34b0a412489b31b818961951b439465ef7b", func := "loop.example/g03404/laws.FnExactMeetSubs", spec := "fnExactMeetSubs", unfollowed := true, recurses := true, apart := false, narrowed := true }
def FnExactMeetSubsUptoSaid : Prop := fnExactMeetSubsUptoRow.holds Tryz.pinned (OpenSpec.upto fnExactMeetSubsSpec)

/-- 'laws.FnExactCoverDims', WHERE WHAT IT READS IS OF BULK AT MOST 1048576: true; the input reads as it did. -/
def fnExactCoverDimsUptoRow : OpenClaim := { program := "ytedjajokbdokhaagreat", sum := "6191db17f6387d231d891a813511d34b0a412489b31b818961951b439465ef7b", func := "loop.example/g03404/laws.FnExactCoverDims", spec := "fnExactCoverDims", unfollowed := true, recurses := true, apart := false, narrowed := true }
def FnExactCoverDimsUptoSaid : Prop := fnExactCoverDimsUptoRow.holds Tryz.pinned (OpenSpec.upto fnExactCoverDimsSpec)

/-- 'laws.FnExactIsComplementPair', WHERE WHAT IT READS IS OF BULK AT MOST 1048576: true; the input reads as it did. -/
def fnExactIsComplementPairUptoRow : OpenClaim := { program := "ytedjajokbdokhaagreat", sum := "6191db17f6387d231d891a813511d34b0a412489b31b818961951b439465ef7b", func := "loop.example/g03404/laws.FnExactIsComplementPair", spec := "fnExactIsComplementPair", unfollowed := true, recurses := true, apart := false, narrowed := true }
def FnExactIsComplementPairUptoSaid : Prop := fnExactIsComplementPairUptoRow.holds Tryz.pinned (OpenSpec.upto fnExactIsComplementPairSpec)

/-- 'laws.FnExactRadicalLayers', WHERE WHAT IT READS IS OF BULK AT MOST 1048576: true; the input reads as it did. -/
def fnExactRadicalLayersUptoRow : OpenClaim := { program := "ytedjajokbdokhaagreat", sum := "6191db17f6387d231d891a813511d34b0a412489b31b818961951b439465ef7b", func := "loop.example/g03404/laws.FnExactRadicalLayers", spec := "fnExactRadicalLayers", unfollowed := true, recurses := true, apart := false, narrowed := true }
def FnExactRadicalLayersUptoSaid : Prop := fnExactRadicalLayersUptoRow.holds Tryz.pinned (OpenSpec.upto fnExactRadicalLayersSpec)

/-- 'laws.FnExactSubRep', WHERE WHAT IT READS IS OF BULK AT MOST 1048576: true; the input reads as it did. -/
def fnExactSubRepUptoRow : OpenClaim := { program := "ytedjajokbdokhaagreat", sum := "6191db17f6387d231d891a813511d34b0a412489b31b818961951b439465ef7b", func := "loop.example/g03404/laws.FnExactSubRep", spec := "fnExactSubRep", unfollowed := true, recurses := true, apart := false, narrowed := true }
def FnExactSubRepUptoSaid : Prop := fnExactSubRepUptoRow.holds Tryz.pinned (OpenSpec.upto fnExactSubRepSpec)

end Rows
end Go.Proofs.YtedjajokbdokhaaGreat
