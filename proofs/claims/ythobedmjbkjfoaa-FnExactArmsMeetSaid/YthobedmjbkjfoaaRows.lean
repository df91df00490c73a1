/-
  No cell of these rows narrows 'for every input' (looked for: loops, veiled, ifaces, maps, wideKeys, modest, calm, conditions, laid).
  DERIVED. THE GIVEN ROWS OF THIS SEAT. 7 by the template 'for every input the law returns true; each argument reads behind the call as it read before'; 0 by the template 'total and deterministic' (their statements: YthobedmjbkjfoaaTotals.lean).
  GIVEN WITH THE SEED: the statements are not yours to turn. If you find one false, say at which input.
  Laid BY PROGRAM, IN A SANDBOX (cutbox-rows.mjs): the forced cells as the released guide's own fill.sh prints them over the translation 4ea7775e9d5a5b56… (all of the seat's roots in one cut). By AI agents, Wed Nov 11 2026. No macro, syntax, notation, axiom, sorry.
-/
import Derived.Test.YthobedmjbkjfoaaChecked
import GoSem.Claim
import GoSem.ClaimJoined
import GoSem.ClaimMapViews
import Derived.JoinedTies
import Derived.KernelRfl
namespace Go.Proofs.Ythobedmjbkjfoaa
/- THE CELL 'sum', in the pinned program and in every row, IS THE sha256 OF THE DUMP (.gsa) THAT YthobedmjbkjfoaaProg.lean LOADS. Nothing in Lean hashes anything: it is a label: what it is worth is what the hold of that sum in a sandbox is worth. -/
noncomputable def Try.pinned : Pinned := { name := "ythobedmjbkjfoaa", sum := "4ea7775e9d5a5b564e6d33493e442ad7437a967ec280381d10dcfe97ed021686", checked := Try.checked }
namespace Rows
def none {H : Type} : Left H := { results := [], args := [] }

/-- 'laws.FnExactValidArm': WHATEVER THE INPUT: true; the input reads as it did. -/
def fnExactValidArmSpec : ChangeSpec := { name := "fnExactValidArm", fn := fun _ => fun
  | [d1, d2] => { results := [.lit (.bool true)], args := [d1, d2] }
  | _ => none }
def fnExactValidArmRow : OpenClaim := { program := "ythobedmjbkjfoaa", sum := "4ea7775e9d5a5b564e6d33493e442ad7437a967ec280381d10dcfe97ed021686", func := "loop.example/namedflags/laws.FnExactValidArm", spec := "fnExactValidArm", unfollowed := true, recurses := true, apart := false }
def FnExactValidArmSaid : Prop := fnExactValidArmRow.holds Try.pinned (OpenSpec.ofChange fnExactValidArmSpec)

/-- ITS FALSE NEIGHBOUR: 'it returns false'. Refute it at one input. -/
def fnExactValidArmWrong : ChangeSpec := { name := "fnExactValidArm", fn := fun _ => fun
  | [d1, d2] => { results := [.lit (.bool false)], args := [d1, d2] }
  | _ => none }
def FnExactValidArmWrongFalsely : Prop := fnExactValidArmRow.holds Try.pinned (OpenSpec.ofChange fnExactValidArmWrong)

/-- 'laws.FnExactMatchArm': WHATEVER THE INPUT: true; the input reads as it did. -/
def fnExactMatchArmSpec : ChangeSpec := { name := "fnExactMatchArm", fn := fun _ => fun
  | [d1, d2, d3] => { results := [.lit (.bool true)], args := [d1, d2, d3] }
  | _ => none }
def fnExactMatchArmRow : OpenClaim := { program := "ythobedmjbkjfoaa", sum := "4ea7775e9d5a5b564e6d33493e442ad7437a967ec280381d10dcfe97ed021686", func := "loop.example/namedflags/laws.FnExactMatchArm", spec := "fnExactMatchArm", unfollowed := true, recurses := true, apart := false }
def FnExactMatchArmSaid : Prop := fnExactMatchArmRow.holds Try.pinned (OpenSpec.ofChange fnExactMatchArmSpec)

/-- ITS FALSE NEIGHBOUR: 'it returns false'. Refute it at one input. -/
def fnExactMatchArmWrong : ChangeSpec := { name := "fnExactMatchArm", fn := fun _ => fun
  | [d1, d2, d3] => { results := [.lit (.bool false)], args := [d1, d2, d3] }
  | _ => none }
def FnExactMatchArmWrongFalsely : Prop := fnExactMatchArmRow.holds Try.pinned (OpenSpec.ofChange fnExactMatchArmWrong)

/-- 'laws.FnExactArmsMeet': WHATEVER THE INPUT: true; the input reads as it did. -/
def fnExactArmsMeetSpec : ChangeSpec := { name := "fnExactArmsMeet", fn := fun _ => fun
  | [d1, d2, d3] => { results := [.lit (.bool true)], args := [d1, d2, d3] }
  | _ => none }
def fnExactArmsMeetRow : OpenClaim := { program := "ythobedmjbkjfoaa", sum := "4ea7775e9d5a5b564e6d33493e442ad7437a967ec280381d10dcfe97ed021686", func := "loop.example/namedflags/laws.FnExactArmsMeet", spec := "fnExactArmsMeet", unfollowed := true, recurses := true, apart := false }
def FnExactArmsMeetSaid : Prop := fnExactArmsMeetRow.holds Try.pinned (OpenSpec.ofChange fnExactArmsMeetSpec)

/-- ITS FALSE NEIGHBOUR: 'it returns false'. Refute it at one input. -/
def fnExactArmsMeetWrong : ChangeSpec := { name := "fnExactArmsMeet", fn := fun _ => fun
  | [d1, d2, d3] => { results := [.lit (.bool false)], args := [d1, d2, d3] }
  | _ => none }
def FnExactArmsMeetWrongFalsely : Prop := fnExactArmsMeetRow.holds Try.pinned (OpenSpec.ofChange fnExactArmsMeetWrong)

/-- 'laws.FnExactArmCovers': WHATEVER THE INPUT: true; the input reads as it did. -/
def fnExactArmCoversSpec : ChangeSpec := { name := "fnExactArmCovers", fn := fun _ => fun
  | [d1, d2, d3] => { results := [.lit (.bool true)], args := [d1, d2, d3] }
  | _ => none }
def fnExactArmCoversRow : OpenClaim := { program := "ythobedmjbkjfoaa", sum := "4ea7775e9d5a5b564e6d33493e442ad7437a967ec280381d10dcfe97ed021686", func := "loop.example/namedflags/laws.FnExactArmCovers", spec := "fnExactArmCovers", unfollowed := true, recurses := true, apart := false }
def FnExactArmCoversSaid : Prop := fnExactArmCoversRow.holds Try.pinned (OpenSpec.ofChange fnExactArmCoversSpec)

/-- ITS FALSE NEIGHBOUR: 'it returns false'. Refute it at one input. -/
def fnExactArmCoversWrong : ChangeSpec := { name := "fnExactArmCovers", fn := fun _ => fun
  | [d1, d2, d3] => { results := [.lit (.bool false)], args := [d1, d2, d3] }
  | _ => none }
def FnExactArmCoversWrongFalsely : Prop := fnExactArmCoversRow.holds Try.pinned (OpenSpec.ofChange fnExactArmCoversWrong)

/-- 'laws.FnExactWithBound': WHATEVER THE INPUT: true; the input reads as it did. -/
def fnExactWithBoundSpec : ChangeSpec := { name := "fnExactWithBound", fn := fun _ => fun
  | [d1, d2] => { results := [.lit (.bool true)], args := [d1, d2] }
  | _ => none }
def fnExactWithBoundRow : OpenClaim := { program := "ythobedmjbkjfoaa", sum := "4ea7775e9d5a5b564e6d33493e442ad7437a967ec280381d10dcfe97ed021686", func := "loop.example/namedflags/laws.FnExactWithBound", spec := "fnExactWithBound", unfollowed := true, recurses := true, apart := false }
def FnExactWithBoundSaid : Prop := fnExactWithBoundRow.holds Try.pinned (OpenSpec.ofChange fnExactWithBoundSpec)

/-- ITS FALSE NEIGHBOUR: 'it returns false'. Refute it at one input. -/
def fnExactWithBoundWrong : ChangeSpec := { name := "fnExactWithBound", fn := fun _ => fun
  | [d1, d2] => { results := [.lit (.bool false)], args := [d1, d2] }
  | _ => none }
def FnExactWithBoundWrongFalsely : Prop := fnExactWithBoundRow.holds Try.pinned (OpenSpec.ofChange fnExactWithBoundWrong)

/-- 'laws.FnExactAddDef': WHATEVER THE INPUT: true; the input reads as it did. -/
def fnExactAddDefSpec : ChangeSpec := { name := "fnExactAddDef", fn := fun _ => fun
  | [d1, d2] => { results := [.lit (.bool true)], args := [d1, d2] }
  | _ => none }
def fnExactAddDefRow : OpenClaim := { program := "ythobedmjbkjfoaa", sum := "4ea7775e9d5a5b564e6d33493e442ad7437a967ec280381d10dcfe97ed021686", func := "loop.example/namedflags/laws.FnExactAddDef", spec := "fnExactAddDef", unfollowed := true, recurses := true, apart := false }
def FnExactAddDefSaid : Prop := fnExactAddDefRow.holds Try.pinned (OpenSpec.ofChange fnExactAddDefSpec)

/-- ITS FALSE NEIGHBOUR: 'it returns false'. Refute it at one input. -/
def fnExactAddDefWrong : ChangeSpec := { name := "fnExactAddDef", fn := fun _ => fun
  | [d1, d2] => { results := [.lit (.bool false)], args := [d1, d2] }
  | _ => none }
def FnExactAddDefWrongFalsely : Prop := fnExactAddDefRow.holds Try.pinned (OpenSpec.ofChange fnExactAddDefWrong)

/-- 'laws.FnExactTurnChanges': WHATEVER THE INPUT: true; the input reads as it did. -/
def fnExactTurnChangesSpec : ChangeSpec := { name := "fnExactTurnChanges", fn := fun _ => fun
  | [d] => { results := [.lit (.bool true)], args := [d] }
  | _ => none }
def fnExactTurnChangesRow : OpenClaim := { program := "ythobedmjbkjfoaa", sum := "4ea7775e9d5a5b564e6d33493e442ad7437a967ec280381d10dcfe97ed021686", func := "loop.example/namedflags/laws.FnExactTurnChanges", spec := "fnExactTurnChanges", unfollowed := true, recurses := true, apart := false }
def FnExactTurnChangesSaid : Prop := fnExactTurnChangesRow.holds Try.pinned (OpenSpec.ofChange fnExactTurnChangesSpec)

/-- ITS FALSE NEIGHBOUR: 'it returns false'. Refute it at one input. -/
def fnExactTurnChangesWrong : ChangeSpec := { name := "fnExactTurnChanges", fn := fun _ => fun
  | [d] => { results := [.lit (.bool false)], args := [d] }
  | _ => none }
def FnExactTurnChangesWrongFalsely : Prop := fnExactTurnChangesRow.holds Try.pinned (OpenSpec.ofChange fnExactTurnChangesWrong)

/- THE SECOND FORM. 'bulk': how many values and letters a reading holds, each counted each time it is reached (what is shared counts as often as it is met; a slice's spare places count too). A statement '..UptoSaid' is the law's where the arguments, and the package variables that the reading takes, are together of bulk at most 1048576: NARROWER than '..Said'. Prove '..Said' where nothing that the law and all that it calls make is longer than what came in: it says more and counts as full. Else prove '..UptoSaid'. A law counts once. -/
mutual
def uptoBulk {H : Type} : DataW H → Nat
  | .lit (.string bytes) => bytes.length + 1
  | .lit _ => 1
  | .nil => 1
  | .ptr d => uptoBulk d + 1
  | .slice elems spare => uptoBulkAll elems + uptoBulkAll spare + 1
  | .agg parts => uptoBulkAll parts + 1
  | .iface _ d => uptoBulk d + 1
  | .map entries => uptoBulkEntries entries + 1
  | .held _ => 1
def uptoBulkAll {H : Type} : List (DataW H) → Nat
  | [] => 0
  | d :: r => uptoBulk d + uptoBulkAll r
def uptoBulkEntries {H : Type} : List (Lit × DataW H) → Nat
  | [] => 0
  | x :: r => uptoBulkEntry x + uptoBulkEntries r
def uptoBulkEntry {H : Type} : Lit × DataW H → Nat
  | (.string bytes, d) => bytes.length + uptoBulk d + 1
  | (_, d) => uptoBulk d + 1
 end
def uptoSmall : (H : Type) → List (DataW H) → Bool := fun _ ds => decide (uptoBulkAll ds ≤ 1048576)
def OpenSpec.upto (s : _root_.Go.ChangeSpec) : _root_.Go.OpenSpec := { _root_.Go.OpenSpec.ofChange s with cond := some uptoSmall }

/-- 'laws.FnExactValidArm', WHERE WHAT IT READS IS OF BULK AT MOST 1048576: true; the input reads as it did. -/
def fnExactValidArmUptoRow : OpenClaim := { program := "ythobedmjbkjfoaa", sum := "4ea7775e9d5a5b564e6d33493e442ad7437a967ec280381d10dcfe97ed021686", func := "loop.example/namedflags/laws.FnExactValidArm", spec := "fnExactValidArm", unfollowed := true, recurses := true, apart := false, narrowed := true }
def FnExactValidArmUptoSaid : Prop := fnExactValidArmUptoRow.holds Try.pinned (OpenSpec.upto fnExactValidArmSpec)

/-- 'laws.FnExactMatchArm', WHERE WHAT IT READS IS OF BULK AT MOST 1048576: true; the input reads as it did. -/
def fnExactMatchArmUptoRow : OpenClaim := { program := "ythobedmjbkjfoaa", sum := "4ea7775e9d5a5b564e6d33493e442ad7437a967ec280381d10dcfe97ed021686", func := "loop.example/namedflags/laws.FnExactMatchArm", spec := "fnExactMatchArm", unfollowed := true, recurses := true, apart := false, narrowed := true }
def FnExactMatchArmUptoSaid : Prop := fnExactMatchArmUptoRow.holds Try.pinned (OpenSpec.upto fnExactMatchArmSpec)

/-- 'laws.FnExactArmsMeet', WHERE WHAT IT READS IS OF BULK AT MOST 1048576: true; the input reads as it did. -/
def fnExactArmsMeetUptoRow : OpenClaim := { program := "ythobedmjbkjfoaa", sum := "4ea7775e9d5a5b564e6d33493e442ad7437a967ec280381d10dcfe97ed021686", func := "loop.example/namedflags/laws.FnExactArmsMeet", spec := "fnExactArmsMeet", unfollowed := true, recurses := true, apart := false, narrowed := true }
def FnExactArmsMeetUptoSaid : Prop := fnExactArmsMeetUptoRow.holds Try.pinned (OpenSpec.upto fnExactArmsMeetSpec)

/-- 'laws.FnExactArmCovers', WHERE WHAT IT READS IS OF BULK AT MOST 1048576: true; the input reads as it did. -/
def fnExactArmCoversUptoRow : OpenClaim := { program := "ythobedmjbkjfoaa", sum := "4ea7775e9d5a5b564e6d33493e442ad7437a967ec280381d10dcfe97ed021686", func := "loop.example/namedflags/laws.FnExactArmCovers", spec := "fnExactArmCovers", unfollowed := true, recurses := true, apart := false, narrowed := true }
def FnExactArmCoversUptoSaid : Prop := fnExactArmCoversUptoRow.holds Try.pinned (OpenSpec.upto fnExactArmCoversSpec)

/-- 'laws.FnExactWithBound', WHERE WHAT IT READS IS OF BULK AT MOST 1048576: true; the input reads as it did. -/
def fnExactWithBoundUptoRow : OpenClaim := { program := "ythobedmjbkjfoaa", sum := "4ea7775e9d5a5b564e6d33493e442ad7437a967ec280381d10dcfe97ed021686", func := "loop.example/namedflags/laws.FnExactWithBound", spec := "fnExactWithBound", unfollowed := true, recurses := true, apart := false, narrowed := true }
def FnExactWithBoundUptoSaid : Prop := fnExactWithBoundUptoRow.holds Try.pinned (OpenSpec.upto fnExactWithBoundSpec)

/-- 'laws.FnExactAddDef', WHERE WHAT IT READS IS OF BULK AT MOST 1048576: true; the input reads as it did. -/
def fnExactAddDefUptoRow : OpenClaim := { program := "ythobedmjbkjfoaa", sum := "4ea7775e9d5a5b564e6d33493e442ad7437a967ec280381d10dcfe97ed021686", func := "loop.example/namedflags/laws.FnExactAddDef", spec := "fnExactAddDef", unfollowed := true, recurses := true, apart := false, narrowed := true }
def FnExactAddDefUptoSaid : Prop := fnExactAddDefUptoRow.holds Try.pinned (OpenSpec.upto fnExactAddDefSpec)

/-- 'laws.FnExactTurnChanges', WHERE WHAT IT READS IS OF BULK AT MOST 1048576: true; the input reads as it did. -/
def fnExactTurnChangesUptoRow : OpenClaim := { program := "ythobedmjbkjfoaa", sum := "4ea7775e9d5a5b564e6d33493e442ad7437a967ec280381d10dcfe97ed021686", func := "loop.example/namedflags/laws.FnExactTurnChanges", spec := "fnExactTurnChanges", unfollowed := true, recurses := true, apart := false, narrowed := true }
def FnExactTurnChangesUptoSaid : Prop := fnExactTurnChangesUptoRow.holds Try.pinned (OpenSpec.upto fnExactTurnChangesSpec)

end Rows
end Go.Proofs.Ythobedmjbkjfoaa
