/-
  No cell of these rows narrows 'for every input' (looked for: loops, veiled, ifaces, maps, wideKeys, modest, calm, conditions, laid).
  DERIVED. THE GIVEN ROWS OF THIS SEAT. 11 by the template 'for every input the law returns true; each argument reads behind the call as it read before'; 0 by the template 'total and deterministic' (their statements: YtpnicgagmopilaaTotals.lean).
  GIVEN WITH THE SEED: the statements are not yours to turn. If you find one false, say at which input.
  Laid BY PROGRAM, IN A SANDBOX (cutbox-rows.mjs): the forced cells as the released guide's own fill.sh prints them over the translation 0e9531e8d830a967… (all of the seat's roots in one cut). By AI agents, Wed Nov 11 2026. No macro, syntax, notation, axiom, sorry.
-/
import Derived.Test.YtpnicgagmopilaaChecked
import GoSem.Claim
import GoSem.ClaimJoined
import GoSem.ClaimMapViews
import Derived.JoinedTies
import Derived.KernelRfl
namespace Go.Proofs.Ytpnicgagmopilaa
/- THE CELL 'sum', in the pinned program and in every row, IS THE sha256 OF THE DUMP (.gsa) THAT YtpnicgagmopilaaProg.lean LOADS. Nothing in Lean hashes anything: it is a label: what it is worth is what the hold of that sum in a sandbox is worth. -/
noncomputable def Try.pinned : Pinned := { name := "ytpnicgagmopilaa", sum := "0e9531e8d830a9679860f9b9f82918921c20b14bff6954b95ed1957c5cee9d7f", checked := Try.checked }
namespace Rows
def none {H : Type} : Left H := { results := [], args := [] }

/-- 'laws.FnValidName': WHATEVER THE INPUT: true; the input reads as it did. -/
def fnValidNameSpec : ChangeSpec := { name := "fnValidName", fn := fun _ => fun
  | [d] => { results := [.lit (.bool true)], args := [d] }
  | _ => none }
def fnValidNameRow : OpenClaim := { program := "ytpnicgagmopilaa", sum := "0e9531e8d830a9679860f9b9f82918921c20b14bff6954b95ed1957c5cee9d7f", func := "loop.example/namedflags/laws.FnValidName", spec := "fnValidName", apart := false }
def FnValidNameSaid : Prop := fnValidNameRow.holds Try.pinned (OpenSpec.ofChange fnValidNameSpec)

/-- ITS FALSE NEIGHBOUR: 'it returns false'. Refute it at one input. -/
def fnValidNameWrong : ChangeSpec := { name := "fnValidName", fn := fun _ => fun
  | [d] => { results := [.lit (.bool false)], args := [d] }
  | _ => none }
def FnValidNameWrongFalsely : Prop := fnValidNameRow.holds Try.pinned (OpenSpec.ofChange fnValidNameWrong)

/-- 'laws.FnValidEnum': WHATEVER THE INPUT: true; the input reads as it did. -/
def fnValidEnumSpec : ChangeSpec := { name := "fnValidEnum", fn := fun _ => fun
  | [d] => { results := [.lit (.bool true)], args := [d] }
  | _ => none }
def fnValidEnumRow : OpenClaim := { program := "ytpnicgagmopilaa", sum := "0e9531e8d830a9679860f9b9f82918921c20b14bff6954b95ed1957c5cee9d7f", func := "loop.example/namedflags/laws.FnValidEnum", spec := "fnValidEnum", unfollowed := true, recurses := true, apart := false }
def FnValidEnumSaid : Prop := fnValidEnumRow.holds Try.pinned (OpenSpec.ofChange fnValidEnumSpec)

/-- ITS FALSE NEIGHBOUR: 'it returns false'. Refute it at one input. -/
def fnValidEnumWrong : ChangeSpec := { name := "fnValidEnum", fn := fun _ => fun
  | [d] => { results := [.lit (.bool false)], args := [d] }
  | _ => none }
def FnValidEnumWrongFalsely : Prop := fnValidEnumRow.holds Try.pinned (OpenSpec.ofChange fnValidEnumWrong)

/-- 'laws.FnValueOf': WHATEVER THE INPUT: true; the input reads as it did. -/
def fnValueOfSpec : ChangeSpec := { name := "fnValueOf", fn := fun _ => fun
  | [d] => { results := [.lit (.bool true)], args := [d] }
  | _ => none }
def fnValueOfRow : OpenClaim := { program := "ytpnicgagmopilaa", sum := "0e9531e8d830a9679860f9b9f82918921c20b14bff6954b95ed1957c5cee9d7f", func := "loop.example/namedflags/laws.FnValueOf", spec := "fnValueOf", unfollowed := true, recurses := true, apart := false }
def FnValueOfSaid : Prop := fnValueOfRow.holds Try.pinned (OpenSpec.ofChange fnValueOfSpec)

/-- ITS FALSE NEIGHBOUR: 'it returns false'. Refute it at one input. -/
def fnValueOfWrong : ChangeSpec := { name := "fnValueOf", fn := fun _ => fun
  | [d] => { results := [.lit (.bool false)], args := [d] }
  | _ => none }
def FnValueOfWrongFalsely : Prop := fnValueOfRow.holds Try.pinned (OpenSpec.ofChange fnValueOfWrong)

/-- 'laws.FnNameOf': WHATEVER THE INPUT: true; the input reads as it did. -/
def fnNameOfSpec : ChangeSpec := { name := "fnNameOf", fn := fun _ => fun
  | [d] => { results := [.lit (.bool true)], args := [d] }
  | _ => none }
def fnNameOfRow : OpenClaim := { program := "ytpnicgagmopilaa", sum := "0e9531e8d830a9679860f9b9f82918921c20b14bff6954b95ed1957c5cee9d7f", func := "loop.example/namedflags/laws.FnNameOf", spec := "fnNameOf", unfollowed := true, recurses := true, apart := false }
def FnNameOfSaid : Prop := fnNameOfRow.holds Try.pinned (OpenSpec.ofChange fnNameOfSpec)

/-- ITS FALSE NEIGHBOUR: 'it returns false'. Refute it at one input. -/
def fnNameOfWrong : ChangeSpec := { name := "fnNameOf", fn := fun _ => fun
  | [d] => { results := [.lit (.bool false)], args := [d] }
  | _ => none }
def FnNameOfWrongFalsely : Prop := fnNameOfRow.holds Try.pinned (OpenSpec.ofChange fnNameOfWrong)

/-- 'laws.FnIsUnique': WHATEVER THE INPUT: true; the input reads as it did. -/
def fnIsUniqueSpec : ChangeSpec := { name := "fnIsUnique", fn := fun _ => fun
  | [d] => { results := [.lit (.bool true)], args := [d] }
  | _ => none }
def fnIsUniqueRow : OpenClaim := { program := "ytpnicgagmopilaa", sum := "0e9531e8d830a9679860f9b9f82918921c20b14bff6954b95ed1957c5cee9d7f", func := "loop.example/namedflags/laws.FnIsUnique", spec := "fnIsUnique", unfollowed := true, recurses := true, apart := false }
def FnIsUniqueSaid : Prop := fnIsUniqueRow.holds Try.pinned (OpenSpec.ofChange fnIsUniqueSpec)

/-- ITS FALSE NEIGHBOUR: 'it returns false'. Refute it at one input. -/
def fnIsUniqueWrong : ChangeSpec := { name := "fnIsUnique", fn := fun _ => fun
  | [d] => { results := [.lit (.bool false)], args := [d] }
  | _ => none }
def FnIsUniqueWrongFalsely : Prop := fnIsUniqueRow.holds Try.pinned (OpenSpec.ofChange fnIsUniqueWrong)

/-- 'laws.FnRankOf': WHATEVER THE INPUT: true; the input reads as it did. -/
def fnRankOfSpec : ChangeSpec := { name := "fnRankOf", fn := fun _ => fun
  | [d] => { results := [.lit (.bool true)], args := [d] }
  | _ => none }
def fnRankOfRow : OpenClaim := { program := "ytpnicgagmopilaa", sum := "0e9531e8d830a9679860f9b9f82918921c20b14bff6954b95ed1957c5cee9d7f", func := "loop.example/namedflags/laws.FnRankOf", spec := "fnRankOf", unfollowed := true, recurses := true, apart := false }
def FnRankOfSaid : Prop := fnRankOfRow.holds Try.pinned (OpenSpec.ofChange fnRankOfSpec)

/-- ITS FALSE NEIGHBOUR: 'it returns false'. Refute it at one input. -/
def fnRankOfWrong : ChangeSpec := { name := "fnRankOf", fn := fun _ => fun
  | [d] => { results := [.lit (.bool false)], args := [d] }
  | _ => none }
def FnRankOfWrongFalsely : Prop := fnRankOfRow.holds Try.pinned (OpenSpec.ofChange fnRankOfWrong)

/-- 'laws.FnOtherNames': WHATEVER THE INPUT: true; the input reads as it did. -/
def fnOtherNamesSpec : ChangeSpec := { name := "fnOtherNames", fn := fun _ => fun
  | [d] => { results := [.lit (.bool true)], args := [d] }
  | _ => none }
def fnOtherNamesRow : OpenClaim := { program := "ytpnicgagmopilaa", sum := "0e9531e8d830a9679860f9b9f82918921c20b14bff6954b95ed1957c5cee9d7f", func := "loop.example/namedflags/laws.FnOtherNames", spec := "fnOtherNames", unfollowed := true, recurses := true, apart := false }
def FnOtherNamesSaid : Prop := fnOtherNamesRow.holds Try.pinned (OpenSpec.ofChange fnOtherNamesSpec)

/-- ITS FALSE NEIGHBOUR: 'it returns false'. Refute it at one input. -/
def fnOtherNamesWrong : ChangeSpec := { name := "fnOtherNames", fn := fun _ => fun
  | [d] => { results := [.lit (.bool false)], args := [d] }
  | _ => none }
def FnOtherNamesWrongFalsely : Prop := fnOtherNamesRow.holds Try.pinned (OpenSpec.ofChange fnOtherNamesWrong)

/-- 'laws.FnByName': WHATEVER THE INPUT: true; the input reads as it did. -/
def fnByNameSpec : ChangeSpec := { name := "fnByName", fn := fun _ => fun
  | [d] => { results := [.lit (.bool true)], args := [d] }
  | _ => none }
def fnByNameRow : OpenClaim := { program := "ytpnicgagmopilaa", sum := "0e9531e8d830a9679860f9b9f82918921c20b14bff6954b95ed1957c5cee9d7f", func := "loop.example/namedflags/laws.FnByName", spec := "fnByName", unfollowed := true, recurses := true, apart := false }
def FnByNameSaid : Prop := fnByNameRow.holds Try.pinned (OpenSpec.ofChange fnByNameSpec)

/-- ITS FALSE NEIGHBOUR: 'it returns false'. Refute it at one input. -/
def fnByNameWrong : ChangeSpec := { name := "fnByName", fn := fun _ => fun
  | [d] => { results := [.lit (.bool false)], args := [d] }
  | _ => none }
def FnByNameWrongFalsely : Prop := fnByNameRow.holds Try.pinned (OpenSpec.ofChange fnByNameWrong)

/-- 'laws.FnByValue': WHATEVER THE INPUT: true; the input reads as it did. -/
def fnByValueSpec : ChangeSpec := { name := "fnByValue", fn := fun _ => fun
  | [d] => { results := [.lit (.bool true)], args := [d] }
  | _ => none }
def fnByValueRow : OpenClaim := { program := "ytpnicgagmopilaa", sum := "0e9531e8d830a9679860f9b9f82918921c20b14bff6954b95ed1957c5cee9d7f", func := "loop.example/namedflags/laws.FnByValue", spec := "fnByValue", unfollowed := true, recurses := true, apart := false }
def FnByValueSaid : Prop := fnByValueRow.holds Try.pinned (OpenSpec.ofChange fnByValueSpec)

/-- ITS FALSE NEIGHBOUR: 'it returns false'. Refute it at one input. -/
def fnByValueWrong : ChangeSpec := { name := "fnByValue", fn := fun _ => fun
  | [d] => { results := [.lit (.bool false)], args := [d] }
  | _ => none }
def FnByValueWrongFalsely : Prop := fnByValueRow.holds Try.pinned (OpenSpec.ofChange fnByValueWrong)

/-- 'laws.FnRenameDef': WHATEVER THE INPUT: true; the input reads as it did. -/
def fnRenameDefSpec : ChangeSpec := { name := "fnRenameDef", fn := fun _ => fun
  | [d] => { results := [.lit (.bool true)], args := [d] }
  | _ => none }
def fnRenameDefRow : OpenClaim := { program := "ytpnicgagmopilaa", sum := "0e9531e8d830a9679860f9b9f82918921c20b14bff6954b95ed1957c5cee9d7f", func := "loop.example/namedflags/laws.FnRenameDef", spec := "fnRenameDef", unfollowed := true, recurses := true, apart := false }
def FnRenameDefSaid : Prop := fnRenameDefRow.holds Try.pinned (OpenSpec.ofChange fnRenameDefSpec)

/-- ITS FALSE NEIGHBOUR: 'it returns false'. Refute it at one input. -/
def fnRenameDefWrong : ChangeSpec := { name := "fnRenameDef", fn := fun _ => fun
  | [d] => { results := [.lit (.bool false)], args := [d] }
  | _ => none }
def FnRenameDefWrongFalsely : Prop := fnRenameDefRow.holds Try.pinned (OpenSpec.ofChange fnRenameDefWrong)

/-- 'laws.FnTurnChanges': WHATEVER THE INPUT: true; the input reads as it did. -/
def fnTurnChangesSpec : ChangeSpec := { name := "fnTurnChanges", fn := fun _ => fun
  | [d] => { results := [.lit (.bool true)], args := [d] }
  | _ => none }
def fnTurnChangesRow : OpenClaim := { program := "ytpnicgagmopilaa", sum := "0e9531e8d830a9679860f9b9f82918921c20b14bff6954b95ed1957c5cee9d7f", func := "loop.example/namedflags/laws.FnTurnChanges", spec := "fnTurnChanges", unfollowed := true, recurses := true, apart := false }
def FnTurnChangesSaid : Prop := fnTurnChangesRow.holds Try.pinned (OpenSpec.ofChange fnTurnChangesSpec)

/-- ITS FALSE NEIGHBOUR: 'it returns false'. Refute it at one input. -/
def fnTurnChangesWrong : ChangeSpec := { name := "fnTurnChanges", fn := fun _ => fun
  | [d] => { results := [.lit (.bool false)], args := [d] }
  | _ => none }
def FnTurnChangesWrongFalsely : Prop := fnTurnChangesRow.holds Try.pinned (OpenSpec.ofChange fnTurnChangesWrong)

/- THE SECOND FORM. 'bulk': how many values and letters a reading holds, each counted each time it is reached (what is shared counts as often as it is met; a slice's spare places count too). A statement '..UptoSaid' is the law's where the arguments, and the package variables that the reading takes, are together of bulk at most 1048576: NARROWER than '..Said'. Prove '..Said' where nothing that the law and all that it calls make is longer than what came in: it says more and counts as full. Else prove '..UptoSaid'. A law counts once. -/
mutual
def uptoBulk {H : Type} : DataW H → Nat
  | .lit (.string bytes) => bytes.length + 1
  | .lit _ => 1
  | .nil => 1
  | .ptr d => uptoBulk d + 1
  | .slice elems spare => uptoBulkAll elems + uptoBulkAll spare + 1
  | .agg parts => uptoBulkAll parts + 1
  | .iface _ d => uptoBulk d + 1
  | .map entries => uptoBulkEntries entries + 1
  | .held _ => 1
def uptoBulkAll {H : Type} : List (DataW H) → Nat
  | [] => 0
  | d :: r => uptoBulk d + uptoBulkAll r
def uptoBulkEntries {H : Type} : List (Lit × DataW H) → Nat
  | [] => 0
  | x :: r => uptoBulkEntry x + uptoBulkEntries r
def uptoBulkEntry {H : Type} : Lit × DataW H → Nat
  | (.string bytes, d) => bytes.length + uptoBulk d + 1
  | (_, d) => uptoBulk d + 1
 end
def uptoSmall : (H : Type) → List (DataW H) → Bool := fun _ ds => decide (uptoBulkAll ds ≤ 1048576)
def OpenSpec.upto (s : _root_.Go.ChangeSpec) : _root_.Go.OpenSpec := { _root_.Go.OpenSpec.ofChange s with cond := some uptoSmall }

/-- 'laws.FnValidName', WHERE WHAT IT READS IS OF BULK AT MOST 1048576: true; the input reads as it did. -/
def fnValidNameUptoRow : OpenClaim := { program := "ytpnicgagmopilaa", sum := "0e9531e8d830a9679860f9b9f82918921c20b14bff6954b95ed1957c5cee9d7f", func := "loop.example/namedflags/laws.FnValidName", spec := "fnValidName", apart := false, narrowed := true }
def FnValidNameUptoSaid : Prop := fnValidNameUptoRow.holds Try.pinned (OpenSpec.upto fnValidNameSpec)

/-- 'laws.FnValidEnum', WHERE WHAT IT READS IS OF BULK AT MOST 1048576: true; the input reads as it did. -/
def fnValidEnumUptoRow : OpenClaim := { program := "ytpnicgagmopilaa", sum := "0e9531e8d830a9679860f9b9f82918921c20b14bff6954b95ed1957c5cee9d7f", func := "loop.example/namedflags/laws.FnValidEnum", spec := "fnValidEnum", unfollowed := true, recurses := true, apart := false, narrowed := true }
def FnValidEnumUptoSaid : Prop := fnValidEnumUptoRow.holds Try.pinned (OpenSpec.upto fnValidEnumSpec)

/-- 'laws.FnValueOf', WHERE WHAT IT READS IS OF BULK AT MOST 1048576: true; the input reads as it did. -/
def fnValueOfUptoRow : OpenClaim := { program := "ytpnicgagmopilaa", sum := "0e9531e8d830a9679860f9b9f82918921c20b14bff6954b95ed1957c5cee9d7f", func := "loop.example/namedflags/laws.FnValueOf", spec := "fnValueOf", unfollowed := true, recurses := true, apart := false, narrowed := true }
def FnValueOfUptoSaid : Prop := fnValueOfUptoRow.holds Try.pinned (OpenSpec.upto fnValueOfSpec)

/-- 'laws.FnNameOf', WHERE WHAT IT READS IS OF BULK AT MOST 1048576: true; the input reads as it did. -/
def fnNameOfUptoRow : OpenClaim := { program := "ytpnicgagmopilaa", sum := "0e9531e8d830a9679860f9b9f82918921c20b14bff6954b95ed1957c5cee9d7f", func := "loop.example/namedflags/laws.FnNameOf", spec := "fnNameOf", unfollowed := true, recurses := true, apart := false, narrowed := true }
def FnNameOfUptoSaid : Prop := fnNameOfUptoRow.holds Try.pinned (OpenSpec.upto fnNameOfSpec)

/-- 'laws.FnIsUnique', WHERE WHAT IT READS IS OF BULK AT MOST 1048576: true; the input reads as it did. -/
def fnIsUniqueUptoRow : OpenClaim := { program := "ytpnicgagmopilaa", sum := "0e9531e8d830a9679860f9b9f82918921c20b14bff6954b95ed1957c5cee9d7f", func := "loop.example/namedflags/laws.FnIsUnique", spec := "fnIsUnique", unfollowed := true, recurses := true, apart := false, narrowed := true }
def FnIsUniqueUptoSaid : Prop := fnIsUniqueUptoRow.holds Try.pinned (OpenSpec.upto fnIsUniqueSpec)

/-- 'laws.FnRankOf', WHERE WHAT IT READS IS OF BULK AT MOST 1048576: true; the input reads as it did. -/
def fnRankOfUptoRow : OpenClaim := { program := "ytpnicgagmopilaa", sum := "0e9531e8d830a9679860f9b9f82918921c20b14bff6954b95ed1957c5cee9d7f", func := "loop.example/namedflags/laws.FnRankOf", spec := "fnRankOf", unfollowed := true, recurses := true, apart := false, narrowed := true }
def FnRankOfUptoSaid : Prop := fnRankOfUptoRow.holds Try.pinned (OpenSpec.upto fnRankOfSpec)

/-- 'laws.FnOtherNames', WHERE WHAT IT READS IS OF BULK AT MOST 1048576: true; the input reads as it did. -/
def fnOtherNamesUptoRow : OpenClaim := { program := "ytpnicgagmopilaa", sum := "0e9531e8d830a9679860f9b9f82918921c20b14bff6954b95ed1957c5cee9d7f", func := "loop.example/namedflags/laws.FnOtherNames", spec := "fnOtherNames", unfollowed := true, recurses := true, apart := false, narrowed := true }
def FnOtherNamesUptoSaid : Prop := fnOtherNamesUptoRow.holds Try.pinned (OpenSpec.upto fnOtherNamesSpec)

/-- 'laws.FnByName', WHERE WHAT IT READS IS OF BULK AT MOST 1048576: true; the input reads as it did. -/
def fnByNameUptoRow : OpenClaim := { program := "ytpnicgagmopilaa", sum := "0e9531e8d830a9679860f9b9f82918921c20b14bff6954b95ed1957c5cee9d7f", func := "loop.example/namedflags/laws.FnByName", spec := "fnByName", unfollowed := true, recurses := true, apart := false, narrowed := true }
def FnByNameUptoSaid : Prop := fnByNameUptoRow.holds Try.pinned (OpenSpec.upto fnByNameSpec)

/-- 'laws.FnByValue', WHERE WHAT IT READS IS OF BULK AT MOST 1048576: true; the input reads as it did. -/
def fnByValueUptoRow : OpenClaim := { program := "ytpnicgagmopilaa", sum := "0e9531e8d830a9679860f9b9f82918921c20b14bff6954b95ed1957c5cee9d7f", func := "loop.example/namedflags/laws.FnByValue", spec := "fnByValue", unfollowed := true, recurses := true, apart := false, narrowed := true }
def FnByValueUptoSaid : Prop := fnByValueUptoRow.holds Try.pinned (OpenSpec.upto fnByValueSpec)

/-- 'laws.FnRenameDef', WHERE WHAT IT READS IS OF BULK AT MOST 1048576: true; the input reads as it did. -/
def fnRenameDefUptoRow : OpenClaim := { program := "ytpnicgagmopilaa", sum := "0e9531e8d830a9679860f9b9f82918921c20b14bff6954b95ed1957c5cee9d7f", func := "loop.example/namedflags/laws.FnRenameDef", spec := "fnRenameDef", unfollowed := true, recurses := true, apart := false, narrowed := true }
def FnRenameDefUptoSaid : Prop := fnRenameDefUptoRow.holds Try.pinned (OpenSpec.upto fnRenameDefSpec)

/-- 'laws.FnTurnChanges', WHERE WHAT IT READS IS OF BULK AT MOST 1048576: true; the input reads as it did. -/
def fnTurnChangesUptoRow : OpenClaim := { program := "ytpnicgagmopilaa", sum := "0e9531e8d830a9679860f9b9f82918921c20b14bff6954b95ed1957c5cee9d7f", func := "loop.example/namedflags/laws.FnTurnChanges", spec := "fnTurnChanges", unfollowed := true, recurses := true, apart := false, narrowed := true }
def FnTurnChangesUptoSaid : Prop := fnTurnChangesUptoRow.holds Try.pinned (OpenSpec.upto fnTurnChangesSpec)

end Rows
end Go.Proofs.Ytpnicgagmopilaa
