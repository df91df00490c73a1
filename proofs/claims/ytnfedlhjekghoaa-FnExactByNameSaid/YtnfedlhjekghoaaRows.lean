/-
  No cell of these rows narrows 'for every input' (looked for: loops, veiled, ifaces, maps, wideKeys, modest, calm, conditions, laid).
  DERIVED. THE GIVEN ROWS OF THIS SEAT. 12 by the template 'for every input the law returns true; each argument reads behind the call as it read before'; 0 by the template 'total and deterministic' (their statements: YtnfedlhjekghoaaTotals.lean).
  GIVEN WITH THE SEED: the statements are not yours to turn. If you find one false, say at which input.
  Laid BY PROGRAM, IN A SANDBOX (cutbox-rows.mjs): the forced cells as the released guide's own fill.sh prints them over the translation dcaf369f4dee49af… (all of the seat's roots in one cut). By AI agents, Wed Nov 11 2026. No macro, syntax, notation, axiom, sorry.
-/
import Derived.Test.YtnfedlhjekghoaaChecked
import GoSem.Claim
import GoSem.ClaimJoined
import GoSem.ClaimMapViews
import Derived.JoinedTies
import Derived.KernelRfl
namespace Go.Proofs.Ytnfedlhjekghoaa
/- THE CELL 'sum', in the pinned program and in every row, IS THE sha256 OF THE DUMP (.gsa) THAT YtnfedlhjekghoaaProg.lean LOADS. Nothing in Lean hashes anything: it is a label: what it is worth is what the hold of that sum in a sandbox is worth. -/
noncomputable def Try.pinned : Pinned := { name := "ytnfedlhjekghoaa", sum := "dcaf369f4dee49afbae38390bd5550c827512af703c1ddcb510762af7cf5f573", checked := Try.checked }
namespace Rows
def none {H : Type} : Left H := { results := [], args := [] }

/-- 'laws.FnExactConstants': WHATEVER THE INPUT: true; the input reads as it did. -/
def fnExactConstantsSpec : ChangeSpec := { name := "fnExactConstants", fn := fun _ => fun
  | [] => { results := [.lit (.bool true)], args := [] }
  | _ => none }
def fnExactConstantsRow : OpenClaim := { program := "ytnfedlhjekghoaa", sum := "dcaf369f4dee49afbae38390bd5550c827512af703c1ddcb510762af7cf5f573", func := "loop.example/namedflags/laws.FnExactConstants", spec := "fnExactConstants", apart := false }
def FnExactConstantsSaid : Prop := fnExactConstantsRow.holds Try.pinned (OpenSpec.ofChange fnExactConstantsSpec)

/-- ITS FALSE NEIGHBOUR: 'it returns false'. Refute it at one input. -/
def fnExactConstantsWrong : ChangeSpec := { name := "fnExactConstants", fn := fun _ => fun
  | [] => { results := [.lit (.bool false)], args := [] }
  | _ => none }
def FnExactConstantsWrongFalsely : Prop := fnExactConstantsRow.holds Try.pinned (OpenSpec.ofChange fnExactConstantsWrong)

/-- 'laws.FnExactValidName': WHATEVER THE INPUT: true; the input reads as it did. -/
def fnExactValidNameSpec : ChangeSpec := { name := "fnExactValidName", fn := fun _ => fun
  | [d] => { results := [.lit (.bool true)], args := [d] }
  | _ => none }
def fnExactValidNameRow : OpenClaim := { program := "ytnfedlhjekghoaa", sum := "dcaf369f4dee49afbae38390bd5550c827512af703c1ddcb510762af7cf5f573", func := "loop.example/namedflags/laws.FnExactValidName", spec := "fnExactValidName", apart := false }
def FnExactValidNameSaid : Prop := fnExactValidNameRow.holds Try.pinned (OpenSpec.ofChange fnExactValidNameSpec)

/-- ITS FALSE NEIGHBOUR: 'it returns false'. Refute it at one input. -/
def fnExactValidNameWrong : ChangeSpec := { name := "fnExactValidName", fn := fun _ => fun
  | [d] => { results := [.lit (.bool false)], args := [d] }
  | _ => none }
def FnExactValidNameWrongFalsely : Prop := fnExactValidNameRow.holds Try.pinned (OpenSpec.ofChange fnExactValidNameWrong)

/-- 'laws.FnExactValidEnum': WHATEVER THE INPUT: true; the input reads as it did. -/
def fnExactValidEnumSpec : ChangeSpec := { name := "fnExactValidEnum", fn := fun _ => fun
  | [d] => { results := [.lit (.bool true)], args := [d] }
  | _ => none }
def fnExactValidEnumRow : OpenClaim := { program := "ytnfedlhjekghoaa", sum := "dcaf369f4dee49afbae38390bd5550c827512af703c1ddcb510762af7cf5f573", func := "loop.example/namedflags/laws.FnExactValidEnum", spec := "fnExactValidEnum", unfollowed := true, recurses := true, apart := false }
def FnExactValidEnumSaid : Prop := fnExactValidEnumRow.holds Try.pinned (OpenSpec.ofChange fnExactValidEnumSpec)

/-- ITS FALSE NEIGHBOUR: 'it returns false'. Refute it at one input. -/
def fnExactValidEnumWrong : ChangeSpec := { name := "fnExactValidEnum", fn := fun _ => fun
  | [d] => { results := [.lit (.bool false)], args := [d] }
  | _ => none }
def FnExactValidEnumWrongFalsely : Prop := fnExactValidEnumRow.holds Try.pinned (OpenSpec.ofChange fnExactValidEnumWrong)

/-- 'laws.FnExactValueOf': WHATEVER THE INPUT: true; the input reads as it did. -/
def fnExactValueOfSpec : ChangeSpec := { name := "fnExactValueOf", fn := fun _ => fun
  | [d1, d2] => { results := [.lit (.bool true)], args := [d1, d2] }
  | _ => none }
def fnExactValueOfRow : OpenClaim := { program := "ytnfedlhjekghoaa", sum := "dcaf369f4dee49afbae38390bd5550c827512af703c1ddcb510762af7cf5f573", func := "loop.example/namedflags/laws.FnExactValueOf", spec := "fnExactValueOf", unfollowed := true, recurses := true, apart := false }
def FnExactValueOfSaid : Prop := fnExactValueOfRow.holds Try.pinned (OpenSpec.ofChange fnExactValueOfSpec)

/-- ITS FALSE NEIGHBOUR: 'it returns false'. Refute it at one input. -/
def fnExactValueOfWrong : ChangeSpec := { name := "fnExactValueOf", fn := fun _ => fun
  | [d1, d2] => { results := [.lit (.bool false)], args := [d1, d2] }
  | _ => none }
def FnExactValueOfWrongFalsely : Prop := fnExactValueOfRow.holds Try.pinned (OpenSpec.ofChange fnExactValueOfWrong)

/-- 'laws.FnExactNameOf': WHATEVER THE INPUT: true; the input reads as it did. -/
def fnExactNameOfSpec : ChangeSpec := { name := "fnExactNameOf", fn := fun _ => fun
  | [d1, d2] => { results := [.lit (.bool true)], args := [d1, d2] }
  | _ => none }
def fnExactNameOfRow : OpenClaim := { program := "ytnfedlhjekghoaa", sum := "dcaf369f4dee49afbae38390bd5550c827512af703c1ddcb510762af7cf5f573", func := "loop.example/namedflags/laws.FnExactNameOf", spec := "fnExactNameOf", unfollowed := true, recurses := true, apart := false }
def FnExactNameOfSaid : Prop := fnExactNameOfRow.holds Try.pinned (OpenSpec.ofChange fnExactNameOfSpec)

/-- ITS FALSE NEIGHBOUR: 'it returns false'. Refute it at one input. -/
def fnExactNameOfWrong : ChangeSpec := { name := "fnExactNameOf", fn := fun _ => fun
  | [d1, d2] => { results := [.lit (.bool false)], args := [d1, d2] }
  | _ => none }
def FnExactNameOfWrongFalsely : Prop := fnExactNameOfRow.holds Try.pinned (OpenSpec.ofChange fnExactNameOfWrong)

/-- 'laws.FnExactIsUnique': WHATEVER THE INPUT: true; the input reads as it did. -/
def fnExactIsUniqueSpec : ChangeSpec := { name := "fnExactIsUnique", fn := fun _ => fun
  | [d] => { results := [.lit (.bool true)], args := [d] }
  | _ => none }
def fnExactIsUniqueRow : OpenClaim := { program := "ytnfedlhjekghoaa", sum := "dcaf369f4dee49afbae38390bd5550c827512af703c1ddcb510762af7cf5f573", func := "loop.example/namedflags/laws.FnExactIsUnique", spec := "fnExactIsUnique", unfollowed := true, recurses := true, apart := false }
def FnExactIsUniqueSaid : Prop := fnExactIsUniqueRow.holds Try.pinned (OpenSpec.ofChange fnExactIsUniqueSpec)

/-- ITS FALSE NEIGHBOUR: 'it returns false'. Refute it at one input. -/
def fnExactIsUniqueWrong : ChangeSpec := { name := "fnExactIsUnique", fn := fun _ => fun
  | [d] => { results := [.lit (.bool false)], args := [d] }
  | _ => none }
def FnExactIsUniqueWrongFalsely : Prop := fnExactIsUniqueRow.holds Try.pinned (OpenSpec.ofChange fnExactIsUniqueWrong)

/-- 'laws.FnExactRankOf': WHATEVER THE INPUT: true; the input reads as it did. -/
def fnExactRankOfSpec : ChangeSpec := { name := "fnExactRankOf", fn := fun _ => fun
  | [d1, d2] => { results := [.lit (.bool true)], args := [d1, d2] }
  | _ => none }
def fnExactRankOfRow : OpenClaim := { program := "ytnfedlhjekghoaa", sum := "dcaf369f4dee49afbae38390bd5550c827512af703c1ddcb510762af7cf5f573", func := "loop.example/namedflags/laws.FnExactRankOf", spec := "fnExactRankOf", unfollowed := true, recurses := true, apart := false }
def FnExactRankOfSaid : Prop := fnExactRankOfRow.holds Try.pinned (OpenSpec.ofChange fnExactRankOfSpec)

/-- ITS FALSE NEIGHBOUR: 'it returns false'. Refute it at one input. -/
def fnExactRankOfWrong : ChangeSpec := { name := "fnExactRankOf", fn := fun _ => fun
  | [d1, d2] => { results := [.lit (.bool false)], args := [d1, d2] }
  | _ => none }
def FnExactRankOfWrongFalsely : Prop := fnExactRankOfRow.holds Try.pinned (OpenSpec.ofChange fnExactRankOfWrong)

/-- 'laws.FnExactNextMember': WHATEVER THE INPUT: true; the input reads as it did. -/
def fnExactNextMemberSpec : ChangeSpec := { name := "fnExactNextMember", fn := fun _ => fun
  | [d1, d2] => { results := [.lit (.bool true)], args := [d1, d2] }
  | _ => none }
def fnExactNextMemberRow : OpenClaim := { program := "ytnfedlhjekghoaa", sum := "dcaf369f4dee49afbae38390bd5550c827512af703c1ddcb510762af7cf5f573", func := "loop.example/namedflags/laws.FnExactNextMember", spec := "fnExactNextMember", unfollowed := true, recurses := true, apart := false }
def FnExactNextMemberSaid : Prop := fnExactNextMemberRow.holds Try.pinned (OpenSpec.ofChange fnExactNextMemberSpec)

/-- ITS FALSE NEIGHBOUR: 'it returns false'. Refute it at one input. -/
def fnExactNextMemberWrong : ChangeSpec := { name := "fnExactNextMember", fn := fun _ => fun
  | [d1, d2] => { results := [.lit (.bool false)], args := [d1, d2] }
  | _ => none }
def FnExactNextMemberWrongFalsely : Prop := fnExactNextMemberRow.holds Try.pinned (OpenSpec.ofChange fnExactNextMemberWrong)

/-- 'laws.FnExactByName': WHATEVER THE INPUT: true; the input reads as it did. -/
def fnExactByNameSpec : ChangeSpec := { name := "fnExactByName", fn := fun _ => fun
  | [d1, d2, d3] => { results := [.lit (.bool true)], args := [d1, d2, d3] }
  | _ => none }
def fnExactByNameRow : OpenClaim := { program := "ytnfedlhjekghoaa", sum := "dcaf369f4dee49afbae38390bd5550c827512af703c1ddcb510762af7cf5f573", func := "loop.example/namedflags/laws.FnExactByName", spec := "fnExactByName", unfollowed := true, recurses := true, apart := false }
def FnExactByNameSaid : Prop := fnExactByNameRow.holds Try.pinned (OpenSpec.ofChange fnExactByNameSpec)

/-- ITS FALSE NEIGHBOUR: 'it returns false'. Refute it at one input. -/
def fnExactByNameWrong : ChangeSpec := { name := "fnExactByName", fn := fun _ => fun
  | [d1, d2, d3] => { results := [.lit (.bool false)], args := [d1, d2, d3] }
  | _ => none }
def FnExactByNameWrongFalsely : Prop := fnExactByNameRow.holds Try.pinned (OpenSpec.ofChange fnExactByNameWrong)

/-- 'laws.FnExactByValue': WHATEVER THE INPUT: true; the input reads as it did. -/
def fnExactByValueSpec : ChangeSpec := { name := "fnExactByValue", fn := fun _ => fun
  | [d1, d2, d3] => { results := [.lit (.bool true)], args := [d1, d2, d3] }
  | _ => none }
def fnExactByValueRow : OpenClaim := { program := "ytnfedlhjekghoaa", sum := "dcaf369f4dee49afbae38390bd5550c827512af703c1ddcb510762af7cf5f573", func := "loop.example/namedflags/laws.FnExactByValue", spec := "fnExactByValue", unfollowed := true, recurses := true, apart := false }
def FnExactByValueSaid : Prop := fnExactByValueRow.holds Try.pinned (OpenSpec.ofChange fnExactByValueSpec)

/-- ITS FALSE NEIGHBOUR: 'it returns false'. Refute it at one input. -/
def fnExactByValueWrong : ChangeSpec := { name := "fnExactByValue", fn := fun _ => fun
  | [d1, d2, d3] => { results := [.lit (.bool false)], args := [d1, d2, d3] }
  | _ => none }
def FnExactByValueWrongFalsely : Prop := fnExactByValueRow.holds Try.pinned (OpenSpec.ofChange fnExactByValueWrong)

/-- 'laws.FnExactReadsOld': WHATEVER THE INPUT: true; the input reads as it did. -/
def fnExactReadsOldSpec : ChangeSpec := { name := "fnExactReadsOld", fn := fun _ => fun
  | [d1, d2] => { results := [.lit (.bool true)], args := [d1, d2] }
  | _ => none }
def fnExactReadsOldRow : OpenClaim := { program := "ytnfedlhjekghoaa", sum := "dcaf369f4dee49afbae38390bd5550c827512af703c1ddcb510762af7cf5f573", func := "loop.example/namedflags/laws.FnExactReadsOld", spec := "fnExactReadsOld", unfollowed := true, recurses := true, apart := false }
def FnExactReadsOldSaid : Prop := fnExactReadsOldRow.holds Try.pinned (OpenSpec.ofChange fnExactReadsOldSpec)

/-- ITS FALSE NEIGHBOUR: 'it returns false'. Refute it at one input. -/
def fnExactReadsOldWrong : ChangeSpec := { name := "fnExactReadsOld", fn := fun _ => fun
  | [d1, d2] => { results := [.lit (.bool false)], args := [d1, d2] }
  | _ => none }
def FnExactReadsOldWrongFalsely : Prop := fnExactReadsOldRow.holds Try.pinned (OpenSpec.ofChange fnExactReadsOldWrong)

/-- 'laws.FnExactSameMeaning': WHATEVER THE INPUT: true; the input reads as it did. -/
def fnExactSameMeaningSpec : ChangeSpec := { name := "fnExactSameMeaning", fn := fun _ => fun
  | [d1, d2] => { results := [.lit (.bool true)], args := [d1, d2] }
  | _ => none }
def fnExactSameMeaningRow : OpenClaim := { program := "ytnfedlhjekghoaa", sum := "dcaf369f4dee49afbae38390bd5550c827512af703c1ddcb510762af7cf5f573", func := "loop.example/namedflags/laws.FnExactSameMeaning", spec := "fnExactSameMeaning", unfollowed := true, recurses := true, apart := false }
def FnExactSameMeaningSaid : Prop := fnExactSameMeaningRow.holds Try.pinned (OpenSpec.ofChange fnExactSameMeaningSpec)

/-- ITS FALSE NEIGHBOUR: 'it returns false'. Refute it at one input. -/
def fnExactSameMeaningWrong : ChangeSpec := { name := "fnExactSameMeaning", fn := fun _ => fun
  | [d1, d2] => { results := [.lit (.bool false)], args := [d1, d2] }
  | _ => none }
def FnExactSameMeaningWrongFalsely : Prop := fnExactSameMeaningRow.holds Try.pinned (OpenSpec.ofChange fnExactSameMeaningWrong)

/- THE SECOND FORM. 'bulk': how many values and letters a reading holds, each counted each time it is reached (what is shared counts as often as it is met; a slice's spare places count too). A statement '..UptoSaid' is the law's where the arguments, and the package variables that the reading takes, are together of bulk at most 1048576: NARROWER than '..Said'. Prove '..Said' where nothing that the law and all that it calls make is longer than what came in: it says more and counts as full. Else prove '..UptoSaid'. A law counts once. -/
mutual
def uptoBulk {H : Type} : DataW H → Nat
  | .lit (.string bytes) => bytes.length + 1
  | .lit _ => 1
  | .nil => 1
  | .ptr d => uptoBulk d + 1
  | .slice elems spare => uptoBulkAll elems + uptoBulkAll spare + 1
  | .agg parts => uptoBulkAll parts + 1
  | .iface _ d => uptoBulk d + 1
  | .map entries => uptoBulkEntries entries + 1
  | .held _ => 1
def uptoBulkAll {H : Type} : List (DataW H) → Nat
  | [] => 0
  | d :: r => uptoBulk d + uptoBulkAll r
def uptoBulkEntries {H : Type} : List (Lit × DataW H) → Nat
  | [] => 0
  | x :: r => uptoBulkEntry x + uptoBulkEntries r
def uptoBulkEntry {H : Type} : Lit × DataW H → Nat
  | (.string bytes, d) => bytes.length + uptoBulk d + 1
  | (_, d) => uptoBulk d + 1
 end
def uptoSmall : (H : Type) → List (DataW H) → Bool := fun _ ds => decide (uptoBulkAll ds ≤ 1048576)
def OpenSpec.upto (s : _root_.Go.ChangeSpec) : _root_.Go.OpenSpec := { _root_.Go.OpenSpec.ofChange s with cond := some uptoSmall }

/-- 'laws.FnExactConstants', WHERE WHAT IT READS IS OF BULK AT MOST 1048576: true; the input reads as it did. -/
def fnExactConstantsUptoRow : OpenClaim := { program := "ytnfedlhjekghoaa", sum := "dcaf369f4dee49afbae38390bd5550c827512af703c1ddcb510762af7cf5f573", func := "loop.example/namedflags/laws.FnExactConstants", spec := "fnExactConstants", apart := false, narrowed := true }
def FnExactConstantsUptoSaid : Prop := fnExactConstantsUptoRow.holds Try.pinned (OpenSpec.upto fnExactConstantsSpec)

/-- 'laws.FnExactValidName', WHERE WHAT IT READS IS OF BULK AT MOST 1048576: true; the input reads as it did. -/
def fnExactValidNameUptoRow : OpenClaim := { program := "ytnfedlhjekghoaa", sum := "dcaf369f4dee49afbae38390bd5550c827512af703c1ddcb510762af7cf5f573", func := "loop.example/namedflags/laws.FnExactValidName", spec := "fnExactValidName", apart := false, narrowed := true }
def FnExactValidNameUptoSaid : Prop := fnExactValidNameUptoRow.holds Try.pinned (OpenSpec.upto fnExactValidNameSpec)

/-- 'laws.FnExactValidEnum', WHERE WHAT IT READS IS OF BULK AT MOST 1048576: true; the input reads as it did. -/
def fnExactValidEnumUptoRow : OpenClaim := { program := "ytnfedlhjekghoaa", sum := "dcaf369f4dee49afbae38390bd5550c827512af703c1ddcb510762af7cf5f573", func := "loop.example/namedflags/laws.FnExactValidEnum", spec := "fnExactValidEnum", unfollowed := true, recurses := true, apart := false, narrowed := true }
def FnExactValidEnumUptoSaid : Prop := fnExactValidEnumUptoRow.holds Try.pinned (OpenSpec.upto fnExactValidEnumSpec)

/-- 'laws.FnExactValueOf', WHERE WHAT IT READS IS OF BULK AT MOST 1048576: true; the input reads as it did. -/
def fnExactValueOfUptoRow : OpenClaim := { program := "ytnfedlhjekghoaa", sum := "dcaf369f4dee49afbae38390bd5550c827512af703c1ddcb510762af7cf5f573", func := "loop.example/namedflags/laws.FnExactValueOf", spec := "fnExactValueOf", unfollowed := true, recurses := true, apart := false, narrowed := true }
def FnExactValueOfUptoSaid : Prop := fnExactValueOfUptoRow.holds Try.pinned (OpenSpec.upto fnExactValueOfSpec)

/-- 'laws.FnExactNameOf', WHERE WHAT IT READS IS OF BULK AT MOST 1048576: true; the input reads as it did. -/
def fnExactNameOfUptoRow : OpenClaim := { program := "ytnfedlhjekghoaa", sum := "dcaf369f4dee49afbae38390bd5550c827512af703c1ddcb510762af7cf5f573", func := "loop.example/namedflags/laws.FnExactNameOf", spec := "fnExactNameOf", unfollowed := true, recurses := true, apart := false, narrowed := true }
def FnExactNameOfUptoSaid : Prop := fnExactNameOfUptoRow.holds Try.pinned (OpenSpec.upto fnExactNameOfSpec)

/-- 'laws.FnExactIsUnique', WHERE WHAT IT READS IS OF BULK AT MOST 1048576: true; the input reads as it did. -/
def fnExactIsUniqueUptoRow : OpenClaim := { program := "ytnfedlhjekghoaa", sum := "dcaf369f4dee49afbae38390bd5550c827512af703c1ddcb510762af7cf5f573", func := "loop.example/namedflags/laws.FnExactIsUnique", spec := "fnExactIsUnique", unfollowed := true, recurses := true, apart := false, narrowed := true }
def FnExactIsUniqueUptoSaid : Prop := fnExactIsUniqueUptoRow.holds Try.pinned (OpenSpec.upto fnExactIsUniqueSpec)

/-- 'laws.FnExactRankOf', WHERE WHAT IT READS IS OF BULK AT MOST 1048576: true; the input reads as it did. -/
def fnExactRankOfUptoRow : OpenClaim := { program := "ytnfedlhjekghoaa", sum := "dcaf369f4dee49afbae38390bd5550c827512af703c1ddcb510762af7cf5f573", func := "loop.example/namedflags/laws.FnExactRankOf", spec := "fnExactRankOf", unfollowed := true, recurses := true, apart := false, narrowed := true }
def FnExactRankOfUptoSaid : Prop := fnExactRankOfUptoRow.holds Try.pinned (OpenSpec.upto fnExactRankOfSpec)

/-- 'laws.FnExactNextMember', WHERE WHAT IT READS IS OF BULK AT MOST 1048576: true; the input reads as it did. -/
def fnExactNextMemberUptoRow : OpenClaim := { program := "ytnfedlhjekghoaa", sum := "dcaf369f4dee49afbae38390bd5550c827512af703c1ddcb510762af7cf5f573", func := "loop.example/namedflags/laws.FnExactNextMember", spec := "fnExactNextMember", unfollowed := true, recurses := true, apart := false, narrowed := true }
def FnExactNextMemberUptoSaid : Prop := fnExactNextMemberUptoRow.holds Try.pinned (OpenSpec.upto fnExactNextMemberSpec)

/-- 'laws.FnExactByName', WHERE WHAT IT READS IS OF BULK AT MOST 1048576: true; the input reads as it did. -/
def fnExactByNameUptoRow : OpenClaim := { program := "ytnfedlhjekghoaa", sum := "dcaf369f4dee49afbae38390bd5550c827512af703c1ddcb510762af7cf5f573", func := "loop.example/namedflags/laws.FnExactByName", spec := "fnExactByName", unfollowed := true, recurses := true, apart := false, narrowed := true }
def FnExactByNameUptoSaid : Prop := fnExactByNameUptoRow.holds Try.pinned (OpenSpec.upto fnExactByNameSpec)

/-- 'laws.FnExactByValue', WHERE WHAT IT READS IS OF BULK AT MOST 1048576: true; the input reads as it did. -/
def fnExactByValueUptoRow : OpenClaim := { program := "ytnfedlhjekghoaa", sum := "dcaf369f4dee49afbae38390bd5550c827512af703c1ddcb510762af7cf5f573", func := "loop.example/namedflags/laws.FnExactByValue", spec := "fnExactByValue", unfollowed := true, recurses := true, apart := false, narrowed := true }
def FnExactByValueUptoSaid : Prop := fnExactByValueUptoRow.holds Try.pinned (OpenSpec.upto fnExactByValueSpec)

/-- 'laws.FnExactReadsOld', WHERE WHAT IT READS IS OF BULK AT MOST 1048576: true; the input reads as it did. -/
def fnExactReadsOldUptoRow : OpenClaim := { program := "ytnfedlhjekghoaa", sum := "dcaf369f4dee49afbae38390bd5550c827512af703c1ddcb510762af7cf5f573", func := "loop.example/namedflags/laws.FnExactReadsOld", spec := "fnExactReadsOld", unfollowed := true, recurses := true, apart := false, narrowed := true }
def FnExactReadsOldUptoSaid : Prop := fnExactReadsOldUptoRow.holds Try.pinned (OpenSpec.upto fnExactReadsOldSpec)

/-- 'laws.FnExactSameMeaning', WHERE WHAT IT READS IS OF BULK AT MOST 1048576: true; the input reads as it did. -/
def fnExactSameMeaningUptoRow : OpenClaim := { program := "ytnfedlhjekghoaa", sum := "dcaf369f4dee49afbae38390bd5550c827512af703c1ddcb510762af7cf5f573", func := "loop.example/namedflags/laws.FnExactSameMeaning", spec := "fnExactSameMeaning", unfollowed := true, recurses := true, apart := false, narrowed := true }
def FnExactSameMeaningUptoSaid : Prop := fnExactSameMeaningUptoRow.holds Try.pinned (OpenSpec.upto fnExactSameMeaningSpec)

end Rows
end Go.Proofs.Ytnfedlhjekghoaa
