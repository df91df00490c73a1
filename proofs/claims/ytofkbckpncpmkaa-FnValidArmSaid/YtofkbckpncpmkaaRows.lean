/-
  No cell of these rows narrows 'for every input' (looked for: loops, veiled, ifaces, maps, wideKeys, modest, calm, conditions, laid).
  DERIVED. THE GIVEN ROWS OF THIS SEAT. 14 by the template 'for every input the law returns true; each argument reads behind the call as it read before'; 0 by the template 'total and deterministic' (their statements: YtofkbckpncpmkaaTotals.lean).
  GIVEN WITH THE SEED: the statements are not yours to turn. If you find one false, say at which input.
  Laid BY PROGRAM, IN A SANDBOX (cutbox-rows.mjs): the forced cells as the released guide's own fill.sh prints them over the translation b0ae02a54459cb6c… (all of the seat's roots in one cut). By AI agents, Wed Nov 11 2026. No macro, syntax, notation, axiom, sorry.
-/
import Derived.Test.YtofkbckpncpmkaaChecked
import GoSem.Claim
import GoSem.ClaimJoined
import GoSem.ClaimMapViews
import Derived.JoinedTies
import Derived.KernelRfl
namespace Go.Proofs.Ytofkbckpncpmkaa
/- THE CELL 'sum', in the pinned program and in every row, IS THE sha256 OF THE DUMP (.gsa) THAT YtofkbckpncpmkaaProg.lean LOADS. Nothing in Lean hashes anything: it is a label: what it is worth is what the hold of that sum in a sandbox is worth. -/
noncomputable def Try.pinned : Pinned := { name := "ytofkbckpncpmkaa", sum := "b0ae02a54459cb6c953483062e22be8e122166564a2be3810235a8613cb47cd6", checked := Try.checked }
namespace Rows
def none {H : Type} : Left H := { results := [], args := [] }

/-- 'laws.FnValidFlag': WHATEVER THE INPUT: true; the input reads as it did. -/
def fnValidFlagSpec : ChangeSpec := { name := "fnValidFlag", fn := fun _ => fun
  | [d] => { results := [.lit (.bool true)], args := [d] }
  | _ => none }
def fnValidFlagRow : OpenClaim := { program := "ytofkbckpncpmkaa", sum := "b0ae02a54459cb6c953483062e22be8e122166564a2be3810235a8613cb47cd6", func := "loop.example/namedflags/laws.FnValidFlag", spec := "fnValidFlag", unfollowed := true, recurses := true, apart := false }
def FnValidFlagSaid : Prop := fnValidFlagRow.holds Try.pinned (OpenSpec.ofChange fnValidFlagSpec)

/-- ITS FALSE NEIGHBOUR: 'it returns false'. Refute it at one input. -/
def fnValidFlagWrong : ChangeSpec := { name := "fnValidFlag", fn := fun _ => fun
  | [d] => { results := [.lit (.bool false)], args := [d] }
  | _ => none }
def FnValidFlagWrongFalsely : Prop := fnValidFlagRow.holds Try.pinned (OpenSpec.ofChange fnValidFlagWrong)

/-- 'laws.FnExactName': WHATEVER THE INPUT: true; the input reads as it did. -/
def fnExactNameSpec : ChangeSpec := { name := "fnExactName", fn := fun _ => fun
  | [d] => { results := [.lit (.bool true)], args := [d] }
  | _ => none }
def fnExactNameRow : OpenClaim := { program := "ytofkbckpncpmkaa", sum := "b0ae02a54459cb6c953483062e22be8e122166564a2be3810235a8613cb47cd6", func := "loop.example/namedflags/laws.FnExactName", spec := "fnExactName", unfollowed := true, recurses := true, apart := false }
def FnExactNameSaid : Prop := fnExactNameRow.holds Try.pinned (OpenSpec.ofChange fnExactNameSpec)

/-- ITS FALSE NEIGHBOUR: 'it returns false'. Refute it at one input. -/
def fnExactNameWrong : ChangeSpec := { name := "fnExactName", fn := fun _ => fun
  | [d] => { results := [.lit (.bool false)], args := [d] }
  | _ => none }
def FnExactNameWrongFalsely : Prop := fnExactNameRow.holds Try.pinned (OpenSpec.ofChange fnExactNameWrong)

/-- 'laws.FnWithBound': WHATEVER THE INPUT: true; the input reads as it did. -/
def fnWithBoundSpec : ChangeSpec := { name := "fnWithBound", fn := fun _ => fun
  | [d] => { results := [.lit (.bool true)], args := [d] }
  | _ => none }
def fnWithBoundRow : OpenClaim := { program := "ytofkbckpncpmkaa", sum := "b0ae02a54459cb6c953483062e22be8e122166564a2be3810235a8613cb47cd6", func := "loop.example/namedflags/laws.FnWithBound", spec := "fnWithBound", unfollowed := true, recurses := true, apart := false }
def FnWithBoundSaid : Prop := fnWithBoundRow.holds Try.pinned (OpenSpec.ofChange fnWithBoundSpec)

/-- ITS FALSE NEIGHBOUR: 'it returns false'. Refute it at one input. -/
def fnWithBoundWrong : ChangeSpec := { name := "fnWithBound", fn := fun _ => fun
  | [d] => { results := [.lit (.bool false)], args := [d] }
  | _ => none }
def FnWithBoundWrongFalsely : Prop := fnWithBoundRow.holds Try.pinned (OpenSpec.ofChange fnWithBoundWrong)

/-- 'laws.FnMaskOf': WHATEVER THE INPUT: true; the input reads as it did. -/
def fnMaskOfSpec : ChangeSpec := { name := "fnMaskOf", fn := fun _ => fun
  | [d] => { results := [.lit (.bool true)], args := [d] }
  | _ => none }
def fnMaskOfRow : OpenClaim := { program := "ytofkbckpncpmkaa", sum := "b0ae02a54459cb6c953483062e22be8e122166564a2be3810235a8613cb47cd6", func := "loop.example/namedflags/laws.FnMaskOf", spec := "fnMaskOf", unfollowed := true, recurses := true, apart := false }
def FnMaskOfSaid : Prop := fnMaskOfRow.holds Try.pinned (OpenSpec.ofChange fnMaskOfSpec)

/-- ITS FALSE NEIGHBOUR: 'it returns false'. Refute it at one input. -/
def fnMaskOfWrong : ChangeSpec := { name := "fnMaskOf", fn := fun _ => fun
  | [d] => { results := [.lit (.bool false)], args := [d] }
  | _ => none }
def FnMaskOfWrongFalsely : Prop := fnMaskOfRow.holds Try.pinned (OpenSpec.ofChange fnMaskOfWrong)

/-- 'laws.FnIsValue': WHATEVER THE INPUT: true; the input reads as it did. -/
def fnIsValueSpec : ChangeSpec := { name := "fnIsValue", fn := fun _ => fun
  | [d] => { results := [.lit (.bool true)], args := [d] }
  | _ => none }
def fnIsValueRow : OpenClaim := { program := "ytofkbckpncpmkaa", sum := "b0ae02a54459cb6c953483062e22be8e122166564a2be3810235a8613cb47cd6", func := "loop.example/namedflags/laws.FnIsValue", spec := "fnIsValue", unfollowed := true, recurses := true, apart := false }
def FnIsValueSaid : Prop := fnIsValueRow.holds Try.pinned (OpenSpec.ofChange fnIsValueSpec)

/-- ITS FALSE NEIGHBOUR: 'it returns false'. Refute it at one input. -/
def fnIsValueWrong : ChangeSpec := { name := "fnIsValue", fn := fun _ => fun
  | [d] => { results := [.lit (.bool false)], args := [d] }
  | _ => none }
def FnIsValueWrongFalsely : Prop := fnIsValueRow.holds Try.pinned (OpenSpec.ofChange fnIsValueWrong)

/-- 'laws.FnFromNames': WHATEVER THE INPUT: true; the input reads as it did. -/
def fnFromNamesSpec : ChangeSpec := { name := "fnFromNames", fn := fun _ => fun
  | [d] => { results := [.lit (.bool true)], args := [d] }
  | _ => none }
def fnFromNamesRow : OpenClaim := { program := "ytofkbckpncpmkaa", sum := "b0ae02a54459cb6c953483062e22be8e122166564a2be3810235a8613cb47cd6", func := "loop.example/namedflags/laws.FnFromNames", spec := "fnFromNames", unfollowed := true, recurses := true, apart := false }
def FnFromNamesSaid : Prop := fnFromNamesRow.holds Try.pinned (OpenSpec.ofChange fnFromNamesSpec)

/-- ITS FALSE NEIGHBOUR: 'it returns false'. Refute it at one input. -/
def fnFromNamesWrong : ChangeSpec := { name := "fnFromNames", fn := fun _ => fun
  | [d] => { results := [.lit (.bool false)], args := [d] }
  | _ => none }
def FnFromNamesWrongFalsely : Prop := fnFromNamesRow.holds Try.pinned (OpenSpec.ofChange fnFromNamesWrong)

/-- 'laws.FnHasAll': WHATEVER THE INPUT: true; the input reads as it did. -/
def fnHasAllSpec : ChangeSpec := { name := "fnHasAll", fn := fun _ => fun
  | [d] => { results := [.lit (.bool true)], args := [d] }
  | _ => none }
def fnHasAllRow : OpenClaim := { program := "ytofkbckpncpmkaa", sum := "b0ae02a54459cb6c953483062e22be8e122166564a2be3810235a8613cb47cd6", func := "loop.example/namedflags/laws.FnHasAll", spec := "fnHasAll", unfollowed := true, recurses := true, apart := false }
def FnHasAllSaid : Prop := fnHasAllRow.holds Try.pinned (OpenSpec.ofChange fnHasAllSpec)

/-- ITS FALSE NEIGHBOUR: 'it returns false'. Refute it at one input. -/
def fnHasAllWrong : ChangeSpec := { name := "fnHasAll", fn := fun _ => fun
  | [d] => { results := [.lit (.bool false)], args := [d] }
  | _ => none }
def FnHasAllWrongFalsely : Prop := fnHasAllRow.holds Try.pinned (OpenSpec.ofChange fnHasAllWrong)

/-- 'laws.FnAndValues': WHATEVER THE INPUT: true; the input reads as it did. -/
def fnAndValuesSpec : ChangeSpec := { name := "fnAndValues", fn := fun _ => fun
  | [d] => { results := [.lit (.bool true)], args := [d] }
  | _ => none }
def fnAndValuesRow : OpenClaim := { program := "ytofkbckpncpmkaa", sum := "b0ae02a54459cb6c953483062e22be8e122166564a2be3810235a8613cb47cd6", func := "loop.example/namedflags/laws.FnAndValues", spec := "fnAndValues", unfollowed := true, recurses := true, apart := false }
def FnAndValuesSaid : Prop := fnAndValuesRow.holds Try.pinned (OpenSpec.ofChange fnAndValuesSpec)

/-- ITS FALSE NEIGHBOUR: 'it returns false'. Refute it at one input. -/
def fnAndValuesWrong : ChangeSpec := { name := "fnAndValues", fn := fun _ => fun
  | [d] => { results := [.lit (.bool false)], args := [d] }
  | _ => none }
def FnAndValuesWrongFalsely : Prop := fnAndValuesRow.holds Try.pinned (OpenSpec.ofChange fnAndValuesWrong)

/-- 'laws.FnOrValues': WHATEVER THE INPUT: true; the input reads as it did. -/
def fnOrValuesSpec : ChangeSpec := { name := "fnOrValues", fn := fun _ => fun
  | [d] => { results := [.lit (.bool true)], args := [d] }
  | _ => none }
def fnOrValuesRow : OpenClaim := { program := "ytofkbckpncpmkaa", sum := "b0ae02a54459cb6c953483062e22be8e122166564a2be3810235a8613cb47cd6", func := "loop.example/namedflags/laws.FnOrValues", spec := "fnOrValues", unfollowed := true, recurses := true, apart := false }
def FnOrValuesSaid : Prop := fnOrValuesRow.holds Try.pinned (OpenSpec.ofChange fnOrValuesSpec)

/-- ITS FALSE NEIGHBOUR: 'it returns false'. Refute it at one input. -/
def fnOrValuesWrong : ChangeSpec := { name := "fnOrValues", fn := fun _ => fun
  | [d] => { results := [.lit (.bool false)], args := [d] }
  | _ => none }
def FnOrValuesWrongFalsely : Prop := fnOrValuesRow.holds Try.pinned (OpenSpec.ofChange fnOrValuesWrong)

/-- 'laws.FnLessValues': WHATEVER THE INPUT: true; the input reads as it did. -/
def fnLessValuesSpec : ChangeSpec := { name := "fnLessValues", fn := fun _ => fun
  | [d] => { results := [.lit (.bool true)], args := [d] }
  | _ => none }
def fnLessValuesRow : OpenClaim := { program := "ytofkbckpncpmkaa", sum := "b0ae02a54459cb6c953483062e22be8e122166564a2be3810235a8613cb47cd6", func := "loop.example/namedflags/laws.FnLessValues", spec := "fnLessValues", unfollowed := true, recurses := true, apart := false }
def FnLessValuesSaid : Prop := fnLessValuesRow.holds Try.pinned (OpenSpec.ofChange fnLessValuesSpec)

/-- ITS FALSE NEIGHBOUR: 'it returns false'. Refute it at one input. -/
def fnLessValuesWrong : ChangeSpec := { name := "fnLessValues", fn := fun _ => fun
  | [d] => { results := [.lit (.bool false)], args := [d] }
  | _ => none }
def FnLessValuesWrongFalsely : Prop := fnLessValuesRow.holds Try.pinned (OpenSpec.ofChange fnLessValuesWrong)

/-- 'laws.FnXorValues': WHATEVER THE INPUT: true; the input reads as it did. -/
def fnXorValuesSpec : ChangeSpec := { name := "fnXorValues", fn := fun _ => fun
  | [d] => { results := [.lit (.bool true)], args := [d] }
  | _ => none }
def fnXorValuesRow : OpenClaim := { program := "ytofkbckpncpmkaa", sum := "b0ae02a54459cb6c953483062e22be8e122166564a2be3810235a8613cb47cd6", func := "loop.example/namedflags/laws.FnXorValues", spec := "fnXorValues", unfollowed := true, recurses := true, apart := false }
def FnXorValuesSaid : Prop := fnXorValuesRow.holds Try.pinned (OpenSpec.ofChange fnXorValuesSpec)

/-- ITS FALSE NEIGHBOUR: 'it returns false'. Refute it at one input. -/
def fnXorValuesWrong : ChangeSpec := { name := "fnXorValues", fn := fun _ => fun
  | [d] => { results := [.lit (.bool false)], args := [d] }
  | _ => none }
def FnXorValuesWrongFalsely : Prop := fnXorValuesRow.holds Try.pinned (OpenSpec.ofChange fnXorValuesWrong)

/-- 'laws.FnAndValuesOr': WHATEVER THE INPUT: true; the input reads as it did. -/
def fnAndValuesOrSpec : ChangeSpec := { name := "fnAndValuesOr", fn := fun _ => fun
  | [d] => { results := [.lit (.bool true)], args := [d] }
  | _ => none }
def fnAndValuesOrRow : OpenClaim := { program := "ytofkbckpncpmkaa", sum := "b0ae02a54459cb6c953483062e22be8e122166564a2be3810235a8613cb47cd6", func := "loop.example/namedflags/laws.FnAndValuesOr", spec := "fnAndValuesOr", unfollowed := true, recurses := true, apart := false }
def FnAndValuesOrSaid : Prop := fnAndValuesOrRow.holds Try.pinned (OpenSpec.ofChange fnAndValuesOrSpec)

/-- ITS FALSE NEIGHBOUR: 'it returns false'. Refute it at one input. -/
def fnAndValuesOrWrong : ChangeSpec := { name := "fnAndValuesOr", fn := fun _ => fun
  | [d] => { results := [.lit (.bool false)], args := [d] }
  | _ => none }
def FnAndValuesOrWrongFalsely : Prop := fnAndValuesOrRow.holds Try.pinned (OpenSpec.ofChange fnAndValuesOrWrong)

/-- 'laws.FnCompareValues': WHATEVER THE INPUT: true; the input reads as it did. -/
def fnCompareValuesSpec : ChangeSpec := { name := "fnCompareValues", fn := fun _ => fun
  | [d] => { results := [.lit (.bool true)], args := [d] }
  | _ => none }
def fnCompareValuesRow : OpenClaim := { program := "ytofkbckpncpmkaa", sum := "b0ae02a54459cb6c953483062e22be8e122166564a2be3810235a8613cb47cd6", func := "loop.example/namedflags/laws.FnCompareValues", spec := "fnCompareValues", unfollowed := true, recurses := true, apart := false }
def FnCompareValuesSaid : Prop := fnCompareValuesRow.holds Try.pinned (OpenSpec.ofChange fnCompareValuesSpec)

/-- ITS FALSE NEIGHBOUR: 'it returns false'. Refute it at one input. -/
def fnCompareValuesWrong : ChangeSpec := { name := "fnCompareValues", fn := fun _ => fun
  | [d] => { results := [.lit (.bool false)], args := [d] }
  | _ => none }
def FnCompareValuesWrongFalsely : Prop := fnCompareValuesRow.holds Try.pinned (OpenSpec.ofChange fnCompareValuesWrong)

/-- 'laws.FnValidArm': WHATEVER THE INPUT: true; the input reads as it did. -/
def fnValidArmSpec : ChangeSpec := { name := "fnValidArm", fn := fun _ => fun
  | [d] => { results := [.lit (.bool true)], args := [d] }
  | _ => none }
def fnValidArmRow : OpenClaim := { program := "ytofkbckpncpmkaa", sum := "b0ae02a54459cb6c953483062e22be8e122166564a2be3810235a8613cb47cd6", func := "loop.example/namedflags/laws.FnValidArm", spec := "fnValidArm", unfollowed := true, recurses := true, apart := false }
def FnValidArmSaid : Prop := fnValidArmRow.holds Try.pinned (OpenSpec.ofChange fnValidArmSpec)

/-- ITS FALSE NEIGHBOUR: 'it returns false'. Refute it at one input. -/
def fnValidArmWrong : ChangeSpec := { name := "fnValidArm", fn := fun _ => fun
  | [d] => { results := [.lit (.bool false)], args := [d] }
  | _ => none }
def FnValidArmWrongFalsely : Prop := fnValidArmRow.holds Try.pinned (OpenSpec.ofChange fnValidArmWrong)

/- THE SECOND FORM. 'bulk': how many values and letters a reading holds, each counted each time it is reached (what is shared counts as often as it is met; a slice's spare places count too). A statement '..UptoSaid' is the law's where the arguments, and the package variables that the reading takes, are together of bulk at most 1048576: NARROWER than '..Said'. Prove '..Said' where nothing that the law and all that it calls make is longer than what came in: it says more and counts as full. Else prove '..UptoSaid'. A law counts once. -/
mutual
def uptoBulk {H : Type} : DataW H → Nat
  | .lit (.string bytes) => bytes.length + 1
  | .lit _ => 1
  | .nil => 1
  | .ptr d => uptoBulk d + 1
  | .slice elems spare => uptoBulkAll elems + uptoBulkAll spare + 1
  | .agg parts => uptoBulkAll parts + 1
  | .iface _ d => uptoBulk d + 1
  | .map entries => uptoBulkEntries entries + 1
  | .held _ => 1
def uptoBulkAll {H : Type} : List (DataW H) → Nat
  | [] => 0
  | d :: r => uptoBulk d + uptoBulkAll r
def uptoBulkEntries {H : Type} : List (Lit × DataW H) → Nat
  | [] => 0
  | x :: r => uptoBulkEntry x + uptoBulkEntries r
def uptoBulkEntry {H : Type} : Lit × DataW H → Nat
  | (.string bytes, d) => bytes.length + uptoBulk d + 1
  | (_, d) => uptoBulk d + 1
 end
def uptoSmall : (H : Type) → List (DataW H) → Bool := fun _ ds => decide (uptoBulkAll ds ≤ 1048576)
def OpenSpec.upto (s : _root_.Go.ChangeSpec) : _root_.Go.OpenSpec := { _root_.Go.OpenSpec.ofChange s with cond := some uptoSmall }

/-- 'laws.FnValidFlag', WHERE WHAT IT READS IS OF BULK AT MOST 1048576: true; the input reads as it did. -/
def fnValidFlagUptoRow : OpenClaim := { program := "ytofkbckpncpmkaa", sum := "b0ae02a54459cb6c953483062e22be8e122166564a2be3810235a8613cb47cd6", func := "loop.example/namedflags/laws.FnValidFlag", spec := "fnValidFlag", unfollowed := true, recurses := true, apart := false, narrowed := true }
def FnValidFlagUptoSaid : Prop := fnValidFlagUptoRow.holds Try.pinned (OpenSpec.upto fnValidFlagSpec)

/-- 'laws.FnExactName', WHERE WHAT IT READS IS OF BULK AT MOST 1048576: true; the input reads as it did. -/
def fnExactNameUptoRow : OpenClaim := { program := "ytofkbckpncpmkaa", sum := "b0ae02a54459cb6c953483062e22be8e122166564a2be3810235a8613cb47cd6", func := "loop.example/namedflags/laws.FnExactName", spec := "fnExactName", unfollowed := true, recurses := true, apart := false, narrowed := true }
def FnExactNameUptoSaid : Prop := fnExactNameUptoRow.holds Try.pinned (OpenSpec.upto fnExactNameSpec)

/-- 'laws.FnWithBound', WHERE WHAT IT READS IS OF BULK AT MOST 1048576: true; the input reads as it did. -/
def fnWithBoundUptoRow : OpenClaim := { program := "ytofkbckpncpmkaa", sum := "b0ae02a54459cb6c953483062e22be8e122166564a2be3810235a8613cb47cd6", func := "loop.example/namedflags/laws.FnWithBound", spec := "fnWithBound", unfollowed := true, recurses := true, apart := false, narrowed := true }
def FnWithBoundUptoSaid : Prop := fnWithBoundUptoRow.holds Try.pinned (OpenSpec.upto fnWithBoundSpec)

/-- 'laws.FnMaskOf', WHERE WHAT IT READS IS OF BULK AT MOST 1048576: true; the input reads as it did. -/
def fnMaskOfUptoRow : OpenClaim := { program := "ytofkbckpncpmkaa", sum := "b0ae02a54459cb6c953483062e22be8e122166564a2be3810235a8613cb47cd6", func := "loop.example/namedflags/laws.FnMaskOf", spec := "fnMaskOf", unfollowed := true, recurses := true, apart := false, narrowed := true }
def FnMaskOfUptoSaid : Prop := fnMaskOfUptoRow.holds Try.pinned (OpenSpec.upto fnMaskOfSpec)

/-- 'laws.FnIsValue', WHERE WHAT IT READS IS OF BULK AT MOST 1048576: true; the input reads as it did. -/
def fnIsValueUptoRow : OpenClaim := { program := "ytofkbckpncpmkaa", sum := "b0ae02a54459cb6c953483062e22be8e122166564a2be3810235a8613cb47cd6", func := "loop.example/namedflags/laws.FnIsValue", spec := "fnIsValue", unfollowed := true, recurses := true, apart := false, narrowed := true }
def FnIsValueUptoSaid : Prop := fnIsValueUptoRow.holds Try.pinned (OpenSpec.upto fnIsValueSpec)

/-- 'laws.FnFromNames', WHERE WHAT IT READS IS OF BULK AT MOST 1048576: true; the input reads as it did. -/
def fnFromNamesUptoRow : OpenClaim := { program := "ytofkbckpncpmkaa", sum := "b0ae02a54459cb6c953483062e22be8e122166564a2be3810235a8613cb47cd6", func := "loop.example/namedflags/laws.FnFromNames", spec := "fnFromNames", unfollowed := true, recurses := true, apart := false, narrowed := true }
def FnFromNamesUptoSaid : Prop := fnFromNamesUptoRow.holds Try.pinned (OpenSpec.upto fnFromNamesSpec)

/-- 'laws.FnHasAll', WHERE WHAT IT READS IS OF BULK AT MOST 1048576: true; the input reads as it did. -/
def fnHasAllUptoRow : OpenClaim := { program := "ytofkbckpncpmkaa", sum := "b0ae02a54459cb6c953483062e22be8e122166564a2be3810235a8613cb47cd6", func := "loop.example/namedflags/laws.FnHasAll", spec := "fnHasAll", unfollowed := true, recurses := true, apart := false, narrowed := true }
def FnHasAllUptoSaid : Prop := fnHasAllUptoRow.holds Try.pinned (OpenSpec.upto fnHasAllSpec)

/-- 'laws.FnAndValues', WHERE WHAT IT READS IS OF BULK AT MOST 1048576: true; the input reads as it did. -/
def fnAndValuesUptoRow : OpenClaim := { program := "ytofkbckpncpmkaa", sum := "b0ae02a54459cb6c953483062e22be8e122166564a2be3810235a8613cb47cd6", func := "loop.example/namedflags/laws.FnAndValues", spec := "fnAndValues", unfollowed := true, recurses := true, apart := false, narrowed := true }
def FnAndValuesUptoSaid : Prop := fnAndValuesUptoRow.holds Try.pinned (OpenSpec.upto fnAndValuesSpec)

/-- 'laws.FnOrValues', WHERE WHAT IT READS IS OF BULK AT MOST 1048576: true; the input reads as it did. -/
def fnOrValuesUptoRow : OpenClaim := { program := "ytofkbckpncpmkaa", sum := "b0ae02a54459cb6c953483062e22be8e122166564a2be3810235a8613cb47cd6", func := "loop.example/namedflags/laws.FnOrValues", spec := "fnOrValues", unfollowed := true, recurses := true, apart := false, narrowed := true }
def FnOrValuesUptoSaid : Prop := fnOrValuesUptoRow.holds Try.pinned (OpenSpec.upto fnOrValuesSpec)

/-- 'laws.FnLessValues', WHERE WHAT IT READS IS OF BULK AT MOST 1048576: true; the input reads as it did. -/
def fnLessValuesUptoRow : OpenClaim := { program := "ytofkbckpncpmkaa", sum := "b0ae02a54459cb6c953483062e22be8e122166564a2be3810235a8613cb47cd6", func := "loop.example/namedflags/laws.FnLessValues", spec := "fnLessValues", unfollowed := true, recurses := true, apart := false, narrowed := true }
def FnLessValuesUptoSaid : Prop := fnLessValuesUptoRow.holds Try.pinned (OpenSpec.upto fnLessValuesSpec)

/-- 'laws.FnXorValues', WHERE WHAT IT READS IS OF BULK AT MOST 1048576: true; the input reads as it did. -/
def fnXorValuesUptoRow : OpenClaim := { program := "ytofkbckpncpmkaa", sum := "b0ae02a54459cb6c953483062e22be8e122166564a2be3810235a8613cb47cd6", func := "loop.example/namedflags/laws.FnXorValues", spec := "fnXorValues", unfollowed := true, recurses := true, apart := false, narrowed := true }
def FnXorValuesUptoSaid : Prop := fnXorValuesUptoRow.holds Try.pinned (OpenSpec.upto fnXorValuesSpec)

/-- 'laws.FnAndValuesOr', WHERE WHAT IT READS IS OF BULK AT MOST 1048576: true; the input reads as it did. -/
def fnAndValuesOrUptoRow : OpenClaim := { program := "ytofkbckpncpmkaa", sum := "b0ae02a54459cb6c953483062e22be8e122166564a2be3810235a8613cb47cd6", func := "loop.example/namedflags/laws.FnAndValuesOr", spec := "fnAndValuesOr", unfollowed := true, recurses := true, apart := false, narrowed := true }
def FnAndValuesOrUptoSaid : Prop := fnAndValuesOrUptoRow.holds Try.pinned (OpenSpec.upto fnAndValuesOrSpec)

/-- 'laws.FnCompareValues', WHERE WHAT IT READS IS OF BULK AT MOST 1048576: true; the input reads as it did. -/
def fnCompareValuesUptoRow : OpenClaim := { program := "ytofkbckpncpmkaa", sum := "b0ae02a54459cb6c953483062e22be8e122166564a2be3810235a8613cb47cd6", func := "loop.example/namedflags/laws.FnCompareValues", spec := "fnCompareValues", unfollowed := true, recurses := true, apart := false, narrowed := true }
def FnCompareValuesUptoSaid : Prop := fnCompareValuesUptoRow.holds Try.pinned (OpenSpec.upto fnCompareValuesSpec)

/-- 'laws.FnValidArm', WHERE WHAT IT READS IS OF BULK AT MOST 1048576: true; the input reads as it did. -/
def fnValidArmUptoRow : OpenClaim := { program := "ytofkbckpncpmkaa", sum := "b0ae02a54459cb6c953483062e22be8e122166564a2be3810235a8613cb47cd6", func := "loop.example/namedflags/laws.FnValidArm", spec := "fnValidArm", unfollowed := true, recurses := true, apart := false, narrowed := true }
def FnValidArmUptoSaid : Prop := fnValidArmUptoRow.holds Try.pinned (OpenSpec.upto fnValidArmSpec)

end Rows
end Go.Proofs.Ytofkbckpncpmkaa
