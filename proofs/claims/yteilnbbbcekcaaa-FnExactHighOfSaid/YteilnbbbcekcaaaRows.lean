/-
  No cell of these rows narrows 'for every input' (looked for: loops, veiled, ifaces, maps, wideKeys, modest, calm, conditions, laid).
  DERIVED. THE GIVEN ROWS OF THIS SEAT. 12 by the template 'for every input the law returns true; each argument reads behind the call as it read before'; 0 by the template 'total and deterministic' (their statements: YteilnbbbcekcaaaTotals.lean).
  GIVEN WITH THE SEED: the statements are not yours to turn. If you find one false, say at which input.
  Laid BY PROGRAM, IN A SANDBOX (cutbox-rows.mjs): the forced cells as the released guide's own fill.sh prints them over the translation 4a101e591be84541… (all of the seat's roots in one cut). By AI agents, Wed Nov 11 2026. No macro, syntax, notation, axiom, sorry.
-/
import Derived.Test.YteilnbbbcekcaaaChecked
import GoSem.Claim
import GoSem.ClaimJoined
import GoSem.ClaimMapViews
import Derived.JoinedTies
import Derived.KernelRfl
namespace Go.Proofs.Yteilnbbbcekcaaa
/- THE CELL 'sum', in the pinned program and in every row, IS THE sha256 OF THE DUMP (.gsa) THAT YteilnbbbcekcaaaProg.lean LOADS. Nothing in Lean hashes anything: it is a label: what it is worth is what the hold of that sum in a sandbox is worth. -/
noncomputable def Try.pinned : Pinned := { name := "yteilnbbbcekcaaa", sum := "4a101e591be8454122c0a8316482871016c9fcce4f6f9ff99a5c53cd928b824e", checked := Try.checked }
namespace Rows
def none {H : Type} : Left H := { results := [], args := [] }

/-- 'laws.FnExactValidFlag': WHATEVER THE INPUT: true; the input reads as it did. -/
def fnExactValidFlagSpec : ChangeSpec := { name := "fnExactValidFlag", fn := fun _ => fun
  | [d] => { results := [.lit (.bool true)], args := [d] }
  | _ => none }
def fnExactValidFlagRow : OpenClaim := { program := "yteilnbbbcekcaaa", sum := "4a101e591be8454122c0a8316482871016c9fcce4f6f9ff99a5c53cd928b824e", func := "loop.example/namedflags/laws.FnExactValidFlag", spec := "fnExactValidFlag", unfollowed := true, recurses := true, apart := false }
def FnExactValidFlagSaid : Prop := fnExactValidFlagRow.holds Try.pinned (OpenSpec.ofChange fnExactValidFlagSpec)

/-- ITS FALSE NEIGHBOUR: 'it returns false'. Refute it at one input. -/
def fnExactValidFlagWrong : ChangeSpec := { name := "fnExactValidFlag", fn := fun _ => fun
  | [d] => { results := [.lit (.bool false)], args := [d] }
  | _ => none }
def FnExactValidFlagWrongFalsely : Prop := fnExactValidFlagRow.holds Try.pinned (OpenSpec.ofChange fnExactValidFlagWrong)

/-- 'laws.FnExactMaskOf': WHATEVER THE INPUT: true; the input reads as it did. -/
def fnExactMaskOfSpec : ChangeSpec := { name := "fnExactMaskOf", fn := fun _ => fun
  | [d] => { results := [.lit (.bool true)], args := [d] }
  | _ => none }
def fnExactMaskOfRow : OpenClaim := { program := "yteilnbbbcekcaaa", sum := "4a101e591be8454122c0a8316482871016c9fcce4f6f9ff99a5c53cd928b824e", func := "loop.example/namedflags/laws.FnExactMaskOf", spec := "fnExactMaskOf", unfollowed := true, recurses := true, apart := false }
def FnExactMaskOfSaid : Prop := fnExactMaskOfRow.holds Try.pinned (OpenSpec.ofChange fnExactMaskOfSpec)

/-- ITS FALSE NEIGHBOUR: 'it returns false'. Refute it at one input. -/
def fnExactMaskOfWrong : ChangeSpec := { name := "fnExactMaskOf", fn := fun _ => fun
  | [d] => { results := [.lit (.bool false)], args := [d] }
  | _ => none }
def FnExactMaskOfWrongFalsely : Prop := fnExactMaskOfRow.holds Try.pinned (OpenSpec.ofChange fnExactMaskOfWrong)

/-- 'laws.FnExactIsValue': WHATEVER THE INPUT: true; the input reads as it did. -/
def fnExactIsValueSpec : ChangeSpec := { name := "fnExactIsValue", fn := fun _ => fun
  | [d1, d2] => { results := [.lit (.bool true)], args := [d1, d2] }
  | _ => none }
def fnExactIsValueRow : OpenClaim := { program := "yteilnbbbcekcaaa", sum := "4a101e591be8454122c0a8316482871016c9fcce4f6f9ff99a5c53cd928b824e", func := "loop.example/namedflags/laws.FnExactIsValue", spec := "fnExactIsValue", unfollowed := true, recurses := true, apart := false }
def FnExactIsValueSaid : Prop := fnExactIsValueRow.holds Try.pinned (OpenSpec.ofChange fnExactIsValueSpec)

/-- ITS FALSE NEIGHBOUR: 'it returns false'. Refute it at one input. -/
def fnExactIsValueWrong : ChangeSpec := { name := "fnExactIsValue", fn := fun _ => fun
  | [d1, d2] => { results := [.lit (.bool false)], args := [d1, d2] }
  | _ => none }
def FnExactIsValueWrongFalsely : Prop := fnExactIsValueRow.holds Try.pinned (OpenSpec.ofChange fnExactIsValueWrong)

/-- 'laws.FnExactHasAll': WHATEVER THE INPUT: true; the input reads as it did. -/
def fnExactHasAllSpec : ChangeSpec := { name := "fnExactHasAll", fn := fun _ => fun
  | [d1, d2, d3] => { results := [.lit (.bool true)], args := [d1, d2, d3] }
  | _ => none }
def fnExactHasAllRow : OpenClaim := { program := "yteilnbbbcekcaaa", sum := "4a101e591be8454122c0a8316482871016c9fcce4f6f9ff99a5c53cd928b824e", func := "loop.example/namedflags/laws.FnExactHasAll", spec := "fnExactHasAll", unfollowed := true, recurses := true, apart := false }
def FnExactHasAllSaid : Prop := fnExactHasAllRow.holds Try.pinned (OpenSpec.ofChange fnExactHasAllSpec)

/-- ITS FALSE NEIGHBOUR: 'it returns false'. Refute it at one input. -/
def fnExactHasAllWrong : ChangeSpec := { name := "fnExactHasAll", fn := fun _ => fun
  | [d1, d2, d3] => { results := [.lit (.bool false)], args := [d1, d2, d3] }
  | _ => none }
def FnExactHasAllWrongFalsely : Prop := fnExactHasAllRow.holds Try.pinned (OpenSpec.ofChange fnExactHasAllWrong)

/-- 'laws.FnExactAndValues': WHATEVER THE INPUT: true; the input reads as it did. -/
def fnExactAndValuesSpec : ChangeSpec := { name := "fnExactAndValues", fn := fun _ => fun
  | [d1, d2, d3] => { results := [.lit (.bool true)], args := [d1, d2, d3] }
  | _ => none }
def fnExactAndValuesRow : OpenClaim := { program := "yteilnbbbcekcaaa", sum := "4a101e591be8454122c0a8316482871016c9fcce4f6f9ff99a5c53cd928b824e", func := "loop.example/namedflags/laws.FnExactAndValues", spec := "fnExactAndValues", unfollowed := true, recurses := true, apart := false }
def FnExactAndValuesSaid : Prop := fnExactAndValuesRow.holds Try.pinned (OpenSpec.ofChange fnExactAndValuesSpec)

/-- ITS FALSE NEIGHBOUR: 'it returns false'. Refute it at one input. -/
def fnExactAndValuesWrong : ChangeSpec := { name := "fnExactAndValues", fn := fun _ => fun
  | [d1, d2, d3] => { results := [.lit (.bool false)], args := [d1, d2, d3] }
  | _ => none }
def FnExactAndValuesWrongFalsely : Prop := fnExactAndValuesRow.holds Try.pinned (OpenSpec.ofChange fnExactAndValuesWrong)

/-- 'laws.FnExactOrValues': WHATEVER THE INPUT: true; the input reads as it did. -/
def fnExactOrValuesSpec : ChangeSpec := { name := "fnExactOrValues", fn := fun _ => fun
  | [d1, d2, d3] => { results := [.lit (.bool true)], args := [d1, d2, d3] }
  | _ => none }
def fnExactOrValuesRow : OpenClaim := { program := "yteilnbbbcekcaaa", sum := "4a101e591be8454122c0a8316482871016c9fcce4f6f9ff99a5c53cd928b824e", func := "loop.example/namedflags/laws.FnExactOrValues", spec := "fnExactOrValues", unfollowed := true, recurses := true, apart := false }
def FnExactOrValuesSaid : Prop := fnExactOrValuesRow.holds Try.pinned (OpenSpec.ofChange fnExactOrValuesSpec)

/-- ITS FALSE NEIGHBOUR: 'it returns false'. Refute it at one input. -/
def fnExactOrValuesWrong : ChangeSpec := { name := "fnExactOrValues", fn := fun _ => fun
  | [d1, d2, d3] => { results := [.lit (.bool false)], args := [d1, d2, d3] }
  | _ => none }
def FnExactOrValuesWrongFalsely : Prop := fnExactOrValuesRow.holds Try.pinned (OpenSpec.ofChange fnExactOrValuesWrong)

/-- 'laws.FnExactXorValues': WHATEVER THE INPUT: true; the input reads as it did. -/
def fnExactXorValuesSpec : ChangeSpec := { name := "fnExactXorValues", fn := fun _ => fun
  | [d1, d2, d3] => { results := [.lit (.bool true)], args := [d1, d2, d3] }
  | _ => none }
def fnExactXorValuesRow : OpenClaim := { program := "yteilnbbbcekcaaa", sum := "4a101e591be8454122c0a8316482871016c9fcce4f6f9ff99a5c53cd928b824e", func := "loop.example/namedflags/laws.FnExactXorValues", spec := "fnExactXorValues", unfollowed := true, recurses := true, apart := false }
def FnExactXorValuesSaid : Prop := fnExactXorValuesRow.holds Try.pinned (OpenSpec.ofChange fnExactXorValuesSpec)

/-- ITS FALSE NEIGHBOUR: 'it returns false'. Refute it at one input. -/
def fnExactXorValuesWrong : ChangeSpec := { name := "fnExactXorValues", fn := fun _ => fun
  | [d1, d2, d3] => { results := [.lit (.bool false)], args := [d1, d2, d3] }
  | _ => none }
def FnExactXorValuesWrongFalsely : Prop := fnExactXorValuesRow.holds Try.pinned (OpenSpec.ofChange fnExactXorValuesWrong)

/-- 'laws.FnExactLessValues': WHATEVER THE INPUT: true; the input reads as it did. -/
def fnExactLessValuesSpec : ChangeSpec := { name := "fnExactLessValues", fn := fun _ => fun
  | [d1, d2, d3] => { results := [.lit (.bool true)], args := [d1, d2, d3] }
  | _ => none }
def fnExactLessValuesRow : OpenClaim := { program := "yteilnbbbcekcaaa", sum := "4a101e591be8454122c0a8316482871016c9fcce4f6f9ff99a5c53cd928b824e", func := "loop.example/namedflags/laws.FnExactLessValues", spec := "fnExactLessValues", unfollowed := true, recurses := true, apart := false }
def FnExactLessValuesSaid : Prop := fnExactLessValuesRow.holds Try.pinned (OpenSpec.ofChange fnExactLessValuesSpec)

/-- ITS FALSE NEIGHBOUR: 'it returns false'. Refute it at one input. -/
def fnExactLessValuesWrong : ChangeSpec := { name := "fnExactLessValues", fn := fun _ => fun
  | [d1, d2, d3] => { results := [.lit (.bool false)], args := [d1, d2, d3] }
  | _ => none }
def FnExactLessValuesWrongFalsely : Prop := fnExactLessValuesRow.holds Try.pinned (OpenSpec.ofChange fnExactLessValuesWrong)

/-- 'laws.FnExactCompareValues': WHATEVER THE INPUT: true; the input reads as it did. -/
def fnExactCompareValuesSpec : ChangeSpec := { name := "fnExactCompareValues", fn := fun _ => fun
  | [d1, d2, d3] => { results := [.lit (.bool true)], args := [d1, d2, d3] }
  | _ => none }
def fnExactCompareValuesRow : OpenClaim := { program := "yteilnbbbcekcaaa", sum := "4a101e591be8454122c0a8316482871016c9fcce4f6f9ff99a5c53cd928b824e", func := "loop.example/namedflags/laws.FnExactCompareValues", spec := "fnExactCompareValues", unfollowed := true, recurses := true, apart := false }
def FnExactCompareValuesSaid : Prop := fnExactCompareValuesRow.holds Try.pinned (OpenSpec.ofChange fnExactCompareValuesSpec)

/-- ITS FALSE NEIGHBOUR: 'it returns false'. Refute it at one input. -/
def fnExactCompareValuesWrong : ChangeSpec := { name := "fnExactCompareValues", fn := fun _ => fun
  | [d1, d2, d3] => { results := [.lit (.bool false)], args := [d1, d2, d3] }
  | _ => none }
def FnExactCompareValuesWrongFalsely : Prop := fnExactCompareValuesRow.holds Try.pinned (OpenSpec.ofChange fnExactCompareValuesWrong)

/-- 'laws.FnExactFromNames': WHATEVER THE INPUT: true; the input reads as it did. -/
def fnExactFromNamesSpec : ChangeSpec := { name := "fnExactFromNames", fn := fun _ => fun
  | [d1, d2] => { results := [.lit (.bool true)], args := [d1, d2] }
  | _ => none }
def fnExactFromNamesRow : OpenClaim := { program := "yteilnbbbcekcaaa", sum := "4a101e591be8454122c0a8316482871016c9fcce4f6f9ff99a5c53cd928b824e", func := "loop.example/namedflags/laws.FnExactFromNames", spec := "fnExactFromNames", unfollowed := true, recurses := true, apart := false }
def FnExactFromNamesSaid : Prop := fnExactFromNamesRow.holds Try.pinned (OpenSpec.ofChange fnExactFromNamesSpec)

/-- ITS FALSE NEIGHBOUR: 'it returns false'. Refute it at one input. -/
def fnExactFromNamesWrong : ChangeSpec := { name := "fnExactFromNames", fn := fun _ => fun
  | [d1, d2] => { results := [.lit (.bool false)], args := [d1, d2] }
  | _ => none }
def FnExactFromNamesWrongFalsely : Prop := fnExactFromNamesRow.holds Try.pinned (OpenSpec.ofChange fnExactFromNamesWrong)

/-- 'laws.FnExactExactName': WHATEVER THE INPUT: true; the input reads as it did. -/
def fnExactExactNameSpec : ChangeSpec := { name := "fnExactExactName", fn := fun _ => fun
  | [d1, d2] => { results := [.lit (.bool true)], args := [d1, d2] }
  | _ => none }
def fnExactExactNameRow : OpenClaim := { program := "yteilnbbbcekcaaa", sum := "4a101e591be8454122c0a8316482871016c9fcce4f6f9ff99a5c53cd928b824e", func := "loop.example/namedflags/laws.FnExactExactName", spec := "fnExactExactName", unfollowed := true, recurses := true, apart := false }
def FnExactExactNameSaid : Prop := fnExactExactNameRow.holds Try.pinned (OpenSpec.ofChange fnExactExactNameSpec)

/-- ITS FALSE NEIGHBOUR: 'it returns false'. Refute it at one input. -/
def fnExactExactNameWrong : ChangeSpec := { name := "fnExactExactName", fn := fun _ => fun
  | [d1, d2] => { results := [.lit (.bool false)], args := [d1, d2] }
  | _ => none }
def FnExactExactNameWrongFalsely : Prop := fnExactExactNameRow.holds Try.pinned (OpenSpec.ofChange fnExactExactNameWrong)

/-- 'laws.FnExactHighOf': WHATEVER THE INPUT: true; the input reads as it did. -/
def fnExactHighOfSpec : ChangeSpec := { name := "fnExactHighOf", fn := fun _ => fun
  | [d] => { results := [.lit (.bool true)], args := [d] }
  | _ => none }
def fnExactHighOfRow : OpenClaim := { program := "yteilnbbbcekcaaa", sum := "4a101e591be8454122c0a8316482871016c9fcce4f6f9ff99a5c53cd928b824e", func := "loop.example/namedflags/laws.FnExactHighOf", spec := "fnExactHighOf", unfollowed := true, recurses := true, apart := false }
def FnExactHighOfSaid : Prop := fnExactHighOfRow.holds Try.pinned (OpenSpec.ofChange fnExactHighOfSpec)

/-- ITS FALSE NEIGHBOUR: 'it returns false'. Refute it at one input. -/
def fnExactHighOfWrong : ChangeSpec := { name := "fnExactHighOf", fn := fun _ => fun
  | [d] => { results := [.lit (.bool false)], args := [d] }
  | _ => none }
def FnExactHighOfWrongFalsely : Prop := fnExactHighOfRow.holds Try.pinned (OpenSpec.ofChange fnExactHighOfWrong)

/- THE SECOND FORM. 'bulk': how many values and letters a reading holds, each counted each time it is reached (what is shared counts as often as it is met; a slice's spare places count too). A statement '..UptoSaid' is the law's where the arguments, and the package variables that the reading takes, are together of bulk at most 1048576: NARROWER than '..Said'. Prove '..Said' where nothing that the law and all that it calls make is longer than what came in: it says more and counts as full. Else prove '..UptoSaid'. A law counts once. -/
mutual
def uptoBulk {H : Type} : DataW H → Nat
  | .lit (.string bytes) => bytes.length + 1
  | .lit _ => 1
  | .nil => 1
  | .ptr d => uptoBulk d + 1
  | .slice elems spare => uptoBulkAll elems + uptoBulkAll spare + 1
  | .agg parts => uptoBulkAll parts + 1
  | .iface _ d => uptoBulk d + 1
  | .map entries => uptoBulkEntries entries + 1
  | .held _ => 1
def uptoBulkAll {H : Type} : List (DataW H) → Nat
  | [] => 0
  | d :: r => uptoBulk d + uptoBulkAll r
def uptoBulkEntries {H : Type} : List (Lit × DataW H) → Nat
  | [] => 0
  | x :: r => uptoBulkEntry x + uptoBulkEntries r
def uptoBulkEntry {H : Type} : Lit × DataW H → Nat
  | (.string bytes, d) => bytes.length + uptoBulk d + 1
  | (_, d) => uptoBulk d + 1
 end
def uptoSmall : (H : Type) → List (DataW H) → Bool := fun _ ds => decide (uptoBulkAll ds ≤ 1048576)
def OpenSpec.upto (s : _root_.Go.ChangeSpec) : _root_.Go.OpenSpec := { _root_.Go.OpenSpec.ofChange s with cond := some uptoSmall }

/-- 'laws.FnExactValidFlag', WHERE WHAT IT READS IS OF BULK AT MOST 1048576: true; the input reads as it did. -/
def fnExactValidFlagUptoRow : OpenClaim := { program := "yteilnbbbcekcaaa", sum := "4a101e591be8454122c0a8316482871016c9fcce4f6f9ff99a5c53cd928b824e", func := "loop.example/namedflags/laws.FnExactValidFlag", spec := "fnExactValidFlag", unfollowed := true, recurses := true, apart := false, narrowed := true }
def FnExactValidFlagUptoSaid : Prop := fnExactValidFlagUptoRow.holds Try.pinned (OpenSpec.upto fnExactValidFlagSpec)

/-- 'laws.FnExactMaskOf', WHERE WHAT IT READS IS OF BULK AT MOST 1048576: true; the input reads as it did. -/
def fnExactMaskOfUptoRow : OpenClaim := { program := "yteilnbbbcekcaaa", sum := "4a101e591be8454122c0a8316482871016c9fcce4f6f9ff99a5c53cd928b824e", func := "loop.example/namedflags/laws.FnExactMaskOf", spec := "fnExactMaskOf", unfollowed := true, recurses := true, apart := false, narrowed := true }
def FnExactMaskOfUptoSaid : Prop := fnExactMaskOfUptoRow.holds Try.pinned (OpenSpec.upto fnExactMaskOfSpec)

/-- 'laws.FnExactIsValue', WHERE WHAT IT READS IS OF BULK AT MOST 1048576: true; the input reads as it did. -/
def fnExactIsValueUptoRow : OpenClaim := { program := "yteilnbbbcekcaaa", sum := "4a101e591be8454122c0a8316482871016c9fcce4f6f9ff99a5c53cd928b824e", func := "loop.example/namedflags/laws.FnExactIsValue", spec := "fnExactIsValue", unfollowed := true, recurses := true, apart := false, narrowed := true }
def FnExactIsValueUptoSaid : Prop := fnExactIsValueUptoRow.holds Try.pinned (OpenSpec.upto fnExactIsValueSpec)

/-- 'laws.FnExactHasAll', WHERE WHAT IT READS IS OF BULK AT MOST 1048576: true; the input reads as it did. -/
def fnExactHasAllUptoRow : OpenClaim := { program := "yteilnbbbcekcaaa", sum := "4a101e591be8454122c0a8316482871016c9fcce4f6f9ff99a5c53cd928b824e", func := "loop.example/namedflags/laws.FnExactHasAll", spec := "fnExactHasAll", unfollowed := true, recurses := true, apart := false, narrowed := true }
def FnExactHasAllUptoSaid : Prop := fnExactHasAllUptoRow.holds Try.pinned (OpenSpec.upto fnExactHasAllSpec)

/-- 'laws.FnExactAndValues', WHERE WHAT IT READS IS OF BULK AT MOST 1048576: true; the input reads as it did. -/
def fnExactAndValuesUptoRow : OpenClaim := { program := "yteilnbbbcekcaaa", sum := "4a101e591be8454122c0a8316482871016c9fcce4f6f9ff99a5c53cd928b824e", func := "loop.example/namedflags/laws.FnExactAndValues", spec := "fnExactAndValues", unfollowed := true, recurses := true, apart := false, narrowed := true }
def FnExactAndValuesUptoSaid : Prop := fnExactAndValuesUptoRow.holds Try.pinned (OpenSpec.upto fnExactAndValuesSpec)

/-- 'laws.FnExactOrValues', WHERE WHAT IT READS IS OF BULK AT MOST 1048576: true; the input reads as it did. -/
def fnExactOrValuesUptoRow : OpenClaim := { program := "yteilnbbbcekcaaa", sum := "4a101e591be8454122c0a8316482871016c9fcce4f6f9ff99a5c53cd928b824e", func := "loop.example/namedflags/laws.FnExactOrValues", spec := "fnExactOrValues", unfollowed := true, recurses := true, apart := false, narrowed := true }
def FnExactOrValuesUptoSaid : Prop := fnExactOrValuesUptoRow.holds Try.pinned (OpenSpec.upto fnExactOrValuesSpec)

/-- 'laws.FnExactXorValues', WHERE WHAT IT READS IS OF BULK AT MOST 1048576: true; the input reads as it did. -/
def fnExactXorValuesUptoRow : OpenClaim := { program := "yteilnbbbcekcaaa", sum := "4a101e591be8454122c0a8316482871016c9fcce4f6f9ff99a5c53cd928b824e", func := "loop.example/namedflags/laws.FnExactXorValues", spec := "fnExactXorValues", unfollowed := true, recurses := true, apart := false, narrowed := true }
def FnExactXorValuesUptoSaid : Prop := fnExactXorValuesUptoRow.holds Try.pinned (OpenSpec.upto fnExactXorValuesSpec)

/-- 'laws.FnExactLessValues', WHERE WHAT IT READS IS OF BULK AT MOST 1048576: true; the input reads as it did. -/
def fnExactLessValuesUptoRow : OpenClaim := { program := "yteilnbbbcekcaaa", sum := "4a101e591be8454122c0a8316482871016c9fcce4f6f9ff99a5c53cd928b824e", func := "loop.example/namedflags/laws.FnExactLessValues", spec := "fnExactLessValues", unfollowed := true, recurses := true, apart := false, narrowed := true }
def FnExactLessValuesUptoSaid : Prop := fnExactLessValuesUptoRow.holds Try.pinned (OpenSpec.upto fnExactLessValuesSpec)

/-- 'laws.FnExactCompareValues', WHERE WHAT IT READS IS OF BULK AT MOST 1048576: true; the input reads as it did. -/
def fnExactCompareValuesUptoRow : OpenClaim := { program := "yteilnbbbcekcaaa", sum := "4a101e591be8454122c0a8316482871016c9fcce4f6f9ff99a5c53cd928b824e", func := "loop.example/namedflags/laws.FnExactCompareValues", spec := "fnExactCompareValues", unfollowed := true, recurses := true, apart := false, narrowed := true }
def FnExactCompareValuesUptoSaid : Prop := fnExactCompareValuesUptoRow.holds Try.pinned (OpenSpec.upto fnExactCompareValuesSpec)

/-- 'laws.FnExactFromNames', WHERE WHAT IT READS IS OF BULK AT MOST 1048576: true; the input reads as it did. -/
def fnExactFromNamesUptoRow : OpenClaim := { program := "yteilnbbbcekcaaa", sum := "4a101e591be8454122c0a8316482871016c9fcce4f6f9ff99a5c53cd928b824e", func := "loop.example/namedflags/laws.FnExactFromNames", spec := "fnExactFromNames", unfollowed := true, recurses := true, apart := false, narrowed := true }
def FnExactFromNamesUptoSaid : Prop := fnExactFromNamesUptoRow.holds Try.pinned (OpenSpec.upto fnExactFromNamesSpec)

/-- 'laws.FnExactExactName', WHERE WHAT IT READS IS OF BULK AT MOST 1048576: true; the input reads as it did. -/
def fnExactExactNameUptoRow : OpenClaim := { program := "yteilnbbbcekcaaa", sum := "4a101e591be8454122c0a8316482871016c9fcce4f6f9ff99a5c53cd928b824e", func := "loop.example/namedflags/laws.FnExactExactName", spec := "fnExactExactName", unfollowed := true, recurses := true, apart := false, narrowed := true }
def FnExactExactNameUptoSaid : Prop := fnExactExactNameUptoRow.holds Try.pinned (OpenSpec.upto fnExactExactNameSpec)

/-- 'laws.FnExactHighOf', WHERE WHAT IT READS IS OF BULK AT MOST 1048576: true; the input reads as it did. -/
def fnExactHighOfUptoRow : OpenClaim := { program := "yteilnbbbcekcaaa", sum := "4a101e591be8454122c0a8316482871016c9fcce4f6f9ff99a5c53cd928b824e", func := "loop.example/namedflags/laws.FnExactHighOf", spec := "fnExactHighOf", unfollowed := true, recurses := true, apart := false, narrowed := true }
def FnExactHighOfUptoSaid : Prop := fnExactHighOfUptoRow.holds Try.pinned (OpenSpec.upto fnExactHighOfSpec)

end Rows
end Go.Proofs.Yteilnbbbcekcaaa
