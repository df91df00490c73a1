/-
  No cell of these rows narrows 'for every input' (looked for: loops, veiled, ifaces, maps, wideKeys, modest, calm, conditions, laid).
  DERIVED. THE GIVEN ROWS OF THIS SEAT. 4 by the template 'for every input the law returns true; each argument reads behind the call as it read before'; 0 by the template 'total and deterministic' (their statements: YtioheadchhkjmaaTotals.lean).
  GIVEN WITH THE SEED: the statements are not yours to turn. If you find one false, say at which input.
  Laid BY PROGRAM, IN A SANDBOX (cutbox-rows.mjs): the forced cells as the released guide's own fill.sh prints them over the translation d8d11d4234ccadae… (all of the seat's roots in one cut). By AI agents, Wed Nov 11 2026. No macro, syntax, notation, axiom, sorry.
-/
import Derived.Test.YtioheadchhkjmaaChecked
import GoSem.Claim
import GoSem.ClaimJoined
import GoSem.ClaimMapViews
import Derived.JoinedTies
import Derived.KernelRfl
namespace Go.Proofs.Ytioheadchhkjmaa
/- THE CELL 'sum', in the pinned program and in every row, IS THE sha256 OF THE DUMP (.gsa) THAT YtioheadchhkjmaaProg.lean LOADS. Nothing in Lean hashes anything: it is a label: what it is worth is what the hold of that sum in a sandbox is worth. -/
noncomputable def Try.pinned : Pinned := { name := "ytioheadchhkjmaa", sum := "d8d11d4234ccadae0ef5d7689759fbce9893816fdf9b958c883cd925a6cc3699", checked := Try.checked }
namespace Rows
def none {H : Type} : Left H := { results := [], args := [] }

/-- 'laws.FnExactTurnChanges': WHATEVER THE INPUT: true; the input reads as it did. -/
def fnExactTurnChangesSpec : ChangeSpec := { name := "fnExactTurnChanges", fn := fun _ => fun
  | [d] => { results := [.lit (.bool true)], args := [d] }
  | _ => none }
def fnExactTurnChangesRow : OpenClaim := { program := "ytioheadchhkjmaa", sum := "d8d11d4234ccadae0ef5d7689759fbce9893816fdf9b958c883cd925a6cc3699", func := "loop.example/namedflags/laws.FnExactTurnChanges", spec := "fnExactTurnChanges", unfollowed := true, recurses := true, apart := false }
def FnExactTurnChangesSaid : Prop := fnExactTurnChangesRow.holds Try.pinned (OpenSpec.ofChange fnExactTurnChangesSpec)

/-- ITS FALSE NEIGHBOUR: 'it returns false'. Refute it at one input. -/
def fnExactTurnChangesWrong : ChangeSpec := { name := "fnExactTurnChanges", fn := fun _ => fun
  | [d] => { results := [.lit (.bool false)], args := [d] }
  | _ => none }
def FnExactTurnChangesWrongFalsely : Prop := fnExactTurnChangesRow.holds Try.pinned (OpenSpec.ofChange fnExactTurnChangesWrong)

/-- 'laws.FnTurnChanges': WHATEVER THE INPUT: true; the input reads as it did. -/
def fnTurnChangesSpec : ChangeSpec := { name := "fnTurnChanges", fn := fun _ => fun
  | [d] => { results := [.lit (.bool true)], args := [d] }
  | _ => none }
def fnTurnChangesRow : OpenClaim := { program := "ytioheadchhkjmaa", sum := "d8d11d4234ccadae0ef5d7689759fbce9893816fdf9b958c883cd925a6cc3699", func := "loop.example/namedflags/laws.FnTurnChanges", spec := "fnTurnChanges", unfollowed := true, recurses := true, apart := false }
def FnTurnChangesSaid : Prop := fnTurnChangesRow.holds Try.pinned (OpenSpec.ofChange fnTurnChangesSpec)

/-- ITS FALSE NEIGHBOUR: 'it returns false'. Refute it at one input. -/
def fnTurnChangesWrong : ChangeSpec := { name := "fnTurnChanges", fn := fun _ => fun
  | [d] => { results := [.lit (.bool false)], args := [d] }
  | _ => none }
def FnTurnChangesWrongFalsely : Prop := fnTurnChangesRow.holds Try.pinned (OpenSpec.ofChange fnTurnChangesWrong)

/-- 'laws.FnExactAddDef': WHATEVER THE INPUT: true; the input reads as it did. -/
def fnExactAddDefSpec : ChangeSpec := { name := "fnExactAddDef", fn := fun _ => fun
  | [d1, d2] => { results := [.lit (.bool true)], args := [d1, d2] }
  | _ => none }
def fnExactAddDefRow : OpenClaim := { program := "ytioheadchhkjmaa", sum := "d8d11d4234ccadae0ef5d7689759fbce9893816fdf9b958c883cd925a6cc3699", func := "loop.example/namedflags/laws.FnExactAddDef", spec := "fnExactAddDef", unfollowed := true, recurses := true, apart := false }
def FnExactAddDefSaid : Prop := fnExactAddDefRow.holds Try.pinned (OpenSpec.ofChange fnExactAddDefSpec)

/-- ITS FALSE NEIGHBOUR: 'it returns false'. Refute it at one input. -/
def fnExactAddDefWrong : ChangeSpec := { name := "fnExactAddDef", fn := fun _ => fun
  | [d1, d2] => { results := [.lit (.bool false)], args := [d1, d2] }
  | _ => none }
def FnExactAddDefWrongFalsely : Prop := fnExactAddDefRow.holds Try.pinned (OpenSpec.ofChange fnExactAddDefWrong)

/-- 'laws.FnExactSameMeaning': WHATEVER THE INPUT: true; the input reads as it did. -/
def fnExactSameMeaningSpec : ChangeSpec := { name := "fnExactSameMeaning", fn := fun _ => fun
  | [d1, d2] => { results := [.lit (.bool true)], args := [d1, d2] }
  | _ => none }
def fnExactSameMeaningRow : OpenClaim := { program := "ytioheadchhkjmaa", sum := "d8d11d4234ccadae0ef5d7689759fbce9893816fdf9b958c883cd925a6cc3699", func := "loop.example/namedflags/laws.FnExactSameMeaning", spec := "fnExactSameMeaning", unfollowed := true, recurses := true, apart := false }
def FnExactSameMeaningSaid : Prop := fnExactSameMeaningRow.holds Try.pinned (OpenSpec.ofChange fnExactSameMeaningSpec)

/-- ITS FALSE NEIGHBOUR: 'it returns false'. Refute it at one input. -/
def fnExactSameMeaningWrong : ChangeSpec := { name := "fnExactSameMeaning", fn := fun _ => fun
  | [d1, d2] => { results := [.lit (.bool false)], args := [d1, d2] }
  | _ => none }
def FnExactSameMeaningWrongFalsely : Prop := fnExactSameMeaningRow.holds Try.pinned (OpenSpec.ofChange fnExactSameMeaningWrong)

/- THE SECOND FORM. 'bulk': how many values and letters a reading holds, each counted each time it is reached (what is shared counts as often as it is met; a slice's spare places count too). A statement '..UptoSaid' is the law's where the arguments, and the package variables that the reading takes, are together of bulk at most 1048576: NARROWER than '..Said'. Prove '..Said' where nothing that the law and all that it calls make is longer than what came in: it says more and counts as full. Else prove '..UptoSaid'. A law counts once. -/
mutual
def uptoBulk {H : Type} : DataW H → Nat
  | .lit (.string bytes) => bytes.length + 1
  | .lit _ => 1
  | .nil => 1
  | .ptr d => uptoBulk d + 1
  | .slice elems spare => uptoBulkAll elems + uptoBulkAll spare + 1
  | .agg parts => uptoBulkAll parts + 1
  | .iface _ d => uptoBulk d + 1
  | .map entries => uptoBulkEntries entries + 1
  | .held _ => 1
def uptoBulkAll {H : Type} : List (DataW H) → Nat
  | [] => 0
  | d :: r => uptoBulk d + uptoBulkAll r
def uptoBulkEntries {H : Type} : List (Lit × DataW H) → Nat
  | [] => 0
  | x :: r => uptoBulkEntry x + uptoBulkEntries r
def uptoBulkEntry {H : Type} : Lit × DataW H → Nat
  | (.string bytes, d) => bytes.length + uptoBulk d + 1
  | (_, d) => uptoBulk d + 1
 end
def uptoSmall : (H : Type) → List (DataW H) → Bool := fun _ ds => decide (uptoBulkAll ds ≤ 1048576)
def OpenSpec.upto (s : _root_.Go.ChangeSpec) : _root_.Go.OpenSpec := { _root_.Go.OpenSpec.ofChange s with cond := some uptoSmall }

/-- 'laws.FnExactTurnChanges', WHERE WHAT IT READS IS OF BULK AT MOST 1048576: true; the input reads as it did. -/
def fnExactTurnChangesUptoRow : OpenClaim := { program := "ytioheadchhkjmaa", sum := "d8d11d4234ccadae0ef5d7689759fbce9893816fdf9b958c883cd925a6cc3699", func := "loop.example/namedflags/laws.FnExactTurnChanges", spec := "fnExactTurnChanges", unfollowed := true, recurses := true, apart := false, narrowed := true }
def FnExactTurnChangesUptoSaid : Prop := fnExactTurnChangesUptoRow.holds Try.pinned (OpenSpec.upto fnExactTurnChangesSpec)

/-- 'laws.FnTurnChanges', WHERE WHAT IT READS IS OF BULK AT MOST 1048576: true; the input reads as it did. -/
def fnTurnChangesUptoRow : OpenClaim := { program := "ytioheadchhkjmaa", sum := "d8d11d4234ccadae0ef5d7689759fbce9893816fdf9b958c883cd925a6cc3699", func := "loop.example/namedflags/laws.FnTurnChanges", spec := "fnTurnChanges", unfollowed := true, recurses := true, apart := false, narrowed := true }
def FnTurnChangesUptoSaid : Prop := fnTurnChangesUptoRow.holds Try.pinned (OpenSpec.upto fnTurnChangesSpec)

/-- 'laws.FnExactAddDef', WHERE WHAT IT READS IS OF BULK AT MOST 1048576: true; the input reads as it did. -/
def fnExactAddDefUptoRow : OpenClaim := { program := "ytioheadchhkjmaa", sum := "d8d11d4234ccadae0ef5d7689759fbce9893816fdf9b958c883cd925a6cc3699", func := "loop.example/namedflags/laws.FnExactAddDef", spec := "fnExactAddDef", unfollowed := true, recurses := true, apart := false, narrowed := true }
def FnExactAddDefUptoSaid : Prop := fnExactAddDefUptoRow.holds Try.pinned (OpenSpec.upto fnExactAddDefSpec)

/-- 'laws.FnExactSameMeaning', WHERE WHAT IT READS IS OF BULK AT MOST 1048576: true; the input reads as it did. -/
def fnExactSameMeaningUptoRow : OpenClaim := { program := "ytioheadchhkjmaa", sum := "d8d11d4234ccadae0ef5d7689759fbce9893816fdf9b958c883cd925a6cc3699", func := "loop.example/namedflags/laws.FnExactSameMeaning", spec := "fnExactSameMeaning", unfollowed := true, recurses := true, apart := false, narrowed := true }
def FnExactSameMeaningUptoSaid : Prop := fnExactSameMeaningUptoRow.holds Try.pinned (OpenSpec.upto fnExactSameMeaningSpec)

end Rows
end Go.Proofs.Ytioheadchhkjmaa
