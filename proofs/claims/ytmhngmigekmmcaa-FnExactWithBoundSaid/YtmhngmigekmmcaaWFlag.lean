/-
  The walks over classes of flags: validity, masks, values.
-/
import Derived.Test.YtmhngmigekmmcaaWSDefs
import Derived.Test.YtmhngmigekmmcaaWBits
namespace Go.Proofs.Ytmhngmigekmmcaa
open Go.RowKit

theorem vFlag_bad {ds : List D} (z : Int) (h : vDefs ds 0 4095 = false) : vFlag ds z = false := by simp [vFlag, h]
theorem vFlag_good {ds : List D} (z : Int) (h : vDefs ds 0 4095 = true) : vFlag ds z = inR z 0 3 := by simp [vFlag, h]

set_option maxHeartbeats 1000000 in
theorem validFlag_any (A : Option Addr) (n c : Nat) (ds : List D) (z : Int) (w : World) (hr : Rd w w.heap.size A n c ds) :
    Calls Try.prog 42 #[.agg #[.slice A n c, .int .i64 z]] w fun e w' => e = .returned (.bool (vFlag ds z)) ∧ Below w.heap.size w w' := by
  have q := blk1 w #[.slice A n c, .int .i64 z] 36
  have b := below1 w (.cells #[.slice A n c, .int .i64 z] 36)
  have R := hr.to b
  clear hr
  cases hv : vDefs ds 0 4095 with
  | false =>
    have HF := Lib.hid (vFlag_bad z hv)
    go_enter Try.func42, Try.ntmps42
    go_wp2_with fail
    refine (defsValid_any _ _ _ ds _ _ _ R).mono ?_
    rintro e w1 ⟨rfl, hb⟩
    go_wp2
    go_ret
    exact ⟨ret_bool HF.out.symm, Below.on b hb b.size⟩
  | true =>
    have HF := Lib.hid (vFlag_good z hv)
    go_enter Try.func42, Try.ntmps42
    go_wp2_with fail
    refine (defsValid_any _ _ _ ds _ _ _ R).mono ?_
    rintro e w1 ⟨rfl, hb⟩
    have q1 := q.below hb q.lt
    have c1 := q1.cell 1
    go_wp2_with (go_at_call 61; refine (in_any _ _ _ _).mono ?_; rintro e w' ⟨rfl, rfl⟩)
    go_ret
    exact ⟨ret_bool HF.out.symm, Below.on b hb b.size⟩

set_option maxHeartbeats 1000000 in
theorem svalidFlag_any (A : Option Addr) (n c : Nat) (ds : List D) (z : Int) (w : World) (hr : Rd w w.heap.size A n c ds) :
    Calls Try.prog 40 #[.agg #[.slice A n c, .int .i64 z]] w fun e w' => e = .returned (.bool (vFlag ds z)) ∧ Below w.heap.size w w' := by
  have q := blk1 w #[.slice A n c, .int .i64 z] 36
  have b := below1 w (.cells #[.slice A n c, .int .i64 z] 36)
  have R := hr.to b
  clear hr
  cases hv : vDefs ds 0 4095 with
  | false =>
    have HF := Lib.hid (vFlag_bad z hv)
    go_enter Try.func40, Try.ntmps40
    go_wp2_with fail
    refine (svalidDefs_any _ _ _ ds _ _ _ R).mono ?_
    rintro e w1 ⟨rfl, hb⟩
    go_wp2
    go_ret
    exact ⟨ret_bool HF.out.symm, Below.on b hb b.size⟩
  | true =>
    have HF := Lib.hid (vFlag_good z hv)
    go_enter Try.func40, Try.ntmps40
    go_wp2_with fail
    refine (svalidDefs_any _ _ _ ds _ _ _ R).mono ?_
    rintro e w1 ⟨rfl, hb⟩
    have q1 := q.below hb q.lt
    have c1 := q1.cell 1
    go_wp2_with (go_at_call 60; refine (inRange_any _ _ _ _).mono ?_; rintro e w' ⟨rfl, rfl⟩)
    go_ret
    exact ⟨ret_bool HF.out.symm, Below.on b hb b.size⟩

/-- The mask of a class, -1 of others. -/
def maskOf (ds : List D) (z : Int) : Int := if vFlag ds z then maskV ds else -1
end Go.Proofs.Ytmhngmigekmmcaa
