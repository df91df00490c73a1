/-
  The walks over values of classes of flags: IsValue, the algebra, comparison.
-/
import Derived.Test.YthobedmjbkjfoaaWFlag
namespace Go.Proofs.Ythobedmjbkjfoaa
open Go.RowKit

set_option maxHeartbeats 1000000 in
theorem isValue_any (A : Option Addr) (n c : Nat) (ds : List D) (z x : Int) (w : World) (hr : Rd w w.heap.size A n c ds) :
    Calls Try.prog 50 #[.agg #[.slice A n c, .int .i64 z], .int .i64 x] w fun e w' => e = .returned (.bool (isVal ds z x)) ∧ Below w.heap.size w w' := by
  have q := blk1 w #[.slice A n c, .int .i64 z] 31
  have b := below1 w (.cells #[.slice A n c, .int .i64 z] 31)
  have R := hr.to b
  clear hr
  cases hv : vFlag ds z with
  | false =>
    have HF := Lib.hid (isVal_bad (n := x) hv)
    go_enter Try.func50, Try.ntmps50
    go_wp2_with fail
    refine (validFlag_any _ _ _ ds _ _ R).mono ?_
    rintro e w1 ⟨rfl, hb⟩
    go_wp2
    go_ret
    exact ⟨ret_bool HF.out.symm, Below.on b hb b.size⟩
  | true =>
    cases hi : inR x 0 4095 with
    | false =>
      have HF := Lib.hid (isVal_range (ds := ds) (z := z) hi)
      go_enter Try.func50, Try.ntmps50
      go_wp2_with fail
      refine (validFlag_any _ _ _ ds _ _ R).mono ?_
      rintro e w1 ⟨rfl, hb⟩
      go_wp2_with (go_at_call 75; refine (in_any _ _ _ _).mono ?_; rintro e w' ⟨rfl, rfl⟩)
      go_ret
      exact ⟨ret_bool HF.out.symm, Below.on b hb b.size⟩
    | true =>
      by_cases hz : z = 3
      · subst hz
        have HF := Lib.hid (isVal_keep hv hi)
        go_enter Try.func50, Try.ntmps50
        go_wp2_with fail
        refine (validFlag_any _ _ _ ds _ _ R).mono ?_
        rintro e w1 ⟨rfl, hb⟩
        have q1 := q.below hb q.lt
        have c0 := q1.cell 0
        have c1 := q1.cell 1
        go_wp2_with (go_at_call 75; refine (in_any _ _ _ _).mono ?_; rintro e w' ⟨rfl, rfl⟩)
        go_ret
        exact ⟨ret_bool HF.out.symm, Below.on b hb b.size⟩
      · have hz' : (z == 3) = false := by simpa using hz
        have HF := Lib.hid (isVal_mask hv hi hz')
        have hB := Bits_of (vFlag_defs hv)
        obtain ⟨m0, m1⟩ := maskV_lt hB
        have hx : 0 ≤ x ∧ x ≤ 4095 := by simpa [inR] using hi
        obtain ⟨x0, x1⟩ := hx
        have e := bits_less (a := x) (b := maskV ds) x0 (by omega) m0 (by omega)
        clear hz
        go_enter Try.func50, Try.ntmps50
        go_wp2_with fail
        refine (validFlag_any _ _ _ ds _ _ R).mono ?_
        rintro e w1 ⟨rfl, hb⟩
        replace b := Below.on b hb b.size
        replace R := R.to hb
        have q1 := q.below hb q.lt
        have c0 := q1.cell 0
        have c1 := q1.cell 1
        clear hb q
        have RR := Lib.hid R
        have HB := Lib.hid hB
        clear R hB
        go_wp2_with (first | (go_at_call 75; refine (in_any _ _ _ _).mono ?_; rintro e w' ⟨rfl, rfl⟩) | (go_at_call 76; refine (mask_any _ _ _ ds _ HB.out _ RR.out).mono ?_; rintro e w2 ⟨rfl, hb⟩) | (go_at_call 71; refine (smask_bel _ _ _ ds HB.out _ RR.out).mono ?_; rintro e w2 ⟨rfl, hb⟩) | (go_at_call 73; refine (less_any _ _ x0 x1 m0 m1 _).mono ?_; rintro e w' ⟨rfl, rfl⟩))
        go_ret
        exact ⟨ret_bool HF.out.symm, Below.on b hb b.size⟩

set_option maxHeartbeats 1000000 in
theorem sisValue_any (A : Option Addr) (n c : Nat) (ds : List D) (z x : Int) (w : World) (hr : Rd w w.heap.size A n c ds) :
    Calls Try.prog 48 #[.agg #[.slice A n c, .int .i64 z], .int .i64 x] w fun e w' => e = .returned (.bool (isVal ds z x)) ∧ Below w.heap.size w w' := by
  have q := blk1 w #[.slice A n c, .int .i64 z] 31
  have b := below1 w (.cells #[.slice A n c, .int .i64 z] 31)
  have R := hr.to b
  clear hr
  cases hv : vFlag ds z with
  | false =>
    have HF := Lib.hid (isVal_bad (n := x) hv)
    go_enter Try.func48, Try.ntmps48
    go_wp2_with fail
    refine (svalidFlag_any _ _ _ ds _ _ R).mono ?_
    rintro e w1 ⟨rfl, hb⟩
    go_wp2
    go_ret
    exact ⟨ret_bool HF.out.symm, Below.on b hb b.size⟩
  | true =>
    cases hi : inR x 0 4095 with
    | false =>
      have HF := Lib.hid (isVal_range (ds := ds) (z := z) hi)
      go_enter Try.func48, Try.ntmps48
      go_wp2_with fail
      refine (svalidFlag_any _ _ _ ds _ _ R).mono ?_
      rintro e w1 ⟨rfl, hb⟩
      go_wp2_with (go_at_call 72; refine (inRange_any _ _ _ _).mono ?_; rintro e w' ⟨rfl, rfl⟩)
      go_ret
      exact ⟨ret_bool HF.out.symm, Below.on b hb b.size⟩
    | true =>
      by_cases hz : z = 3
      · subst hz
        have HF := Lib.hid (isVal_keep hv hi)
        go_enter Try.func48, Try.ntmps48
        go_wp2_with fail
        refine (svalidFlag_any _ _ _ ds _ _ R).mono ?_
        rintro e w1 ⟨rfl, hb⟩
        have q1 := q.below hb q.lt
        have c0 := q1.cell 0
        have c1 := q1.cell 1
        go_wp2_with (go_at_call 72; refine (inRange_any _ _ _ _).mono ?_; rintro e w' ⟨rfl, rfl⟩)
        go_ret
        exact ⟨ret_bool HF.out.symm, Below.on b hb b.size⟩
      · have hz' : (z == 3) = false := by simpa using hz
        have HF := Lib.hid (isVal_mask hv hi hz')
        have hB := Bits_of (vFlag_defs hv)
        obtain ⟨m0, m1⟩ := maskV_lt hB
        have hx : 0 ≤ x ∧ x ≤ 4095 := by simpa [inR] using hi
        obtain ⟨x0, x1⟩ := hx
        have e := bits_less (a := x) (b := maskV ds) x0 (by omega) m0 (by omega)
        clear hz
        go_enter Try.func48, Try.ntmps48
        go_wp2_with fail
        refine (svalidFlag_any _ _ _ ds _ _ R).mono ?_
        rintro e w1 ⟨rfl, hb⟩
        replace b := Below.on b hb b.size
        replace R := R.to hb
        have q1 := q.below hb q.lt
        have c0 := q1.cell 0
        have c1 := q1.cell 1
        clear hb q
        have RR := Lib.hid R
        have HB := Lib.hid hB
        clear R hB
        go_wp2_with (first | (go_at_call 72; refine (inRange_any _ _ _ _).mono ?_; rintro e w' ⟨rfl, rfl⟩) | (go_at_call 76; refine (mask_any _ _ _ ds _ HB.out _ RR.out).mono ?_; rintro e w2 ⟨rfl, hb⟩) | (go_at_call 71; refine (smask_bel _ _ _ ds HB.out _ RR.out).mono ?_; rintro e w2 ⟨rfl, hb⟩) | (go_at_call 73; refine (less_any _ _ x0 x1 m0 m1 _).mono ?_; rintro e w' ⟨rfl, rfl⟩))
        go_ret
        exact ⟨ret_bool HF.out.symm, Below.on b hb b.size⟩

/-- Two numbers are values of a class. -/
def isTwo (ds : List D) (z x y : Int) : Bool := isVal ds z x && isVal ds z y
/-! The algebra: the bits of two values, -1 for other arguments. -/
theorem isTwo_lt {ds : List D} {z x y : Int} (h : isTwo ds z x y = true) : (0 ≤ x ∧ x ≤ 4095) ∧ 0 ≤ y ∧ y ≤ 4095 := by
  simp only [isTwo, Bool.and_eq_true] at h
  exact ⟨(isVal_lt h.1).2, (isVal_lt h.2).2⟩
def joinV (of : Int → Int → Int) (ds : List D) (z x y : Int) : Int := if isTwo ds z x y then of x y else -1
theorem joinV_no {of : Int → Int → Int} {ds : List D} {z x y : Int} (h : isTwo ds z x y = false) : joinV of ds z x y = -1 := by unfold joinV; rw [h]; rfl
theorem joinV_yes {of : Int → Int → Int} {ds : List D} {z x y : Int} (h : isTwo ds z x y = true) : joinV of ds z x y = of x y := by unfold joinV; rw [h]; rfl
/-- One value has all bits of another one. -/
def hasAllV (ds : List D) (z x y : Int) : Bool := isTwo ds z x y && (lessV y x == 0)
/-- Two values are compared by their bits. -/
def cmpV (ds : List D) (z x y : Int) : Int := if isTwo ds z x y then (if x = y then 0 else if lessV x y = 0 then -1 else if lessV y x = 0 then 1 else 2) else 3
end Go.Proofs.Ythobedmjbkjfoaa
