/-
  The walks over values of classes of flags: IsValue, the algebra, comparison.
-/
import Derived.Test.YtofkbckpncpmkaaWFlag
namespace Go.Proofs.Ytofkbckpncpmkaa
open Go.RowKit

set_option maxHeartbeats 1000000 in
theorem isValue_any (A : Option Addr) (n c : Nat) (ds : List D) (z x : Int) (w : World) (hr : Rd w w.heap.size A n c ds) :
    Calls Try.prog 33 #[.agg #[.slice A n c, .int .i64 z], .int .i64 x] w fun e w' => e = .returned (.bool (isVal ds z x)) ∧ Below w.heap.size w w' := by
  have q := blk1 w #[.slice A n c, .int .i64 z] 25
  have b := below1 w (.cells #[.slice A n c, .int .i64 z] 25)
  have R := hr.to b
  clear hr
  cases hv : vFlag ds z with
  | false =>
    have HF := Lib.hid (isVal_bad (n := x) hv)
    go_enter Try.func33, Try.ntmps33
    go_wp2_with fail
    refine (validFlag_any _ _ _ ds _ _ R).mono ?_
    rintro e w1 ⟨rfl, hb⟩
    go_wp2
    go_ret
    exact ⟨ret_bool HF.out.symm, Below.on b hb b.size⟩
  | true =>
    cases hi : inR x 0 4095 with
    | false =>
      have HF := Lib.hid (isVal_range (ds := ds) (z := z) hi)
      go_enter Try.func33, Try.ntmps33
      go_wp2_with fail
      refine (validFlag_any _ _ _ ds _ _ R).mono ?_
      rintro e w1 ⟨rfl, hb⟩
      go_wp2_with (go_at_call 61; refine (in_any _ _ _ _).mono ?_; rintro e w' ⟨rfl, rfl⟩)
      go_ret
      exact ⟨ret_bool HF.out.symm, Below.on b hb b.size⟩
    | true =>
      by_cases hz : z = 3
      · subst hz
        have HF := Lib.hid (isVal_keep hv hi)
        go_enter Try.func33, Try.ntmps33
        go_wp2_with fail
        refine (validFlag_any _ _ _ ds _ _ R).mono ?_
        rintro e w1 ⟨rfl, hb⟩
        have q1 := q.below hb q.lt
        have c0 := q1.cell 0
        have c1 := q1.cell 1
        go_wp2_with (go_at_call 61; refine (in_any _ _ _ _).mono ?_; rintro e w' ⟨rfl, rfl⟩)
        go_ret
        exact ⟨ret_bool HF.out.symm, Below.on b hb b.size⟩
      · have hz' : (z == 3) = false := by simpa using hz
        have HF := Lib.hid (isVal_mask hv hi hz')
        have hB := Bits_of (vFlag_defs hv)
        obtain ⟨m0, m1⟩ := maskV_lt hB
        have hx : 0 ≤ x ∧ x ≤ 4095 := by simpa [inR] using hi
        obtain ⟨x0, x1⟩ := hx
        have e := bits_less (a := x) (b := maskV ds) x0 (by omega) m0 (by omega)
        clear hz
        go_enter Try.func33, Try.ntmps33
        go_wp2_with fail
        refine (validFlag_any _ _ _ ds _ _ R).mono ?_
        rintro e w1 ⟨rfl, hb⟩
        replace b := Below.on b hb b.size
        replace R := R.to hb
        have q1 := q.below hb q.lt
        have c0 := q1.cell 0
        have c1 := q1.cell 1
        clear hb q
        have RR := Lib.hid R
        have HB := Lib.hid hB
        clear R hB
        go_wp2_with (first | (go_at_call 61; refine (in_any _ _ _ _).mono ?_; rintro e w' ⟨rfl, rfl⟩) | (go_at_call 71; refine (mask_any _ _ _ ds _ HB.out _ RR.out).mono ?_; rintro e w2 ⟨rfl, hb⟩) | (go_at_call 72; refine (smask_bel _ _ _ ds HB.out _ RR.out).mono ?_; rintro e w2 ⟨rfl, hb⟩) | (go_at_call 82; refine (less_any _ _ x0 x1 m0 m1 _).mono ?_; rintro e w' ⟨rfl, rfl⟩))
        go_ret
        exact ⟨ret_bool HF.out.symm, Below.on b hb b.size⟩

set_option maxHeartbeats 1000000 in
theorem sisValue_any (A : Option Addr) (n c : Nat) (ds : List D) (z x : Int) (w : World) (hr : Rd w w.heap.size A n c ds) :
    Calls Try.prog 74 #[.agg #[.slice A n c, .int .i64 z], .int .i64 x] w fun e w' => e = .returned (.bool (isVal ds z x)) ∧ Below w.heap.size w w' := by
  have q := blk1 w #[.slice A n c, .int .i64 z] 25
  have b := below1 w (.cells #[.slice A n c, .int .i64 z] 25)
  have R := hr.to b
  clear hr
  cases hv : vFlag ds z with
  | false =>
    have HF := Lib.hid (isVal_bad (n := x) hv)
    go_enter Try.func74, Try.ntmps74
    go_wp2_with fail
    refine (svalidFlag_any _ _ _ ds _ _ R).mono ?_
    rintro e w1 ⟨rfl, hb⟩
    go_wp2
    go_ret
    exact ⟨ret_bool HF.out.symm, Below.on b hb b.size⟩
  | true =>
    cases hi : inR x 0 4095 with
    | false =>
      have HF := Lib.hid (isVal_range (ds := ds) (z := z) hi)
      go_enter Try.func74, Try.ntmps74
      go_wp2_with fail
      refine (svalidFlag_any _ _ _ ds _ _ R).mono ?_
      rintro e w1 ⟨rfl, hb⟩
      go_wp2_with (go_at_call 94; refine (inRange_any _ _ _ _).mono ?_; rintro e w' ⟨rfl, rfl⟩)
      go_ret
      exact ⟨ret_bool HF.out.symm, Below.on b hb b.size⟩
    | true =>
      by_cases hz : z = 3
      · subst hz
        have HF := Lib.hid (isVal_keep hv hi)
        go_enter Try.func74, Try.ntmps74
        go_wp2_with fail
        refine (svalidFlag_any _ _ _ ds _ _ R).mono ?_
        rintro e w1 ⟨rfl, hb⟩
        have q1 := q.below hb q.lt
        have c0 := q1.cell 0
        have c1 := q1.cell 1
        go_wp2_with (go_at_call 94; refine (inRange_any _ _ _ _).mono ?_; rintro e w' ⟨rfl, rfl⟩)
        go_ret
        exact ⟨ret_bool HF.out.symm, Below.on b hb b.size⟩
      · have hz' : (z == 3) = false := by simpa using hz
        have HF := Lib.hid (isVal_mask hv hi hz')
        have hB := Bits_of (vFlag_defs hv)
        obtain ⟨m0, m1⟩ := maskV_lt hB
        have hx : 0 ≤ x ∧ x ≤ 4095 := by simpa [inR] using hi
        obtain ⟨x0, x1⟩ := hx
        have e := bits_less (a := x) (b := maskV ds) x0 (by omega) m0 (by omega)
        clear hz
        go_enter Try.func74, Try.ntmps74
        go_wp2_with fail
        refine (svalidFlag_any _ _ _ ds _ _ R).mono ?_
        rintro e w1 ⟨rfl, hb⟩
        replace b := Below.on b hb b.size
        replace R := R.to hb
        have q1 := q.below hb q.lt
        have c0 := q1.cell 0
        have c1 := q1.cell 1
        clear hb q
        have RR := Lib.hid R
        have HB := Lib.hid hB
        clear R hB
        go_wp2_with (first | (go_at_call 94; refine (inRange_any _ _ _ _).mono ?_; rintro e w' ⟨rfl, rfl⟩) | (go_at_call 71; refine (mask_any _ _ _ ds _ HB.out _ RR.out).mono ?_; rintro e w2 ⟨rfl, hb⟩) | (go_at_call 72; refine (smask_bel _ _ _ ds HB.out _ RR.out).mono ?_; rintro e w2 ⟨rfl, hb⟩) | (go_at_call 82; refine (less_any _ _ x0 x1 m0 m1 _).mono ?_; rintro e w' ⟨rfl, rfl⟩))
        go_ret
        exact ⟨ret_bool HF.out.symm, Below.on b hb b.size⟩

set_option maxHeartbeats 400000 in
theorem sIsValue_any (A : Option Addr) (n c : Nat) (ds : List D) (z x : Int) (w : World) (hr : Rd w w.heap.size A n c ds) :
    Calls Try.prog 35 #[.agg #[.slice A n c, .int .i64 z], .int .i64 x] w fun e w' => e = .returned (.bool (isVal ds z x)) ∧ Below w.heap.size w w' := by
  have b := below1 w (.cells #[.slice A n c, .int .i64 z] 25)
  have R := hr.to b
  clear hr
  go_enter Try.func35, Try.ntmps35
  go_wp2_with fail
  refine (sisValue_any _ _ _ ds _ _ _ R).mono ?_
  rintro e w1 ⟨rfl, hb⟩
  go_wp2
  go_ret
  exact ⟨ret_bool rfl, Below.on b hb b.size⟩

/-- Two numbers are values of a class. -/
def isTwo (ds : List D) (z x y : Int) : Bool := isVal ds z x && isVal ds z y
set_option maxHeartbeats 1000000 in
theorem stwoValues_any (A : Option Addr) (n c : Nat) (ds : List D) (z x y : Int) (w : World) (hr : Rd w w.heap.size A n c ds) :
    Calls Try.prog 81 #[.agg #[.slice A n c, .int .i64 z], .int .i64 x, .int .i64 y] w fun e w' => e = .returned (.bool (isTwo ds z x y)) ∧ Below w.heap.size w w' := by
  have q := blk1 w #[.slice A n c, .int .i64 z] 25
  have b := below1 w (.cells #[.slice A n c, .int .i64 z] 25)
  have R := hr.to b
  clear hr
  cases h1 : isVal ds z x with
  | false =>
    have HF := Lib.hid (show isTwo ds z x y = false from by simp [isTwo, h1])
    go_enter Try.func81, Try.ntmps81
    go_wp2_with fail
    refine (sisValue_any _ _ _ ds _ _ _ R).mono ?_
    rintro e w1 ⟨rfl, hb⟩
    go_wp2
    go_ret
    exact ⟨ret_bool HF.out.symm, Below.on b hb b.size⟩
  | true =>
    have HF := Lib.hid (show isTwo ds z x y = isVal ds z y from by simp [isTwo, h1])
    go_enter Try.func81, Try.ntmps81
    go_wp2_with fail
    refine (sisValue_any _ _ _ ds _ _ _ R).mono ?_
    rintro e w1 ⟨rfl, hb⟩
    replace b := Below.on b hb b.size
    replace R := R.to hb
    have q1 := q.below hb q.lt
    have c0 := q1.cell 0
    have c1 := q1.cell 1
    clear hb
    go_wp2_with fail
    refine (sisValue_any _ _ _ ds _ _ _ R).mono ?_
    rintro e w2 ⟨rfl, hb⟩
    go_wp2
    go_ret
    exact ⟨ret_bool HF.out.symm, Below.on b hb b.size⟩

/-! The algebra: the bits of two values, -1 for other arguments. -/
theorem isTwo_lt {ds : List D} {z x y : Int} (h : isTwo ds z x y = true) : (0 ≤ x ∧ x ≤ 4095) ∧ 0 ≤ y ∧ y ≤ 4095 := by
  simp only [isTwo, Bool.and_eq_true] at h
  exact ⟨(isVal_lt h.1).2, (isVal_lt h.2).2⟩
def joinV (of : Int → Int → Int) (ds : List D) (z x y : Int) : Int := if isTwo ds z x y then of x y else -1
theorem joinV_no {of : Int → Int → Int} {ds : List D} {z x y : Int} (h : isTwo ds z x y = false) : joinV of ds z x y = -1 := by unfold joinV; rw [h]; rfl
theorem joinV_yes {of : Int → Int → Int} {ds : List D} {z x y : Int} (h : isTwo ds z x y = true) : joinV of ds z x y = of x y := by unfold joinV; rw [h]; rfl
set_option maxHeartbeats 1000000 in
theorem and1_any (x y : Int) (x0 : 0 ≤ x) (x1 : x ≤ 4095) (y0 : 0 ≤ y) (y1 : y ≤ 4095) (w : World) :
    Calls Try.prog 83 #[.int .i64 x, .int .i64 y] w fun e w' => e = .returned (.int .i64 (andV x y)) ∧ w = w' := by
  have e := bits_and (a := x) (b := y) x0 (by omega) y0 (by omega)
  go_enter Try.func83, Try.ntmps83
  go_wp2
  go_ret
  exact ⟨ret_int rfl, rfl⟩
set_option maxHeartbeats 1000000 in
theorem join_and1_any (A : Option Addr) (n c : Nat) (ds : List D) (z x y : Int) (w : World) (hr : Rd w w.heap.size A n c ds) :
    Calls Try.prog 78 #[.agg #[.slice A n c, .int .i64 z], .int .i64 x, .int .i64 y, .func (.func 83) #[] #[]] w fun e w' => e = .returned (.int .i64 (joinV andV ds z x y)) ∧ Below w.heap.size w w' := by
  have q := blk1 w #[.slice A n c, .int .i64 z] 25
  have b := below1 w (.cells #[.slice A n c, .int .i64 z] 25)
  have R := hr.to b
  clear hr
  cases h1 : isVal ds z x with
  | false =>
    have HF := Lib.hid (joinV_no (of := andV) (show isTwo ds z x y = false from by simp [isTwo, h1]))
    go_enter Try.func78, Try.ntmps78
    go_wp2_with fail
    refine (isValue_any _ _ _ ds _ _ _ R).mono ?_
    rintro e w1 ⟨rfl, hb⟩
    go_wp2
    go_ret
    exact ⟨ret_int HF.out.symm, Below.on b hb b.size⟩
  | true =>
    cases h2 : isVal ds z y with
    | false =>
      have HF := Lib.hid (joinV_no (of := andV) (show isTwo ds z x y = false from by simp [isTwo, h2]))
      go_enter Try.func78, Try.ntmps78
      go_wp2_with fail
      refine (isValue_any _ _ _ ds _ _ _ R).mono ?_
      rintro e w1 ⟨rfl, hb⟩
      replace b := Below.on b hb b.size
      replace R := R.to hb
      have q1 := q.below hb q.lt
      have c0 := q1.cell 0
      have c1 := q1.cell 1
      clear hb
      go_wp2_with fail
      refine (isValue_any _ _ _ ds _ _ _ R).mono ?_
      rintro e w2 ⟨rfl, hb⟩
      go_wp2
      go_ret
      exact ⟨ret_int HF.out.symm, Below.on b hb b.size⟩
    | true =>
      have h3 : isTwo ds z x y = true := by simp [isTwo, h1, h2]
      have HF := Lib.hid (joinV_yes (of := andV) h3)
      obtain ⟨⟨x0, x1⟩, y0, y1⟩ := isTwo_lt h3
      go_enter Try.func78, Try.ntmps78
      go_wp2_with fail
      refine (isValue_any _ _ _ ds _ _ _ R).mono ?_
      rintro e w1 ⟨rfl, hb⟩
      replace b := Below.on b hb b.size
      replace R := R.to hb
      have q1 := q.below hb q.lt
      have c0 := q1.cell 0
      have c1 := q1.cell 1
      clear hb
      go_wp2_with fail
      refine (isValue_any _ _ _ ds _ _ _ R).mono ?_
      rintro e w2 ⟨rfl, hb⟩
      go_wp2_with (go_at_call 83; refine (and1_any _ _ x0 x1 y0 y1 _).mono ?_; rintro e w' ⟨rfl, rfl⟩)
      go_ret
      exact ⟨ret_int HF.out.symm, Below.on b hb b.size⟩
set_option maxHeartbeats 400000 in
theorem andValues_any (A : Option Addr) (n c : Nat) (ds : List D) (z x y : Int) (w : World) (hr : Rd w w.heap.size A n c ds) :
    Calls Try.prog 41 #[.agg #[.slice A n c, .int .i64 z], .int .i64 x, .int .i64 y] w fun e w' => e = .returned (.int .i64 (joinV andV ds z x y)) ∧ Below w.heap.size w w' := by
  have b := below1 w (.cells #[.slice A n c, .int .i64 z] 25)
  have R := hr.to b
  clear hr
  go_enter Try.func41, Try.ntmps41
  go_wp2_with fail
  refine (join_and1_any _ _ _ ds _ _ _ _ R).mono ?_
  rintro e w1 ⟨rfl, hb⟩
  go_wp2
  go_ret
  exact ⟨ret_int rfl, Below.on b hb b.size⟩

set_option maxHeartbeats 1000000 in
theorem or1_any (x y : Int) (x0 : 0 ≤ x) (x1 : x ≤ 4095) (y0 : 0 ≤ y) (y1 : y ≤ 4095) (w : World) :
    Calls Try.prog 79 #[.int .i64 x, .int .i64 y] w fun e w' => e = .returned (.int .i64 (orV x y)) ∧ w = w' := by
  have e := bits_or (a := x) (b := y) x0 (by omega) y0 (by omega)
  go_enter Try.func79, Try.ntmps79
  go_wp2
  go_ret
  exact ⟨ret_int rfl, rfl⟩
set_option maxHeartbeats 1000000 in
theorem join_or1_any (A : Option Addr) (n c : Nat) (ds : List D) (z x y : Int) (w : World) (hr : Rd w w.heap.size A n c ds) :
    Calls Try.prog 78 #[.agg #[.slice A n c, .int .i64 z], .int .i64 x, .int .i64 y, .func (.func 79) #[] #[]] w fun e w' => e = .returned (.int .i64 (joinV orV ds z x y)) ∧ Below w.heap.size w w' := by
  have q := blk1 w #[.slice A n c, .int .i64 z] 25
  have b := below1 w (.cells #[.slice A n c, .int .i64 z] 25)
  have R := hr.to b
  clear hr
  cases h1 : isVal ds z x with
  | false =>
    have HF := Lib.hid (joinV_no (of := orV) (show isTwo ds z x y = false from by simp [isTwo, h1]))
    go_enter Try.func78, Try.ntmps78
    go_wp2_with fail
    refine (isValue_any _ _ _ ds _ _ _ R).mono ?_
    rintro e w1 ⟨rfl, hb⟩
    go_wp2
    go_ret
    exact ⟨ret_int HF.out.symm, Below.on b hb b.size⟩
  | true =>
    cases h2 : isVal ds z y with
    | false =>
      have HF := Lib.hid (joinV_no (of := orV) (show isTwo ds z x y = false from by simp [isTwo, h2]))
      go_enter Try.func78, Try.ntmps78
      go_wp2_with fail
      refine (isValue_any _ _ _ ds _ _ _ R).mono ?_
      rintro e w1 ⟨rfl, hb⟩
      replace b := Below.on b hb b.size
      replace R := R.to hb
      have q1 := q.below hb q.lt
      have c0 := q1.cell 0
      have c1 := q1.cell 1
      clear hb
      go_wp2_with fail
      refine (isValue_any _ _ _ ds _ _ _ R).mono ?_
      rintro e w2 ⟨rfl, hb⟩
      go_wp2
      go_ret
      exact ⟨ret_int HF.out.symm, Below.on b hb b.size⟩
    | true =>
      have h3 : isTwo ds z x y = true := by simp [isTwo, h1, h2]
      have HF := Lib.hid (joinV_yes (of := orV) h3)
      obtain ⟨⟨x0, x1⟩, y0, y1⟩ := isTwo_lt h3
      go_enter Try.func78, Try.ntmps78
      go_wp2_with fail
      refine (isValue_any _ _ _ ds _ _ _ R).mono ?_
      rintro e w1 ⟨rfl, hb⟩
      replace b := Below.on b hb b.size
      replace R := R.to hb
      have q1 := q.below hb q.lt
      have c0 := q1.cell 0
      have c1 := q1.cell 1
      clear hb
      go_wp2_with fail
      refine (isValue_any _ _ _ ds _ _ _ R).mono ?_
      rintro e w2 ⟨rfl, hb⟩
      go_wp2_with (go_at_call 79; refine (or1_any _ _ x0 x1 y0 y1 _).mono ?_; rintro e w' ⟨rfl, rfl⟩)
      go_ret
      exact ⟨ret_int HF.out.symm, Below.on b hb b.size⟩
set_option maxHeartbeats 400000 in
theorem orValues_any (A : Option Addr) (n c : Nat) (ds : List D) (z x y : Int) (w : World) (hr : Rd w w.heap.size A n c ds) :
    Calls Try.prog 38 #[.agg #[.slice A n c, .int .i64 z], .int .i64 x, .int .i64 y] w fun e w' => e = .returned (.int .i64 (joinV orV ds z x y)) ∧ Below w.heap.size w w' := by
  have b := below1 w (.cells #[.slice A n c, .int .i64 z] 25)
  have R := hr.to b
  clear hr
  go_enter Try.func38, Try.ntmps38
  go_wp2_with fail
  refine (join_or1_any _ _ _ ds _ _ _ _ R).mono ?_
  rintro e w1 ⟨rfl, hb⟩
  go_wp2
  go_ret
  exact ⟨ret_int rfl, Below.on b hb b.size⟩

set_option maxHeartbeats 1000000 in
theorem xor1_any (x y : Int) (x0 : 0 ≤ x) (x1 : x ≤ 4095) (y0 : 0 ≤ y) (y1 : y ≤ 4095) (w : World) :
    Calls Try.prog 86 #[.int .i64 x, .int .i64 y] w fun e w' => e = .returned (.int .i64 (xorV x y)) ∧ w = w' := by
  have e := bits_xor (a := x) (b := y) x0 (by omega) y0 (by omega)
  go_enter Try.func86, Try.ntmps86
  go_wp2
  go_ret
  exact ⟨ret_int rfl, rfl⟩
set_option maxHeartbeats 1000000 in
theorem join_xor1_any (A : Option Addr) (n c : Nat) (ds : List D) (z x y : Int) (w : World) (hr : Rd w w.heap.size A n c ds) :
    Calls Try.prog 78 #[.agg #[.slice A n c, .int .i64 z], .int .i64 x, .int .i64 y, .func (.func 86) #[] #[]] w fun e w' => e = .returned (.int .i64 (joinV xorV ds z x y)) ∧ Below w.heap.size w w' := by
  have q := blk1 w #[.slice A n c, .int .i64 z] 25
  have b := below1 w (.cells #[.slice A n c, .int .i64 z] 25)
  have R := hr.to b
  clear hr
  cases h1 : isVal ds z x with
  | false =>
    have HF := Lib.hid (joinV_no (of := xorV) (show isTwo ds z x y = false from by simp [isTwo, h1]))
    go_enter Try.func78, Try.ntmps78
    go_wp2_with fail
    refine (isValue_any _ _ _ ds _ _ _ R).mono ?_
    rintro e w1 ⟨rfl, hb⟩
    go_wp2
    go_ret
    exact ⟨ret_int HF.out.symm, Below.on b hb b.size⟩
  | true =>
    cases h2 : isVal ds z y with
    | false =>
      have HF := Lib.hid (joinV_no (of := xorV) (show isTwo ds z x y = false from by simp [isTwo, h2]))
      go_enter Try.func78, Try.ntmps78
      go_wp2_with fail
      refine (isValue_any _ _ _ ds _ _ _ R).mono ?_
      rintro e w1 ⟨rfl, hb⟩
      replace b := Below.on b hb b.size
      replace R := R.to hb
      have q1 := q.below hb q.lt
      have c0 := q1.cell 0
      have c1 := q1.cell 1
      clear hb
      go_wp2_with fail
      refine (isValue_any _ _ _ ds _ _ _ R).mono ?_
      rintro e w2 ⟨rfl, hb⟩
      go_wp2
      go_ret
      exact ⟨ret_int HF.out.symm, Below.on b hb b.size⟩
    | true =>
      have h3 : isTwo ds z x y = true := by simp [isTwo, h1, h2]
      have HF := Lib.hid (joinV_yes (of := xorV) h3)
      obtain ⟨⟨x0, x1⟩, y0, y1⟩ := isTwo_lt h3
      go_enter Try.func78, Try.ntmps78
      go_wp2_with fail
      refine (isValue_any _ _ _ ds _ _ _ R).mono ?_
      rintro e w1 ⟨rfl, hb⟩
      replace b := Below.on b hb b.size
      replace R := R.to hb
      have q1 := q.below hb q.lt
      have c0 := q1.cell 0
      have c1 := q1.cell 1
      clear hb
      go_wp2_with fail
      refine (isValue_any _ _ _ ds _ _ _ R).mono ?_
      rintro e w2 ⟨rfl, hb⟩
      go_wp2_with (go_at_call 86; refine (xor1_any _ _ x0 x1 y0 y1 _).mono ?_; rintro e w' ⟨rfl, rfl⟩)
      go_ret
      exact ⟨ret_int HF.out.symm, Below.on b hb b.size⟩
set_option maxHeartbeats 400000 in
theorem xorValues_any (A : Option Addr) (n c : Nat) (ds : List D) (z x y : Int) (w : World) (hr : Rd w w.heap.size A n c ds) :
    Calls Try.prog 50 #[.agg #[.slice A n c, .int .i64 z], .int .i64 x, .int .i64 y] w fun e w' => e = .returned (.int .i64 (joinV xorV ds z x y)) ∧ Below w.heap.size w w' := by
  have b := below1 w (.cells #[.slice A n c, .int .i64 z] 25)
  have R := hr.to b
  clear hr
  go_enter Try.func50, Try.ntmps50
  go_wp2_with fail
  refine (join_xor1_any _ _ _ ds _ _ _ _ R).mono ?_
  rintro e w1 ⟨rfl, hb⟩
  go_wp2
  go_ret
  exact ⟨ret_int rfl, Below.on b hb b.size⟩

set_option maxHeartbeats 1000000 in
theorem less1_any (x y : Int) (x0 : 0 ≤ x) (x1 : x ≤ 4095) (y0 : 0 ≤ y) (y1 : y ≤ 4095) (w : World) :
    Calls Try.prog 85 #[.int .i64 x, .int .i64 y] w fun e w' => e = .returned (.int .i64 (lessV x y)) ∧ w = w' := by
  have e := bits_less (a := x) (b := y) x0 (by omega) y0 (by omega)
  go_enter Try.func85, Try.ntmps85
  go_wp2
  go_ret
  exact ⟨ret_int rfl, rfl⟩
set_option maxHeartbeats 1000000 in
theorem join_less1_any (A : Option Addr) (n c : Nat) (ds : List D) (z x y : Int) (w : World) (hr : Rd w w.heap.size A n c ds) :
    Calls Try.prog 78 #[.agg #[.slice A n c, .int .i64 z], .int .i64 x, .int .i64 y, .func (.func 85) #[] #[]] w fun e w' => e = .returned (.int .i64 (joinV lessV ds z x y)) ∧ Below w.heap.size w w' := by
  have q := blk1 w #[.slice A n c, .int .i64 z] 25
  have b := below1 w (.cells #[.slice A n c, .int .i64 z] 25)
  have R := hr.to b
  clear hr
  cases h1 : isVal ds z x with
  | false =>
    have HF := Lib.hid (joinV_no (of := lessV) (show isTwo ds z x y = false from by simp [isTwo, h1]))
    go_enter Try.func78, Try.ntmps78
    go_wp2_with fail
    refine (isValue_any _ _ _ ds _ _ _ R).mono ?_
    rintro e w1 ⟨rfl, hb⟩
    go_wp2
    go_ret
    exact ⟨ret_int HF.out.symm, Below.on b hb b.size⟩
  | true =>
    cases h2 : isVal ds z y with
    | false =>
      have HF := Lib.hid (joinV_no (of := lessV) (show isTwo ds z x y = false from by simp [isTwo, h2]))
      go_enter Try.func78, Try.ntmps78
      go_wp2_with fail
      refine (isValue_any _ _ _ ds _ _ _ R).mono ?_
      rintro e w1 ⟨rfl, hb⟩
      replace b := Below.on b hb b.size
      replace R := R.to hb
      have q1 := q.below hb q.lt
      have c0 := q1.cell 0
      have c1 := q1.cell 1
      clear hb
      go_wp2_with fail
      refine (isValue_any _ _ _ ds _ _ _ R).mono ?_
      rintro e w2 ⟨rfl, hb⟩
      go_wp2
      go_ret
      exact ⟨ret_int HF.out.symm, Below.on b hb b.size⟩
    | true =>
      have h3 : isTwo ds z x y = true := by simp [isTwo, h1, h2]
      have HF := Lib.hid (joinV_yes (of := lessV) h3)
      obtain ⟨⟨x0, x1⟩, y0, y1⟩ := isTwo_lt h3
      go_enter Try.func78, Try.ntmps78
      go_wp2_with fail
      refine (isValue_any _ _ _ ds _ _ _ R).mono ?_
      rintro e w1 ⟨rfl, hb⟩
      replace b := Below.on b hb b.size
      replace R := R.to hb
      have q1 := q.below hb q.lt
      have c0 := q1.cell 0
      have c1 := q1.cell 1
      clear hb
      go_wp2_with fail
      refine (isValue_any _ _ _ ds _ _ _ R).mono ?_
      rintro e w2 ⟨rfl, hb⟩
      go_wp2_with (go_at_call 85; refine (less1_any _ _ x0 x1 y0 y1 _).mono ?_; rintro e w' ⟨rfl, rfl⟩)
      go_ret
      exact ⟨ret_int HF.out.symm, Below.on b hb b.size⟩
set_option maxHeartbeats 400000 in
theorem lessValues_any (A : Option Addr) (n c : Nat) (ds : List D) (z x y : Int) (w : World) (hr : Rd w w.heap.size A n c ds) :
    Calls Try.prog 46 #[.agg #[.slice A n c, .int .i64 z], .int .i64 x, .int .i64 y] w fun e w' => e = .returned (.int .i64 (joinV lessV ds z x y)) ∧ Below w.heap.size w w' := by
  have b := below1 w (.cells #[.slice A n c, .int .i64 z] 25)
  have R := hr.to b
  clear hr
  go_enter Try.func46, Try.ntmps46
  go_wp2_with fail
  refine (join_less1_any _ _ _ ds _ _ _ _ R).mono ?_
  rintro e w1 ⟨rfl, hb⟩
  go_wp2
  go_ret
  exact ⟨ret_int rfl, Below.on b hb b.size⟩

set_option maxHeartbeats 1000000 in
theorem sandValues_any (A : Option Addr) (n c : Nat) (ds : List D) (z x y : Int) (w : World) (hr : Rd w w.heap.size A n c ds) :
    Calls Try.prog 43 #[.agg #[.slice A n c, .int .i64 z], .int .i64 x, .int .i64 y] w fun e w' => e = .returned (.int .i64 (joinV andV ds z x y)) ∧ Below w.heap.size w w' := by
  have b := below1 w (.cells #[.slice A n c, .int .i64 z] 25)
  have R := hr.to b
  clear hr
  cases h3 : isTwo ds z x y with
  | false =>
    have HF := Lib.hid (joinV_no (of := andV) h3)
    go_enter Try.func43, Try.ntmps43
    go_wp2_with fail
    refine (stwoValues_any _ _ _ ds _ _ _ _ R).mono ?_
    rintro e w1 ⟨rfl, hb⟩
    go_wp2
    go_ret
    exact ⟨ret_int HF.out.symm, Below.on b hb b.size⟩
  | true =>
    have HF := Lib.hid (joinV_yes (of := andV) h3)
    obtain ⟨⟨x0, x1⟩, y0, y1⟩ := isTwo_lt h3
    have hl := andV_le (b := y) x0
    obtain ⟨l0, l1⟩ := hl
    
    go_enter Try.func43, Try.ntmps43
    go_wp2_with fail
    refine (stwoValues_any _ _ _ ds _ _ _ _ R).mono ?_
    rintro e w1 ⟨rfl, hb⟩
    go_wp2_with (go_at_call 84; refine (both_any _ _ x0 x1 y0 y1 _).mono ?_; rintro e w' ⟨rfl, rfl⟩)
    go_ret
    exact ⟨ret_int (HF.out.symm), Below.on b hb b.size⟩

set_option maxHeartbeats 1000000 in
theorem sorValues_any (A : Option Addr) (n c : Nat) (ds : List D) (z x y : Int) (w : World) (hr : Rd w w.heap.size A n c ds) :
    Calls Try.prog 45 #[.agg #[.slice A n c, .int .i64 z], .int .i64 x, .int .i64 y] w fun e w' => e = .returned (.int .i64 (joinV orV ds z x y)) ∧ Below w.heap.size w w' := by
  have b := below1 w (.cells #[.slice A n c, .int .i64 z] 25)
  have R := hr.to b
  clear hr
  cases h3 : isTwo ds z x y with
  | false =>
    have HF := Lib.hid (joinV_no (of := orV) h3)
    go_enter Try.func45, Try.ntmps45
    go_wp2_with fail
    refine (stwoValues_any _ _ _ ds _ _ _ _ R).mono ?_
    rintro e w1 ⟨rfl, hb⟩
    go_wp2
    go_ret
    exact ⟨ret_int HF.out.symm, Below.on b hb b.size⟩
  | true =>
    have HF := Lib.hid (joinV_yes (of := orV) h3)
    obtain ⟨⟨x0, x1⟩, y0, y1⟩ := isTwo_lt h3
    have hl := andV_le (b := y) x0
    obtain ⟨l0, l1⟩ := hl
    
    go_enter Try.func45, Try.ntmps45
    go_wp2_with fail
    refine (stwoValues_any _ _ _ ds _ _ _ _ R).mono ?_
    rintro e w1 ⟨rfl, hb⟩
    go_wp2_with (go_at_call 77; refine (either_any _ _ x0 x1 y0 y1 _).mono ?_; rintro e w' ⟨rfl, rfl⟩)
    go_ret
    exact ⟨ret_int (HF.out.symm), Below.on b hb b.size⟩

set_option maxHeartbeats 1000000 in
theorem sxorValues_any (A : Option Addr) (n c : Nat) (ds : List D) (z x y : Int) (w : World) (hr : Rd w w.heap.size A n c ds) :
    Calls Try.prog 51 #[.agg #[.slice A n c, .int .i64 z], .int .i64 x, .int .i64 y] w fun e w' => e = .returned (.int .i64 (joinV xorV ds z x y)) ∧ Below w.heap.size w w' := by
  have b := below1 w (.cells #[.slice A n c, .int .i64 z] 25)
  have R := hr.to b
  clear hr
  cases h3 : isTwo ds z x y with
  | false =>
    have HF := Lib.hid (joinV_no (of := xorV) h3)
    go_enter Try.func51, Try.ntmps51
    go_wp2_with fail
    refine (stwoValues_any _ _ _ ds _ _ _ _ R).mono ?_
    rintro e w1 ⟨rfl, hb⟩
    go_wp2
    go_ret
    exact ⟨ret_int HF.out.symm, Below.on b hb b.size⟩
  | true =>
    have HF := Lib.hid (joinV_yes (of := xorV) h3)
    obtain ⟨⟨x0, x1⟩, y0, y1⟩ := isTwo_lt h3
    have hl := andV_le (b := y) x0
    obtain ⟨l0, l1⟩ := hl
    have HX := Lib.hid (xorV_eq x0 y0)
    go_enter Try.func51, Try.ntmps51
    go_wp2_with fail
    refine (stwoValues_any _ _ _ ds _ _ _ _ R).mono ?_
    rintro e w1 ⟨rfl, hb⟩
    go_wp2_with (go_at_call 84; refine (both_any _ _ x0 x1 y0 y1 _).mono ?_; rintro e w' ⟨rfl, rfl⟩)
    go_ret
    exact ⟨ret_int (by rw [HF.out, HX.out]), Below.on b hb b.size⟩

set_option maxHeartbeats 1000000 in
theorem slessValues_any (A : Option Addr) (n c : Nat) (ds : List D) (z x y : Int) (w : World) (hr : Rd w w.heap.size A n c ds) :
    Calls Try.prog 48 #[.agg #[.slice A n c, .int .i64 z], .int .i64 x, .int .i64 y] w fun e w' => e = .returned (.int .i64 (joinV lessV ds z x y)) ∧ Below w.heap.size w w' := by
  have b := below1 w (.cells #[.slice A n c, .int .i64 z] 25)
  have R := hr.to b
  clear hr
  cases h3 : isTwo ds z x y with
  | false =>
    have HF := Lib.hid (joinV_no (of := lessV) h3)
    go_enter Try.func48, Try.ntmps48
    go_wp2_with fail
    refine (stwoValues_any _ _ _ ds _ _ _ _ R).mono ?_
    rintro e w1 ⟨rfl, hb⟩
    go_wp2
    go_ret
    exact ⟨ret_int HF.out.symm, Below.on b hb b.size⟩
  | true =>
    have HF := Lib.hid (joinV_yes (of := lessV) h3)
    obtain ⟨⟨x0, x1⟩, y0, y1⟩ := isTwo_lt h3
    have hl := andV_le (b := y) x0
    obtain ⟨l0, l1⟩ := hl
    
    go_enter Try.func48, Try.ntmps48
    go_wp2_with fail
    refine (stwoValues_any _ _ _ ds _ _ _ _ R).mono ?_
    rintro e w1 ⟨rfl, hb⟩
    go_wp2_with (go_at_call 82; refine (less_any _ _ x0 x1 y0 y1 _).mono ?_; rintro e w' ⟨rfl, rfl⟩)
    go_ret
    exact ⟨ret_int (HF.out.symm), Below.on b hb b.size⟩

/-- One value has all bits of another one. -/
def hasAllV (ds : List D) (z x y : Int) : Bool := isTwo ds z x y && (lessV y x == 0)
set_option maxHeartbeats 1000000 in
theorem hasAll_any (A : Option Addr) (n c : Nat) (ds : List D) (z x y : Int) (w : World) (hr : Rd w w.heap.size A n c ds) :
    Calls Try.prog 31 #[.agg #[.slice A n c, .int .i64 z], .int .i64 x, .int .i64 y] w fun e w' => e = .returned (.bool (hasAllV ds z x y)) ∧ Below w.heap.size w w' := by
  have q := blk1 w #[.slice A n c, .int .i64 z] 25
  have b := below1 w (.cells #[.slice A n c, .int .i64 z] 25)
  have R := hr.to b
  clear hr
  cases h1 : isVal ds z x with
  | false =>
    have HF := Lib.hid (show hasAllV ds z x y = false from by simp [hasAllV, isTwo, h1])
    go_enter Try.func31, Try.ntmps31
    go_wp2_with fail
    refine (isValue_any _ _ _ ds _ _ _ R).mono ?_
    rintro e w1 ⟨rfl, hb⟩
    go_wp2
    go_ret
    exact ⟨ret_bool HF.out.symm, Below.on b hb b.size⟩
  | true =>
    cases h2 : isVal ds z y with
    | false =>
      have HF := Lib.hid (show hasAllV ds z x y = false from by simp [hasAllV, isTwo, h2])
      go_enter Try.func31, Try.ntmps31
      go_wp2_with fail
      refine (isValue_any _ _ _ ds _ _ _ R).mono ?_
      rintro e w1 ⟨rfl, hb⟩
      replace b := Below.on b hb b.size
      replace R := R.to hb
      have q1 := q.below hb q.lt
      have c0 := q1.cell 0
      have c1 := q1.cell 1
      clear hb
      go_wp2_with fail
      refine (isValue_any _ _ _ ds _ _ _ R).mono ?_
      rintro e w2 ⟨rfl, hb⟩
      go_wp2
      go_ret
      exact ⟨ret_bool HF.out.symm, Below.on b hb b.size⟩
    | true =>
      have h3 : isTwo ds z x y = true := by simp [isTwo, h1, h2]
      have HF := Lib.hid (show hasAllV ds z x y = (lessV y x == 0) from by simp [hasAllV, h3])
      obtain ⟨⟨x0, x1⟩, y0, y1⟩ := isTwo_lt h3
      have e := bits_less (a := y) (b := x) y0 (by omega) x0 (by omega)
      clear h3
      go_enter Try.func31, Try.ntmps31
      go_wp2_with fail
      refine (isValue_any _ _ _ ds _ _ _ R).mono ?_
      rintro e w1 ⟨rfl, hb⟩
      replace b := Below.on b hb b.size
      replace R := R.to hb
      have q1 := q.below hb q.lt
      have c0 := q1.cell 0
      have c1 := q1.cell 1
      clear hb
      go_wp2_with fail
      refine (isValue_any _ _ _ ds _ _ _ R).mono ?_
      rintro e w2 ⟨rfl, hb⟩
      go_wp2
      go_ret
      exact ⟨ret_bool HF.out.symm, Below.on b hb b.size⟩

set_option maxHeartbeats 1000000 in
theorem shasAll_any (A : Option Addr) (n c : Nat) (ds : List D) (z x y : Int) (w : World) (hr : Rd w w.heap.size A n c ds) :
    Calls Try.prog 40 #[.agg #[.slice A n c, .int .i64 z], .int .i64 x, .int .i64 y] w fun e w' => e = .returned (.bool (hasAllV ds z x y)) ∧ Below w.heap.size w w' := by
  have b := below1 w (.cells #[.slice A n c, .int .i64 z] 25)
  have R := hr.to b
  clear hr
  cases h3 : isTwo ds z x y with
  | false =>
    have HF := Lib.hid (show hasAllV ds z x y = false from by simp [hasAllV, h3])
    go_enter Try.func40, Try.ntmps40
    go_wp2_with fail
    refine (stwoValues_any _ _ _ ds _ _ _ _ R).mono ?_
    rintro e w1 ⟨rfl, hb⟩
    go_wp2
    go_ret
    exact ⟨ret_bool HF.out.symm, Below.on b hb b.size⟩
  | true =>
    have HF := Lib.hid (show hasAllV ds z x y = (lessV y x == 0) from by simp [hasAllV, h3])
    obtain ⟨⟨x0, x1⟩, y0, y1⟩ := isTwo_lt h3
    go_enter Try.func40, Try.ntmps40
    go_wp2_with fail
    refine (stwoValues_any _ _ _ ds _ _ _ _ R).mono ?_
    rintro e w1 ⟨rfl, hb⟩
    go_wp2_with (go_at_call 82; refine (less_any _ _ y0 y1 x0 x1 _).mono ?_; rintro e w' ⟨rfl, rfl⟩)
    go_ret
    exact ⟨ret_bool HF.out.symm, Below.on b hb b.size⟩

/-- Two values are compared by their bits. -/
def cmpV (ds : List D) (z x y : Int) : Int := if isTwo ds z x y then (if x = y then 0 else if lessV x y = 0 then -1 else if lessV y x = 0 then 1 else 2) else 3
set_option maxHeartbeats 2000000 in
theorem compare_any (A : Option Addr) (n c : Nat) (ds : List D) (z x y : Int) (w : World) (hr : Rd w w.heap.size A n c ds) :
    Calls Try.prog 53 #[.agg #[.slice A n c, .int .i64 z], .int .i64 x, .int .i64 y] w fun e w' => e = .returned (.int .i64 (cmpV ds z x y)) ∧ Below w.heap.size w w' := by
  have q := blk1 w #[.slice A n c, .int .i64 z] 25
  have b := below1 w (.cells #[.slice A n c, .int .i64 z] 25)
  have R := hr.to b
  clear hr
  go_enter Try.func53, Try.ntmps53
  go_wp2_with fail
  refine (isValue_any _ _ _ ds _ _ _ R).mono ?_
  rintro e w1 ⟨rfl, hb⟩
  replace b := Below.on b hb b.size
  replace R := R.to hb
  have q1 := q.below hb q.lt
  have c0 := q1.cell 0
  have c1 := q1.cell 1
  clear hb
  cases h1 : isVal ds z x with
  | false =>
    have HF := Lib.hid (show cmpV ds z x y = 3 from by simp [cmpV, isTwo, h1])
    go_wp2
    go_ret
    exact ⟨ret_int HF.out.symm, b⟩
  | true =>
    go_wp2_with fail
    refine (isValue_any _ _ _ ds _ _ _ R).mono ?_
    rintro e w2 ⟨rfl, hb⟩
    replace b := Below.on b hb b.size
    clear hb
    cases h2 : isVal ds z y with
    | false =>
      have HF := Lib.hid (show cmpV ds z x y = 3 from by simp [cmpV, isTwo, h2])
      go_wp2
      go_ret
      exact ⟨ret_int HF.out.symm, b⟩
    | true =>
      have h3 : isTwo ds z x y = true := by simp [isTwo, h1, h2]
      obtain ⟨⟨x0, x1⟩, y0, y1⟩ := isTwo_lt h3
      have e1 := bits_less (a := y) (b := x) y0 (by omega) x0 (by omega)
      have e2 := bits_less (a := x) (b := y) x0 (by omega) y0 (by omega)
      by_cases g1 : x = y
      · have HF := Lib.hid (show cmpV ds z x y = 0 from by unfold cmpV; rw [if_pos h3, if_pos g1])
        have G1 : (x == y) = true := by simpa using g1
        clear g1 h3
        go_wp2
        go_ret
        exact ⟨ret_int HF.out.symm, b⟩
      · have G1 : (x == y) = false := by simpa using g1
        by_cases g2 : lessV x y = 0
        · have HF := Lib.hid (show cmpV ds z x y = -1 from by simp [cmpV, h3, g1, g2])
          have G2 : (lessV x y == 0) = true := by simpa using g2
          clear g1 g2 h3
          go_wp2
          go_ret
          exact ⟨ret_int HF.out.symm, b⟩
        · have G2 : (lessV x y == 0) = false := by simpa using g2
          by_cases g3 : lessV y x = 0
          · have HF := Lib.hid (show cmpV ds z x y = 1 from by simp [cmpV, h3, g1, g2, g3])
            have G3 : (lessV y x == 0) = true := by simpa using g3
            clear g1 g2 g3 h3
            go_wp2
            go_ret
            exact ⟨ret_int HF.out.symm, b⟩
          · have HF := Lib.hid (show cmpV ds z x y = 2 from by simp [cmpV, h3, g1, g2, g3])
            have G3 : (lessV y x == 0) = false := by simpa using g3
            clear g1 g2 g3 h3
            go_wp2
            go_ret
            exact ⟨ret_int HF.out.symm, b⟩

set_option maxHeartbeats 2000000 in
theorem scompare_any (A : Option Addr) (n c : Nat) (ds : List D) (z x y : Int) (w : World) (hr : Rd w w.heap.size A n c ds) :
    Calls Try.prog 54 #[.agg #[.slice A n c, .int .i64 z], .int .i64 x, .int .i64 y] w fun e w' => e = .returned (.int .i64 (cmpV ds z x y)) ∧ Below w.heap.size w w' := by
  have b := below1 w (.cells #[.slice A n c, .int .i64 z] 25)
  have R := hr.to b
  clear hr
  go_enter Try.func54, Try.ntmps54
  go_wp2_with fail
  refine (stwoValues_any _ _ _ ds _ _ _ _ R).mono ?_
  rintro e w1 ⟨rfl, hb⟩
  replace b := Below.on b hb b.size
  clear hb
  cases h3 : isTwo ds z x y with
  | false =>
    have HF := Lib.hid (show cmpV ds z x y = 3 from by simp [cmpV, h3])
    go_wp2
    go_ret
    exact ⟨ret_int HF.out.symm, b⟩
  | true =>
    obtain ⟨⟨x0, x1⟩, y0, y1⟩ := isTwo_lt h3
    by_cases g1 : x = y
    · have HF := Lib.hid (show cmpV ds z x y = 0 from by unfold cmpV; rw [if_pos h3, if_pos g1])
      have G1 : (x == y) = true := by simpa using g1
      clear g1
      go_wp2
      go_ret
      exact ⟨ret_int HF.out.symm, b⟩
    · have G1 : (x == y) = false := by simpa using g1
      by_cases g2 : lessV x y = 0
      · have HF := Lib.hid (show cmpV ds z x y = -1 from by simp [cmpV, h3, g1, g2])
        have G2 : (lessV x y == 0) = true := by simpa using g2
        clear g1 g2
        go_wp2_with (go_at_call 82; refine (less_any _ _ x0 x1 y0 y1 _).mono ?_; rintro e w' ⟨rfl, rfl⟩)
        go_ret
        exact ⟨ret_int HF.out.symm, b⟩
      · have G2 : (lessV x y == 0) = false := by simpa using g2
        by_cases g3 : lessV y x = 0
        · have HF := Lib.hid (show cmpV ds z x y = 1 from by simp [cmpV, h3, g1, g2, g3])
          have G3 : (lessV y x == 0) = true := by simpa using g3
          clear g1 g2 g3
          go_wp2_with fail
          refine (less_any _ _ x0 x1 y0 y1 _).mono ?_
          rintro e w' ⟨rfl, rfl⟩
          go_wp2_with fail
          refine (less_any _ _ y0 y1 x0 x1 _).mono ?_
          rintro e w' ⟨rfl, rfl⟩
          go_wp2
          go_ret
          exact ⟨ret_int HF.out.symm, b⟩
        · have HF := Lib.hid (show cmpV ds z x y = 2 from by simp [cmpV, h3, g1, g2, g3])
          have G3 : (lessV y x == 0) = false := by simpa using g3
          clear g1 g2 g3
          go_wp2_with fail
          refine (less_any _ _ x0 x1 y0 y1 _).mono ?_
          rintro e w' ⟨rfl, rfl⟩
          go_wp2_with fail
          refine (less_any _ _ y0 y1 x0 x1 _).mono ?_
          rintro e w' ⟨rfl, rfl⟩
          go_wp2
          go_ret
          exact ⟨ret_int HF.out.symm, b⟩

end Go.Proofs.Ytofkbckpncpmkaa
