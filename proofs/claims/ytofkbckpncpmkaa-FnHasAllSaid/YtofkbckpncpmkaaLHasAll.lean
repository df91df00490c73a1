/-
  The walk of the law HasAll: whatever comes in, it answers true.
-/
import Derived.Test.YtofkbckpncpmkaaWDrawF
import Derived.Test.YtofkbckpncpmkaaWLawF
import Derived.Deep.RegionHeld3
import Derived.Deep.DrawnRows
namespace Go.Proofs.Ytofkbckpncpmkaa
open Go.RowKit

set_option maxRecDepth 100000 in
set_option maxHeartbeats 4000000 in
theorem hasAll_walk (A : Option Addr) (n c : Nat) (w : World) (hr : RdB w w.heap.size A n c) :
    Calls Try.prog 9 #[.slice A n c] w fun e w' => e = .returned (.bool true) ∧ Below w.heap.size w w' := by
  by_cases hlen : (1048576 : Int) < n
  · go_enter Try.func9, Try.ntmps9
    go_wp2_with fail
    go_ret
    exact ⟨rfl, Below.refl _ _⟩
  go_enter Try.func9, Try.ntmps9
  go_wp2_with fail
  refine (drawHasAll_any A n c _ hr).mono ?_
  rintro e w1 ⟨A1, cc, ds, z, x, y, rfl, hz, hx, hy, hf, R, b⟩
  have q := blk1 w1 #[.slice A1 ds.length cc, .int .i64 z] 25
  replace b := Below.on b (below1 w1 (.cells #[.slice A1 ds.length cc, .int .i64 z] 25)) b.size
  replace R := R.to (below1 w1 (.cells #[.slice A1 ds.length cc, .int .i64 z] 25))
  have c0 := q.cell 0
  have c1 := q.cell 1
  clear hz hx hy hf hr
  cases h1 : isVal ds z x with
  | false =>
    have F1 := Lib.hid (show hasAllV ds z x y = false from by simp [hasAllV, isTwo, h1])
    have F2 := Lib.hid h1
    clear h1
    go_wp2_with fail
    refine (hasAll_any _ _ _ ds _ _ _ _ R).mono ?_
    rintro e wn ⟨rfl, hb⟩
    replace b := Below.on b hb b.size
    replace q := q.below hb q.lt
    replace R := R.to hb
    replace c0 := q.cell 0
    replace c1 := q.cell 1
    rw [F1.out]
    clear hb
    go_wp2_with fail
    refine (shasAll_any _ _ _ ds _ _ _ _ R).mono ?_
    rintro e wn ⟨rfl, hb⟩
    replace b := Below.on b hb b.size
    replace q := q.below hb q.lt
    replace R := R.to hb
    replace c0 := q.cell 0
    replace c1 := q.cell 1
    rw [F1.out]
    clear hb
    go_wp2_with fail
    refine (isValue_any _ _ _ ds _ _ _ R).mono ?_
    rintro e wn ⟨rfl, hb⟩
    replace b := Below.on b hb b.size
    replace q := q.below hb q.lt
    replace R := R.to hb
    replace c0 := q.cell 0
    replace c1 := q.cell 1
    rw [F2.out]
    clear hb
    go_wp2_with fail
    refine (shasAll_any _ _ _ ds _ _ _ _ R).mono ?_
    rintro e wn ⟨rfl, hb⟩
    replace b := Below.on b hb b.size
    replace q := q.below hb q.lt
    replace R := R.to hb
    replace c0 := q.cell 0
    replace c1 := q.cell 1
    rw [F1.out]
    clear hb
    go_wp2
    go_ret
    exact ⟨rfl, b⟩
  | true =>
    cases h2 : isVal ds z y with
    | false =>
      have F1 := Lib.hid (show hasAllV ds z x y = false from by simp [hasAllV, isTwo, h2])
      have F2 := Lib.hid h1
      have F3 := Lib.hid h2
      clear h1 h2
      go_wp2_with fail
      refine (hasAll_any _ _ _ ds _ _ _ _ R).mono ?_
      rintro e wn ⟨rfl, hb⟩
      replace b := Below.on b hb b.size
      replace q := q.below hb q.lt
      replace R := R.to hb
      replace c0 := q.cell 0
      replace c1 := q.cell 1
      rw [F1.out]
      clear hb
      go_wp2_with fail
      refine (shasAll_any _ _ _ ds _ _ _ _ R).mono ?_
      rintro e wn ⟨rfl, hb⟩
      replace b := Below.on b hb b.size
      replace q := q.below hb q.lt
      replace R := R.to hb
      replace c0 := q.cell 0
      replace c1 := q.cell 1
      rw [F1.out]
      clear hb
      go_wp2_with fail
      refine (isValue_any _ _ _ ds _ _ _ R).mono ?_
      rintro e wn ⟨rfl, hb⟩
      replace b := Below.on b hb b.size
      replace q := q.below hb q.lt
      replace R := R.to hb
      replace c0 := q.cell 0
      replace c1 := q.cell 1
      rw [F2.out]
      clear hb
      go_wp2_with fail
      refine (isValue_any _ _ _ ds _ _ _ R).mono ?_
      rintro e wn ⟨rfl, hb⟩
      replace b := Below.on b hb b.size
      replace q := q.below hb q.lt
      replace R := R.to hb
      replace c0 := q.cell 0
      replace c1 := q.cell 1
      rw [F3.out]
      clear hb
      go_wp2_with fail
      refine (shasAll_any _ _ _ ds _ _ _ _ R).mono ?_
      rintro e wn ⟨rfl, hb⟩
      replace b := Below.on b hb b.size
      replace q := q.below hb q.lt
      replace R := R.to hb
      replace c0 := q.cell 0
      replace c1 := q.cell 1
      rw [F1.out]
      clear hb
      go_wp2
      go_ret
      exact ⟨rfl, b⟩
    | true =>
      have G1 := Lib.hid h1
      have G2 := Lib.hid h2
      have vx := isVal_iff.1 h1
      have vy := isVal_iff.1 h2
      have h3 : isTwo ds z x y = true := two_iff.2 ⟨vx, vy⟩
      obtain ⟨x0, x1⟩ := vx.2.1
      obtain ⟨y0, y1⟩ := vy.2.1
      have vo := value_and vx vy
      have vp := value_or vx vy
      have F3 := Lib.hid (joined andV vx vy)
      have F4 := Lib.hid (joined orV vx vy)
      have F5 := Lib.hid (has_yes vx vx (less_self x0))
      have F1 := Lib.hid (has_is vx vy)
      have e1 := has_and (x := x) (y := y)
      have e2 := has_or x0 y0
      obtain ⟨o0, o1⟩ := vo.2.1
      obtain ⟨p0, p1⟩ := vp.2.1
      clear vx vy vo vp h1 h2 h3
      generalize andV x y = o at *
      generalize orV x y = p at *
      cases ht : lessV y x == 0 with
      | false =>
        rw [ht] at F1 e1 e2
        replace e1 := e1.symm
        replace e2 := e2.symm
        clear ht
        go_wp2_with fail
        refine (hasAll_any _ _ _ ds _ _ _ _ R).mono ?_
        rintro e wn ⟨rfl, hb⟩
        replace b := Below.on b hb b.size
        replace q := q.below hb q.lt
        replace R := R.to hb
        replace c0 := q.cell 0
        replace c1 := q.cell 1
        rw [F1.out]
        clear hb
        go_wp2_with fail
        refine (shasAll_any _ _ _ ds _ _ _ _ R).mono ?_
        rintro e wn ⟨rfl, hb⟩
        replace b := Below.on b hb b.size
        replace q := q.below hb q.lt
        replace R := R.to hb
        replace c0 := q.cell 0
        replace c1 := q.cell 1
        rw [F1.out]
        clear hb
        go_wp2_with fail
        refine (isValue_any _ _ _ ds _ _ _ R).mono ?_
        rintro e wn ⟨rfl, hb⟩
        replace b := Below.on b hb b.size
        replace q := q.below hb q.lt
        replace R := R.to hb
        replace c0 := q.cell 0
        replace c1 := q.cell 1
        rw [G1.out]
        clear hb
        go_wp2_with fail
        refine (isValue_any _ _ _ ds _ _ _ R).mono ?_
        rintro e wn ⟨rfl, hb⟩
        replace b := Below.on b hb b.size
        replace q := q.below hb q.lt
        replace R := R.to hb
        replace c0 := q.cell 0
        replace c1 := q.cell 1
        rw [G2.out]
        clear hb
        go_wp2_with fail
        refine (andValues_any _ _ _ ds _ _ _ _ R).mono ?_
        rintro e wn ⟨rfl, hb⟩
        replace b := Below.on b hb b.size
        replace q := q.below hb q.lt
        replace R := R.to hb
        replace c0 := q.cell 0
        replace c1 := q.cell 1
        rw [F3.out]
        clear hb
        go_wp2_with fail
        refine (orValues_any _ _ _ ds _ _ _ _ R).mono ?_
        rintro e wn ⟨rfl, hb⟩
        replace b := Below.on b hb b.size
        replace q := q.below hb q.lt
        replace R := R.to hb
        replace c0 := q.cell 0
        replace c1 := q.cell 1
        rw [F4.out]
        clear hb
        go_wp2_with fail
        refine (hasAll_any _ _ _ ds _ _ _ _ R).mono ?_
        rintro e wn ⟨rfl, hb⟩
        replace b := Below.on b hb b.size
        replace q := q.below hb q.lt
        replace R := R.to hb
        replace c0 := q.cell 0
        replace c1 := q.cell 1
        rw [F5.out]
        clear hb
        go_wp2
        go_ret
        exact ⟨rfl, b⟩
      | true =>
        rw [ht] at F1 e1 e2
        replace e1 := e1.symm
        replace e2 := e2.symm
        clear ht
        go_wp2_with fail
        refine (hasAll_any _ _ _ ds _ _ _ _ R).mono ?_
        rintro e wn ⟨rfl, hb⟩
        replace b := Below.on b hb b.size
        replace q := q.below hb q.lt
        replace R := R.to hb
        replace c0 := q.cell 0
        replace c1 := q.cell 1
        rw [F1.out]
        clear hb
        go_wp2_with fail
        refine (shasAll_any _ _ _ ds _ _ _ _ R).mono ?_
        rintro e wn ⟨rfl, hb⟩
        replace b := Below.on b hb b.size
        replace q := q.below hb q.lt
        replace R := R.to hb
        replace c0 := q.cell 0
        replace c1 := q.cell 1
        rw [F1.out]
        clear hb
        go_wp2_with fail
        refine (isValue_any _ _ _ ds _ _ _ R).mono ?_
        rintro e wn ⟨rfl, hb⟩
        replace b := Below.on b hb b.size
        replace q := q.below hb q.lt
        replace R := R.to hb
        replace c0 := q.cell 0
        replace c1 := q.cell 1
        rw [G1.out]
        clear hb
        go_wp2_with fail
        refine (isValue_any _ _ _ ds _ _ _ R).mono ?_
        rintro e wn ⟨rfl, hb⟩
        replace b := Below.on b hb b.size
        replace q := q.below hb q.lt
        replace R := R.to hb
        replace c0 := q.cell 0
        replace c1 := q.cell 1
        rw [G2.out]
        clear hb
        go_wp2_with fail
        refine (andValues_any _ _ _ ds _ _ _ _ R).mono ?_
        rintro e wn ⟨rfl, hb⟩
        replace b := Below.on b hb b.size
        replace q := q.below hb q.lt
        replace R := R.to hb
        replace c0 := q.cell 0
        replace c1 := q.cell 1
        rw [F3.out]
        clear hb
        go_wp2_with fail
        refine (orValues_any _ _ _ ds _ _ _ _ R).mono ?_
        rintro e wn ⟨rfl, hb⟩
        replace b := Below.on b hb b.size
        replace q := q.below hb q.lt
        replace R := R.to hb
        replace c0 := q.cell 0
        replace c1 := q.cell 1
        rw [F4.out]
        clear hb
        go_wp2_with fail
        refine (hasAll_any _ _ _ ds _ _ _ _ R).mono ?_
        rintro e wn ⟨rfl, hb⟩
        replace b := Below.on b hb b.size
        replace q := q.below hb q.lt
        replace R := R.to hb
        replace c0 := q.cell 0
        replace c1 := q.cell 1
        rw [F5.out]
        clear hb
        go_wp2
        go_ret
        exact ⟨rfl, b⟩
end Go.Proofs.Ytofkbckpncpmkaa
