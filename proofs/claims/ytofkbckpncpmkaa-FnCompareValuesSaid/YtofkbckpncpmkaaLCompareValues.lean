/-
  The walk of the law CompareValues: whatever comes in, it answers true.
-/
import Derived.Test.YtofkbckpncpmkaaWDrawF
import Derived.Test.YtofkbckpncpmkaaWLawF
import Derived.Deep.RegionHeld3
import Derived.Deep.DrawnRows
namespace Go.Proofs.Ytofkbckpncpmkaa
open Go.RowKit

set_option maxRecDepth 100000 in
set_option maxHeartbeats 4000000 in
theorem compareValues_walk (A : Option Addr) (n c : Nat) (w : World) (hr : RdB w w.heap.size A n c) :
    Calls Try.prog 15 #[.slice A n c] w fun e w' => e = .returned (.bool true) ∧ Below w.heap.size w w' := by
  by_cases hlen : (1048576 : Int) < n
  · go_enter Try.func15, Try.ntmps15
    go_wp2_with fail
    go_ret
    exact ⟨rfl, Below.refl _ _⟩
  go_enter Try.func15, Try.ntmps15
  go_wp2_with fail
  refine (drawCompareValues_any A n c _ hr).mono ?_
  rintro e w1 ⟨A1, cc, ds, z, x, y, rfl, hz, hx, hy, hf, R, b⟩
  have q := blk1 w1 #[.slice A1 ds.length cc, .int .i64 z] 25
  replace b := Below.on b (below1 w1 (.cells #[.slice A1 ds.length cc, .int .i64 z] 25)) b.size
  replace R := R.to (below1 w1 (.cells #[.slice A1 ds.length cc, .int .i64 z] 25))
  have c0 := q.cell 0
  have c1 := q.cell 1
  clear hz hx hy hf hr
  cases h1 : isVal ds z x with
  | false =>
    have F1 := Lib.hid (show cmpV ds z x y = 3 from by simp [cmpV, isTwo, h1])
    have F2 := Lib.hid h1
    clear h1
    go_wp2_with fail
    refine (compare_any _ _ _ ds _ _ _ _ R).mono ?_
    rintro e wn ⟨rfl, hb⟩
    replace b := Below.on b hb b.size
    replace q := q.below hb q.lt
    replace R := R.to hb
    replace c0 := q.cell 0
    replace c1 := q.cell 1
    rw [F1.out]
    clear hb
    go_wp2_with fail
    refine (scompare_any _ _ _ ds _ _ _ _ R).mono ?_
    rintro e wn ⟨rfl, hb⟩
    replace b := Below.on b hb b.size
    replace q := q.below hb q.lt
    replace R := R.to hb
    replace c0 := q.cell 0
    replace c1 := q.cell 1
    rw [F1.out]
    clear hb
    go_wp2_with fail
    refine (isValue_any _ _ _ ds _ _ _ R).mono ?_
    rintro e wn ⟨rfl, hb⟩
    replace b := Below.on b hb b.size
    replace q := q.below hb q.lt
    replace R := R.to hb
    replace c0 := q.cell 0
    replace c1 := q.cell 1
    rw [F2.out]
    clear hb
    go_wp2_with fail
    refine (scompare_any _ _ _ ds _ _ _ _ R).mono ?_
    rintro e wn ⟨rfl, hb⟩
    replace b := Below.on b hb b.size
    replace q := q.below hb q.lt
    replace R := R.to hb
    replace c0 := q.cell 0
    replace c1 := q.cell 1
    rw [F1.out]
    clear hb
    go_wp2
    go_ret
    exact ⟨rfl, b⟩
  | true =>
    cases h2 : isVal ds z y with
    | false =>
      have F1 := Lib.hid (show cmpV ds z x y = 3 from by simp [cmpV, isTwo, h2])
      have F2 := Lib.hid h1
      have F3 := Lib.hid h2
      clear h1 h2
      go_wp2_with fail
      refine (compare_any _ _ _ ds _ _ _ _ R).mono ?_
      rintro e wn ⟨rfl, hb⟩
      replace b := Below.on b hb b.size
      replace q := q.below hb q.lt
      replace R := R.to hb
      replace c0 := q.cell 0
      replace c1 := q.cell 1
      rw [F1.out]
      clear hb
      go_wp2_with fail
      refine (scompare_any _ _ _ ds _ _ _ _ R).mono ?_
      rintro e wn ⟨rfl, hb⟩
      replace b := Below.on b hb b.size
      replace q := q.below hb q.lt
      replace R := R.to hb
      replace c0 := q.cell 0
      replace c1 := q.cell 1
      rw [F1.out]
      clear hb
      go_wp2_with fail
      refine (isValue_any _ _ _ ds _ _ _ R).mono ?_
      rintro e wn ⟨rfl, hb⟩
      replace b := Below.on b hb b.size
      replace q := q.below hb q.lt
      replace R := R.to hb
      replace c0 := q.cell 0
      replace c1 := q.cell 1
      rw [F2.out]
      clear hb
      go_wp2_with fail
      refine (isValue_any _ _ _ ds _ _ _ R).mono ?_
      rintro e wn ⟨rfl, hb⟩
      replace b := Below.on b hb b.size
      replace q := q.below hb q.lt
      replace R := R.to hb
      replace c0 := q.cell 0
      replace c1 := q.cell 1
      rw [F3.out]
      clear hb
      go_wp2_with fail
      refine (scompare_any _ _ _ ds _ _ _ _ R).mono ?_
      rintro e wn ⟨rfl, hb⟩
      replace b := Below.on b hb b.size
      replace q := q.below hb q.lt
      replace R := R.to hb
      replace c0 := q.cell 0
      replace c1 := q.cell 1
      rw [F1.out]
      clear hb
      go_wp2
      go_ret
      exact ⟨rfl, b⟩
    | true =>
      have G1 := Lib.hid h1
      have G2 := Lib.hid h2
      have vx := isVal_iff.1 h1
      have vy := isVal_iff.1 h2
      have h3 : isTwo ds z x y = true := two_iff.2 ⟨vx, vy⟩
      obtain ⟨x0, x1⟩ := vx.2.1
      obtain ⟨y0, y1⟩ := vy.2.1
      have h4 : isTwo ds z y x = true := two_iff.2 ⟨vy, vx⟩
      by_cases g1 : x = y
      · have F1 := Lib.hid (show cmpV ds z x y = 0 from by unfold cmpV; rw [if_pos h3, if_pos g1])
        have F2 := Lib.hid (show cmpV ds z y x = 0 from by unfold cmpV; rw [if_pos h4, if_pos g1.symm])
        have e1 : (x == y) = true := by simpa using g1
        clear g1 h1 h2 h3 h4 vx vy
        go_wp2_with fail
        refine (compare_any _ _ _ ds _ _ _ _ R).mono ?_
        rintro e wn ⟨rfl, hb⟩
        replace b := Below.on b hb b.size
        replace q := q.below hb q.lt
        replace R := R.to hb
        replace c0 := q.cell 0
        replace c1 := q.cell 1
        rw [F1.out]
        clear hb
        go_wp2_with fail
        refine (scompare_any _ _ _ ds _ _ _ _ R).mono ?_
        rintro e wn ⟨rfl, hb⟩
        replace b := Below.on b hb b.size
        replace q := q.below hb q.lt
        replace R := R.to hb
        replace c0 := q.cell 0
        replace c1 := q.cell 1
        rw [F1.out]
        clear hb
        go_wp2_with fail
        refine (isValue_any _ _ _ ds _ _ _ R).mono ?_
        rintro e wn ⟨rfl, hb⟩
        replace b := Below.on b hb b.size
        replace q := q.below hb q.lt
        replace R := R.to hb
        replace c0 := q.cell 0
        replace c1 := q.cell 1
        rw [G1.out]
        clear hb
        go_wp2_with fail
        refine (isValue_any _ _ _ ds _ _ _ R).mono ?_
        rintro e wn ⟨rfl, hb⟩
        replace b := Below.on b hb b.size
        replace q := q.below hb q.lt
        replace R := R.to hb
        replace c0 := q.cell 0
        replace c1 := q.cell 1
        rw [G2.out]
        clear hb
        go_wp2_with fail
        refine (compare_any _ _ _ ds _ _ _ _ R).mono ?_
        rintro e wn ⟨rfl, hb⟩
        replace b := Below.on b hb b.size
        replace q := q.below hb q.lt
        replace R := R.to hb
        replace c0 := q.cell 0
        replace c1 := q.cell 1
        rw [F2.out]
        clear hb
        go_wp2
        go_ret
        exact ⟨rfl, b⟩
      · have e1 : (x == y) = false := by simpa using g1
        have g1' : ¬ y = x := fun e => g1 e.symm
        by_cases g2 : lessV x y = 0
        · have g3 : ¬ lessV y x = 0 := fun g3 => g1 (less_both g2 g3)
          have F1 := Lib.hid (show cmpV ds z x y = -1 from by simp [cmpV, h3, g1, g2])
          have F2 := Lib.hid (show cmpV ds z y x = 1 from by simp [cmpV, h4, g1', g2, g3])
          have F3 := Lib.hid (has_yes vy vx g2)
          clear g1 g1' g2 g3 h1 h2 h3 h4 vx vy
          go_wp2_with fail
          refine (compare_any _ _ _ ds _ _ _ _ R).mono ?_
          rintro e wn ⟨rfl, hb⟩
          replace b := Below.on b hb b.size
          replace q := q.below hb q.lt
          replace R := R.to hb
          replace c0 := q.cell 0
          replace c1 := q.cell 1
          rw [F1.out]
          clear hb
          go_wp2_with fail
          refine (scompare_any _ _ _ ds _ _ _ _ R).mono ?_
          rintro e wn ⟨rfl, hb⟩
          replace b := Below.on b hb b.size
          replace q := q.below hb q.lt
          replace R := R.to hb
          replace c0 := q.cell 0
          replace c1 := q.cell 1
          rw [F1.out]
          clear hb
          go_wp2_with fail
          refine (isValue_any _ _ _ ds _ _ _ R).mono ?_
          rintro e wn ⟨rfl, hb⟩
          replace b := Below.on b hb b.size
          replace q := q.below hb q.lt
          replace R := R.to hb
          replace c0 := q.cell 0
          replace c1 := q.cell 1
          rw [G1.out]
          clear hb
          go_wp2_with fail
          refine (isValue_any _ _ _ ds _ _ _ R).mono ?_
          rintro e wn ⟨rfl, hb⟩
          replace b := Below.on b hb b.size
          replace q := q.below hb q.lt
          replace R := R.to hb
          replace c0 := q.cell 0
          replace c1 := q.cell 1
          rw [G2.out]
          clear hb
          go_wp2_with fail
          refine (compare_any _ _ _ ds _ _ _ _ R).mono ?_
          rintro e wn ⟨rfl, hb⟩
          replace b := Below.on b hb b.size
          replace q := q.below hb q.lt
          replace R := R.to hb
          replace c0 := q.cell 0
          replace c1 := q.cell 1
          rw [F2.out]
          clear hb
          go_wp2_with fail
          refine (hasAll_any _ _ _ ds _ _ _ _ R).mono ?_
          rintro e wn ⟨rfl, hb⟩
          replace b := Below.on b hb b.size
          replace q := q.below hb q.lt
          replace R := R.to hb
          replace c0 := q.cell 0
          replace c1 := q.cell 1
          rw [F3.out]
          clear hb
          go_wp2
          go_ret
          exact ⟨rfl, b⟩
        · have F3 := Lib.hid (show hasAllV ds z y x = false from by rw [has_is vy vx]; simpa using g2)
          by_cases g3 : lessV y x = 0
          · have F1 := Lib.hid (show cmpV ds z x y = 1 from by simp [cmpV, h3, g1, g2, g3])
            have F2 := Lib.hid (show cmpV ds z y x = -1 from by simp [cmpV, h4, g1', g3])
            clear g1 g1' g2 g3 h1 h2 h3 h4 vx vy
            go_wp2_with fail
            refine (compare_any _ _ _ ds _ _ _ _ R).mono ?_
            rintro e wn ⟨rfl, hb⟩
            replace b := Below.on b hb b.size
            replace q := q.below hb q.lt
            replace R := R.to hb
            replace c0 := q.cell 0
            replace c1 := q.cell 1
            rw [F1.out]
            clear hb
            go_wp2_with fail
            refine (scompare_any _ _ _ ds _ _ _ _ R).mono ?_
            rintro e wn ⟨rfl, hb⟩
            replace b := Below.on b hb b.size
            replace q := q.below hb q.lt
            replace R := R.to hb
            replace c0 := q.cell 0
            replace c1 := q.cell 1
            rw [F1.out]
            clear hb
            go_wp2_with fail
            refine (isValue_any _ _ _ ds _ _ _ R).mono ?_
            rintro e wn ⟨rfl, hb⟩
            replace b := Below.on b hb b.size
            replace q := q.below hb q.lt
            replace R := R.to hb
            replace c0 := q.cell 0
            replace c1 := q.cell 1
            rw [G1.out]
            clear hb
            go_wp2_with fail
            refine (isValue_any _ _ _ ds _ _ _ R).mono ?_
            rintro e wn ⟨rfl, hb⟩
            replace b := Below.on b hb b.size
            replace q := q.below hb q.lt
            replace R := R.to hb
            replace c0 := q.cell 0
            replace c1 := q.cell 1
            rw [G2.out]
            clear hb
            go_wp2_with fail
            refine (compare_any _ _ _ ds _ _ _ _ R).mono ?_
            rintro e wn ⟨rfl, hb⟩
            replace b := Below.on b hb b.size
            replace q := q.below hb q.lt
            replace R := R.to hb
            replace c0 := q.cell 0
            replace c1 := q.cell 1
            rw [F2.out]
            clear hb
            go_wp2_with fail
            refine (hasAll_any _ _ _ ds _ _ _ _ R).mono ?_
            rintro e wn ⟨rfl, hb⟩
            replace b := Below.on b hb b.size
            replace q := q.below hb q.lt
            replace R := R.to hb
            replace c0 := q.cell 0
            replace c1 := q.cell 1
            rw [F3.out]
            clear hb
            go_wp2
            go_ret
            exact ⟨rfl, b⟩
          · have F1 := Lib.hid (show cmpV ds z x y = 2 from by simp [cmpV, h3, g1, g2, g3])
            have F2 := Lib.hid (show cmpV ds z y x = 2 from by simp [cmpV, h4, g1', g2, g3])
            clear g1 g1' g2 g3 h1 h2 h3 h4 vx vy
            go_wp2_with fail
            refine (compare_any _ _ _ ds _ _ _ _ R).mono ?_
            rintro e wn ⟨rfl, hb⟩
            replace b := Below.on b hb b.size
            replace q := q.below hb q.lt
            replace R := R.to hb
            replace c0 := q.cell 0
            replace c1 := q.cell 1
            rw [F1.out]
            clear hb
            go_wp2_with fail
            refine (scompare_any _ _ _ ds _ _ _ _ R).mono ?_
            rintro e wn ⟨rfl, hb⟩
            replace b := Below.on b hb b.size
            replace q := q.below hb q.lt
            replace R := R.to hb
            replace c0 := q.cell 0
            replace c1 := q.cell 1
            rw [F1.out]
            clear hb
            go_wp2_with fail
            refine (isValue_any _ _ _ ds _ _ _ R).mono ?_
            rintro e wn ⟨rfl, hb⟩
            replace b := Below.on b hb b.size
            replace q := q.below hb q.lt
            replace R := R.to hb
            replace c0 := q.cell 0
            replace c1 := q.cell 1
            rw [G1.out]
            clear hb
            go_wp2_with fail
            refine (isValue_any _ _ _ ds _ _ _ R).mono ?_
            rintro e wn ⟨rfl, hb⟩
            replace b := Below.on b hb b.size
            replace q := q.below hb q.lt
            replace R := R.to hb
            replace c0 := q.cell 0
            replace c1 := q.cell 1
            rw [G2.out]
            clear hb
            go_wp2_with fail
            refine (compare_any _ _ _ ds _ _ _ _ R).mono ?_
            rintro e wn ⟨rfl, hb⟩
            replace b := Below.on b hb b.size
            replace q := q.below hb q.lt
            replace R := R.to hb
            replace c0 := q.cell 0
            replace c1 := q.cell 1
            rw [F2.out]
            clear hb
            go_wp2
            go_ret
            exact ⟨rfl, b⟩
end Go.Proofs.Ytofkbckpncpmkaa
