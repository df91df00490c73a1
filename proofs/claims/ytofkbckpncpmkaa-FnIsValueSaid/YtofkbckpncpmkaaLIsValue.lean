/-
  The walk of the law IsValue: whatever comes in, it answers true.
-/
import Derived.Test.YtofkbckpncpmkaaWDrawF
import Derived.Test.YtofkbckpncpmkaaWLawF
import Derived.Test.YtofkbckpncpmkaaWDrawG
import Derived.Test.YtofkbckpncpmkaaWBound
import Derived.Deep.RegionHeld3
import Derived.Deep.DrawnRows
namespace Go.Proofs.Ytofkbckpncpmkaa
open Go.RowKit

set_option maxRecDepth 100000 in
set_option maxHeartbeats 4000000 in
theorem isValue_walk (A : Option Addr) (n c : Nat) (w : World) (hr : RdB w w.heap.size A n c) :
    Calls Try.prog 7 #[.slice A n c] w fun e w' => e = .returned (.bool true) ∧ Below w.heap.size w w' := by
  by_cases hlen : (1048576 : Int) < n
  · go_enter Try.func7, Try.ntmps7
    go_wp2_with fail
    go_ret
    exact ⟨rfl, Below.refl _ _⟩
  go_enter Try.func7, Try.ntmps7
  go_wp2_with fail
  refine (drawIsValue_any A n c _ hr).mono ?_
  rintro e w1 ⟨A1, cc, ds, z, x, rfl, hz, hx, hA, hf, R, b⟩
  have q := blk1 w1 #[.slice A1 ds.length cc, .int .i64 z] 25
  replace b := Below.on b (below1 w1 (.cells #[.slice A1 ds.length cc, .int .i64 z] 25)) b.size
  replace R := R.to (below1 w1 (.cells #[.slice A1 ds.length cc, .int .i64 z] 25))
  have c0 := q.cell 0
  have c1 := q.cell 1
  clear hr
  cases h : vFlag ds z with
  | false =>
    have F1 := Lib.hid (isVal_bad (n := x) h)
    have F2 := Lib.hid h
    clear h
    go_wp2_with fail
    refine (isValue_any _ _ _ ds _ _ _ R).mono ?_
    rintro e wn ⟨rfl, hb⟩
    replace b := Below.on b hb b.size
    replace q := q.below hb q.lt
    replace R := R.to hb
    replace c0 := q.cell 0
    replace c1 := q.cell 1
    rw [F1.out]
    clear hb
    go_wp2_with fail
    refine (sIsValue_any _ _ _ ds _ _ _ R).mono ?_
    rintro e wn ⟨rfl, hb⟩
    replace b := Below.on b hb b.size
    replace q := q.below hb q.lt
    replace R := R.to hb
    replace c0 := q.cell 0
    replace c1 := q.cell 1
    rw [F1.out]
    clear hb
    go_wp2_with fail
    refine (validFlag_any _ _ _ ds _ _ R).mono ?_
    rintro e wn ⟨rfl, hb⟩
    replace b := Below.on b hb b.size
    replace q := q.below hb q.lt
    replace R := R.to hb
    replace c0 := q.cell 0
    replace c1 := q.cell 1
    rw [F2.out]
    clear hb
    go_wp2_with fail
    refine (sIsValue_any _ _ _ ds _ _ _ R).mono ?_
    rintro e wn ⟨rfl, hb⟩
    replace b := Below.on b hb b.size
    replace q := q.below hb q.lt
    replace R := R.to hb
    replace c0 := q.cell 0
    replace c1 := q.cell 1
    rw [F1.out]
    clear hb
    go_wp2
    go_ret
    exact ⟨rfl, b⟩
  | true =>
    have F2 := Lib.hid h
    by_cases hx0 : x < 0
    · have F1 := Lib.hid (isVal_range (ds := ds) (z := z) (n := x) (inR_lo hx0))
      clear h
      go_wp2_with fail
      refine (isValue_any _ _ _ ds _ _ _ R).mono ?_
      rintro e wn ⟨rfl, hb⟩
      replace b := Below.on b hb b.size
      replace q := q.below hb q.lt
      replace R := R.to hb
      replace c0 := q.cell 0
      replace c1 := q.cell 1
      rw [F1.out]
      clear hb
      go_wp2_with fail
      refine (sIsValue_any _ _ _ ds _ _ _ R).mono ?_
      rintro e wn ⟨rfl, hb⟩
      replace b := Below.on b hb b.size
      replace q := q.below hb q.lt
      replace R := R.to hb
      replace c0 := q.cell 0
      replace c1 := q.cell 1
      rw [F1.out]
      clear hb
      go_wp2_with fail
      refine (validFlag_any _ _ _ ds _ _ R).mono ?_
      rintro e wn ⟨rfl, hb⟩
      replace b := Below.on b hb b.size
      replace q := q.below hb q.lt
      replace R := R.to hb
      replace c0 := q.cell 0
      replace c1 := q.cell 1
      rw [F2.out]
      clear hb
      go_wp2_with fail
      refine (sIsValue_any _ _ _ ds _ _ _ R).mono ?_
      rintro e wn ⟨rfl, hb⟩
      replace b := Below.on b hb b.size
      replace q := q.below hb q.lt
      replace R := R.to hb
      replace c0 := q.cell 0
      replace c1 := q.cell 1
      rw [F1.out]
      clear hb
      go_wp2
      go_ret
      exact ⟨rfl, b⟩
    · by_cases hx1 : 4095 < x
      · have F1 := Lib.hid (isVal_range (ds := ds) (z := z) (n := x) (inR_hi hx1))
        clear h
        go_wp2_with fail
        refine (isValue_any _ _ _ ds _ _ _ R).mono ?_
        rintro e wn ⟨rfl, hb⟩
        replace b := Below.on b hb b.size
        replace q := q.below hb q.lt
        replace R := R.to hb
        replace c0 := q.cell 0
        replace c1 := q.cell 1
        rw [F1.out]
        clear hb
        go_wp2_with fail
        refine (sIsValue_any _ _ _ ds _ _ _ R).mono ?_
        rintro e wn ⟨rfl, hb⟩
        replace b := Below.on b hb b.size
        replace q := q.below hb q.lt
        replace R := R.to hb
        replace c0 := q.cell 0
        replace c1 := q.cell 1
        rw [F1.out]
        clear hb
        go_wp2_with fail
        refine (validFlag_any _ _ _ ds _ _ R).mono ?_
        rintro e wn ⟨rfl, hb⟩
        replace b := Below.on b hb b.size
        replace q := q.below hb q.lt
        replace R := R.to hb
        replace c0 := q.cell 0
        replace c1 := q.cell 1
        rw [F2.out]
        clear hb
        go_wp2_with fail
        refine (sIsValue_any _ _ _ ds _ _ _ R).mono ?_
        rintro e wn ⟨rfl, hb⟩
        replace b := Below.on b hb b.size
        replace q := q.below hb q.lt
        replace R := R.to hb
        replace c0 := q.cell 0
        replace c1 := q.cell 1
        rw [F1.out]
        clear hb
        go_wp2
        go_ret
        exact ⟨rfl, b⟩
      · have hi : inR x 0 4095 = true := inR_yes (by omega) (by omega)
        by_cases hz3 : z = 3
        · subst hz3
          have F1 := Lib.hid (isVal_keep h hi)
          clear h hi
          go_wp2_with fail
          refine (isValue_any _ _ _ ds _ _ _ R).mono ?_
          rintro e wn ⟨rfl, hb⟩
          replace b := Below.on b hb b.size
          replace q := q.below hb q.lt
          replace R := R.to hb
          replace c0 := q.cell 0
          replace c1 := q.cell 1
          rw [F1.out]
          clear hb
          go_wp2_with fail
          refine (sIsValue_any _ _ _ ds _ _ _ R).mono ?_
          rintro e wn ⟨rfl, hb⟩
          replace b := Below.on b hb b.size
          replace q := q.below hb q.lt
          replace R := R.to hb
          replace c0 := q.cell 0
          replace c1 := q.cell 1
          rw [F1.out]
          clear hb
          go_wp2_with fail
          refine (validFlag_any _ _ _ ds _ _ R).mono ?_
          rintro e wn ⟨rfl, hb⟩
          replace b := Below.on b hb b.size
          replace q := q.below hb q.lt
          replace R := R.to hb
          replace c0 := q.cell 0
          replace c1 := q.cell 1
          rw [F2.out]
          clear hb
          go_wp2
          go_ret
          exact ⟨rfl, b⟩
        · have hz' : (z == 3) = false := by simpa using hz3
          have hk : vFlag ds 3 = true := by
            simp only [vFlag, Bool.and_eq_true] at h ⊢
            exact ⟨h.1, by decide⟩
          have vm : ValueIn ds 3 (maskV ds) := value_mask hk
          have vx : ValueIn ds 3 x := ⟨hk, by omega, .inl rfl⟩
          have F3 := Lib.hid (show maskOf ds z = maskV ds from by unfold maskOf; rw [h]; rfl)
          have F4 := Lib.hid (show hasAllV ds 3 (maskV ds) x = isVal ds z x from (has_is vm vx).trans (isVal_mask h hi hz').symm)
          clear h hi hk vm vx
          cases h5 : isVal ds z x with
          | false =>
            have F1 := Lib.hid h5
            rw [h5] at F4
            clear h5
            go_wp2_with fail
            refine (isValue_any _ _ _ ds _ _ _ R).mono ?_
            rintro e wn ⟨rfl, hb⟩
            replace b := Below.on b hb b.size
            replace q := q.below hb q.lt
            replace R := R.to hb
            replace c0 := q.cell 0
            replace c1 := q.cell 1
            rw [F1.out]
            clear hb
            go_wp2_with fail
            refine (sIsValue_any _ _ _ ds _ _ _ R).mono ?_
            rintro e wn ⟨rfl, hb⟩
            replace b := Below.on b hb b.size
            replace q := q.below hb q.lt
            replace R := R.to hb
            replace c0 := q.cell 0
            replace c1 := q.cell 1
            rw [F1.out]
            clear hb
            go_wp2_with fail
            refine (validFlag_any _ _ _ ds _ _ R).mono ?_
            rintro e wn ⟨rfl, hb⟩
            replace b := Below.on b hb b.size
            replace q := q.below hb q.lt
            replace R := R.to hb
            replace c0 := q.cell 0
            replace c1 := q.cell 1
            rw [F2.out]
            clear hb
            go_wp2_with fail
            replace b := b.drew
            replace q := q.drew
            replace R := R.drew
            go_region_held3 (fun w2 => w2.cell? ⟨w1.heap.size, 0, none⟩ = some (.slice A1 ds.length cc) ∧ w2.cell? ⟨w1.heap.size, 1, none⟩ = some (.int .i64 z)) (go_keep)
              (first
                | (go_at_call 32; refine (kept_any _ _ _ ds _ F2.out _ R hA).mono ?_; rintro e wn ⟨A5, c5, rfl, S, hb⟩; replace b := Below.on b hb b.size; replace q := q.below hb q.lt; replace R := R.to hb; replace c0 := q.cell 0; replace c1 := q.cell 1; clear hb)
                | (go_at_call 28; refine (maskOf_any _ _ _ ds _ _ R).mono ?_; rintro e wn ⟨rfl, hb⟩; replace b := Below.on b hb b.size; replace q := q.below hb q.lt; replace S := S.to hb; replace c0 := q.cell 0; replace c1 := q.cell 1; clear hb; rw [F3.out])
                | (go_at_call 31; refine (hasAll_any _ _ _ ds _ _ _ _ S).mono ?_; rintro e wn ⟨rfl, hb⟩; replace b := Below.on b hb b.size; replace q := q.below hb q.lt; replace c0 := q.cell 0; replace c1 := q.cell 1; clear hb; rw [F4.out]))
            go_wp2
            go_ret
            exact ⟨rfl, b⟩
          | true =>
            have F1 := Lib.hid h5
            rw [h5] at F4
            clear h5
            go_wp2_with fail
            refine (isValue_any _ _ _ ds _ _ _ R).mono ?_
            rintro e wn ⟨rfl, hb⟩
            replace b := Below.on b hb b.size
            replace q := q.below hb q.lt
            replace R := R.to hb
            replace c0 := q.cell 0
            replace c1 := q.cell 1
            rw [F1.out]
            clear hb
            go_wp2_with fail
            refine (sIsValue_any _ _ _ ds _ _ _ R).mono ?_
            rintro e wn ⟨rfl, hb⟩
            replace b := Below.on b hb b.size
            replace q := q.below hb q.lt
            replace R := R.to hb
            replace c0 := q.cell 0
            replace c1 := q.cell 1
            rw [F1.out]
            clear hb
            go_wp2_with fail
            refine (validFlag_any _ _ _ ds _ _ R).mono ?_
            rintro e wn ⟨rfl, hb⟩
            replace b := Below.on b hb b.size
            replace q := q.below hb q.lt
            replace R := R.to hb
            replace c0 := q.cell 0
            replace c1 := q.cell 1
            rw [F2.out]
            clear hb
            go_wp2_with fail
            replace b := b.drew
            replace q := q.drew
            replace R := R.drew
            go_region_held3 (fun w2 => w2.cell? ⟨w1.heap.size, 0, none⟩ = some (.slice A1 ds.length cc) ∧ w2.cell? ⟨w1.heap.size, 1, none⟩ = some (.int .i64 z)) (go_keep)
              (first
                | (go_at_call 32; refine (kept_any _ _ _ ds _ F2.out _ R hA).mono ?_; rintro e wn ⟨A5, c5, rfl, S, hb⟩; replace b := Below.on b hb b.size; replace q := q.below hb q.lt; replace R := R.to hb; replace c0 := q.cell 0; replace c1 := q.cell 1; clear hb)
                | (go_at_call 28; refine (maskOf_any _ _ _ ds _ _ R).mono ?_; rintro e wn ⟨rfl, hb⟩; replace b := Below.on b hb b.size; replace q := q.below hb q.lt; replace S := S.to hb; replace c0 := q.cell 0; replace c1 := q.cell 1; clear hb; rw [F3.out])
                | (go_at_call 31; refine (hasAll_any _ _ _ ds _ _ _ _ S).mono ?_; rintro e wn ⟨rfl, hb⟩; replace b := Below.on b hb b.size; replace q := q.below hb q.lt; replace c0 := q.cell 0; replace c1 := q.cell 1; clear hb; rw [F4.out]))
            go_wp2
            go_ret
            exact ⟨rfl, b⟩
end Go.Proofs.Ytofkbckpncpmkaa
