/-
  The walk of the law AndValuesOr: whatever comes in, it answers true.
-/
import Derived.Test.YtofkbckpncpmkaaWDrawF
import Derived.Test.YtofkbckpncpmkaaWLawF
import Derived.Deep.RegionHeld3
import Derived.Deep.DrawnRows
namespace Go.Proofs.Ytofkbckpncpmkaa
open Go.RowKit

set_option maxRecDepth 100000 in
set_option maxHeartbeats 4000000 in
theorem andValuesOr_walk (A : Option Addr) (n c : Nat) (w : World) (hr : RdB w w.heap.size A n c) :
    Calls Try.prog 14 #[.slice A n c] w fun e w' => e = .returned (.bool true) ∧ Below w.heap.size w w' := by
  by_cases hlen : (1048576 : Int) < n
  · go_enter Try.func14, Try.ntmps14
    go_wp2_with fail
    go_ret
    exact ⟨rfl, Below.refl _ _⟩
  go_enter Try.func14, Try.ntmps14
  go_wp2_with fail
  refine (drawAndValues_any A n c _ hr).mono ?_
  rintro e w1 ⟨A1, cc, ds, z, x, y, rfl, hz, hx, hy, hf, R, b⟩
  have q := blk1 w1 #[.slice A1 ds.length cc, .int .i64 z] 25
  replace b := Below.on b (below1 w1 (.cells #[.slice A1 ds.length cc, .int .i64 z] 25)) b.size
  replace R := R.to (below1 w1 (.cells #[.slice A1 ds.length cc, .int .i64 z] 25))
  have c0 := q.cell 0
  have c1 := q.cell 1
  clear hz hx hy hf hr
  cases h : isTwo ds z x y with
  | false =>
    have F1 := Lib.hid (joinV_no (of := andV) h)
    go_wp2_with fail
    refine (andValues_any _ _ _ ds _ _ _ _ R).mono ?_
    rintro e wn ⟨rfl, hb⟩
    replace b := Below.on b hb b.size
    replace q := q.below hb q.lt
    replace R := R.to hb
    replace c0 := q.cell 0
    replace c1 := q.cell 1
    rw [F1.out]
    clear hb
    go_wp2_with fail
    refine (sandValues_any _ _ _ ds _ _ _ _ R).mono ?_
    rintro e wn ⟨rfl, hb⟩
    replace b := Below.on b hb b.size
    replace q := q.below hb q.lt
    replace R := R.to hb
    replace c0 := q.cell 0
    replace c1 := q.cell 1
    rw [F1.out]
    clear hb
    go_wp2_with fail
    refine (sandValues_any _ _ _ ds _ _ _ _ R).mono ?_
    rintro e wn ⟨rfl, hb⟩
    replace b := Below.on b hb b.size
    replace q := q.below hb q.lt
    replace R := R.to hb
    replace c0 := q.cell 0
    replace c1 := q.cell 1
    rw [F1.out]
    clear hb
    go_wp2
    go_ret
    exact ⟨rfl, b⟩
  | true =>
    obtain ⟨vx, vy⟩ := two_iff.1 h
    obtain ⟨x0, x1⟩ := vx.2.1
    obtain ⟨y0, y1⟩ := vy.2.1
    have vm := value_mask vx.1
    have vo := value_and vx vy
    have vp := value_or vx vy
    have vc := value_xor vx vm
    have c00 := vc.2.1.1
    have vca := value_and vc vx
    have vcb := value_and vc vy
    have voa := value_or vc vx
    have vob := value_or vc vy
    have F1 := Lib.hid (joined andV vx vy)
    have F2 := Lib.hid (show maskOf ds z = maskV ds from by unfold maskOf; rw [vx.1]; rfl)
    have F3 := Lib.hid (joined xorV vx vm)
    have F4 := Lib.hid (joined orV vx vy)
    have F5 := Lib.hid ((joined andV vc vp).trans (spread x0 y0 c00))
    have F6 := Lib.hid (joined andV vc vx)
    have F7 := Lib.hid (joined andV vc vy)
    have F8 := Lib.hid (joined orV vca vcb)
    have F9 := Lib.hid ((joined orV vc vo).trans (spread' x0 y0 c00))
    have F10 := Lib.hid (joined orV vc vx)
    have F11 := Lib.hid (joined orV vc vy)
    have F12 := Lib.hid (joined andV voa vob)
    obtain ⟨o0, o1⟩ := vo.2.1
    obtain ⟨c0', c1'⟩ := vc.2.1
    clear vx vy vo vp vc vca vcb voa vob vm h
    generalize xorV x (maskV ds) = t at *
    generalize orV (andV t x) (andV t y) = u at *
    generalize andV (orV t x) (orV t y) = v at *
    generalize andV t x = i at *
    generalize andV t y = j at *
    generalize orV t x = k at *
    generalize orV t y = l at *
    generalize andV x y = o at *
    generalize orV x y = p at *
    go_wp2_with fail
    refine (andValues_any _ _ _ ds _ _ _ _ R).mono ?_
    rintro e wn ⟨rfl, hb⟩
    replace b := Below.on b hb b.size
    replace q := q.below hb q.lt
    replace R := R.to hb
    replace c0 := q.cell 0
    replace c1 := q.cell 1
    rw [F1.out]
    clear hb
    go_wp2_with fail
    refine (sandValues_any _ _ _ ds _ _ _ _ R).mono ?_
    rintro e wn ⟨rfl, hb⟩
    replace b := Below.on b hb b.size
    replace q := q.below hb q.lt
    replace R := R.to hb
    replace c0 := q.cell 0
    replace c1 := q.cell 1
    rw [F1.out]
    clear hb
    go_wp2_with fail
    replace b := b.drew
    replace q := q.drew
    replace R := R.drew
    go_region_held3 (fun w2 => w2.cell? ⟨w1.heap.size, 0, none⟩ = some (.slice A1 ds.length cc) ∧ w2.cell? ⟨w1.heap.size, 1, none⟩ = some (.int .i64 z)) (go_keep)
      (first
        | (go_at_call 28; refine (maskOf_any _ _ _ ds _ _ R).mono ?_; rintro e wn ⟨rfl, hb⟩; replace b := Below.on b hb b.size; replace q := q.below hb q.lt; replace R := R.to hb; replace c0 := q.cell 0; replace c1 := q.cell 1; clear hb; first | rw [F2.out])
        | (go_at_call 50; refine (xorValues_any _ _ _ ds _ _ _ _ R).mono ?_; rintro e wn ⟨rfl, hb⟩; replace b := Below.on b hb b.size; replace q := q.below hb q.lt; replace R := R.to hb; replace c0 := q.cell 0; replace c1 := q.cell 1; clear hb; first | rw [F3.out]))
    go_wp2_with fail
    replace b := b.drew
    replace q := q.drew
    replace R := R.drew
    go_region_held3 (fun w2 => w2.cell? ⟨w1.heap.size, 0, none⟩ = some (.slice A1 ds.length cc) ∧ w2.cell? ⟨w1.heap.size, 1, none⟩ = some (.int .i64 z)) (go_keep)
      (first
        | (go_at_call 38; refine (orValues_any _ _ _ ds _ _ _ _ R).mono ?_; rintro e wn ⟨rfl, hb⟩; replace b := Below.on b hb b.size; replace q := q.below hb q.lt; replace R := R.to hb; replace c0 := q.cell 0; replace c1 := q.cell 1; clear hb; first | rw [F4.out] | rw [F8.out] | rw [F9.out] | rw [F10.out] | rw [F11.out])
        | (go_at_call 41; refine (andValues_any _ _ _ ds _ _ _ _ R).mono ?_; rintro e wn ⟨rfl, hb⟩; replace b := Below.on b hb b.size; replace q := q.below hb q.lt; replace R := R.to hb; replace c0 := q.cell 0; replace c1 := q.cell 1; clear hb; first | rw [F5.out] | rw [F6.out] | rw [F7.out] | rw [F12.out]))
    go_wp2
    go_ret
    exact ⟨rfl, b⟩
end Go.Proofs.Ytofkbckpncpmkaa
