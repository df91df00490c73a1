/-
  The walk of the law LessValues: whatever comes in, it answers true.
-/
import Derived.Test.YtofkbckpncpmkaaWDrawF
import Derived.Test.YtofkbckpncpmkaaWLawF
import Derived.Deep.RegionHeld3
import Derived.Deep.DrawnRows
namespace Go.Proofs.Ytofkbckpncpmkaa
open Go.RowKit

set_option maxRecDepth 100000 in
set_option maxHeartbeats 4000000 in
theorem lessValues_walk (A : Option Addr) (n c : Nat) (w : World) (hr : RdB w w.heap.size A n c) :
    Calls Try.prog 12 #[.slice A n c] w fun e w' => e = .returned (.bool true) ∧ Below w.heap.size w w' := by
  by_cases hlen : (1048576 : Int) < n
  · go_enter Try.func12, Try.ntmps12
    go_wp2_with fail
    go_ret
    exact ⟨rfl, Below.refl _ _⟩
  go_enter Try.func12, Try.ntmps12
  go_wp2_with fail
  refine (drawLessValues_any A n c _ hr).mono ?_
  rintro e w1 ⟨A1, cc, ds, z, x, y, rfl, hz, hx, hy, hf, R, b⟩
  have q := blk1 w1 #[.slice A1 ds.length cc, .int .i64 z] 25
  replace b := Below.on b (below1 w1 (.cells #[.slice A1 ds.length cc, .int .i64 z] 25)) b.size
  replace R := R.to (below1 w1 (.cells #[.slice A1 ds.length cc, .int .i64 z] 25))
  have c0 := q.cell 0
  have c1 := q.cell 1
  clear hz hx hy hf hr
  cases h : isTwo ds z x y with
  | false =>
    have F1 := Lib.hid (joinV_no (of := lessV) h)
    go_wp2_with fail
    refine (lessValues_any _ _ _ ds _ _ _ _ R).mono ?_
    rintro e wn ⟨rfl, hb⟩
    replace b := Below.on b hb b.size
    replace q := q.below hb q.lt
    replace R := R.to hb
    replace c0 := q.cell 0
    replace c1 := q.cell 1
    rw [F1.out]
    clear hb
    go_wp2_with fail
    refine (slessValues_any _ _ _ ds _ _ _ _ R).mono ?_
    rintro e wn ⟨rfl, hb⟩
    replace b := Below.on b hb b.size
    replace q := q.below hb q.lt
    replace R := R.to hb
    replace c0 := q.cell 0
    replace c1 := q.cell 1
    rw [F1.out]
    clear hb
    go_wp2_with fail
    refine (slessValues_any _ _ _ ds _ _ _ _ R).mono ?_
    rintro e wn ⟨rfl, hb⟩
    replace b := Below.on b hb b.size
    replace q := q.below hb q.lt
    replace R := R.to hb
    replace c0 := q.cell 0
    replace c1 := q.cell 1
    rw [F1.out]
    clear hb
    go_wp2
    go_ret
    exact ⟨rfl, b⟩
  | true =>
    obtain ⟨vx, vy⟩ := two_iff.1 h
    obtain ⟨x0, x1⟩ := vx.2.1
    obtain ⟨y0, y1⟩ := vy.2.1
    have vo := value_less vx vy
    have va := value_and vx vy
    have F1 := Lib.hid (joined lessV vx vy)
    have F2 := Lib.hid ((joined andV vo vy).trans (less_gone x0 y0))
    have F3 := Lib.hid (joined andV vx vy)
    have F4 := Lib.hid ((joined orV vo va).trans (less_or x0 y0))
    have F5 := Lib.hid (has_yes vx vo (less_has x0 y0))
    obtain ⟨o0, o1⟩ := vo.2.1
    obtain ⟨a0, a1⟩ := va.2.1
    clear vx vy vo va h
    generalize lessV x y = o at *
    generalize andV x y = a at *
    go_wp2_with fail
    refine (lessValues_any _ _ _ ds _ _ _ _ R).mono ?_
    rintro e wn ⟨rfl, hb⟩
    replace b := Below.on b hb b.size
    replace q := q.below hb q.lt
    replace R := R.to hb
    replace c0 := q.cell 0
    replace c1 := q.cell 1
    rw [F1.out]
    clear hb
    go_wp2_with fail
    refine (slessValues_any _ _ _ ds _ _ _ _ R).mono ?_
    rintro e wn ⟨rfl, hb⟩
    replace b := Below.on b hb b.size
    replace q := q.below hb q.lt
    replace R := R.to hb
    replace c0 := q.cell 0
    replace c1 := q.cell 1
    rw [F1.out]
    clear hb
    go_wp2_with fail
    replace b := b.drew
    replace q := q.drew
    replace R := R.drew
    go_region_held3 (fun w2 => w2.cell? ⟨w1.heap.size, 0, none⟩ = some (.slice A1 ds.length cc) ∧ w2.cell? ⟨w1.heap.size, 1, none⟩ = some (.int .i64 z)) (go_keep)
      (first
        | (go_at_call 41; refine (andValues_any _ _ _ ds _ _ _ _ R).mono ?_; rintro e wn ⟨rfl, hb⟩; replace b := Below.on b hb b.size; replace q := q.below hb q.lt; replace R := R.to hb; replace c0 := q.cell 0; replace c1 := q.cell 1; clear hb; first | rw [F2.out] | rw [F3.out])
        | (go_at_call 38; refine (orValues_any _ _ _ ds _ _ _ _ R).mono ?_; rintro e wn ⟨rfl, hb⟩; replace b := Below.on b hb b.size; replace q := q.below hb q.lt; replace R := R.to hb; replace c0 := q.cell 0; replace c1 := q.cell 1; clear hb; first | rw [F4.out])
        | (go_at_call 31; refine (hasAll_any _ _ _ ds _ _ _ _ R).mono ?_; rintro e wn ⟨rfl, hb⟩; replace b := Below.on b hb b.size; replace q := q.below hb q.lt; replace R := R.to hb; replace c0 := q.cell 0; replace c1 := q.cell 1; clear hb; first | rw [F5.out]))
    go_wp2
    go_ret
    exact ⟨rfl, b⟩
end Go.Proofs.Ytofkbckpncpmkaa
