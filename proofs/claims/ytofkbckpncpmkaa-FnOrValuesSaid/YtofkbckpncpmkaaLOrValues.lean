/-
  The walk of the law OrValues: whatever comes in, it answers true.
-/
import Derived.Test.YtofkbckpncpmkaaWDrawF
import Derived.Test.YtofkbckpncpmkaaWLawF
import Derived.Deep.RegionHeld3
import Derived.Deep.DrawnRows
namespace Go.Proofs.Ytofkbckpncpmkaa
open Go.RowKit

set_option maxRecDepth 100000 in
set_option maxHeartbeats 4000000 in
theorem orValues_walk (A : Option Addr) (n c : Nat) (w : World) (hr : RdB w w.heap.size A n c) :
    Calls Try.prog 11 #[.slice A n c] w fun e w' => e = .returned (.bool true) ∧ Below w.heap.size w w' := by
  by_cases hlen : (1048576 : Int) < n
  · go_enter Try.func11, Try.ntmps11
    go_wp2_with fail
    go_ret
    exact ⟨rfl, Below.refl _ _⟩
  go_enter Try.func11, Try.ntmps11
  go_wp2_with fail
  refine (drawOrValues_any A n c _ hr).mono ?_
  rintro e w1 ⟨A1, cc, ds, z, x, y, rfl, hz, hx, hy, hf, R, b⟩
  have q := blk1 w1 #[.slice A1 ds.length cc, .int .i64 z] 25
  replace b := Below.on b (below1 w1 (.cells #[.slice A1 ds.length cc, .int .i64 z] 25)) b.size
  replace R := R.to (below1 w1 (.cells #[.slice A1 ds.length cc, .int .i64 z] 25))
  have c0 := q.cell 0
  have c1 := q.cell 1
  clear hz hx hy hf hr
  cases h : isTwo ds z x y with
  | false =>
    have F1 := Lib.hid (joinV_no (of := orV) h)
    go_wp2_with fail
    refine (orValues_any _ _ _ ds _ _ _ _ R).mono ?_
    rintro e wn ⟨rfl, hb⟩
    replace b := Below.on b hb b.size
    replace q := q.below hb q.lt
    replace R := R.to hb
    replace c0 := q.cell 0
    replace c1 := q.cell 1
    rw [F1.out]
    clear hb
    go_wp2_with fail
    refine (sorValues_any _ _ _ ds _ _ _ _ R).mono ?_
    rintro e wn ⟨rfl, hb⟩
    replace b := Below.on b hb b.size
    replace q := q.below hb q.lt
    replace R := R.to hb
    replace c0 := q.cell 0
    replace c1 := q.cell 1
    rw [F1.out]
    clear hb
    go_wp2_with fail
    refine (sorValues_any _ _ _ ds _ _ _ _ R).mono ?_
    rintro e wn ⟨rfl, hb⟩
    replace b := Below.on b hb b.size
    replace q := q.below hb q.lt
    replace R := R.to hb
    replace c0 := q.cell 0
    replace c1 := q.cell 1
    rw [F1.out]
    clear hb
    go_wp2
    go_ret
    exact ⟨rfl, b⟩
  | true =>
    obtain ⟨vx, vy⟩ := two_iff.1 h
    obtain ⟨x0, x1⟩ := vx.2.1
    obtain ⟨y0, y1⟩ := vy.2.1
    have vo := value_or vx vy
    have vl := value_less vy vx
    have F1 := Lib.hid (joined orV vx vy)
    have F2 := Lib.hid ((joined orV vy vx).trans orV_comm)
    have F3 := Lib.hid (has_yes vo vx (or_has1 x0 y0))
    have F4 := Lib.hid (has_yes vo vy (or_has2 x0 y0))
    have F5 := Lib.hid (joined lessV vy vx)
    have F6 := Lib.hid ((joined orV vo vx).trans (or_twice x0 y0))
    have hs := or_sum x0 y0
    obtain ⟨o0, o1⟩ := vo.2.1
    obtain ⟨l0, l1⟩ := vl.2.1
    clear vx vy vo vl h
    generalize orV x y = o at *
    generalize lessV y x = l at *
    have hs' : (o == x + l) = true := by simpa using hs
    clear hs
    go_wp2_with fail
    refine (orValues_any _ _ _ ds _ _ _ _ R).mono ?_
    rintro e wn ⟨rfl, hb⟩
    replace b := Below.on b hb b.size
    replace q := q.below hb q.lt
    replace R := R.to hb
    replace c0 := q.cell 0
    replace c1 := q.cell 1
    rw [F1.out]
    clear hb
    go_wp2_with fail
    refine (sorValues_any _ _ _ ds _ _ _ _ R).mono ?_
    rintro e wn ⟨rfl, hb⟩
    replace b := Below.on b hb b.size
    replace q := q.below hb q.lt
    replace R := R.to hb
    replace c0 := q.cell 0
    replace c1 := q.cell 1
    rw [F1.out]
    clear hb
    go_wp2_with fail
    refine (orValues_any _ _ _ ds _ _ _ _ R).mono ?_
    rintro e wn ⟨rfl, hb⟩
    replace b := Below.on b hb b.size
    replace q := q.below hb q.lt
    replace R := R.to hb
    replace c0 := q.cell 0
    replace c1 := q.cell 1
    rw [F2.out]
    clear hb
    go_wp2_with fail
    refine (hasAll_any _ _ _ ds _ _ _ _ R).mono ?_
    rintro e wn ⟨rfl, hb⟩
    replace b := Below.on b hb b.size
    replace q := q.below hb q.lt
    replace R := R.to hb
    replace c0 := q.cell 0
    replace c1 := q.cell 1
    rw [F3.out]
    clear hb
    go_wp2_with fail
    refine (hasAll_any _ _ _ ds _ _ _ _ R).mono ?_
    rintro e wn ⟨rfl, hb⟩
    replace b := Below.on b hb b.size
    replace q := q.below hb q.lt
    replace R := R.to hb
    replace c0 := q.cell 0
    replace c1 := q.cell 1
    rw [F4.out]
    clear hb
    go_wp2_with fail
    refine (lessValues_any _ _ _ ds _ _ _ _ R).mono ?_
    rintro e wn ⟨rfl, hb⟩
    replace b := Below.on b hb b.size
    replace q := q.below hb q.lt
    replace R := R.to hb
    replace c0 := q.cell 0
    replace c1 := q.cell 1
    rw [F5.out]
    clear hb
    go_wp2_with fail
    refine (orValues_any _ _ _ ds _ _ _ _ R).mono ?_
    rintro e wn ⟨rfl, hb⟩
    replace b := Below.on b hb b.size
    replace q := q.below hb q.lt
    replace R := R.to hb
    replace c0 := q.cell 0
    replace c1 := q.cell 1
    rw [F6.out]
    clear hb
    go_wp2
    go_ret
    exact ⟨rfl, b⟩
end Go.Proofs.Ytofkbckpncpmkaa
