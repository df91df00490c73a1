/-
  The walk of the law ByValue: whatever comes in, it answers true.
-/
import Derived.Test.YtpnicgagmopilaaWDrawB
import Derived.Test.YtpnicgagmopilaaPlainN
import Derived.Test.YtpnicgagmopilaaWBy
namespace Go.Proofs.Ytpnicgagmopilaa
open Go.RowKit

set_option maxRecDepth 100000 in
set_option maxHeartbeats 4000000 in
theorem byValue_walk (A : Option Addr) (n c : Nat) (w : World) (hr : RdB w w.heap.size A n c) :
    Calls Try.prog 11 #[.slice A n c] w fun e w' => e = .returned (.bool true) ∧ Below w.heap.size w w' := by
  by_cases hlen : (1048576 : Int) < n
  · go_enter Try.func11, Try.ntmps11
    go_wp2_with fail
    go_ret
    exact ⟨rfl, Below.refl _ _⟩
  go_enter Try.func11, Try.ntmps11
  go_wp2_with fail
  refine (drawByValue_any A n c _ hr).mono ?_
  rintro e w1 ⟨A1, c1, ds, A2, c2, ds', s, rfl, hs, hf, hf', oa, ob, b⟩
  obtain ⟨A3, c3, he, R⟩ := oa.rd hf (by omega)
  simp only [Value.slice.injEq] at he
  obtain ⟨rfl, _, rfl⟩ := he
  obtain ⟨A3, c3, he, R'⟩ := ob.rd hf' (by omega)
  simp only [Value.slice.injEq] at he
  obtain ⟨rfl, _, rfl⟩ := he
  have q := (blk1 w1 #[.slice A1 ds.length c1] 28).alloc (.cells #[.slice A2 ds'.length c2] 28)
  have q' := blk2 w1 (.cells #[.slice A1 ds.length c1] 28) #[.slice A2 ds'.length c2] 28
  have b2 := below2 w1 (.cells #[.slice A1 ds.length c1] 28) (.cells #[.slice A2 ds'.length c2] 28)
  replace b := Below.on b b2 b.size
  replace R := R.to b2
  replace R' := R'.to b2
  have c0 := q.cell 0
  have d0 := q'.cell 0
  clear hr oa ob b2
  cases h : byValueH ds ds' s with
  | false =>
    go_wp2_with fail
    refine (byValue_any _ _ _ ds _ _ _ ds' s _ R R').mono ?_
    rintro e wn ⟨rfl, hb⟩
    replace b := Below.on b hb b.size
    replace q := q.below hb q.lt
    replace q' := q'.below hb q'.lt
    replace R := R.to hb
    replace R' := R'.to hb
    replace c0 := q.cell 0
    replace d0 := q'.cell 0
    clear hb
    rw [h]
    go_wp2_with fail
    refine (sbyValue_any _ _ _ ds _ _ _ ds' s _ R R').mono ?_
    rintro e wn ⟨rfl, hb⟩
    replace b := Below.on b hb b.size
    replace q := q.below hb q.lt
    replace q' := q'.below hb q'.lt
    replace R := R.to hb
    replace R' := R'.to hb
    replace c0 := q.cell 0
    replace d0 := q'.cell 0
    clear hb
    rw [h]
    go_wp2
    go_ret
    exact ⟨rfl, b⟩
  | true =>
    have h1 : hasName ds s = true := by
      simp only [byValueH, Bool.and_eq_true] at h
      exact h.1
    have h2 : hasVal ds' (valV ds s) = true := by
      simp only [byValueH, Bool.and_eq_true] at h
      exact h.2
    have h3 := hasVal_of h1
    obtain ⟨g1, g2⟩ := byValue_yes (b := ds') h1
    obtain ⟨m1, m2⟩ := member_of h2
    obtain ⟨g3, g4⟩ := byValue_yes (b := ds) m1
    rw [m2] at g3 g4
    have G2 := Lib.hid g2
    have G3 := Lib.hid (g3.trans h3)
    have G4 := Lib.hid g4
    have M2 := Lib.hid m2
    clear g1 g2 g3 g4 m2
    go_wp2_with fail
    refine (byValue_any _ _ _ ds _ _ _ ds' s _ R R').mono ?_
    rintro e wn ⟨rfl, hb⟩
    replace b := Below.on b hb b.size
    replace q := q.below hb q.lt
    replace q' := q'.below hb q'.lt
    replace R := R.to hb
    replace R' := R'.to hb
    replace c0 := q.cell 0
    replace d0 := q'.cell 0
    clear hb
    rw [h, G2.out]
    go_wp2_with fail
    refine (sbyValue_any _ _ _ ds _ _ _ ds' s _ R R').mono ?_
    rintro e wn ⟨rfl, hb⟩
    replace b := Below.on b hb b.size
    replace q := q.below hb q.lt
    replace q' := q'.below hb q'.lt
    replace R := R.to hb
    replace R' := R'.to hb
    replace c0 := q.cell 0
    replace d0 := q'.cell 0
    clear hb
    rw [h, G2.out]
    go_wp2_with fail
    refine (valueOf_any _ _ _ ds s _ R).mono ?_
    rintro e wn ⟨rfl, hb⟩
    replace b := Below.on b hb b.size
    replace q := q.below hb q.lt
    replace q' := q'.below hb q'.lt
    replace R := R.to hb
    replace R' := R'.to hb
    replace c0 := q.cell 0
    replace d0 := q'.cell 0
    clear hb
    rw [h1]
    go_wp2_with fail
    refine (valueOf_any _ _ _ ds' (nameV ds' (valV ds s)) _ R').mono ?_
    rintro e wn ⟨rfl, hb⟩
    replace b := Below.on b hb b.size
    replace q := q.below hb q.lt
    replace q' := q'.below hb q'.lt
    replace R := R.to hb
    replace R' := R'.to hb
    replace c0 := q.cell 0
    replace d0 := q'.cell 0
    clear hb
    rw [m1, M2.out]
    go_wp2_with fail
    refine (byValue_any _ _ _ ds' _ _ _ ds (nameV ds' (valV ds s)) _ R' R).mono ?_
    rintro e wn ⟨rfl, hb⟩
    replace b := Below.on b hb b.size
    replace q := q.below hb q.lt
    replace q' := q'.below hb q'.lt
    replace R := R.to hb
    replace R' := R'.to hb
    replace c0 := q.cell 0
    replace d0 := q'.cell 0
    clear hb
    rw [G3.out, G4.out]
    go_wp2_with fail
    refine (nameOf_any _ _ _ ds (valV ds s) _ R).mono ?_
    rintro e wn ⟨rfl, hb⟩
    replace b := Below.on b hb b.size
    replace q := q.below hb q.lt
    replace q' := q'.below hb q'.lt
    replace R := R.to hb
    replace R' := R'.to hb
    replace c0 := q.cell 0
    replace d0 := q'.cell 0
    clear hb
    rw [h3]
    go_wp2
    go_ret
    exact ⟨rfl, b⟩
end Go.Proofs.Ytpnicgagmopilaa
