/-
  The walk of the law ValueOf: whatever comes in, it answers true.
-/
import Derived.Test.YtpnicgagmopilaaWDrawE
import Derived.Test.YtpnicgagmopilaaPlainN
import Derived.Test.YtpnicgagmopilaaWEnum
namespace Go.Proofs.Ytpnicgagmopilaa
open Go.RowKit

set_option maxRecDepth 100000 in
set_option maxHeartbeats 4000000 in
theorem valueOf_walk (A : Option Addr) (n c : Nat) (w : World) (hr : RdB w w.heap.size A n c) :
    Calls Try.prog 5 #[.slice A n c] w fun e w' => e = .returned (.bool true) ∧ Below w.heap.size w w' := by
  by_cases hlen : (1048576 : Int) < n
  · go_enter Try.func5, Try.ntmps5
    go_wp2_with fail
    go_ret
    exact ⟨rfl, Below.refl _ _⟩
  go_enter Try.func5, Try.ntmps5
  go_wp2_with fail
  refine (drawValueOf_any A n c _ hr).mono ?_
  rintro e w1 ⟨A1, cc, ds, s, rfl, hs, hf, R, b⟩
  have q := blk1 w1 #[.slice A1 ds.length cc] 28
  replace b := Below.on b (below1 w1 (.cells #[.slice A1 ds.length cc] 28)) b.size
  replace R := R.to (below1 w1 (.cells #[.slice A1 ds.length cc] 28))
  have c0 := q.cell 0
  clear hr
  cases h : hasName ds s with
  | false =>
    go_wp2_with fail
    refine (valueOf_any _ _ _ ds s _ R).mono ?_
    rintro e wn ⟨rfl, hb⟩
    replace b := Below.on b hb b.size
    replace q := q.below hb q.lt
    replace R := R.to hb
    replace c0 := q.cell 0
    clear hb
    rw [h]
    go_wp2_with fail
    refine (svalueOf_any _ _ _ ds s _ R).mono ?_
    rintro e wn ⟨rfl, hb⟩
    replace b := Below.on b hb b.size
    replace q := q.below hb q.lt
    replace R := R.to hb
    replace c0 := q.cell 0
    clear hb
    rw [h]
    go_wp2
    go_ret
    exact ⟨rfl, b⟩
  | true =>
    have h1 := hasVal_of h
    obtain ⟨h2, h3⟩ := member_of h1
    go_wp2_with fail
    refine (valueOf_any _ _ _ ds s _ R).mono ?_
    rintro e wn ⟨rfl, hb⟩
    replace b := Below.on b hb b.size
    replace q := q.below hb q.lt
    replace R := R.to hb
    replace c0 := q.cell 0
    clear hb
    rw [h]
    go_wp2_with fail
    refine (svalueOf_any _ _ _ ds s _ R).mono ?_
    rintro e wn ⟨rfl, hb⟩
    replace b := Below.on b hb b.size
    replace q := q.below hb q.lt
    replace R := R.to hb
    replace c0 := q.cell 0
    clear hb
    rw [h]
    go_wp2_with fail
    refine (nameOf_any _ _ _ ds (valV ds s) _ R).mono ?_
    rintro e wn ⟨rfl, hb⟩
    replace b := Below.on b hb b.size
    replace q := q.below hb q.lt
    replace R := R.to hb
    replace c0 := q.cell 0
    clear hb
    rw [h1]
    go_wp2_with fail
    refine (valueOf_any _ _ _ ds (nameV ds (valV ds s)) _ R).mono ?_
    rintro e wn ⟨rfl, hb⟩
    replace b := Below.on b hb b.size
    replace q := q.below hb q.lt
    replace R := R.to hb
    replace c0 := q.cell 0
    clear hb
    rw [h2, h3]
    go_wp2
    go_ret
    exact ⟨rfl, b⟩
end Go.Proofs.Ytpnicgagmopilaa
