/-
  The walk of the law NameOf: whatever comes in, it answers true.
-/
import Derived.Test.YtpnicgagmopilaaWDrawE
import Derived.Test.YtpnicgagmopilaaPlainN
import Derived.Test.YtpnicgagmopilaaWEnum
import Derived.Test.YtpnicgagmopilaaWMembers
namespace Go.Proofs.Ytpnicgagmopilaa
open Go.RowKit

set_option maxRecDepth 100000 in
set_option maxHeartbeats 4000000 in
theorem nameOf_walk (A : Option Addr) (n c : Nat) (w : World) (hr : RdB w w.heap.size A n c) :
    Calls Try.prog 6 #[.slice A n c] w fun e w' => e = .returned (.bool true) ∧ Below w.heap.size w w' := by
  by_cases hlen : (1048576 : Int) < n
  · go_enter Try.func6, Try.ntmps6
    go_wp2_with fail
    go_ret
    exact ⟨rfl, Below.refl _ _⟩
  go_enter Try.func6, Try.ntmps6
  go_wp2_with fail
  refine (drawNameOf_any A n c _ hr).mono ?_
  rintro e w1 ⟨A1, cc, ds, x, rfl, hx, hf, R, b⟩
  have q := blk1 w1 #[.slice A1 ds.length cc] 28
  replace b := Below.on b (below1 w1 (.cells #[.slice A1 ds.length cc] 28)) b.size
  replace R := R.to (below1 w1 (.cells #[.slice A1 ds.length cc] 28))
  have c0 := q.cell 0
  clear hr
  cases h : hasVal ds x with
  | false =>
    go_wp2_with fail
    refine (nameOf_any _ _ _ ds x _ R).mono ?_
    rintro e wn ⟨rfl, hb⟩
    replace b := Below.on b hb b.size
    replace q := q.below hb q.lt
    replace R := R.to hb
    replace c0 := q.cell 0
    clear hb
    rw [h]
    go_wp2_with fail
    refine (snameOf_any _ _ _ ds x _ R).mono ?_
    rintro e wn ⟨rfl, hb⟩
    replace b := Below.on b hb b.size
    replace q := q.below hb q.lt
    replace R := R.to hb
    replace c0 := q.cell 0
    clear hb
    rw [h]
    go_wp2
    go_ret
    exact ⟨rfl, b⟩
  | true =>
    obtain ⟨h2, h3⟩ := member_of h
    obtain ⟨i, hi, he⟩ := member_is h
    have hv : vEnum ds = true := by
      simp only [hasVal, Bool.and_eq_true] at h
      exact h.1
    have HN := Lib.hid ((membersV_nth hv hi).trans he)
    have HL := Lib.hid (membersV_length hv)
    go_wp2_with fail
    refine (nameOf_any _ _ _ ds x _ R).mono ?_
    rintro e wn ⟨rfl, hb⟩
    replace b := Below.on b hb b.size
    replace q := q.below hb q.lt
    replace R := R.to hb
    replace c0 := q.cell 0
    clear hb
    rw [h]
    go_wp2_with fail
    refine (snameOf_any _ _ _ ds x _ R).mono ?_
    rintro e wn ⟨rfl, hb⟩
    replace b := Below.on b hb b.size
    replace q := q.below hb q.lt
    replace R := R.to hb
    replace c0 := q.cell 0
    clear hb
    rw [h]
    go_wp2_with fail
    refine (valueOf_any _ _ _ ds (nameV ds x) _ R).mono ?_
    rintro e wn ⟨rfl, hb⟩
    replace b := Below.on b hb b.size
    replace q := q.below hb q.lt
    replace R := R.to hb
    replace c0 := q.cell 0
    clear hb
    rw [h2, h3]
    clear h h2 h3 hv he
    go_wp2_with fail
    refine (membersOf_any _ _ _ ds _ R).mono ?_
    rintro e wn ⟨A5, c5, rfl, S, hb⟩
    replace b := Below.on b hb b.size
    clear hb
    go_wp2_with fail
    refine (hasText_yes _ _ _ _ _ _ i (by rw [HL.out]; exact hi) HN.out _ S).mono ?_
    rintro e w' ⟨rfl, rfl⟩
    go_wp2
    go_ret
    exact ⟨rfl, b⟩
end Go.Proofs.Ytpnicgagmopilaa
