/-
  The walk of the law IsUnique: whatever comes in, it answers true.
-/
import Derived.Test.YtpnicgagmopilaaWDrawE
import Derived.Test.YtpnicgagmopilaaPlainN
import Derived.Test.YtpnicgagmopilaaWUniq
import Derived.Test.YtpnicgagmopilaaWMembers
namespace Go.Proofs.Ytpnicgagmopilaa
open Go.RowKit

set_option maxRecDepth 100000 in
set_option maxHeartbeats 4000000 in
theorem isUnique_walk (A : Option Addr) (n c : Nat) (w : World) (hr : RdB w w.heap.size A n c) :
    Calls Try.prog 7 #[.slice A n c] w fun e w' => e = .returned (.bool true) ∧ Below w.heap.size w w' := by
  by_cases hlen : (1048576 : Int) < n
  · go_enter Try.func7, Try.ntmps7
    go_wp2_with fail
    go_ret
    exact ⟨rfl, Below.refl _ _⟩
  go_enter Try.func7, Try.ntmps7
  go_wp2_with fail
  refine (drawIsUnique_any A n c _ hr).mono ?_
  rintro e w1 ⟨A1, cc, ds, rfl, hf, R, b⟩
  have q := blk1 w1 #[.slice A1 ds.length cc] 28
  replace b := Below.on b (below1 w1 (.cells #[.slice A1 ds.length cc] 28)) b.size
  replace R := R.to (below1 w1 (.cells #[.slice A1 ds.length cc] 28))
  have c0 := q.cell 0
  clear hr
  cases h : vEnum ds with
  | false =>
    have H1 := Lib.hid (show isUniq ds = false from by simp [isUniq, h])
    have H2 := Lib.hid h
    clear h
    go_wp2_with fail
    refine (isUnique_any _ _ _ ds _ R).mono ?_
    rintro e wn ⟨rfl, hb⟩
    replace b := Below.on b hb b.size
    replace q := q.below hb q.lt
    replace R := R.to hb
    replace c0 := q.cell 0
    clear hb
    rw [H1.out]
    go_wp2_with fail
    refine (sisUnique_any _ _ _ ds _ R).mono ?_
    rintro e wn ⟨rfl, hb⟩
    replace b := Below.on b hb b.size
    replace q := q.below hb q.lt
    replace R := R.to hb
    replace c0 := q.cell 0
    clear hb
    rw [H1.out]
    go_wp2_with fail
    refine (validEnum_any _ _ _ ds _ R).mono ?_
    rintro e wn ⟨rfl, hb⟩
    replace b := Below.on b hb b.size
    replace q := q.below hb q.lt
    replace R := R.to hb
    replace c0 := q.cell 0
    clear hb
    rw [vEnum_out, H2.out]
    go_wp2_with fail
    refine (sisUnique_any _ _ _ ds _ R).mono ?_
    rintro e wn ⟨rfl, hb⟩
    replace b := Below.on b hb b.size
    replace q := q.below hb q.lt
    replace R := R.to hb
    replace c0 := q.cell 0
    clear hb
    rw [H1.out]
    go_wp2
    go_ret
    exact ⟨rfl, b⟩
  | true =>
    have H2 := Lib.hid h
    have HL := Lib.hid (membersV_length h)
    have H1 := Lib.hid (show isUniq ds = decide ((mem ds).length = ds.length) from by simp [isUniq, h])
    have HK := Lib.hid (show decide ((mem ds).length = ds.length) = (((mem ds).length : Int) == (ds.length : Int)) from by rw [Bool.eq_iff_iff]; simp; omega)
    clear h
    go_wp2_with fail
    refine (isUnique_any _ _ _ ds _ R).mono ?_
    rintro e wn ⟨rfl, hb⟩
    replace b := Below.on b hb b.size
    replace q := q.below hb q.lt
    replace R := R.to hb
    replace c0 := q.cell 0
    clear hb
    go_wp2_with fail
    refine (sisUnique_any _ _ _ ds _ R).mono ?_
    rintro e wn ⟨rfl, hb⟩
    replace b := Below.on b hb b.size
    replace q := q.below hb q.lt
    replace R := R.to hb
    replace c0 := q.cell 0
    clear hb
    go_wp2_with fail
    refine (validEnum_any _ _ _ ds _ R).mono ?_
    rintro e wn ⟨rfl, hb⟩
    replace b := Below.on b hb b.size
    replace q := q.below hb q.lt
    replace R := R.to hb
    replace c0 := q.cell 0
    clear hb
    rw [vEnum_out, H2.out]
    go_wp2_with fail
    replace b := b.drew
    replace q := q.drew
    replace R := R.drew
    go_region_held3 (fun w2 => w2.cell? ⟨w1.heap.size, 0, none⟩ = some (.slice A1 ds.length cc)) (go_keep)
      (first | (go_at_call 20; refine (membersOf_any _ _ _ ds _ R).mono ?_; rintro e wn ⟨A5, c5, rfl, S, hb⟩; replace b := Below.on b hb b.size; replace q := q.below hb q.lt; replace c0 := q.cell 0; clear hb))
    go_wp2
    go_ret
    exact ⟨ret_bool (by rw [H1.out, HL.out, HK.out]; simp), b⟩
end Go.Proofs.Ytpnicgagmopilaa
