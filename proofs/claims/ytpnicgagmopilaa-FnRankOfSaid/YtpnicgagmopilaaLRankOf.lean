/-
  The walk of the law RankOf: whatever comes in, it answers true.
-/
import Derived.Test.YtpnicgagmopilaaWDrawE
import Derived.Test.YtpnicgagmopilaaPlainN
import Derived.Test.YtpnicgagmopilaaWRank
import Derived.Test.YtpnicgagmopilaaWMembers
namespace Go.Proofs.Ytpnicgagmopilaa
open Go.RowKit

set_option maxRecDepth 100000 in
set_option maxHeartbeats 4000000 in
theorem rankOf_walk (A : Option Addr) (n c : Nat) (w : World) (hr : RdB w w.heap.size A n c) :
    Calls Try.prog 8 #[.slice A n c] w fun e w' => e = .returned (.bool true) ∧ Below w.heap.size w w' := by
  by_cases hlen : (1048576 : Int) < n
  · go_enter Try.func8, Try.ntmps8
    go_wp2_with fail
    go_ret
    exact ⟨rfl, Below.refl _ _⟩
  go_enter Try.func8, Try.ntmps8
  go_wp2_with fail
  refine (drawRankOf_any A n c _ hr).mono ?_
  rintro e w1 ⟨A1, cc, ds, s, rfl, hs, hf, R, b⟩
  have q := blk1 w1 #[.slice A1 ds.length cc] 28
  replace b := Below.on b (below1 w1 (.cells #[.slice A1 ds.length cc] 28)) b.size
  replace R := R.to (below1 w1 (.cells #[.slice A1 ds.length cc] 28))
  have c0 := q.cell 0
  clear hr
  cases h : hasName ds s with
  | false =>
    have H1 := Lib.hid (rank_no h)
    clear h
    go_wp2_with fail
    refine (rankOf_any _ _ _ ds s _ R).mono ?_
    rintro e wn ⟨rfl, hb⟩
    replace b := Below.on b hb b.size
    replace q := q.below hb q.lt
    replace R := R.to hb
    replace c0 := q.cell 0
    clear hb
    rw [H1.out]
    go_wp2_with fail
    refine (srankOf_any _ _ _ ds s _ R).mono ?_
    rintro e wn ⟨rfl, hb⟩
    replace b := Below.on b hb b.size
    replace q := q.below hb q.lt
    replace R := R.to hb
    replace c0 := q.cell 0
    clear hb
    rw [H1.out]
    go_wp2_with fail
    refine (srankOf_any _ _ _ ds s _ R).mono ?_
    rintro e wn ⟨rfl, hb⟩
    replace b := Below.on b hb b.size
    replace q := q.below hb q.lt
    replace R := R.to hb
    replace c0 := q.cell 0
    clear hb
    rw [H1.out]
    go_wp2
    go_ret
    exact ⟨rfl, b⟩
  | true =>
    obtain ⟨r, hr1, hr2, hr3⟩ := rank_lt h
    have hv : vEnum ds = true := by
      simp only [hasName, Bool.and_eq_true] at h
      exact h.1
    have h1 := hasVal_of h
    have hm := (member_name hv hr1).2.2.2
    rw [hr3] at hm
    have HN := Lib.hid ((membersV_nth hv hr1).trans hm.symm)
    have HL := Lib.hid (membersV_length hv)
    have HR := Lib.hid hr2
    clear hr2 hr3 hm hv
    go_wp2_with fail
    refine (rankOf_any _ _ _ ds s _ R).mono ?_
    rintro e wn ⟨rfl, hb⟩
    replace b := Below.on b hb b.size
    replace q := q.below hb q.lt
    replace R := R.to hb
    replace c0 := q.cell 0
    clear hb
    rw [HR.out]
    go_wp2_with fail
    refine (srankOf_any _ _ _ ds s _ R).mono ?_
    rintro e wn ⟨rfl, hb⟩
    replace b := Below.on b hb b.size
    replace q := q.below hb q.lt
    replace R := R.to hb
    replace c0 := q.cell 0
    clear hb
    rw [HR.out]
    go_wp2_with fail
    refine (valueOf_any _ _ _ ds s _ R).mono ?_
    rintro e wn ⟨rfl, hb⟩
    replace b := Below.on b hb b.size
    replace q := q.below hb q.lt
    replace R := R.to hb
    replace c0 := q.cell 0
    clear hb
    rw [h]
    go_wp2_with fail
    refine (nameOf_any _ _ _ ds (valV ds s) _ R).mono ?_
    rintro e wn ⟨rfl, hb⟩
    replace b := Below.on b hb b.size
    replace q := q.below hb q.lt
    replace R := R.to hb
    replace c0 := q.cell 0
    clear hb
    rw [h1]
    clear h h1
    go_wp2_with fail
    refine (membersOf_any _ _ _ ds _ R).mono ?_
    rintro e wn ⟨A5, c5, rfl, S, hb⟩
    replace b := Below.on b hb b.size
    clear hb
    have hlt : r < (membersV ds).length := by rw [HL.out]; exact hr1
    obtain ⟨hl5, hn5, hc5, _, ha5⟩ := S
    obtain ⟨b5, o5, rfl, _, hcell⟩ := ha5 (by omega)
    have d0 := hcell r hlt
    rw [HN.out] at d0
    clear hcell ha5 hl5
    go_wp2
    go_ret
    exact ⟨rfl, b⟩
end Go.Proofs.Ytpnicgagmopilaa
