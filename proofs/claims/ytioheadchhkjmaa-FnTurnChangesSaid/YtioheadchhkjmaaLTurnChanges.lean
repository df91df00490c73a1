/-
  The walk of the law TurnChanges: whatever comes in, it answers true.
-/
import Derived.Test.YtioheadchhkjmaaWDrawC
import Derived.Test.YtioheadchhkjmaaWTurnI
import Derived.Test.YtioheadchhkjmaaWTurnS
import Derived.Test.YtioheadchhkjmaaWLawsH
namespace Go.Proofs.Ytioheadchhkjmaa
open Go.RowKit
attribute [local go_sem ↓] Go.wp_at_zero Go.wp_at_succ

set_option maxRecDepth 100000 in
set_option maxHeartbeats 8000000 in
theorem turnChanges_walk (A : Option Addr) (n c : Nat) (w : World) (hr : RdB w w.heap.size A n c) :
    Calls Try.prog 4 #[.slice A n c] w fun e w' => e = .returned (.bool true) ∧ Below w.heap.size w w' := by
  by_cases hlen : (1048576 : Int) < n
  · go_enter Try.func4, Try.ntmps4
    go_wp2_with fail
    go_ret
    exact ⟨rfl, Below.refl _ _⟩
  go_enter Try.func4, Try.ntmps4
  go_wp2_with fail
  refine (drawTurnChanges_any A n c _ hr).mono ?_
  rintro e w1 ⟨A1, c1, cs, rfl, hg, R, b⟩
  obtain ⟨m, hm⟩ : ∃ m, cs.length = m := ⟨_, rfl⟩
  rw [hm] at R
  have HM := Lib.hid hm
  have HG := Lib.hid hg
  have HGT := Lib.hid (turned_good hg)
  have HLT := Lib.hid (show (turned cs).length = m from by rw [turned_length]; exact hm)
  rw [hm]
  clear hr hg hm
  go_wp2_with fail
  refine (turnI_any _ _ _ cs _ R).mono ?_
  rintro e w2 ⟨A2, c2, rfl, O2, hb⟩
  rw [HM.out]
  rw [HM.out] at O2
  have R2 := O2.rd2 HGT.out HLT.out
  replace R := R.to hb
  replace b := Below.on b hb b.size
  clear hb O2
  go_wp2_with fail
  refine (turnS_any _ _ _ cs _ R).mono ?_
  rintro e w3 ⟨A3, c3, rfl, O3, hb⟩
  rw [HM.out]
  rw [HM.out] at O3
  have R3 := O3.rd2 HGT.out HLT.out
  replace R := R.to hb
  replace R2 := R2.to hb
  replace b := Below.on b hb b.size
  clear hb O3
  go_wp2_with fail
  refine (equalChanges_same _ _ _ _ _ (turned cs) _ R2 R3).mono ?_
  rintro e w4 ⟨rfl, hb⟩
  replace R := R.to hb
  replace R2 := R2.to hb
  replace b := Below.on b hb b.size
  clear hb R3
  go_wp2_with fail
  refine (turnI_any _ _ _ (turned cs) _ R2).mono ?_
  rintro e w5 ⟨A5, c5, rfl, O5, hb⟩
  rw [HLT.out]
  rw [HLT.out, turned_twice] at O5
  have R5 := O5.rd2 HG.out HM.out
  replace R := R.to hb
  replace b := Below.on b hb b.size
  clear hb O5 R2
  go_wp2_with fail
  refine (equalChanges_same _ _ _ _ _ cs _ R5 R).mono ?_
  rintro e w6 ⟨rfl, hb⟩
  replace b := Below.on b hb b.size
  clear hb R5 R
  go_wp2
  go_ret
  exact ⟨rfl, b⟩
end Go.Proofs.Ytioheadchhkjmaa
