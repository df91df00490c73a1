/-
  The walk of equal definitions (the same as in XWBound, for seats without classes of flags).
-/
import Derived.Test.YtpnicgagmopilaaWDefs
namespace Go.Proofs.Ytpnicgagmopilaa
open Go.RowKit

set_option maxHeartbeats 1000000 in
theorem equalDefs_same (A A' : Option Addr) (n c c' : Nat) (ds : List D) (w : World) (hr : Rd w w.heap.size A n c ds) (hr' : Rd w w.heap.size A' n c' ds) :
    Calls Try.prog 77 #[.slice A n c, .slice A' n c'] w fun e w' => e = .returned (.bool true) ∧ Below w.heap.size w w' := by
  obtain ⟨_, hn, hc, _, ha⟩ := hr
  obtain ⟨_, hn', hc', _, ha'⟩ := hr'
  have HA := Lib.hid ha
  have HA' := Lib.hid ha'
  clear ha ha'
  go_enter Try.func77, Try.ntmps77
  go_wp2
  go_loopw [5] (fun i wr => ∃ k : Nat, k ≤ n ∧ i = .int .i64 k ∧ Below w.heap.size w wr) (fun i _ => n - (intOf i).toNat)
  case atStart => exact ⟨0, Nat.zero_le _, rfl, Below.refl _ _⟩
  case round =>
    obtain ⟨k, hk, rfl, hb⟩ := hrel
    by_cases hkn : k < n
    · obtain ⟨b, off, rfl, hbl, hcell⟩ := HA.out (by omega)
      obtain ⟨b', off', rfl, hbl', hcell'⟩ := HA'.out (by omega)
      have hd := hcell k hkn
      rw [← hb.cell (p := ⟨b, off + k * 2, none⟩) hbl, ← hb.cell (p := ⟨b, off + k * 2 + 1, none⟩) hbl] at hd
      obtain ⟨c0, c1⟩ := hd
      have hd' := hcell' k hkn
      rw [← hb.cell (p := ⟨b', off' + k * 2, none⟩) hbl', ← hb.cell (p := ⟨b', off' + k * 2 + 1, none⟩) hbl'] at hd'
      obtain ⟨c0', c1'⟩ := hd'
      clear hcell hcell'
      have i0 : (0 : Int) ≤ (k : Int) := by omega
      have i2 : (k : Int) < (n : Int) := by omega
      go_wp2
      go_quiet (fail)
      go_wp2
      exact ⟨⟨k + 1, by omega, by go_num, below_drewN hb _⟩, by simp [intOf]; omega⟩
    · go_wp2
      go_ret
      exact ⟨rfl, hb⟩
theorem rd_nil (w : World) : Rd w w.heap.size none 0 0 [] := ⟨rfl, Nat.le_refl _, by omega, ⟨by simp, by simp⟩, fun h => absurd h (by omega)⟩
end Go.Proofs.Ytpnicgagmopilaa
