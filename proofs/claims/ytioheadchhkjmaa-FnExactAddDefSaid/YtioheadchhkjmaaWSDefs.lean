/-
  The walks over definitions, of the reference's functions: looking a name or a value up, and validity.
-/
import Derived.Test.YtioheadchhkjmaaWDefs
namespace Go.Proofs.Ytioheadchhkjmaa
open Go.RowKit

set_option maxHeartbeats 400000 in
theorem indexOf_any (B : Nat) (A : Option Addr) (n c : Nat) (ds : List D) (s : ByteArray) (w : World) (hr : Rd w B A n c ds) :
    Calls Try.prog 59 #[.slice A n c, .string s] w fun e w' => e = .returned (.int .i64 (ix (nameIs s) ds)) ∧ w = w' := by
  obtain ⟨hl, hn, hc, hg, ha⟩ := hr
  have HA := Lib.hid ha
  have HL := Lib.hid hl
  clear ha hg hl
  go_enter Try.func59, Try.ntmps59
  go_wp2
  go_loop [5] (fun i => ∃ k : Nat, k ≤ n ∧ i = .int .i64 k ∧ noneTo (nameIs s) ds k) (fun i => n - (intOf i).toNat)
  case atStart => exact ⟨0, Nat.zero_le _, rfl, noneTo_zero _ _⟩
  case round =>
    obtain ⟨k, hk, rfl, ht⟩ := hrel
    have HT := Lib.hid ht
    clear ht
    by_cases hkn : k < n
    · obtain ⟨b, off, rfl, hbl, hcell⟩ := HA.out (by omega)
      obtain ⟨c0, c1⟩ := hcell k hkn
      clear hcell
      cases hq : nameIs s (nth ds k) with
      | true =>
        have HS := Lib.hid (ix_yes (by rw [HL.out]; exact hkn) HT.out hq)
        unfold nameIs at hq
        try unfold eqS at hq
        go_wp2
        go_ret
        exact ⟨ret_int HS.out.symm, rfl⟩
      | false =>
        have HS := Lib.hid (noneTo_succ HT.out hq)
        unfold nameIs at hq
        try unfold eqS at hq
        go_wp2
        go_round
        case rel => exact ⟨k + 1, by omega, by go_num, HS.out⟩
        case measure => simp [intOf]; omega
    · have HS := Lib.hid (ix_end HL.out hk hkn HT.out)
      go_wp2
      go_ret
      exact ⟨ret_int HS.out.symm, rfl⟩

theorem indexOf_bel (A : Option Addr) (n c : Nat) (ds : List D) (s : ByteArray) (w : World) (hr : Rd w w.heap.size A n c ds) :
    Calls Try.prog 59 #[.slice A n c, .string s] w fun e w' => e = .returned (.int .i64 (ix (nameIs s) ds)) ∧ Below w.heap.size w w' :=
  (indexOf_any _ A n c ds s w hr).mono fun _ _ ⟨he, hw⟩ => ⟨he, hw ▸ Below.refl _ _⟩

set_option maxHeartbeats 400000 in
theorem svalidDefs_any (A : Option Addr) (n c : Nat) (ds : List D) (lo hi : Int) (w : World) (hr : Rd w w.heap.size A n c ds) :
    Calls Try.prog 54 #[.slice A n c, .int .i64 lo, .int .i64 hi] w fun e w' => e = .returned (.bool (vDefs ds lo hi)) ∧ Below w.heap.size w w' := by
  have HR := Lib.hid hr
  obtain ⟨hl, hn, hc, hg, ha⟩ := hr
  have HA := Lib.hid ha
  have HG := Lib.hid hg
  have HL := Lib.hid hl
  clear ha hg hl
  go_enter Try.func54, Try.ntmps54
  go_wp2
  go_loopw [7] (fun i wr => ∃ k : Nat, k ≤ n ∧ i = .int .i64 k ∧ okTo ds lo hi k = true ∧ Below w.heap.size w wr) (fun i _ => n - (intOf i).toNat)
  case atStart => exact ⟨0, Nat.zero_le _, rfl, rfl, Below.refl _ _⟩
  case round =>
    obtain ⟨k, hk, rfl, ht, hb⟩ := hrel
    have HT := Lib.hid ht
    clear ht
    by_cases hkn : k < n
    · obtain ⟨b, off, rfl, hbl, hcell⟩ := HA.out (by omega)
      have hd := hcell k hkn
      rw [← hb.cell (p := ⟨b, off + k * 2, none⟩) hbl, ← hb.cell (p := ⟨b, off + k * 2 + 1, none⟩) hbl] at hd
      obtain ⟨c0, c1⟩ := hd
      clear hcell
      have hg1 := HG.out.nth (i := k) (by rw [HL.out]; exact hkn)
      have i0 : (0 : Int) ≤ (k : Int) := by omega
      have i1 : (k : Int) ≤ (c : Int) := by omega
      have i2 : (k : Int) < (n : Int) := by omega
      cases h1 : vName (nth ds k).1 with
      | false =>
        have HS := Lib.hid (vDefs_no (by rw [HL.out]; exact hkn) (okAt_name (lo := lo) (hi := hi) h1))
        go_wp2
        go_quiet ((go_at_call 63; exact Calls.quiet_of_same ((svalidName_any _ _ hg1.1).mono fun _ _ ⟨he, hw⟩ => ⟨he, hw.symm⟩)))
        go_wp2
        go_ret
        exact ⟨ret_bool HS.out.symm, below_drewN hb _⟩
      | true =>
        cases h2 : inR (nth ds k).2 lo hi with
        | false =>
          have HS := Lib.hid (vDefs_no (by rw [HL.out]; exact hkn) (okAt_range h2))
          go_wp2
          go_quiet (first | (go_at_call 63; exact Calls.quiet_of_same ((svalidName_any _ _ hg1.1).mono fun _ _ ⟨he, hw⟩ => ⟨he, hw.symm⟩)) | (go_at_call 64; exact Calls.quiet_of_same ((inRange_any _ _ _ _).mono fun _ _ ⟨he, hw⟩ => ⟨he, hw.symm⟩)))
          go_wp2
          go_ret
          exact ⟨ret_bool HS.out.symm, below_drewN hb _⟩
        | true =>
          have hr1 := Lib.hid ((HR.out.take (Nat.le_of_lt hkn)).below hb)
          by_cases h3 : ix (nameIs (nth ds k).1) (ds.take k) < 0
          · have HS := Lib.hid (okTo_succ HT.out (okAt_yes h1 h2 h3))
            go_wp2
            go_quiet (first | (go_at_call 63; exact Calls.quiet_of_same ((svalidName_any _ _ hg1.1).mono fun _ _ ⟨he, hw⟩ => ⟨he, hw.symm⟩)) | (go_at_call 64; exact Calls.quiet_of_same ((inRange_any _ _ _ _).mono fun _ _ ⟨he, hw⟩ => ⟨he, hw.symm⟩)) | (go_at_call 59; exact Calls.quiet_of_same ((indexOf_any _ _ _ _ (ds.take k) _ _ (by exact hr1.out)).mono fun _ _ ⟨he, hw⟩ => ⟨he, hw.symm⟩)))
            go_wp2
            go_roundw
            case rel => exact ⟨k + 1, by omega, by go_num, HS.out, below_drewN hb _⟩
            case measure => simp [intOf]; omega
          · have HS := Lib.hid (vDefs_no (by rw [HL.out]; exact hkn) (okAt_twice (lo := lo) (hi := hi) (Int.not_lt.1 h3)))
            go_wp2
            go_quiet (first | (go_at_call 63; exact Calls.quiet_of_same ((svalidName_any _ _ hg1.1).mono fun _ _ ⟨he, hw⟩ => ⟨he, hw.symm⟩)) | (go_at_call 64; exact Calls.quiet_of_same ((inRange_any _ _ _ _).mono fun _ _ ⟨he, hw⟩ => ⟨he, hw.symm⟩)) | (go_at_call 59; exact Calls.quiet_of_same ((indexOf_any _ _ _ _ (ds.take k) _ _ (by exact hr1.out)).mono fun _ _ ⟨he, hw⟩ => ⟨he, hw.symm⟩)))
            go_wp2
            go_ret
            exact ⟨ret_bool HS.out.symm, below_drewN hb _⟩
    · have HS := Lib.hid (vDefs_end (by rw [HL.out]; exact hkn) (by rw [HL.out]; exact hk) HT.out)
      rw [HL.out] at HS
      go_wp2_with fail
      go_ret
      exact ⟨ret_bool (by rw [HS.out, Bool.eq_iff_iff]; simp; omega), hb⟩

set_option maxHeartbeats 400000 in
theorem svalidEnum_any (A : Option Addr) (n c : Nat) (ds : List D) (w : World) (hr : Rd w w.heap.size A n c ds) :
    Calls Try.prog 37 #[.agg #[.slice A n c]] w fun e w' => e = .returned (.bool (vDefs ds (-1000) 1000)) ∧ Below w.heap.size w w' := by
  have hr1 := (hr.below ((Below.refl _ w).alloc (Nat.le_refl _) (.cells #[.slice A n c] 42))).more (B' := (w.alloc (.cells #[.slice A n c] 42)).heap.size) (by simp)
  have HR := Lib.hid hr1
  clear hr hr1
  go_enter Try.func37, Try.ntmps37
  go_wp2_with (go_at_call 54; refine (svalidDefs_any _ _ _ ds _ _ _ HR.out).mono ?_; rintro e w1 ⟨rfl, hb1⟩)
  go_ret
  exact ⟨ret_bool rfl, Below.on ((Below.refl _ w).alloc (Nat.le_refl _) _) hb1 (by simp)⟩

end Go.Proofs.Ytioheadchhkjmaa
