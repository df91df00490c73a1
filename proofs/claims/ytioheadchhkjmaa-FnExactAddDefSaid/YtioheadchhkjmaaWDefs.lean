/-
  The walks over definitions: looking a name or a value up, and validity.
-/
import Derived.Test.YtioheadchhkjmaaWName
import Derived.Deep.QuietTactic
import Derived.BigQuiet
import Derived.Deep.RegionHeld3
import Derived.Deep.DrawnRows
import Derived.Deep.DeepMust
namespace Go.Proofs.Ytioheadchhkjmaa
open Go.RowKit

set_option maxHeartbeats 400000 in
theorem named1_any (d : D) (s : ByteArray) (p : Nat) (w : World) (hp : w.cell? ⟨p, 0, none⟩ = some (.string s)) (hlt : p < w.heap.size) :
    Calls Try.prog 68 #[.agg #[.string d.1, .int .i64 d.2], .pointer (some ⟨p, 0, none⟩)] w fun e w' => e = .returned (.bool (nameIs s d)) ∧ Below w.heap.size w w' := by
  go_enter Try.func68, Try.ntmps68
  go_wp2
  go_ret
  exact ⟨ret_bool rfl, (Below.refl _ _).alloc (Nat.le_refl _) _⟩

set_option maxHeartbeats 400000 in
theorem indexN_any (A : Option Addr) (n c : Nat) (ds : List D) (s : ByteArray) (p : Nat) (w : World) (hr : Rd w w.heap.size A n c ds) (hp : w.cell? ⟨p, 0, none⟩ = some (.string s)) (hlt : p < w.heap.size) :
    Calls Try.prog 67 #[.slice A n c, .func (.func 68) #[] #[.pointer (some ⟨p, 0, none⟩)]] w fun e w' => e = .returned (.int .i64 (ix (nameIs s) ds)) ∧ Below w.heap.size w w' := by
  obtain ⟨hl, hn, hc, hg, ha⟩ := hr
  have HA := Lib.hid ha
  have HP := Lib.hid hp
  have HL := Lib.hid hl
  clear ha hp hg hl
  go_enter Try.func67, Try.ntmps67
  go_wp2
  go_loopw [5, 8] (fun _ i wr => ∃ k : Nat, k ≤ n ∧ i = .int .i64 k ∧ noneTo (nameIs s) ds k ∧ Below w.heap.size w wr) (fun _ i _ => n - (intOf i).toNat)
  case atStart => exact ⟨0, Nat.zero_le _, rfl, noneTo_zero _ _, Below.refl _ _⟩
  case round =>
    obtain ⟨k, hk, rfl, ht, hb⟩ := hrel
    have HT := Lib.hid ht
    clear ht
    by_cases hkn : k < n
    · obtain ⟨b, off, rfl, hbl, hcell⟩ := HA.out (by omega)
      have hd := hcell k hkn
      rw [← hb.cell (p := ⟨b, off + k * 2, none⟩) hbl, ← hb.cell (p := ⟨b, off + k * 2 + 1, none⟩) hbl] at hd
      obtain ⟨c0, c1⟩ := hd
      have HP1 := Lib.hid ((hb.cell (p := ⟨p, 0, none⟩) hlt).trans HP.out)
      have hlt1 : p < wr.heap.size := Nat.lt_of_lt_of_le hlt hb.size
      clear hcell
      by_cases hq : nameIs s (nth ds k) = true
      · have HS := Lib.hid (ix_yes (by rw [HL.out]; exact hkn) HT.out hq)
        go_wp2_with (go_at_call 68; refine (named1_any _ _ _ _ HP1.out hlt1).mono ?_; rintro e w1 ⟨rfl, hb1⟩)
        go_ret
        exact ⟨ret_int HS.out.symm, Below.on hb hb1 hb.size⟩
      · have hq : nameIs s (nth ds k) = false := by simpa using hq
        have HS := Lib.hid (noneTo_succ HT.out hq)
        go_wp2_with (go_at_call 68; refine (named1_any _ _ _ _ HP1.out hlt1).mono ?_; rintro e w1 ⟨rfl, hb1⟩)
        go_roundw
        case rel => exact ⟨k + 1, by omega, by go_num, HS.out, Below.on hb hb1 hb.size⟩
        case measure => simp [intOf]; omega
    · have HS := Lib.hid (ix_end HL.out hk hkn HT.out)
      go_wp2_with fail
      go_ret
      exact ⟨ret_int HS.out.symm, hb⟩

set_option maxHeartbeats 400000 in
theorem named_any (A : Option Addr) (n c : Nat) (ds : List D) (s : ByteArray) (w : World) (hr : Rd w w.heap.size A n c ds) :
    Calls Try.prog 60 #[.slice A n c, .string s] w fun e w' => e = .returned (.int .i64 (ix (nameIs s) ds)) ∧ Below w.heap.size w w' := by
  have hr1 := (hr.below ((Below.refl _ w).alloc (Nat.le_refl _) (.cells #[.string s] 9))).more (B' := (w.alloc (.cells #[.string s] 9)).heap.size) (by simp)
  have hp1 := cell_new1 w (.string s) 9
  have HR := Lib.hid hr1
  have HP := Lib.hid hp1
  clear hr hr1 hp1
  go_enter Try.func60, Try.ntmps60
  go_wp2_with (go_at_call 67; refine (indexN_any _ _ _ ds s _ _ HR.out HP.out (by simp)).mono ?_; rintro e w1 ⟨rfl, hb1⟩)
  go_ret
  exact ⟨ret_int rfl, Below.on ((Below.refl _ w).alloc (Nat.le_refl _) _) hb1 (by simp)⟩

set_option maxHeartbeats 400000 in
theorem defsValid_any (A : Option Addr) (n c : Nat) (ds : List D) (lo hi : Int) (w : World) (hr : Rd w w.heap.size A n c ds) :
    Calls Try.prog 57 #[.slice A n c, .int .i64 lo, .int .i64 hi] w fun e w' => e = .returned (.bool (vDefs ds lo hi)) ∧ Below w.heap.size w w' := by
  have HR := Lib.hid hr
  obtain ⟨hl, hn, hc, hg, ha⟩ := hr
  have HA := Lib.hid ha
  have HG := Lib.hid hg
  have HL := Lib.hid hl
  clear ha hg hl
  go_enter Try.func57, Try.ntmps57
  go_wp2
  go_loopw [11] (fun i wr => ∃ k : Nat, k ≤ n ∧ i = .int .i64 k ∧ okTo ds lo hi k = true ∧ Below w.heap.size w wr) (fun i _ => n - (intOf i).toNat)
  case atStart => exact ⟨0, Nat.zero_le _, rfl, rfl, Below.refl _ _⟩
  case round =>
    obtain ⟨k, hk, rfl, ht, hb⟩ := hrel
    have HT := Lib.hid ht
    clear ht
    by_cases hkn : k < n
    · obtain ⟨b, off, rfl, hbl, hcell⟩ := HA.out (by omega)
      have hd := hcell k hkn
      rw [← hb.cell (p := ⟨b, off + k * 2, none⟩) hbl, ← hb.cell (p := ⟨b, off + k * 2 + 1, none⟩) hbl] at hd
      obtain ⟨c0, c1⟩ := hd
      clear hcell
      have hg1 := HG.out.nth (i := k) (by rw [HL.out]; exact hkn)
      have hb1 : Below w.heap.size w (wr.alloc (.cells #[.string (nth ds k).1, .int .i64 (nth ds k).2] 46)) := hb.alloc hb.size _
      cases h1 : vName (nth ds k).1 with
      | false =>
        have HS := Lib.hid (vDefs_no (by rw [HL.out]; exact hkn) (okAt_name (lo := lo) (hi := hi) h1))
        go_wp2
        go_quiet ((go_at_call 65; exact Calls.quiet_of_same ((validName_any _ _ hg1.1).mono fun _ _ ⟨he, hw⟩ => ⟨he, hw.symm⟩)))
        go_wp2
        go_ret
        exact ⟨ret_bool HS.out.symm, below_drewN hb1 _⟩
      | true =>
        cases h2 : inR (nth ds k).2 lo hi with
        | false =>
          have HS := Lib.hid (vDefs_no (by rw [HL.out]; exact hkn) (okAt_range h2))
          go_wp2
          go_quiet (first | (go_at_call 65; exact Calls.quiet_of_same ((validName_any _ _ hg1.1).mono fun _ _ ⟨he, hw⟩ => ⟨he, hw.symm⟩)) | (go_at_call 66; exact Calls.quiet_of_same ((in_any _ _ _ _).mono fun _ _ ⟨he, hw⟩ => ⟨he, hw.symm⟩)))
          go_wp2
          go_ret
          exact ⟨ret_bool HS.out.symm, below_drewN hb1 _⟩
        | true =>
          have hr1 := Lib.hid (((HR.out.take (Nat.le_of_lt hkn)).below hb1).more (B' := (wr.alloc (.cells #[.string (nth ds k).1, .int .i64 (nth ds k).2] 46)).heap.size) (Nat.le_trans hb.size (by simp)))
          have d0 := World.cell?_alloc_new (w := wr) #[.string (nth ds k).1, .int .i64 (nth ds k).2] 46 0
          have d1 := World.cell?_alloc_new (w := wr) #[.string (nth ds k).1, .int .i64 (nth ds k).2] 46 1
          have i0 : (0 : Int) ≤ (k : Int) := by omega
          have i1 : (k : Int) ≤ (c : Int) := by omega
          go_wp2
          obtain ⟨W, hW⟩ : ∃ W, W = wr.alloc (.cells #[.string (nth ds k).1, .int .i64 (nth ds k).2] 46) := ⟨_, rfl⟩
          rw [← hW]
          rw [← hW] at hb1 hr1 d0 d1
          have hsz : wr.heap.size < W.heap.size := by rw [hW]; simp
          clear hW
          by_cases h3 : ix (nameIs (nth ds k).1) (ds.take k) < 0
          · have HS := Lib.hid (okTo_succ HT.out (okAt_yes h1 h2 h3))
            go_region_held3 (fun w' => w'.cell? ⟨wr.heap.size, 0, none⟩ = some (.string (nth ds k).1) ∧ w'.cell? ⟨wr.heap.size, 1, none⟩ = some (.int .i64 (nth ds k).2)) (go_keep)
              (first
                | (go_at_call 65; refine (validName_any _ _ hg1.1).mono ?_; rintro e w' ⟨rfl, rfl⟩)
                | (go_at_call 66; refine (in_any _ _ _ _).mono ?_; rintro e w' ⟨rfl, rfl⟩)
                | (go_at_call 60; refine (named_any _ _ _ (ds.take k) _ _ (by exact hr1.out)).mono ?_; rintro e w' ⟨rfl, hb2⟩; have e0 := (hb2.cell (p := ⟨wr.heap.size, 0, none⟩) hsz).trans d0; have e1 := (hb2.cell (p := ⟨wr.heap.size, 1, none⟩) hsz).trans d1))
            go_wp2
            go_roundw
            case rel => exact ⟨k + 1, by omega, by go_num, HS.out, Below.on hb1.drew hb2 (by have := hb.size; exact Nat.le_of_lt (Nat.lt_of_le_of_lt this hsz))⟩
            case measure => simp [intOf]; omega
          · have HS := Lib.hid (vDefs_no (by rw [HL.out]; exact hkn) (okAt_twice (lo := lo) (hi := hi) (Int.not_lt.1 h3)))
            go_region_held3 (fun w' => w'.cell? ⟨wr.heap.size, 0, none⟩ = some (.string (nth ds k).1) ∧ w'.cell? ⟨wr.heap.size, 1, none⟩ = some (.int .i64 (nth ds k).2)) (go_keep)
              (first
                | (go_at_call 65; refine (validName_any _ _ hg1.1).mono ?_; rintro e w' ⟨rfl, rfl⟩)
                | (go_at_call 66; refine (in_any _ _ _ _).mono ?_; rintro e w' ⟨rfl, rfl⟩)
                | (go_at_call 60; refine (named_any _ _ _ (ds.take k) _ _ (by exact hr1.out)).mono ?_; rintro e w' ⟨rfl, hb2⟩; have e0 := (hb2.cell (p := ⟨wr.heap.size, 0, none⟩) hsz).trans d0; have e1 := (hb2.cell (p := ⟨wr.heap.size, 1, none⟩) hsz).trans d1))
            go_wp2
            go_ret
            exact ⟨ret_bool HS.out.symm, Below.on hb1.drew hb2 (by have := hb.size; exact Nat.le_of_lt (Nat.lt_of_le_of_lt this hsz))⟩
    · have HS := Lib.hid (vDefs_end (by rw [HL.out]; exact hkn) (by rw [HL.out]; exact hk) HT.out)
      rw [HL.out] at HS
      go_wp2_with fail
      go_ret
      exact ⟨ret_bool (by rw [HS.out, Bool.eq_iff_iff]; simp; omega), hb⟩

set_option maxHeartbeats 400000 in
theorem validEnum_any (A : Option Addr) (n c : Nat) (ds : List D) (w : World) (hr : Rd w w.heap.size A n c ds) :
    Calls Try.prog 43 #[.agg #[.slice A n c]] w fun e w' => e = .returned (.bool (vDefs ds (-1000) 1000)) ∧ Below w.heap.size w w' := by
  have hr1 := (hr.below ((Below.refl _ w).alloc (Nat.le_refl _) (.cells #[.slice A n c] 42))).more (B' := (w.alloc (.cells #[.slice A n c] 42)).heap.size) (by simp)
  have HR := Lib.hid hr1
  clear hr hr1
  go_enter Try.func43, Try.ntmps43
  go_wp2_with (go_at_call 57; refine (defsValid_any _ _ _ ds _ _ _ HR.out).mono ?_; rintro e w1 ⟨rfl, hb1⟩)
  go_ret
  exact ⟨ret_bool rfl, Below.on ((Below.refl _ w).alloc (Nat.le_refl _) _) hb1 (by simp)⟩

end Go.Proofs.Ytioheadchhkjmaa
