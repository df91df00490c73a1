/-
  The walks over classes of flags: validity, masks, values.
-/
import Derived.Test.YtofkbckpncpmkaaWSDefs
import Derived.Test.YtofkbckpncpmkaaWBits
namespace Go.Proofs.Ytofkbckpncpmkaa
open Go.RowKit

theorem vFlag_bad {ds : List D} (z : Int) (h : vDefs ds 0 4095 = false) : vFlag ds z = false := by simp [vFlag, h]
theorem vFlag_good {ds : List D} (z : Int) (h : vDefs ds 0 4095 = true) : vFlag ds z = inR z 0 3 := by simp [vFlag, h]

set_option maxHeartbeats 1000000 in
theorem validFlag_any (A : Option Addr) (n c : Nat) (ds : List D) (z : Int) (w : World) (hr : Rd w w.heap.size A n c ds) :
    Calls Try.prog 18 #[.agg #[.slice A n c, .int .i64 z]] w fun e w' => e = .returned (.bool (vFlag ds z)) ∧ Below w.heap.size w w' := by
  have q := blk1 w #[.slice A n c, .int .i64 z] 25
  have b := below1 w (.cells #[.slice A n c, .int .i64 z] 25)
  have R := hr.to b
  clear hr
  cases hv : vDefs ds 0 4095 with
  | false =>
    have HF := Lib.hid (vFlag_bad z hv)
    go_enter Try.func18, Try.ntmps18
    go_wp2_with fail
    refine (defsValid_any _ _ _ ds _ _ _ R).mono ?_
    rintro e w1 ⟨rfl, hb⟩
    go_wp2
    go_ret
    exact ⟨ret_bool HF.out.symm, Below.on b hb b.size⟩
  | true =>
    have HF := Lib.hid (vFlag_good z hv)
    go_enter Try.func18, Try.ntmps18
    go_wp2_with fail
    refine (defsValid_any _ _ _ ds _ _ _ R).mono ?_
    rintro e w1 ⟨rfl, hb⟩
    have q1 := q.below hb q.lt
    have c1 := q1.cell 1
    go_wp2_with (go_at_call 61; refine (in_any _ _ _ _).mono ?_; rintro e w' ⟨rfl, rfl⟩)
    go_ret
    exact ⟨ret_bool HF.out.symm, Below.on b hb b.size⟩

set_option maxHeartbeats 1000000 in
theorem svalidFlag_any (A : Option Addr) (n c : Nat) (ds : List D) (z : Int) (w : World) (hr : Rd w w.heap.size A n c ds) :
    Calls Try.prog 62 #[.agg #[.slice A n c, .int .i64 z]] w fun e w' => e = .returned (.bool (vFlag ds z)) ∧ Below w.heap.size w w' := by
  have q := blk1 w #[.slice A n c, .int .i64 z] 25
  have b := below1 w (.cells #[.slice A n c, .int .i64 z] 25)
  have R := hr.to b
  clear hr
  cases hv : vDefs ds 0 4095 with
  | false =>
    have HF := Lib.hid (vFlag_bad z hv)
    go_enter Try.func62, Try.ntmps62
    go_wp2_with fail
    refine (svalidDefs_any _ _ _ ds _ _ _ R).mono ?_
    rintro e w1 ⟨rfl, hb⟩
    go_wp2
    go_ret
    exact ⟨ret_bool HF.out.symm, Below.on b hb b.size⟩
  | true =>
    have HF := Lib.hid (vFlag_good z hv)
    go_enter Try.func62, Try.ntmps62
    go_wp2_with fail
    refine (svalidDefs_any _ _ _ ds _ _ _ R).mono ?_
    rintro e w1 ⟨rfl, hb⟩
    have q1 := q.below hb q.lt
    have c1 := q1.cell 1
    go_wp2_with (go_at_call 94; refine (inRange_any _ _ _ _).mono ?_; rintro e w' ⟨rfl, rfl⟩)
    go_ret
    exact ⟨ret_bool HF.out.symm, Below.on b hb b.size⟩

set_option maxHeartbeats 400000 in
theorem sValidFlag_any (A : Option Addr) (n c : Nat) (ds : List D) (z : Int) (w : World) (hr : Rd w w.heap.size A n c ds) :
    Calls Try.prog 19 #[.agg #[.slice A n c, .int .i64 z]] w fun e w' => e = .returned (.bool (vFlag ds z)) ∧ Below w.heap.size w w' := by
  have b := below1 w (.cells #[.slice A n c, .int .i64 z] 25)
  have R := hr.to b
  clear hr
  go_enter Try.func19, Try.ntmps19
  go_wp2_with fail
  refine (svalidFlag_any _ _ _ ds _ _ R).mono ?_
  rintro e w1 ⟨rfl, hb⟩
  go_wp2
  go_ret
  exact ⟨ret_bool rfl, Below.on b hb b.size⟩

set_option maxHeartbeats 1000000 in
theorem mask_any (A : Option Addr) (n c : Nat) (ds : List D) (z : Int) (hB : Bits ds) (w : World) (hr : Rd w w.heap.size A n c ds) :
    Calls Try.prog 71 #[.agg #[.slice A n c, .int .i64 z]] w fun e w' => e = .returned (.int .i64 (maskV ds)) ∧ Below w.heap.size w w' := by
  have HR := Lib.hid hr
  have HL := Lib.hid hr.1
  have hn := hr.2.1
  have hc := hr.2.2.1
  have HB := Lib.hid hB
  clear hr hB
  have b := below1 w (.cells #[.slice A n c, .int .i64 z] 25)
  go_enter Try.func71, Try.ntmps71
  go_wp2
  go_loopw [3, 9] (fun o i wr => ∃ (k : Nat) (m : Int), k ≤ n ∧ i = .int .i64 k ∧ o = .int .i64 m ∧ Hid (m = maskTo ds k) ∧ Below w.heap.size w wr) (fun _ i _ => n - (intOf i).toNat)
  case atStart => exact ⟨0, 0, Nat.zero_le _, rfl, rfl, rfl, b⟩
  case round =>
    obtain ⟨k, m, hk, rfl, rfl, hm, hb⟩ := hrel
    by_cases hkn : k < n
    · obtain ⟨bl, off, rfl, hbl, hcell⟩ := (HR.out.below hb).2.2.2.2 (by omega)
      obtain ⟨c0, c1⟩ := hcell k hkn
      clear hcell
      have hlt := maskTo_lt HB.out (k := k) (by rw [HL.out]; omega)
      rw [← hm.out] at hlt
      have hv := HB.out k (by rw [HL.out]; exact hkn)
      have e := bits_or (a := m) (b := (nth ds k).2) hlt.1 (by omega) hv.1 (by omega)
      have HS := Lib.hid (show orV m (nth ds k).2 = maskTo ds (k + 1) from by rw [hm.out]; rfl)
      clear hlt hv
      go_wp2
      go_roundw
      case rel => exact ⟨k + 1, _, by omega, by go_num, rfl, HS.out, hb.alloc hb.size _⟩
      case measure => simp [intOf]; omega
    · have HS := Lib.hid (show m = maskV ds from by rw [hm.out, show k = ds.length from by rw [HL.out]; omega]; rfl)
      go_wp2
      go_ret
      exact ⟨ret_int HS.out, hb⟩

set_option maxHeartbeats 1000000 in
theorem smask_any (B : Nat) (A : Option Addr) (n c : Nat) (ds : List D) (hB : Bits ds) (w : World) (hr : Rd w B A n c ds) :
    Calls Try.prog 72 #[.slice A n c] w fun e w' => e = .returned (.int .i64 (maskV ds)) ∧ w = w' := by
  have HR := Lib.hid hr
  have HL := Lib.hid hr.1
  have hn := hr.2.1
  have hc := hr.2.2.1
  have HB := Lib.hid hB
  clear hr hB
  go_enter Try.func72, Try.ntmps72
  go_wp2
  go_loop [3, 4] (fun o i => ∃ (k : Nat) (m : Int), k ≤ n ∧ i = .int .i64 k ∧ o = .int .i64 m ∧ Hid (m = maskTo ds k)) (fun _ i => n - (intOf i).toNat)
  case atStart => exact ⟨0, 0, Nat.zero_le _, rfl, rfl, rfl⟩
  case round =>
    obtain ⟨k, m, hk, rfl, rfl, hm⟩ := hrel
    by_cases hkn : k < n
    · obtain ⟨bl, off, rfl, hbl, hcell⟩ := HR.out.2.2.2.2 (by omega)
      obtain ⟨c0, c1⟩ := hcell k hkn
      clear hcell
      have hlt := maskTo_lt HB.out (k := k) (by rw [HL.out]; omega)
      rw [← hm.out] at hlt
      have hv := HB.out k (by rw [HL.out]; exact hkn)
      have HS := Lib.hid (show orV m (nth ds k).2 = maskTo ds (k + 1) from by rw [hm.out]; rfl)
      obtain ⟨l0, l1⟩ := hlt
      obtain ⟨v0, v1⟩ := hv
      go_wp2_with (go_at_call 77; refine (either_any _ _ l0 l1 v0 v1 _).mono ?_; rintro e w' ⟨rfl, rfl⟩)
      go_round
      case rel => exact ⟨k + 1, _, by omega, by go_num, rfl, HS.out⟩
      case measure => simp [intOf]; omega
    · have HS := Lib.hid (show m = maskV ds from by rw [hm.out, show k = ds.length from by rw [HL.out]; omega]; rfl)
      go_wp2
      go_ret
      exact ⟨ret_int HS.out, rfl⟩
theorem smask_bel (A : Option Addr) (n c : Nat) (ds : List D) (hB : Bits ds) (w : World) (hr : Rd w w.heap.size A n c ds) :
    Calls Try.prog 72 #[.slice A n c] w fun e w' => e = .returned (.int .i64 (maskV ds)) ∧ Below w.heap.size w w' :=
  (smask_any _ A n c ds hB w hr).mono fun _ _ ⟨he, hw⟩ => ⟨he, hw ▸ Below.refl _ _⟩

/-- The mask of a class, -1 of others. -/
def maskOf (ds : List D) (z : Int) : Int := if vFlag ds z then maskV ds else -1
set_option maxHeartbeats 1000000 in
theorem maskOf_any (A : Option Addr) (n c : Nat) (ds : List D) (z : Int) (w : World) (hr : Rd w w.heap.size A n c ds) :
    Calls Try.prog 28 #[.agg #[.slice A n c, .int .i64 z]] w fun e w' => e = .returned (.int .i64 (maskOf ds z)) ∧ Below w.heap.size w w' := by
  have q := blk1 w #[.slice A n c, .int .i64 z] 25
  have b := below1 w (.cells #[.slice A n c, .int .i64 z] 25)
  have R := hr.to b
  clear hr
  cases hv : vFlag ds z with
  | false =>
    have HF := Lib.hid (show maskOf ds z = -1 from by unfold maskOf; rw [hv]; rfl)
    go_enter Try.func28, Try.ntmps28
    go_wp2_with fail
    refine (validFlag_any _ _ _ ds _ _ R).mono ?_
    rintro e w1 ⟨rfl, hb⟩
    go_wp2
    go_ret
    exact ⟨ret_int HF.out.symm, Below.on b hb b.size⟩
  | true =>
    have HF := Lib.hid (show maskOf ds z = maskV ds from by unfold maskOf; rw [hv]; rfl)
    have hB := Bits_of (vFlag_defs hv)
    go_enter Try.func28, Try.ntmps28
    go_wp2_with fail
    refine (validFlag_any _ _ _ ds _ _ R).mono ?_
    rintro e w1 ⟨rfl, hb⟩
    replace b := Below.on b hb b.size
    replace q := q.below hb q.lt
    replace R := R.to hb
    have c0 := q.cell 0
    have c1 := q.cell 1
    clear hb
    go_wp2_with fail
    refine (mask_any _ _ _ ds _ hB _ R).mono ?_
    rintro e w2 ⟨rfl, hb⟩
    go_wp2
    go_ret
    exact ⟨ret_int HF.out.symm, Below.on b hb b.size⟩

set_option maxHeartbeats 1000000 in
theorem smaskOf_any (A : Option Addr) (n c : Nat) (ds : List D) (z : Int) (w : World) (hr : Rd w w.heap.size A n c ds) :
    Calls Try.prog 30 #[.agg #[.slice A n c, .int .i64 z]] w fun e w' => e = .returned (.int .i64 (maskOf ds z)) ∧ Below w.heap.size w w' := by
  have q := blk1 w #[.slice A n c, .int .i64 z] 25
  have b := below1 w (.cells #[.slice A n c, .int .i64 z] 25)
  have R := hr.to b
  clear hr
  cases hv : vFlag ds z with
  | false =>
    have HF := Lib.hid (show maskOf ds z = -1 from by unfold maskOf; rw [hv]; rfl)
    go_enter Try.func30, Try.ntmps30
    go_wp2_with fail
    refine (svalidFlag_any _ _ _ ds _ _ R).mono ?_
    rintro e w1 ⟨rfl, hb⟩
    go_wp2
    go_ret
    exact ⟨ret_int HF.out.symm, Below.on b hb b.size⟩
  | true =>
    have HF := Lib.hid (show maskOf ds z = maskV ds from by unfold maskOf; rw [hv]; rfl)
    have hB := Bits_of (vFlag_defs hv)
    go_enter Try.func30, Try.ntmps30
    go_wp2_with fail
    refine (svalidFlag_any _ _ _ ds _ _ R).mono ?_
    rintro e w1 ⟨rfl, hb⟩
    replace b := Below.on b hb b.size
    replace q := q.below hb q.lt
    replace R := R.to hb
    have c0 := q.cell 0
    have c1 := q.cell 1
    clear hb
    go_wp2_with fail
    refine (smask_bel _ _ _ ds hB _ R).mono ?_
    rintro e w2 ⟨rfl, hb⟩
    go_wp2
    go_ret
    exact ⟨ret_int HF.out.symm, Below.on b hb b.size⟩

end Go.Proofs.Ytofkbckpncpmkaa
