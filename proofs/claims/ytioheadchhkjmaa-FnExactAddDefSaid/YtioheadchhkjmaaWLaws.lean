/-
  The walks of the laws' own helpers: sizes, copies of the arguments, equality.
-/
import Derived.Test.YtioheadchhkjmaaWDefs
import Derived.Deep.RegionHeld3
namespace Go.Proofs.Ytioheadchhkjmaa
open Go.RowKit

/-- Some number between two others. -/
def SomeInt (lo hi : Int) (w : World) (e : Ending) (w' : World) : Prop := ∃ m : Int, lo ≤ m ∧ m ≤ hi ∧ e = .returned (.int .i64 m) ∧ Below w.heap.size w w'

set_option maxHeartbeats 400000 in
theorem szDef_any (d : D) (hd : d.1.size ≤ 9223372036854775807) (m : Int) (h0 : 0 ≤ m) (h1 : m ≤ 1048576) (w : World) :
    Calls Try.prog 17 #[.agg #[.string d.1, .int .i64 d.2], .int .i64 m] w (SomeInt (-1) m w) := by
  by_cases h : m - (d.1.size : Int) < 0
  · go_enter Try.func17, Try.ntmps17
    go_wp2
    go_ret
    exact ⟨_, by omega, by omega, rfl, (Below.refl _ _).alloc (Nat.le_refl _) _⟩
  · go_enter Try.func17, Try.ntmps17
    go_wp2
    go_ret
    exact ⟨_, by omega, by omega, rfl, (Below.refl _ _).alloc (Nat.le_refl _) _⟩

set_option maxHeartbeats 400000 in
theorem szDefS_any (A : Option Addr) (n c : Nat) (ds : List D) (m : Int) (h0 : 0 ≤ m) (h1 : m ≤ 1048576) (w : World) (hr : Rd w w.heap.size A n c ds) :
    Calls Try.prog 36 #[.slice A n c, .int .i64 m] w (SomeInt (-1) m w) := by
  obtain ⟨hl, hn, hc, hg, ha⟩ := hr
  have HA := Lib.hid ha
  have HG := Lib.hid hg
  have HL := Lib.hid hl
  clear ha hg hl
  by_cases hm : m - (n : Int) < 0
  · go_enter Try.func36, Try.ntmps36
    go_wp2
    go_ret
    exact ⟨_, by omega, by omega, rfl, Below.refl _ _⟩
  go_enter Try.func36, Try.ntmps36
  go_wp2
  go_loopw [1, 5] (fun t i wr => ∃ (k : Nat) (q : Int), k ≤ n ∧ i = .int .i64 k ∧ t = .int .i64 q ∧ 0 ≤ q ∧ q ≤ m ∧ Below w.heap.size w wr) (fun _ i _ => n - (intOf i).toNat)
  case atStart => exact ⟨0, _, Nat.zero_le _, rfl, rfl, by omega, by omega, Below.refl _ _⟩
  case round =>
    obtain ⟨k, q, hk, rfl, rfl, hq0, hq1, hb⟩ := hrel
    by_cases hkn : k < n
    · obtain ⟨b, off, rfl, hbl, hcell⟩ := HA.out (by omega)
      have hd := hcell k hkn
      rw [← hb.cell (p := ⟨b, off + k * 2, none⟩) hbl, ← hb.cell (p := ⟨b, off + k * 2 + 1, none⟩) hbl] at hd
      obtain ⟨c0, c1⟩ := hd
      clear hcell
      have hg1 := HG.out.nth (i := k) (by rw [HL.out]; exact hkn)
      go_wp2_with (go_at_call 17; refine (szDef_any _ hg1.1 q hq0 (by omega) _).mono ?_; rintro e w1 ⟨t, ht0, ht1, rfl, hb1⟩)
      · go_ret
        exact ⟨_, by omega, by omega, rfl, Below.on hb hb1 hb.size⟩
      · go_roundw
        case rel => exact ⟨k + 1, t, by omega, by go_num, rfl, by omega, by omega, Below.on hb hb1 hb.size⟩
        case measure => simp [intOf]; omega
    · go_wp2
      go_ret
      exact ⟨_, by omega, by omega, rfl, hb⟩

set_option maxHeartbeats 400000 in
theorem szEnum_any (A : Option Addr) (n c : Nat) (ds : List D) (m : Int) (h0 : 0 ≤ m) (h1 : m ≤ 1048576) (w : World) (hr : Rd w w.heap.size A n c ds) :
    Calls Try.prog 16 #[.agg #[.slice A n c], .int .i64 m] w (SomeInt (-1) m w) := by
  have hr1 := (hr.below ((Below.refl _ w).alloc (Nat.le_refl _) (.cells #[.slice A n c] 35))).more (B' := (w.alloc (.cells #[.slice A n c] 35)).heap.size) (by simp)
  have HR := Lib.hid hr1
  clear hr hr1
  go_enter Try.func16, Try.ntmps16
  go_wp2_with (go_at_call 36; refine (szDefS_any _ _ _ ds m h0 h1 _ HR.out).mono ?_; rintro e w1 ⟨t, ht0, ht1, rfl, hb1⟩)
  · go_ret
    exact ⟨_, by omega, by omega, rfl, Below.on ((Below.refl _ w).alloc (Nat.le_refl _) _) hb1 (by simp)⟩
  · go_ret
    exact ⟨_, by omega, by omega, rfl, Below.on ((Below.refl _ w).alloc (Nat.le_refl _) _) hb1 (by simp)⟩

set_option maxHeartbeats 400000 in
theorem toDef_any (d : D) (w : World) :
    Calls Try.prog 20 #[.agg #[.string d.1, .int .i64 d.2]] w fun e w' => e = .returned (.agg #[.string d.1, .int .i64 d.2]) ∧ Below w.heap.size w w' := by
  go_enter Try.func20, Try.ntmps20
  go_wp2
  exact bodyPost_ret (v := .agg #[.string d.1, .int .i64 d.2]) (by simp [results, Try.results20, go_sem]) rfl ⟨rfl, (((Below.refl _ _).alloc (Nat.le_refl _) _).alloc (by simp) _).alloc (by simp; omega) _⟩

theorem Try.infoDef : (Try.prog.info? 46).map (fun i => (i.zero, i.size, i.bytes)) = some (some (.agg #[.string ByteArray.empty, .int .i64 0]), 2, 24) := by kernel_rfl
set_option maxHeartbeats 400000 in
theorem toDefS_any (A : Option Addr) (n c : Nat) (ds : List D) (w : World) (hr : Rd w w.heap.size A n c ds) :
    Calls Try.prog 40 #[.slice A n c] w fun e w' => ∃ g, e = .returned (.slice (some ⟨g, 0, none⟩) n n) ∧ w.heap.size ≤ g ∧ Row w' g 46 ds ∧ Below w.heap.size w w' := by
  obtain ⟨hl, hn, hc, hg, ha⟩ := hr
  have HA := Lib.hid ha
  have HG := Lib.hid hg
  have HL := Lib.hid hl
  clear ha hg hl
  obtain ⟨i0, hi, hz0, hz1, hz2⟩ := info_parts Try.infoDef
  have hmk := fun W => run_make_defs (P := Try.prog) Try.underlying40 hi hz0 hz1 hz2 n (by rw [← HL.out]; exact HG.out.1) W

  go_enter Try.func40, Try.ntmps40
  go_wp2
  go_loopw [4] (fun i wr => ∃ k : Nat, k ≤ n ∧ i = .int .i64 k ∧ Row wr w.heap.size 46 (upTo ds k) ∧ Below w.heap.size w wr) (fun i _ => n - (intOf i).toNat)
  case atStart => exact ⟨0, Nat.zero_le _, rfl, by rw [upTo_zero, HL.out]; exact heap_alloc_new w _, (Below.refl _ _).alloc (Nat.le_refl _) _⟩
  case round =>
    obtain ⟨k, hk, rfl, hrow, hb⟩ := hrel
    clear hmk
    by_cases hkn : k < n
    · obtain ⟨b, off, rfl, hbl, hcell⟩ := HA.out (by omega)
      have hd := hcell k hkn
      rw [← hb.cell (p := ⟨b, off + k * 2, none⟩) hbl, ← hb.cell (p := ⟨b, off + k * 2 + 1, none⟩) hbl] at hd
      obtain ⟨c0, c1⟩ := hd
      clear hcell
      have hl1 : k < (upTo ds k).length := by rw [upTo_length _ _ (by rw [HL.out]; omega), HL.out]; exact hkn
      have hlt := hrow.lt
      go_wp2_with (go_at_call 20; refine (toDef_any _ _).mono ?_; rintro e w1 ⟨rfl, hb1⟩; have hrow1 := hrow.below hb1 hlt; have e0 := (hrow1.cells hl1).1; have e1 := (hrow1.cells hl1).2; have z0 := hrow1.frozen (k * 2); have z1 := hrow1.frozen (k * 2 + 1))
      have hset := Lib.hid (upTo_succ ds (k := k) (by rw [HL.out]; exact hkn))
      go_roundw
      case rel => exact ⟨k + 1, by omega, by go_num, by rw [← hset.out]; exact hrow1.set_ hl1 (nth ds k), ((Below.on hb hb1 hb.size).setCell (Nat.le_refl _) _).setCell (Nat.le_refl _) _⟩
      case measure => simp [intOf]; omega
    · have hk2 : k = ds.length := by rw [HL.out]; omega
      have hrow2 : Row wr w.heap.size 46 ds := by rw [hk2, upTo_end] at hrow; exact hrow
      have HW := Lib.hid hrow2
      clear hrow hrow2 hk2
      go_wp2
      go_ret
      exact ⟨_, rfl, Nat.le_refl _, HW.out, hb⟩

set_option maxHeartbeats 400000 in
theorem toEnum_any (A : Option Addr) (n c : Nat) (ds : List D) (w : World) (hr : Rd w w.heap.size A n c ds) :
    Calls Try.prog 19 #[.agg #[.slice A n c]] w fun e w' => ∃ g, e = .returned (.agg #[.slice (some ⟨g, 0, none⟩) n n]) ∧ w.heap.size ≤ g ∧ Row w' g 46 ds ∧ Below w.heap.size w w' := by
  have HR := Lib.hid hr
  clear hr
  go_enter Try.func19, Try.ntmps19
  go_wp2_with fail
  refine (toDefS_any _ _ _ ds _ (HR.out.to (below3 _ _ _ _))).mono ?_
  rintro e w1 ⟨g, rfl, hg, hrow, hb1⟩
  have q2 := (blk2 w (.cells #[.slice A n c] 35) #[.slice none 0 0] 42).alloc (.cells #[.slice none 0 0] 42)
  have q3 := blk3 w (.cells #[.slice A n c] 35) (.cells #[.slice none 0 0] 42) #[.slice none 0 0] 42
  have k2 := q2.below hb1 q2.lt
  have k3 := q3.below hb1 q3.lt
  have e2 := k2.cell 0
  have e3 := k3.cell 0
  have f2 := k2.frozen 0
  have f3 := k3.frozen 0
  have hsz : w.heap.size + 1 + 1 < w1.heap.size := k3.lt
  have hg' : w.heap.size + 1 + 1 + 1 ≤ g := by simpa using hg
  have e4 := ((k2.far (p := ⟨w.heap.size + 1 + 1, 0, none⟩) (by simp) (.slice (some ⟨g, 0, none⟩) n n)).set_ 0 (.slice (some ⟨g, 0, none⟩) n n)).cell 0
  go_wp2
  exact bodyPost_ret (v := .agg #[.slice (some ⟨g, 0, none⟩) n n]) (by simp [results, Try.results19, go_sem, e4]) rfl
    ⟨g, rfl, by omega, (hrow.far (p := ⟨w.heap.size + 1 + 1, 0, none⟩) (by simp; omega) _).far (p := ⟨w.heap.size + 1, 0, none⟩) (by simp; omega) _,
      ((Below.on (below3 _ _ _ _) hb1 (below3 _ _ _ _).size).setCell (by simp; omega) _).setCell (by simp) _⟩

theorem eqS_refl (a : ByteArray) : (a.toList == a.toList) = true := by simp
set_option maxHeartbeats 400000 in
theorem eqDef_same (d : D) (w : World) :
    Calls Try.prog 58 #[.agg #[.string d.1, .int .i64 d.2], .agg #[.string d.1, .int .i64 d.2]] w fun e w' => e = .returned (.bool true) ∧ Below w.heap.size w w' := by
  go_enter Try.func58, Try.ntmps58
  go_wp2
  go_ret
  exact ⟨rfl, ((Below.refl _ _).alloc (Nat.le_refl _) _).alloc (by simp) _⟩

set_option maxHeartbeats 400000 in
theorem eqDefS_same (A A' : Option Addr) (n c c' : Nat) (ds : List D) (w : World) (hr : Rd w w.heap.size A n c ds) (hr' : Rd w w.heap.size A' n c' ds) :
    Calls Try.prog 44 #[.slice A n c, .slice A' n c'] w fun e w' => e = .returned (.bool true) ∧ Below w.heap.size w w' := by
  obtain ⟨hl, hn, hc, hg, ha⟩ := hr
  obtain ⟨_, hn', hc', _, ha'⟩ := hr'
  have HA := Lib.hid ha
  have HA' := Lib.hid ha'
  have HL := Lib.hid hl
  clear ha ha' hg hl
  go_enter Try.func44, Try.ntmps44
  go_wp2
  go_loopw [5] (fun i wr => ∃ k : Nat, k ≤ n ∧ i = .int .i64 k ∧ Below w.heap.size w wr) (fun i _ => n - (intOf i).toNat)
  case atStart => exact ⟨0, Nat.zero_le _, rfl, Below.refl _ _⟩
  case round =>
    obtain ⟨k, hk, rfl, hb⟩ := hrel
    by_cases hkn : k < n
    · obtain ⟨b, off, rfl, hbl, hcell⟩ := HA.out (by omega)
      obtain ⟨b', off', rfl, hbl', hcell'⟩ := HA'.out (by omega)
      have hd := hcell k hkn
      rw [← hb.cell (p := ⟨b, off + k * 2, none⟩) hbl, ← hb.cell (p := ⟨b, off + k * 2 + 1, none⟩) hbl] at hd
      obtain ⟨c0, c1⟩ := hd
      have hd' := hcell' k hkn
      rw [← hb.cell (p := ⟨b', off' + k * 2, none⟩) hbl', ← hb.cell (p := ⟨b', off' + k * 2 + 1, none⟩) hbl'] at hd'
      obtain ⟨c0', c1'⟩ := hd'
      clear hcell hcell'
      have i0 : (0 : Int) ≤ (k : Int) := by omega
      have i2 : (k : Int) < (n : Int) := by omega
      go_wp2
      go_region_held3 (fun w' => w'.cell? ⟨b, off + k * 2, none⟩ = some (.string (nth ds k).1) ∧ w'.cell? ⟨b, off + k * 2 + 1, none⟩ = some (.int .i64 (nth ds k).2) ∧ w'.cell? ⟨b', off' + k * 2, none⟩ = some (.string (nth ds k).1) ∧ w'.cell? ⟨b', off' + k * 2 + 1, none⟩ = some (.int .i64 (nth ds k).2)) (go_keep)
        (first | (go_at_call 58; refine (eqDef_same (nth ds k) _).mono ?_; rintro e w' ⟨rfl, hb2⟩; have e0 := (hb2.cell (p := ⟨b, off + k * 2, none⟩) (Nat.lt_of_lt_of_le hbl hb.size)).trans c0; have e1 := (hb2.cell (p := ⟨b, off + k * 2 + 1, none⟩) (Nat.lt_of_lt_of_le hbl hb.size)).trans c1; have e2 := (hb2.cell (p := ⟨b', off' + k * 2, none⟩) (Nat.lt_of_lt_of_le hbl' hb.size)).trans c0'; have e3 := (hb2.cell (p := ⟨b', off' + k * 2 + 1, none⟩) (Nat.lt_of_lt_of_le hbl' hb.size)).trans c1'))
      go_wp2
      go_roundw
      case rel => exact ⟨k + 1, by omega, by go_num, Below.on hb.drew hb2 hb.size⟩
      case measure => simp [intOf]; omega
    · go_wp2
      go_ret
      exact ⟨rfl, hb⟩

set_option maxHeartbeats 400000 in
theorem eqEnum_same (A A' : Option Addr) (n c c' : Nat) (ds : List D) (w : World) (hr : Rd w w.heap.size A n c ds) (hr' : Rd w w.heap.size A' n c' ds) :
    Calls Try.prog 22 #[.agg #[.slice A n c], .agg #[.slice A' n c']] w fun e w' => e = .returned (.bool true) ∧ Below w.heap.size w w' := by
  have HR := Lib.hid hr
  have HR' := Lib.hid hr'
  clear hr hr'
  go_enter Try.func22, Try.ntmps22
  go_wp2_with (go_at_call 44; refine (eqDefS_same _ _ _ _ _ ds _ (HR.out.to (below2 _ _ _)) (HR'.out.to (below2 _ _ _))).mono ?_; rintro e w1 ⟨rfl, hb1⟩)
  go_ret
  exact ⟨rfl, Below.on (below2 _ _ _) hb1 (below2 _ _ _).size⟩

end Go.Proofs.Ytioheadchhkjmaa
