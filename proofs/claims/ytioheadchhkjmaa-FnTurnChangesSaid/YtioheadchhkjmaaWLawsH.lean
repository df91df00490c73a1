/-
  The walks of the laws' own helpers for changes: sizes, copies of the arguments, equality.
-/
import Derived.Test.YtioheadchhkjmaaPlainC
import Derived.Test.YtioheadchhkjmaaWLaws
namespace Go.Proofs.Ytioheadchhkjmaa
open Go.RowKit

set_option maxHeartbeats 400000 in
theorem szChange_any (d : Ch) (hd : d.name.size ≤ 9223372036854775807) (m : Int) (h0 : 0 ≤ m) (h1 : m ≤ 1048576) (w : World) :
    Calls Try.prog 27 #[.agg #[.int .i64 d.kind, .string d.name, .int .i64 d.was, .int .i64 d.will], .int .i64 m] w (SomeInt (-1) m w) := by
  by_cases h : m - (d.name.size : Int) < 0
  · go_enter Try.func27, Try.ntmps27
    go_wp2
    go_ret
    exact ⟨_, by omega, by omega, rfl, (Below.refl _ _).alloc (Nat.le_refl _) _⟩
  · go_enter Try.func27, Try.ntmps27
    go_wp2
    go_ret
    exact ⟨_, by omega, by omega, rfl, (Below.refl _ _).alloc (Nat.le_refl _) _⟩

set_option maxHeartbeats 400000 in
theorem szChangeS_any (A : Option Addr) (n c : Nat) (ds : List Ch) (m : Int) (h0 : 0 ≤ m) (h1 : m ≤ 1048576) (w : World) (hr : RdH w w.heap.size A n c ds) :
    Calls Try.prog 7 #[.slice A n c, .int .i64 m] w (SomeInt (-1) m w) := by
  obtain ⟨hl, hn, hc, hg, ha⟩ := hr
  have HA := Lib.hid ha
  have HG := Lib.hid hg
  have HL := Lib.hid hl
  clear ha hg hl
  by_cases hm : m - (n : Int) < 0
  · go_enter Try.func7, Try.ntmps7
    go_wp2
    go_ret
    exact ⟨_, by omega, by omega, rfl, Below.refl _ _⟩
  go_enter Try.func7, Try.ntmps7
  go_wp2
  go_loopw [1, 5] (fun t i wr => ∃ (k : Nat) (q : Int), k ≤ n ∧ i = .int .i64 k ∧ t = .int .i64 q ∧ 0 ≤ q ∧ q ≤ m ∧ Below w.heap.size w wr) (fun _ i _ => n - (intOf i).toNat)
  case atStart => exact ⟨0, _, Nat.zero_le _, rfl, rfl, by omega, by omega, Below.refl _ _⟩
  case round =>
    obtain ⟨k, q, hk, rfl, rfl, hq0, hq1, hb⟩ := hrel
    by_cases hkn : k < n
    · obtain ⟨b, off, rfl, hbl, hcell⟩ := HA.out (by omega)
      have hd := hcell k hkn
      rw [← hb.cell (p := ⟨b, off + k * 4, none⟩) hbl, ← hb.cell (p := ⟨b, off + k * 4 + 1, none⟩) hbl, ← hb.cell (p := ⟨b, off + k * 4 + 2, none⟩) hbl, ← hb.cell (p := ⟨b, off + k * 4 + 3, none⟩) hbl] at hd
      obtain ⟨c0, c1, c2, c3⟩ := hd
      clear hcell
      have hg1 := HG.out.nth (i := k) (by rw [HL.out]; exact hkn)
      go_wp2_with (go_at_call 27; refine (szChange_any _ hg1.1 q hq0 (by omega) _).mono ?_; rintro e w1 ⟨t, ht0, ht1, rfl, hb1⟩)
      · go_ret
        exact ⟨_, by omega, by omega, rfl, Below.on hb hb1 hb.size⟩
      · go_roundw
        case rel => exact ⟨k + 1, t, by omega, by go_num, rfl, by omega, by omega, Below.on hb hb1 hb.size⟩
        case measure => simp [intOf]; omega
    · go_wp2
      go_ret
      exact ⟨_, by omega, by omega, rfl, hb⟩

set_option maxHeartbeats 400000 in
theorem toChange_any (d : Ch) (w : World) :
    Calls Try.prog 28 #[.agg #[.int .i64 d.kind, .string d.name, .int .i64 d.was, .int .i64 d.will]] w fun e w' => e = .returned (.agg #[.int .i64 d.kind, .string d.name, .int .i64 d.was, .int .i64 d.will]) ∧ Below w.heap.size w w' := by
  go_enter Try.func28, Try.ntmps28
  go_wp2
  exact bodyPost_ret (v := .agg #[.int .i64 d.kind, .string d.name, .int .i64 d.was, .int .i64 d.will]) (by simp [results, Try.results28, go_sem]) rfl ⟨rfl, (((Below.refl _ _).alloc (Nat.le_refl _) _).alloc (by simp) _).alloc (by simp; omega) _⟩

/-- The changes after k of them have been copied into a new row of them. -/
def upToH (ds : List Ch) (k : Nat) : List Ch := ds.take k ++ List.replicate (ds.length - k) noH
theorem upToH_length (ds : List Ch) (k : Nat) (h : k ≤ ds.length) : (upToH ds k).length = ds.length := by simp [upToH]; omega
theorem upToH_zero (ds : List Ch) : upToH ds 0 = List.replicate ds.length noH := by simp [upToH]
theorem upToH_end (ds : List Ch) : upToH ds ds.length = ds := by simp [upToH]
theorem upToH_succ (ds : List Ch) {k : Nat} (h : k < ds.length) : (upToH ds k).set k (nthH ds k) = upToH ds (k + 1) := by
  unfold upToH
  rw [nthH_get h, List.set_append]
  simp only [List.length_take, Nat.min_eq_left (Nat.le_of_lt h), Nat.lt_irrefl, if_false, Nat.sub_self]
  rw [show ds.length - k = ds.length - (k + 1) + 1 from by omega, List.replicate_succ, List.set_cons_zero, List.take_succ_eq_append_getElem h, List.append_assoc]
  simp
/-- A row of changes lies in block g. -/
def RowH (w : World) (g : Nat) (t : TypeId) (cs : List Ch) : Prop := Blk w g t (flatH cs).toArray
theorem RowH.set_ {w : World} {g : Nat} {t : TypeId} {cs : List Ch} (h : RowH w g t cs) {i : Nat} (hi : i < cs.length) (d : Ch) :
    RowH ((((w.setCell ⟨g, i * 4, none⟩ (.int .i64 d.kind)).setCell ⟨g, i * 4 + 1, none⟩ (.string d.name)).setCell ⟨g, i * 4 + 2, none⟩ (.int .i64 d.was)).setCell ⟨g, i * 4 + 3, none⟩ (.int .i64 d.will)) g t (cs.set i d) := by
  have e : (((((flatH cs).toArray.setIfInBounds (i * 4) (.int .i64 d.kind)).setIfInBounds (i * 4 + 1) (.string d.name)).setIfInBounds (i * 4 + 2) (.int .i64 d.was)).setIfInBounds (i * 4 + 3) (.int .i64 d.will)) = (flatH (cs.set i d)).toArray := by
    simp only [List.setIfInBounds_toArray]
    rw [flatH_set0 cs i _ hi, flatH_set1 _ i _ (by rw [List.length_set]; exact hi), flatH_set2 _ i _ (by rw [List.length_set, List.length_set]; exact hi), flatH_set3 _ i _ (by rw [List.length_set, List.length_set, List.length_set]; exact hi)]
    simp [nthH_set, hi, List.set_set]
  have h4 := ((((show Blk w g t _ from h).set_ (i * 4) (.int .i64 d.kind)).set_ (i * 4 + 1) (.string d.name)).set_ (i * 4 + 2) (.int .i64 d.was)).set_ (i * 4 + 3) (.int .i64 d.will)
  rw [e] at h4
  exact h4
theorem RowH.cells {w : World} {g : Nat} {t : TypeId} {cs : List Ch} (h : RowH w g t cs) {i : Nat} (hi : i < cs.length) : w.cell? ⟨g, i * 4, none⟩ = some (.int .i64 (nthH cs i).kind) ∧ w.cell? ⟨g, i * 4 + 1, none⟩ = some (.string (nthH cs i).name) ∧ w.cell? ⟨g, i * 4 + 2, none⟩ = some (.int .i64 (nthH cs i).was) ∧ w.cell? ⟨g, i * 4 + 3, none⟩ = some (.int .i64 (nthH cs i).will) := by
  have q : Blk w g t _ := h
  rw [q.cell, q.cell, q.cell, q.cell]
  simp only [List.getElem?_toArray]
  exact flatH_at cs i hi
theorem Try.infoCh3 : (Try.prog.info? 55).map (fun i => (i.zero, i.size, i.bytes)) = some (some (.agg #[.int .i64 0, .string ByteArray.empty, .int .i64 0, .int .i64 0]), 4, 40) := by kernel_rfl
set_option maxRecDepth 100000 in
set_option maxHeartbeats 4000000 in
theorem toChangeS_any (A : Option Addr) (n c : Nat) (ds : List Ch) (w : World) (hr : RdH w w.heap.size A n c ds) :
    Calls Try.prog 9 #[.slice A n c] w fun e w' => ∃ g, e = .returned (.slice (some ⟨g, 0, none⟩) n n) ∧ w.heap.size ≤ g ∧ RowH w' g 55 ds ∧ Below w.heap.size w w' := by
  obtain ⟨hl, hn, hc, hg, ha⟩ := hr
  have HA := Lib.hid ha
  have HG := Lib.hid hg
  have HL := Lib.hid hl
  clear ha hg hl
  obtain ⟨i0, hi, hz0, hz1, hz2⟩ := info_parts Try.infoCh3
  have hmk := fun W => run_make_chs (P := Try.prog) Try.underlying24 hi hz0 hz1 hz2 n (by rw [← HL.out]; exact HG.out.1) W
  go_enter Try.func9, Try.ntmps9
  go_wp2
  go_loopw [4] (fun i wr => ∃ k : Nat, k ≤ n ∧ i = .int .i64 k ∧ Hid (RowH wr w.heap.size 55 (upToH ds k)) ∧ Below w.heap.size w wr) (fun i _ => n - (intOf i).toNat)
  case atStart => exact ⟨0, Nat.zero_le _, rfl, by rw [upToH_zero, HL.out]; exact heap_alloc_new w _, (Below.refl _ _).alloc (Nat.le_refl _) _⟩
  case round =>
    obtain ⟨k, hk, rfl, hrow, hb⟩ := hrel
    clear hmk
    by_cases hkn : k < n
    · obtain ⟨b, off, rfl, hbl, hcell⟩ := HA.out (by omega)
      have hd := hcell k hkn
      rw [← hb.cell (p := ⟨b, off + k * 4, none⟩) hbl, ← hb.cell (p := ⟨b, off + k * 4 + 1, none⟩) hbl, ← hb.cell (p := ⟨b, off + k * 4 + 2, none⟩) hbl, ← hb.cell (p := ⟨b, off + k * 4 + 3, none⟩) hbl] at hd
      obtain ⟨c0, c1, c2, c3⟩ := hd
      clear hcell
      have hl1 : k < (upToH ds k).length := by rw [upToH_length _ _ (by rw [HL.out]; omega), HL.out]; exact hkn
      have hlt := hrow.out.lt
      go_wp2_with (go_at_call 28; refine (toChange_any _ _).mono ?_; rintro e w1 ⟨rfl, hb1⟩; have hrow1 : RowH w1 w.heap.size 55 (upToH ds k) := Blk.below hrow.out hb1 hlt; have e0 := (hrow1.cells hl1).1; have e1 := (hrow1.cells hl1).2.1; have e2 := (hrow1.cells hl1).2.2.1; have e3 := (hrow1.cells hl1).2.2.2; have z0 := Blk.frozen hrow1 (k * 4); have z1 := Blk.frozen hrow1 (k * 4 + 1); have z2 := Blk.frozen hrow1 (k * 4 + 2); have z3 := Blk.frozen hrow1 (k * 4 + 3))
      have hset := Lib.hid (upToH_succ ds (k := k) (by rw [HL.out]; exact hkn))
      go_roundw
      case rel => exact ⟨k + 1, by omega, by go_num, by rw [← hset.out]; exact hrow1.set_ hl1 (nthH ds k), ((((Below.on hb hb1 hb.size).setCell (Nat.le_refl _) _).setCell (Nat.le_refl _) _).setCell (Nat.le_refl _) _).setCell (Nat.le_refl _) _⟩
      case measure => simp [intOf]; omega
    · have hk2 : k = ds.length := by rw [HL.out]; omega
      have hrow2 : RowH wr w.heap.size 55 ds := by have h := hrow.out; rw [hk2, upToH_end] at h; exact h
      have HW := Lib.hid hrow2
      clear hrow hrow2 hk2
      go_wp2
      go_ret
      exact ⟨_, rfl, Nat.le_refl _, HW.out, hb⟩

set_option maxHeartbeats 400000 in
theorem eqChange_same (d : Ch) (w : World) :
    Calls Try.prog 31 #[.agg #[.int .i64 d.kind, .string d.name, .int .i64 d.was, .int .i64 d.will], .agg #[.int .i64 d.kind, .string d.name, .int .i64 d.was, .int .i64 d.will]] w fun e w' => e = .returned (.bool true) ∧ Below w.heap.size w w' := by
  go_enter Try.func31, Try.ntmps31
  go_wp2
  go_ret
  exact ⟨rfl, ((Below.refl _ _).alloc (Nat.le_refl _) _).alloc (by simp) _⟩

set_option maxRecDepth 100000 in
set_option maxHeartbeats 4000000 in
theorem eqChangeS_same (A A' : Option Addr) (n c c' : Nat) (ds : List Ch) (w : World) (hr : RdH w w.heap.size A n c ds) (hr' : RdH w w.heap.size A' n c' ds) :
    Calls Try.prog 11 #[.slice A n c, .slice A' n c'] w fun e w' => e = .returned (.bool true) ∧ Below w.heap.size w w' := by
  obtain ⟨hl, hn, hc, hg, ha⟩ := hr
  obtain ⟨_, hn', hc', _, ha'⟩ := hr'
  have HA := Lib.hid ha
  have HA' := Lib.hid ha'
  have HL := Lib.hid hl
  clear ha ha' hg hl
  go_enter Try.func11, Try.ntmps11
  go_wp2
  go_loopw [5] (fun i wr => ∃ k : Nat, k ≤ n ∧ i = .int .i64 k ∧ Below w.heap.size w wr) (fun i _ => n - (intOf i).toNat)
  case atStart => exact ⟨0, Nat.zero_le _, rfl, Below.refl _ _⟩
  case round =>
    obtain ⟨k, hk, rfl, hb⟩ := hrel
    by_cases hkn : k < n
    · obtain ⟨b, off, rfl, hbl, hcell⟩ := HA.out (by omega)
      obtain ⟨b', off', rfl, hbl', hcell'⟩ := HA'.out (by omega)
      have i0 : (0 : Int) ≤ (k : Int) := by omega
      have i2 : (k : Int) < (n : Int) := by omega
      have hd := hcell k hkn
      rw [← hb.cell (p := ⟨b, off + k * 4, none⟩) hbl, ← hb.cell (p := ⟨b, off + k * 4 + 1, none⟩) hbl, ← hb.cell (p := ⟨b, off + k * 4 + 2, none⟩) hbl, ← hb.cell (p := ⟨b, off + k * 4 + 3, none⟩) hbl] at hd
      obtain ⟨c0, c1, c2, c3⟩ := hd
      have hd' := hcell' k hkn
      rw [← hb.cell (p := ⟨b', off' + k * 4, none⟩) hbl', ← hb.cell (p := ⟨b', off' + k * 4 + 1, none⟩) hbl', ← hb.cell (p := ⟨b', off' + k * 4 + 2, none⟩) hbl', ← hb.cell (p := ⟨b', off' + k * 4 + 3, none⟩) hbl'] at hd'
      obtain ⟨d0, d1, d2, d3⟩ := hd'
      clear hcell hcell'
      obtain ⟨x, hx⟩ : ∃ x, nthH ds k = x := ⟨_, rfl⟩
      rw [hx] at c0 c1 c2 c3 d0 d1 d2 d3
      clear hx
      obtain ⟨kk, ss, yy, uu⟩ := x
      dsimp only at c0 c1 c2 c3 d0 d1 d2 d3
      have hb1 : b < wr.heap.size := Nat.lt_of_lt_of_le hbl hb.size
      have hb1' : b' < wr.heap.size := Nat.lt_of_lt_of_le hbl' hb.size
      go_wp2
      go_region_held3 (fun w' => w'.cell? ⟨b, off + k * 4, none⟩ = some (.int .i64 kk) ∧ w'.cell? ⟨b, off + k * 4 + 1, none⟩ = some (.string ss) ∧ w'.cell? ⟨b, off + k * 4 + 2, none⟩ = some (.int .i64 yy) ∧ w'.cell? ⟨b, off + k * 4 + 3, none⟩ = some (.int .i64 uu) ∧ w'.cell? ⟨b', off' + k * 4, none⟩ = some (.int .i64 kk) ∧ w'.cell? ⟨b', off' + k * 4 + 1, none⟩ = some (.string ss) ∧ w'.cell? ⟨b', off' + k * 4 + 2, none⟩ = some (.int .i64 yy) ∧ w'.cell? ⟨b', off' + k * 4 + 3, none⟩ = some (.int .i64 uu)) (go_keep)
        (first | (go_at_call 31; refine (eqChange_same ⟨kk, ss, yy, uu⟩ _).mono ?_; rintro e w' ⟨rfl, hb2⟩; have e0 := (hb2.cell (p := ⟨b, off + k * 4, none⟩) hb1).trans c0; have e1 := (hb2.cell (p := ⟨b, off + k * 4 + 1, none⟩) hb1).trans c1; have e2 := (hb2.cell (p := ⟨b, off + k * 4 + 2, none⟩) hb1).trans c2; have e3 := (hb2.cell (p := ⟨b, off + k * 4 + 3, none⟩) hb1).trans c3; have e4 := (hb2.cell (p := ⟨b', off' + k * 4, none⟩) hb1').trans d0; have e5 := (hb2.cell (p := ⟨b', off' + k * 4 + 1, none⟩) hb1').trans d1; have e6 := (hb2.cell (p := ⟨b', off' + k * 4 + 2, none⟩) hb1').trans d2; have e7 := (hb2.cell (p := ⟨b', off' + k * 4 + 3, none⟩) hb1').trans d3))
      go_wp2
      go_roundw
      case rel => exact ⟨k + 1, by omega, by go_num, Below.on hb.drew hb2 hb.size⟩
      case measure => simp [intOf]; omega
    · go_wp2
      go_ret
      exact ⟨rfl, hb⟩

set_option maxRecDepth 100000 in
set_option maxHeartbeats 4000000 in
theorem equalChanges_same (A A' : Option Addr) (n c c' : Nat) (ds : List Ch) (w : World) (hr : RdH w w.heap.size A n c ds) (hr' : RdH w w.heap.size A' n c' ds) :
    Calls Try.prog 15 #[.slice A n c, .slice A' n c'] w fun e w' => e = .returned (.bool true) ∧ Below w.heap.size w w' := by
  obtain ⟨_, hn, hc, _, ha⟩ := hr
  obtain ⟨_, hn', hc', _, ha'⟩ := hr'
  have HA := Lib.hid ha
  have HA' := Lib.hid ha'
  clear ha ha'
  go_enter Try.func15, Try.ntmps15
  go_wp2
  go_loopw [5] (fun i wr => ∃ k : Nat, k ≤ n ∧ i = .int .i64 k ∧ Below w.heap.size w wr) (fun i _ => n - (intOf i).toNat)
  case atStart => exact ⟨0, Nat.zero_le _, rfl, Below.refl _ _⟩
  case round =>
    obtain ⟨k, hk, rfl, hb⟩ := hrel
    by_cases hkn : k < n
    · obtain ⟨b, off, rfl, hbl, hcell⟩ := HA.out (by omega)
      obtain ⟨b', off', rfl, hbl', hcell'⟩ := HA'.out (by omega)
      have i0 : (0 : Int) ≤ (k : Int) := by omega
      have i2 : (k : Int) < (n : Int) := by omega
      have hd := hcell k hkn
      rw [← hb.cell (p := ⟨b, off + k * 4, none⟩) hbl, ← hb.cell (p := ⟨b, off + k * 4 + 1, none⟩) hbl, ← hb.cell (p := ⟨b, off + k * 4 + 2, none⟩) hbl, ← hb.cell (p := ⟨b, off + k * 4 + 3, none⟩) hbl] at hd
      obtain ⟨c0, c1, c2, c3⟩ := hd
      have hd' := hcell' k hkn
      rw [← hb.cell (p := ⟨b', off' + k * 4, none⟩) hbl', ← hb.cell (p := ⟨b', off' + k * 4 + 1, none⟩) hbl', ← hb.cell (p := ⟨b', off' + k * 4 + 2, none⟩) hbl', ← hb.cell (p := ⟨b', off' + k * 4 + 3, none⟩) hbl'] at hd'
      obtain ⟨d0, d1, d2, d3⟩ := hd'
      clear hcell hcell'
      obtain ⟨x, hx⟩ : ∃ x, nthH ds k = x := ⟨_, rfl⟩
      rw [hx] at c0 c1 c2 c3 d0 d1 d2 d3
      clear hx
      obtain ⟨kk, ss, yy, uu⟩ := x
      dsimp only at c0 c1 c2 c3 d0 d1 d2 d3
      go_wp2
      go_quiet (fail)
      go_wp2
      exact ⟨⟨k + 1, by omega, by go_num, below_drewN hb _⟩, by simp [intOf]; omega⟩
    · go_wp2
      go_ret
      exact ⟨rfl, hb⟩
end Go.Proofs.Ytioheadchhkjmaa
