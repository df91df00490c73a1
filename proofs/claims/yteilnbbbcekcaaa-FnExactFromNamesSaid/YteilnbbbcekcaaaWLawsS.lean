/-
  The walks of the laws' own helpers over lists of texts.
-/
import Derived.Test.YteilnbbbcekcaaaWLaws
import Derived.Test.YteilnbbbcekcaaaMemS
namespace Go.Proofs.Yteilnbbbcekcaaa
open Go.RowKit

set_option maxHeartbeats 400000 in
theorem szStringS_any (A : Option Addr) (n c : Nat) (ss : List ByteArray) (m : Int) (h0 : 0 ≤ m) (h1 : m ≤ 1048576) (w : World) (hr : RdS w w.heap.size A n c ss) :
    Calls Try.prog 36 #[.slice A n c, .int .i64 m] w (SomeInt (-1) m w) := by
  obtain ⟨hl, hn, hc, hg, ha⟩ := hr
  have HA := Lib.hid ha
  have HG := Lib.hid hg
  have HL := Lib.hid hl
  clear ha hg hl
  by_cases hm : m - (n : Int) < 0
  · go_enter Try.func36, Try.ntmps36
    go_wp2
    go_ret
    exact ⟨_, by omega, by omega, rfl, Below.refl _ _⟩
  go_enter Try.func36, Try.ntmps36
  go_wp2
  go_loopw [1, 5] (fun t i wr => ∃ (k : Nat) (q : Int), k ≤ n ∧ i = .int .i64 k ∧ t = .int .i64 q ∧ 0 ≤ q ∧ q ≤ m ∧ Below w.heap.size w wr) (fun _ i _ => n - (intOf i).toNat)
  case atStart => exact ⟨0, _, Nat.zero_le _, rfl, rfl, by omega, by omega, Below.refl _ _⟩
  case round =>
    obtain ⟨k, q, hk, rfl, rfl, hq0, hq1, hb⟩ := hrel
    by_cases hkn : k < n
    · obtain ⟨b, off, rfl, hbl, hcell⟩ := HA.out (by omega)
      have c0 := hcell k hkn
      rw [← hb.cell (p := ⟨b, off + k, none⟩) hbl] at c0
      clear hcell
      have hg1 := HG.out.nth (i := k) (by rw [HL.out]; exact hkn)
      by_cases hq : q - ((nthS ss k).size : Int) < 0
      · go_wp2
        go_ret
        exact ⟨_, by omega, by omega, rfl, hb⟩
      · go_wp2
        go_roundw
        case rel => exact ⟨k + 1, _, by omega, by go_num, rfl, by omega, by omega, hb⟩
        case measure => simp [intOf]; omega
    · go_wp2
      go_ret
      exact ⟨_, by omega, by omega, rfl, hb⟩

theorem Try.infoStr : (Try.prog.info? 9).map (fun i => (i.zero, i.size, i.bytes)) = some (some (.string ByteArray.empty), 1, 16) := by kernel_rfl
set_option maxHeartbeats 400000 in
theorem toStringS_any (A : Option Addr) (n c : Nat) (ss : List ByteArray) (w : World) (hr : RdS w w.heap.size A n c ss) :
    Calls Try.prog 38 #[.slice A n c] w fun e w' => ∃ g, e = .returned (.slice (some ⟨g, 0, none⟩) n n) ∧ w.heap.size ≤ g ∧ RowS w' g 9 ss ∧ Below w.heap.size w w' := by
  obtain ⟨hl, hn, hc, hg, ha⟩ := hr
  have HA := Lib.hid ha
  have HG := Lib.hid hg
  have HL := Lib.hid hl
  clear ha hg hl
  obtain ⟨i0, hi, hz0, hz1, hz2⟩ := info_parts Try.infoStr
  have hmk := fun W => run_make_texts (P := Try.prog) Try.underlying39 hi hz0 hz1 hz2 n (by rw [← HL.out]; exact HG.out.1) W
  go_enter Try.func38, Try.ntmps38
  go_wp2
  go_loopw [4] (fun i wr => ∃ k : Nat, k ≤ n ∧ i = .int .i64 k ∧ RowS wr w.heap.size 9 (upToS ss k) ∧ Below w.heap.size w wr) (fun i _ => n - (intOf i).toNat)
  case atStart => exact ⟨0, Nat.zero_le _, rfl, by rw [upToS_zero, HL.out]; exact heap_alloc_new w _, (Below.refl _ _).alloc (Nat.le_refl _) _⟩
  case round =>
    obtain ⟨k, hk, rfl, hrow, hb⟩ := hrel
    clear hmk
    by_cases hkn : k < n
    · obtain ⟨b, off, rfl, hbl, hcell⟩ := HA.out (by omega)
      have c0 := hcell k hkn
      rw [← hb.cell (p := ⟨b, off + k, none⟩) hbl] at c0
      clear hcell
      have hl1 : k < (upToS ss k).length := by rw [upToS_length _ _ (by rw [HL.out]; omega), HL.out]; exact hkn
      have e0 := hrow.cells hl1
      have z0 := hrow.frozen k
      go_wp2
      have hset := Lib.hid (upToS_succ ss (k := k) (by rw [HL.out]; exact hkn))
      go_roundw
      case rel => exact ⟨k + 1, by omega, by go_num, by rw [← hset.out]; exact hrow.set_ k (nthS ss k), hb.setCell (Nat.le_refl _) _⟩
      case measure => simp [intOf]; omega
    · have hk2 : k = ss.length := by rw [HL.out]; omega
      have hrow2 : RowS wr w.heap.size 9 ss := by rw [hk2, upToS_end] at hrow; exact hrow
      have HW := Lib.hid hrow2
      clear hrow hrow2 hk2
      go_wp2
      go_ret
      exact ⟨_, rfl, Nat.le_refl _, HW.out, hb⟩

set_option maxHeartbeats 400000 in
theorem eqStringS_same (A A' : Option Addr) (n c c' : Nat) (ss : List ByteArray) (w : World) (hr : RdS w w.heap.size A n c ss) (hr' : RdS w w.heap.size A' n c' ss) :
    Calls Try.prog 40 #[.slice A n c, .slice A' n c'] w fun e w' => e = .returned (.bool true) ∧ Below w.heap.size w w' := by
  obtain ⟨hl, hn, hc, hg, ha⟩ := hr
  obtain ⟨_, hn', hc', _, ha'⟩ := hr'
  have HA := Lib.hid ha
  have HA' := Lib.hid ha'
  have HL := Lib.hid hl
  clear ha ha' hg hl
  go_enter Try.func40, Try.ntmps40
  go_wp2
  go_loopw [5] (fun i wr => ∃ k : Nat, k ≤ n ∧ i = .int .i64 k ∧ Below w.heap.size w wr) (fun i _ => n - (intOf i).toNat)
  case atStart => exact ⟨0, Nat.zero_le _, rfl, Below.refl _ _⟩
  case round =>
    obtain ⟨k, hk, rfl, hb⟩ := hrel
    by_cases hkn : k < n
    · obtain ⟨b, off, rfl, hbl, hcell⟩ := HA.out (by omega)
      obtain ⟨b', off', rfl, hbl', hcell'⟩ := HA'.out (by omega)
      have c0 := hcell k hkn
      rw [← hb.cell (p := ⟨b, off + k, none⟩) hbl] at c0
      have c0' := hcell' k hkn
      rw [← hb.cell (p := ⟨b', off' + k, none⟩) hbl'] at c0'
      clear hcell hcell'
      have i0 : (0 : Int) ≤ (k : Int) := by omega
      have i2 : (k : Int) < (n : Int) := by omega
      go_wp2
      go_region
      go_wp2
      go_roundw
      case rel => exact ⟨k + 1, by omega, by go_num, hb.drew⟩
      case measure => simp [intOf]; omega
    · go_wp2
      go_ret
      exact ⟨rfl, hb⟩

end Go.Proofs.Yteilnbbbcekcaaa
