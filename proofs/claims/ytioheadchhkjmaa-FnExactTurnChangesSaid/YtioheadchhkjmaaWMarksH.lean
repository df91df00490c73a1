/-
  The walks of marks in rows of changes: markChangeS, heldChangeS.
-/
import Derived.Test.YtioheadchhkjmaaWMark
import Derived.Test.YtioheadchhkjmaaPlainC
import Derived.Deep.RegionHeld3
namespace Go.Proofs.Ytioheadchhkjmaa
open Go.RowKit
attribute [local go_sem ↓] Go.wp_at_zero Go.wp_at_succ

/-- The mark of change number j, where the marks begin at k. -/
def markH (k j : Nat) : Ch := ⟨((k + 4 * j : Nat) : Int), mT (k + 4 * j + 1), ((k + 4 * j + 2 : Nat) : Int), ((k + 4 * j + 3 : Nat) : Int)⟩
/-- The first n changes are the marks from k on. -/
def MarkedH (k n : Nat) (cs : List Ch) : Prop := ∀ j, j < n → nthH cs j = markH k j
theorem MarkedH.step {k i : Nat} {cs : List Ch} (h : MarkedH k i cs) (hi : i < cs.length) : MarkedH k (i + 1) (cs.set i (markH k i)) := by
  intro j hj
  rw [nthH_set hi]
  by_cases e : i = j
  · subst e; rw [if_pos rfl]
  · rw [if_neg e]; exact h j (by omega)
theorem grown_of_belowH {w w' : World} {row : Option Nat} (hb : Below w.heap.size w w') : w.grownBy w' row := ⟨hb.os, hb.tape, hb.output, hb.size, fun i hi _ => hb.block i hi⟩
set_option maxRecDepth 100000 in
set_option maxHeartbeats 4000000 in
theorem markChangeS_any (B : Nat) (A : Option Addr) (n c : Nat) (ds : List Ch) (k : Nat) (hk : 0 < k) (hk2 : k + 4 * n ≤ 4611686018427387904) (w : World) (hn : ds.length = n) (ho : OwnH w B 55 (.slice A n c) ds) :
    Calls Try.prog 12 #[.slice A n c, .int .i64 k] w fun e w' => ∃ ms : List Ch, e = .returned (.int .i64 ((k + 4 * n : Nat) : Int)) ∧ ms.length = n ∧ MarkedH k n ms ∧ OwnH w' B 55 (.slice A n c) ms ∧ w.grownBy w' (Value.ownBlock (.slice A n c)) := by
  have HO := Lib.hid ho
  have HN := Lib.hid hn
  clear ho hn
  go_enter Try.func12, Try.ntmps12
  go_wp2
  go_loopw [1, 5] (fun kv iv wr => ∃ (i : Nat) (ms : List Ch), i ≤ n ∧ kv = .int .i64 ((k + 4 * i : Nat) : Int) ∧ iv = .int .i64 i ∧ Hid (ms.length = n) ∧ Hid (MarkedH k i ms) ∧ Hid (OwnH wr B 55 (.slice A n c) ms) ∧ Hid (w.grownBy wr (Value.ownBlock (.slice A n c)))) (fun _ iv _ => n - (intOf iv).toNat)
  case atStart => exact ⟨0, ds, Nat.zero_le _, rfl, rfl, HN, fun j hj => absurd hj (by omega), HO, grown_refl _ _⟩
  case round =>
    obtain ⟨i, ms, hi, rfl, rfl, hml, hm, o, hg⟩ := hrel
    by_cases hin : i < n
    · obtain ⟨bb, c3, he, hbb, hbw, hc1, hc2⟩ := OwnH.blk (show OwnH wr B 55 (.slice A ms.length c) ms from by rw [hml.out]; exact o.out) (by rw [hml.out]; omega)
      simp only [Value.slice.injEq] at he
      obtain ⟨rfl, _, rfl⟩ := he
      have j1 : (0 : Int) ≤ (i : Int) := by omega
      have j2 : (i : Int) < (n : Int) := by omega
      have hil : i < ms.length := by rw [hml.out]; exact hin
      have HIL := Lib.hid hil
      have o0 : OwnH wr B 55 (.slice (some ⟨bb, 0, none⟩) ms.length c) ms := by rw [hml.out]; exact o.out
      obtain ⟨⟨x, hx0⟩, hf0, o1⟩ := o0.store (j := i * 4) (by omega) (flatH_set0 ms i ((k : Int) + 4 * (i : Int)) hil) (List.length_set)
      have O1 := Lib.hid o1
      have g1 := Lib.hid (grown_set (i := i * 4) (g := bb) hg.out (.int .i64 ((k : Int) + 4 * (i : Int))))
      clear o0 o1 hil
      go_wp2_with fail
      refine (markText_any (k + 4 * i + 1) (by omega) (by omega) _).mono ?_
      rintro e w2 ⟨rfl, hb⟩
      have hil := HIL.out
      have hml2 := hml.out
      have o2 := O1.out.below hb
      obtain ⟨⟨y1, hx1⟩, hf1, o3⟩ := o2.store (j := i * 4 + 1) (by rw [List.length_set]; omega) (flatH_set1 _ i (mT (k + 4 * i + 1)) (by rw [List.length_set]; exact hil)) (List.length_set)
      obtain ⟨⟨y2, hx2⟩, hf2, o4⟩ := o3.store (j := i * 4 + 2) (by rw [List.length_set, List.length_set]; omega) (flatH_set2 _ i ((k : Int) + 4 * (i : Int) + 1 + 1) (by rw [List.length_set, List.length_set]; exact hil)) (List.length_set)
      obtain ⟨⟨y3, hx3⟩, hf3, o5⟩ := o4.store (j := i * 4 + 3) (by rw [List.length_set, List.length_set, List.length_set]; omega) (flatH_set3 _ i ((k : Int) + 4 * (i : Int) + 1 + 1 + 1) (by rw [List.length_set, List.length_set, List.length_set]; exact hil)) (List.length_set)
      simp only [nthH_self, hil, List.length_set, List.set_set] at o5
      rw [hml2] at o5
      have M4 := Lib.hid (show MarkedH k (i + 1) (ms.set i ⟨(k : Int) + 4 * (i : Int), mT (k + 4 * i + 1), (k : Int) + 4 * (i : Int) + 1 + 1, (k : Int) + 4 * (i : Int) + 1 + 1 + 1⟩) from by
        have := hm.out.step hil
        rwa [show markH k i = ⟨(k : Int) + 4 * (i : Int), mT (k + 4 * i + 1), (k : Int) + 4 * (i : Int) + 1 + 1, (k : Int) + 4 * (i : Int) + 1 + 1 + 1⟩ from by unfold markH; congr 1 <;> omega] at this)
      have L4 := Lib.hid (show (ms.set i ⟨(k : Int) + 4 * (i : Int), mT (k + 4 * i + 1), (k : Int) + 4 * (i : Int) + 1 + 1, (k : Int) + 4 * (i : Int) + 1 + 1 + 1⟩).length = n from by rw [List.length_set]; exact hml2)
      have hg4 := Lib.hid (grown_set (i := i * 4 + 3) (grown_set (i := i * 4 + 2) (grown_set (i := i * 4 + 1) (g := bb) (g1.out.trans (grown_of_belowH hb)) (.string (mT (k + 4 * i + 1)))) (.int .i64 ((k : Int) + 4 * (i : Int) + 1 + 1))) (.int .i64 ((k : Int) + 4 * (i : Int) + 1 + 1 + 1)))
      have O5 := Lib.hid o5
      clear o2 o3 o4 o5 hml2 hil
      go_wp2_with fail
      go_roundw
      case rel => exact ⟨i + 1, _, by omega, by go_num, by go_num, L4, M4, O5, hg4⟩
      case measure => simp [intOf]; omega
    · obtain rfl : i = n := by omega
      go_wp2
      go_ret
      exact ⟨ms, by simp, hml.out, hm.out, o.out, hg.out⟩
set_option maxRecDepth 100000 in
set_option maxHeartbeats 4000000 in
theorem heldChangeS_any (A : Option Addr) (n c : Nat) (ms : List Ch) (k : Nat) (hk : 0 < k) (hk2 : k + 4 * n ≤ 4611686018427387904) (w : World) (hr : RdH w w.heap.size A n c ms) (hm : MarkedH k n ms) :
    Calls Try.prog 13 #[.slice A n c, .int .i64 k] w fun e w' => e = .returned (.int .i64 ((k + 4 * n : Nat) : Int)) ∧ Below w.heap.size w w' := by
  have HR := Lib.hid hr
  have HM := Lib.hid hm
  have hc := hr.2.2.1
  clear hr hm
  go_enter Try.func13, Try.ntmps13
  go_wp2
  go_loopw [1, 5] (fun kv iv wr => ∃ i : Nat, i ≤ n ∧ kv = .int .i64 ((k + 4 * i : Nat) : Int) ∧ iv = .int .i64 i ∧ Below w.heap.size w wr) (fun _ iv _ => n - (intOf iv).toNat)
  case atStart => exact ⟨0, Nat.zero_le _, rfl, rfl, Below.refl _ _⟩
  case round =>
    obtain ⟨i, hi, rfl, rfl, hb⟩ := hrel
    by_cases hin : i < n
    · obtain ⟨b, off, rfl, hbl, hcell⟩ := (HR.out.below hb).2.2.2.2 (by omega)
      obtain ⟨c0, c1, c2, c3⟩ := hcell i hin
      have hbl2 : b < wr.heap.size := Nat.lt_of_lt_of_le hbl hb.size
      rw [HM.out i hin] at c0 c1 c2 c3
      have d0 : wr.cell? ⟨b, off + i * 4, none⟩ = some (.int .i64 ((k : Int) + 4 * (i : Int))) := by
        rw [c0]
        simp [markH]
      have d1 : wr.cell? ⟨b, off + i * 4 + 1, none⟩ = some (.string (mT (k + 4 * i + 1))) := c1
      have d2 : wr.cell? ⟨b, off + i * 4 + 2, none⟩ = some (.int .i64 ((k : Int) + 4 * (i : Int) + 1 + 1)) := by
        rw [c2]
        simp [markH]; omega
      have d3 : wr.cell? ⟨b, off + i * 4 + 3, none⟩ = some (.int .i64 ((k : Int) + 4 * (i : Int) + 1 + 1 + 1)) := by
        rw [c3]
        simp [markH]; omega
      have j1 : (0 : Int) ≤ (i : Int) := by omega
      have j2 : (i : Int) < (n : Int) := by omega
      clear hcell c0 c1 c2 c3
      go_wp2_with fail
      go_region_held3 (fun w' => w'.cell? ⟨b, off + i * 4 + 1, none⟩ = some (.string (mT (k + 4 * i + 1)))) (go_keep)
        (first | (go_at_call 32; refine (markText_any (k + 4 * i + 1) (by omega) (by omega) _).mono ?_; rintro e w2 ⟨rfl, hb2⟩; have e0 := (hb2.cell (p := ⟨b, off + i * 4 + 1, none⟩) hbl2).trans d1))
      have e2 := (hb2.cell (p := ⟨b, off + i * 4 + 2, none⟩) hbl2).trans d2
      have e3 := (hb2.cell (p := ⟨b, off + i * 4 + 3, none⟩) hbl2).trans d3
      have hb3 := Below.on hb.drew hb2 hb.size
      clear d0 d1 d2 d3
      go_wp2_with fail
      go_roundw
      case rel => exact ⟨i + 1, by omega, by go_num, by go_num, hb3⟩
      case measure => simp [intOf]; omega
    · obtain rfl : i = n := by omega
      go_wp2
      go_ret
      exact ⟨by simp, hb⟩
end Go.Proofs.Ytioheadchhkjmaa
