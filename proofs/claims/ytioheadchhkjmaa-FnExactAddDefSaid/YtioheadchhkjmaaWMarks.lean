/-
  The walks of marks in rows of definitions: markDefS, heldDefS.
-/
import Derived.Test.YtioheadchhkjmaaWMark
import Derived.Test.YtioheadchhkjmaaMemD
import Derived.Deep.RegionHeld3
namespace Go.Proofs.Ytioheadchhkjmaa
open Go.RowKit
attribute [local go_sem ↓] Go.wp_at_zero Go.wp_at_succ

theorem OwnC.value {w : World} {B : Nat} {t : TypeId} {ds : List D} {b c : Nat} (h : OwnC w B t (.slice (some ⟨b, 0, none⟩) ds.length c) ds) {i : Nat} (hi : i < ds.length) (z : Int) :
    (∃ x, w.cell? ⟨b, i * 2 + 1, none⟩ = some x) ∧ w.frozen? ⟨b, i * 2 + 1, none⟩ = false ∧
    OwnC (w.setCell ⟨b, i * 2 + 1, none⟩ (.int .i64 z)) B t (.slice (some ⟨b, 0, none⟩) (ds.set i ((nth ds i).1, z)).length c) (ds.set i ((nth ds i).1, z)) := by
  rcases h with ⟨hv, _⟩ | ⟨g, c', cur, hv, hb, hg, hn, hc, hs, ht⟩
  · simp at hv
  · simp only [Value.slice.injEq, Option.some.injEq, Addr.mk.injEq, and_true, true_and] at hv
    obtain ⟨rfl, rfl⟩ := hv
    have q : Blk w b t cur := hg
    have hx : i * 2 + 1 < cur.size := by omega
    refine ⟨⟨cur[i * 2 + 1], by rw [q.cell]; exact Array.getElem?_eq_getElem hx⟩, q.frozen _, .inr ⟨b, c, cur.setIfInBounds (i * 2 + 1) (.int .i64 z), rfl, hb, q.set_ _ _, by rw [List.length_set]; exact hn, hc, by rw [List.length_set, Array.size_setIfInBounds]; exact hs, ?_⟩⟩
    rw [List.length_set, Array.toList_setIfInBounds, List.take_set, ht, flat_value ds i z hi]
/-- The first n definitions are the marks from k on. -/
def Marked (k n : Nat) (ds : List D) : Prop := ∀ j, j < n → nth ds j = (mT (k + 2 * j), ((k + 2 * j + 1 : Nat) : Int))
theorem nthSet {ds : List D} {i j : Nat} (hi : i < ds.length) (d : D) : nth (ds.set i d) j = if i = j then d else nth ds j := by
  unfold nth
  rw [List.getD_eq_getElem?_getD, List.getD_eq_getElem?_getD, List.getElem?_set]
  by_cases h : i = j
  · rw [if_pos h, if_pos h]; subst h; rw [if_pos hi]; rfl
  · rw [if_neg h, if_neg h]
theorem Marked.step {k i : Nat} {ds : List D} (h : Marked k i ds) (hi : i < ds.length) : Marked k (i + 1) (ds.set i (mT (k + 2 * i), ((k + 2 * i + 1 : Nat) : Int))) := by
  intro j hj
  rw [nthSet hi]
  by_cases e : i = j
  · subst e; rw [if_pos rfl]
  · rw [if_neg e]; exact h j (by omega)
theorem set_twice {ds : List D} {i : Nat} (hi : i < ds.length) (s : ByteArray) (z : Int) : ((ds.set i (s, (nth ds i).2)).set i ((nth (ds.set i (s, (nth ds i).2)) i).1, z)) = ds.set i (s, z) := by
  rw [nthSet hi, if_pos rfl, List.set_set]
theorem grown_of_below {w w' : World} {row : Option Nat} (hb : Below w.heap.size w w') : w.grownBy w' row := ⟨hb.os, hb.tape, hb.output, hb.size, fun i hi _ => hb.block i hi⟩
set_option maxRecDepth 100000 in
set_option maxHeartbeats 4000000 in
theorem markDefS_any (B : Nat) (A : Option Addr) (n c : Nat) (ds : List D) (k : Nat) (hk : 0 < k) (hk2 : k + 2 * n ≤ 4611686018427387904) (w : World) (hn : ds.length = n) (ho : OwnC w B 46 (.slice A n c) ds) :
    Calls Try.prog 45 #[.slice A n c, .int .i64 k] w fun e w' => ∃ ms : List D, e = .returned (.int .i64 ((k + 2 * n : Nat) : Int)) ∧ ms.length = n ∧ Marked k n ms ∧ OwnC w' B 46 (.slice A n c) ms ∧ w.grownBy w' (Value.ownBlock (.slice A n c)) := by
  have HO := Lib.hid ho
  have HN := Lib.hid hn
  clear ho hn
  go_enter Try.func45, Try.ntmps45
  go_wp2
  go_loopw [1, 5] (fun kv iv wr => ∃ (i : Nat) (ms : List D), i ≤ n ∧ kv = .int .i64 ((k + 2 * i : Nat) : Int) ∧ iv = .int .i64 i ∧ Hid (ms.length = n) ∧ Hid (Marked k i ms) ∧ Hid (OwnC wr B 46 (.slice A n c) ms) ∧ Hid (w.grownBy wr (Value.ownBlock (.slice A n c)))) (fun _ iv _ => n - (intOf iv).toNat)
  case atStart => exact ⟨0, ds, Nat.zero_le _, rfl, rfl, HN, fun j hj => absurd hj (by omega), HO, grown_refl _ _⟩
  case round =>
    obtain ⟨i, ms, hi, rfl, rfl, hml, hm, o, hg⟩ := hrel
    by_cases hin : i < n
    · obtain ⟨bb, c3, he, hbb, hbw, hc1, hc2⟩ := OwnC.blk (show OwnC wr B 46 (.slice A ms.length c) ms from by rw [hml.out]; exact o.out) (by rw [hml.out]; omega)
      simp only [Value.slice.injEq] at he
      obtain ⟨rfl, _, rfl⟩ := he
      have j1 : (0 : Int) ≤ (i : Int) := by omega
      have j2 : (i : Int) < (n : Int) := by omega
      go_wp2_with fail
      refine (markText_any (k + 2 * i) (by omega) (by omega) _).mono ?_
      rintro e w2 ⟨rfl, hb⟩
      have o2 : OwnC w2 B 46 (.slice (some ⟨bb, 0, none⟩) ms.length c) ms := by rw [hml.out]; exact o.out.below hb
      have hil : i < ms.length := by rw [hml.out]; exact hin
      obtain ⟨⟨x, hx0⟩, hf0, o3⟩ := o2.name hil (mT (k + 2 * i))
      obtain ⟨⟨x', hx1⟩, hf1, o4⟩ := o3.value (i := i) (by rw [List.length_set]; exact hil) ((k : Int) + 2 * (i : Int) + 1)
      rw [set_twice hil, List.length_set, hml.out] at o4
      have hg4 := Lib.hid (grown_set (i := i * 2 + 1) (grown_set (i := i * 2) (g := bb) (hg.out.trans (grown_of_below hb)) (.string (mT (k + 2 * i)))) (.int .i64 ((k : Int) + 2 * (i : Int) + 1)))
      have O4 := Lib.hid o4
      have M4 := Lib.hid (show Marked k (i + 1) (ms.set i (mT (k + 2 * i), (k : Int) + 2 * (i : Int) + 1)) from by
        have := hm.out.step hil
        rwa [show ((k + 2 * i + 1 : Nat) : Int) = (k : Int) + 2 * (i : Int) + 1 from by omega] at this)
      have L4 := Lib.hid (show (ms.set i (mT (k + 2 * i), (k : Int) + 2 * (i : Int) + 1)).length = n from by rw [List.length_set]; exact hml.out)
      clear o2 o3 o4
      go_wp2_with fail
      go_roundw
      case rel => exact ⟨i + 1, _, by omega, by go_num, by go_num, L4, M4, O4, hg4⟩
      case measure => simp [intOf]; omega
    · obtain rfl : i = n := by omega
      go_wp2
      go_ret
      exact ⟨ms, by simp, hml.out, hm.out, o.out, hg.out⟩
set_option maxRecDepth 100000 in
set_option maxHeartbeats 4000000 in
theorem heldDefS_any (A : Option Addr) (n c : Nat) (ms : List D) (k : Nat) (hk : 0 < k) (hk2 : k + 2 * n ≤ 4611686018427387904) (w : World) (hr : Rd w w.heap.size A n c ms) (hm : Marked k n ms) :
    Calls Try.prog 46 #[.slice A n c, .int .i64 k] w fun e w' => e = .returned (.int .i64 ((k + 2 * n : Nat) : Int)) ∧ Below w.heap.size w w' := by
  have HR := Lib.hid hr
  have HM := Lib.hid hm
  have hc := hr.2.2.1
  clear hr hm
  go_enter Try.func46, Try.ntmps46
  go_wp2
  go_loopw [1, 5] (fun kv iv wr => ∃ i : Nat, i ≤ n ∧ kv = .int .i64 ((k + 2 * i : Nat) : Int) ∧ iv = .int .i64 i ∧ Below w.heap.size w wr) (fun _ iv _ => n - (intOf iv).toNat)
  case atStart => exact ⟨0, Nat.zero_le _, rfl, rfl, Below.refl _ _⟩
  case round =>
    obtain ⟨i, hi, rfl, rfl, hb⟩ := hrel
    by_cases hin : i < n
    · obtain ⟨b, off, rfl, hbl, hcell⟩ := (HR.out.below hb).2.2.2.2 (by omega)
      obtain ⟨c0, c1⟩ := hcell i hin
      have hbl2 : b < wr.heap.size := Nat.lt_of_lt_of_le hbl hb.size
      rw [HM.out i hin] at c0 c1
      have c2 : wr.cell? ⟨b, off + i * 2 + 1, none⟩ = some (.int .i64 ((k : Int) + 2 * (i : Int) + 1)) := by
        rw [c1]
        simp
      have j1 : (0 : Int) ≤ (i : Int) := by omega
      have j2 : (i : Int) < (n : Int) := by omega
      clear hcell c1
      go_wp2_with fail
      go_region_held3 (fun w' => w'.cell? ⟨b, off + i * 2, none⟩ = some (.string (mT (k + 2 * i)))) (go_keep)
        (first | (go_at_call 32; refine (markText_any (k + 2 * i) (by omega) (by omega) _).mono ?_; rintro e w2 ⟨rfl, hb2⟩; have e0 := (hb2.cell (p := ⟨b, off + i * 2, none⟩) hbl2).trans c0))
      have c3 := (hb2.cell (p := ⟨b, off + i * 2 + 1, none⟩) hbl2).trans c2
      have hb3 := Below.on hb.drew hb2 hb.size
      go_wp2_with fail
      go_roundw
      case rel => exact ⟨i + 1, by omega, by go_num, by go_num, hb3⟩
      case measure => simp [intOf]; omega
    · obtain rfl : i = n := by omega
      go_wp2
      go_ret
      exact ⟨by simp, hb⟩
end Go.Proofs.Ytioheadchhkjmaa
