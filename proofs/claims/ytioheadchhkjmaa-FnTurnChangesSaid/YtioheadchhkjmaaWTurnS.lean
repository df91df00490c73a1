/-
  The walk of changes turned round by the reference.
-/
import Derived.Test.YtioheadchhkjmaaPlainC
import Derived.Test.YtioheadchhkjmaaWDefs
import Derived.Maps.AppendAt
import Derived.BigRegion
namespace Go.Proofs.Ytioheadchhkjmaa
open Go.RowKit
attribute [local go_sem ↓] Go.wp_at_zero Go.wp_at_succ

theorem Try.infoCh2 : (Try.prog.info? 55).map (fun i => (i.zero, i.size, i.bytes)) = some (some (.agg #[.int .i64 0, .string ByteArray.empty, .int .i64 0, .int .i64 0]), 4, 40) := by kernel_rfl
/-- Changes turned round have come out. -/
def TurnedS (cs : List Ch) (w : World) (e : Ending) (w' : World) : Prop :=
  ∃ A c, e = .returned (.slice A cs.length c) ∧ OwnH w' w.heap.size 55 (.slice A cs.length c) (turned cs) ∧ Below w.heap.size w w'
theorem rowFar2 {w : World} {B p i n size : Nat} {e : TypeId} {v : Value} {xs : List Value} (h : w.ownsRow B e size v n xs) (hp : v.ownBlock ≠ some p) (u : Value) : (w.setCell ⟨p, i, none⟩ u).ownsRow B e size v n xs :=
  World.ownsRow.kept h (grown_set (grown_refl w (some p)) u) (.inr hp)
set_option maxRecDepth 100000 in
set_option maxHeartbeats 4000000 in
theorem turnS_any (A : Option Addr) (n c : Nat) (cs : List Ch) (w : World) (hr : RdH w w.heap.size A n c cs) :
    Calls Try.prog 8 #[.slice A n c] w (TurnedS cs w) := by
  obtain ⟨hl, hn, hc, hg, ha⟩ := hr
  have hgl := hg.1
  rw [hl] at hgl
  have HA := Lib.hid ha
  have HL := Lib.hid hl
  clear ha hg hl
  obtain ⟨i0, hi, hz0, hz1, hz2⟩ := info_parts Try.infoCh2
  have HI := Lib.hid hi
  have HZ0 := Lib.hid hz0
  have HZ1 := Lib.hid hz1
  have HZ2 := Lib.hid hz2
  clear hi hz0 hz1 hz2
  have O0 := Lib.hid (OwnA.empty w 55)
  have B0 := below1 w (.cells #[] 55)
  go_enter Try.func8, Try.ntmps8
  go_wp2
  go_loopw [3, 4] (fun o i wr => ∃ (z : Int) (A' : Option Addr) (m c' : Nat), i = .int .i64 z ∧ -1 ≤ z ∧ z < n ∧ o = .slice A' m c' ∧ Hid (m = n - (z + 1).toNat) ∧ Hid (OwnA wr w.heap.size 55 (.slice A' m c') ((backTo cs m).map fun x => turnC x.2)) ∧ Below w.heap.size w wr) (fun _ i _ => (intOf i + 1).toNat)
  case atStart => exact ⟨_, _, 0, 0, rfl, by omega, by omega, rfl, by show _ = _; omega, O0, B0⟩
  case round =>
    obtain ⟨z, A', m, c', rfl, hz1, hz2, rfl, hm, ho, hb⟩ := hrel
    by_cases hz : 0 ≤ z
    · obtain ⟨j, rfl⟩ := Int.eq_ofNat_of_zero_le hz
      have hj : j < n := by omega
      obtain ⟨b, off, rfl, hbl, hcell⟩ := HA.out (by omega)
      have hd := hcell j hj
      rw [← hb.cell (p := ⟨b, off + j * 4, none⟩) hbl, ← hb.cell (p := ⟨b, off + j * 4 + 1, none⟩) hbl, ← hb.cell (p := ⟨b, off + j * 4 + 2, none⟩) hbl, ← hb.cell (p := ⟨b, off + j * 4 + 3, none⟩) hbl] at hd
      obtain ⟨c0, c1, c2, c3⟩ := hd
      clear hcell
      have hbw : b < wr.heap.size := Nat.lt_of_lt_of_le hbl hb.size
      have hmn : m + 1 ≤ n := by have := hm.out; omega
      obtain ⟨ch, hch⟩ : ∃ ch, nthH cs j = ch := ⟨_, rfl⟩
      rw [hch] at c0 c1 c2 c3
      have HCH := Lib.hid hch
      clear hch
      obtain ⟨k, s, y, u⟩ := ch
      dsimp only at c0 c1 c2 c3
      go_wp2_with fail
      go_region_held3 (fun w' => w'.cell? ⟨b, off + j * 4, none⟩ = some (.int .i64 k) ∧ w'.cell? ⟨b, off + j * 4 + 1, none⟩ = some (.string s) ∧ w'.cell? ⟨b, off + j * 4 + 2, none⟩ = some (.int .i64 y) ∧ w'.cell? ⟨b, off + j * 4 + 3, none⟩ = some (.int .i64 u)) (go_keep) (fail)
      have b2 := (hb.alloc hb.size (.cells #[.int .i64 k, .string s, .int .i64 u, .int .i64 y] 55)).drew
      have x := (blk1 wr #[.int .i64 k, .string s, .int .i64 u, .int .i64 y] 55).drew
      have o2 := (ho.out.alloc (.cells #[.int .i64 k, .string s, .int .i64 u, .int .i64 y] 55)).drew
      have hne : (.slice A' m c' : Value).ownBlock ≠ some wr.heap.size := ho.out.ne (.inr (Nat.le_refl _))
      have d0 : ((wr.alloc (.cells #[.int .i64 k, .string s, .int .i64 u, .int .i64 y] 55)).drew).cell? ⟨b, off + j * 4, none⟩ = some (.int .i64 k) := by
        rw [← c0]; exact World.cell?_of_block (a := ⟨b, off + j * 4, none⟩) (Below.heap_alloc wr _ b hbw)
      have hsz : wr.heap.size < ((wr.alloc (.cells #[.int .i64 k, .string s, .int .i64 u, .int .i64 y] 55)).drew).heap.size := by simp
      obtain ⟨W, hW⟩ : ∃ W, W = (wr.alloc (.cells #[.int .i64 k, .string s, .int .i64 u, .int .i64 y] 55)).drew := ⟨_, rfl⟩
      rw [← hW] at b2 x o2 d0 hsz ⊢
      have hwr := hb.size
      clear hW c0 c1 c2 c3 ho hb hbw
      have hlen : ((backTo cs m).map fun x => turnC x.2).length = m := by rw [List.length_map, backTo_length]
      have hw := b2.size
      have HO := Lib.hid (show World.ownsRow W w.heap.size 55 4 (.slice A' m c') m (flatH ((backTo cs m).map fun x => turnC x.2)) from by have h := o2; unfold OwnA at h; rw [hlen] at h; exact h)
      have HNE := Lib.hid hne
      have z0 := x.frozen 0
      have x0 := x.cell 0
      have x1 := x.cell 1
      have x2 := x.cell 2
      have x3 := x.cell 3
      have HB := Lib.hid (backTo_prefix cs j (by rw [HL.out]; exact hj))
      have hmj : m = cs.length - (j + 1) := by have := hm.out; rw [HL.out]; omega
      have HMJ := Lib.hid hmj
      clear o2 hne hlen hmj
      by_cases hk0 : k = 0
      · subst hk0
        have xA : Blk ((W.setCell ⟨wr.heap.size, 0, none⟩ (.int .i64 1))) wr.heap.size 55 #[.int .i64 1, .string s, .int .i64 u, .int .i64 y] := x.set_ 0 _
        have rowA : World.ownsRow ((W.setCell ⟨wr.heap.size, 0, none⟩ (.int .i64 1))) w.heap.size 55 4 (.slice A' m c') m (flatH ((backTo cs m).map fun x => turnC x.2)) := (rowFar2 (i := 0) HO.out HNE.out _)
        have beA : Below w.heap.size w ((W.setCell ⟨wr.heap.size, 0, none⟩ (.int .i64 1))) := b2.setCell (p := ⟨wr.heap.size, 0, none⟩) (by simp; omega) _
        have hsA : ((W.setCell ⟨wr.heap.size, 0, none⟩ (.int .i64 1))).heap.size = W.heap.size := (by simp)
        have hT : turnC ⟨0, s, y, u⟩ = ⟨1, s, u, y⟩ := by simp [turnC]
        have HX := Lib.hid (And.intro rowA (And.intro beA hT))
        have g0 := xA.cell 0
        have g1 := xA.cell 1
        have g2 := xA.cell 2
        have g3 := xA.cell 3
        have hnw : ∀ (j : Nat) (v : Value), [Value.int .i64 1, .string s, .int .i64 u, .int .i64 y][j]? = some v → (((W.setCell ⟨wr.heap.size, 0, none⟩ (.int .i64 1))).alloc (.cells #[.int .i64 1, .string s, .int .i64 u, .int .i64 y] 55)).cell? ((⟨W.heap.size, 0, none⟩ : Addr).add j) = some v := by
          have h := newsH ((W.setCell ⟨wr.heap.size, 0, none⟩ (.int .i64 1))) ⟨1, s, u, y⟩ 55
          rwa [hsA] at h
        have HNW := Lib.hid hnw
        clear hnw hT rowA beA xA hsA
        go_wp2_with (at_builtin; refine wpList_append_own _ rfl _ _ 24 rfl w.heap.size 55 i0 (.agg #[.int .i64 0, .string ByteArray.empty, .int .i64 0, .int .i64 0]) 4 40 Try.underlying24 HI.out HZ0.out HZ1.out HZ2.out rfl (by decide) _ _ _ rfl (World.ownsRow.alloc HX.out.1 _) ⟨W.heap.size, 0, none⟩ 1 1 [.int .i64 1, .string s, .int .i64 u, .int .i64 y] rfl rfl HNW.out (by simp [Value.oneCell']) (by unfold maxLen; omega) (by omega) (by simp; omega) ?_; intro v' w8 hown8 hgrow _)
        have b8 := (HX.out.2.1.alloc HX.out.2.1.size (.cells #[.int .i64 1, .string s, .int .i64 u, .int .i64 y] 55)).grown hgrow (Nat.le_trans HX.out.2.1.size (by simp)) (fun i hi => (World.ownsRow.lt HX.out.1 i hi).1)
        have o8 : OwnA w8 w.heap.size 55 v' ((backTo cs (m + 1)).map fun x => turnC x.2) := by
          have h1 : backTo cs (m + 1) = backTo cs m ++ [(j, ⟨0, s, y, u⟩)] := by
            have h := HB.out
            rw [HCH.out, ← HMJ.out] at h
            rw [h]
            congr 1
            have := HMJ.out
            have := HL.out
            omega
          unfold OwnA
          rw [h1, List.map_append, List.length_append, flatH_append, List.map_singleton, HX.out.2.2, List.length_map, backTo_length]
          exact hown8
        obtain ⟨A3, c3', he3⟩ := o8.form
        rw [List.length_map, backTo_length] at he3
        subst he3
        go_roundw
        case rel => exact ⟨_, A3, m + 1, c3', rfl, by omega, by omega, rfl, by show _ = _; have := hm.out; omega, o8, b8⟩
        case measure => simp [intOf]
      by_cases hk1 : k = 1
      · subst hk1
        have xA : Blk ((W.setCell ⟨wr.heap.size, 0, none⟩ (.int .i64 0))) wr.heap.size 55 #[.int .i64 0, .string s, .int .i64 u, .int .i64 y] := x.set_ 0 _
        have rowA : World.ownsRow ((W.setCell ⟨wr.heap.size, 0, none⟩ (.int .i64 0))) w.heap.size 55 4 (.slice A' m c') m (flatH ((backTo cs m).map fun x => turnC x.2)) := (rowFar2 (i := 0) HO.out HNE.out _)
        have beA : Below w.heap.size w ((W.setCell ⟨wr.heap.size, 0, none⟩ (.int .i64 0))) := b2.setCell (p := ⟨wr.heap.size, 0, none⟩) (by simp; omega) _
        have hsA : ((W.setCell ⟨wr.heap.size, 0, none⟩ (.int .i64 0))).heap.size = W.heap.size := (by simp)
        have hT : turnC ⟨1, s, y, u⟩ = ⟨0, s, u, y⟩ := by simp [turnC]
        have HX := Lib.hid (And.intro rowA (And.intro beA hT))
        have g0 := xA.cell 0
        have g1 := xA.cell 1
        have g2 := xA.cell 2
        have g3 := xA.cell 3
        have hnw : ∀ (j : Nat) (v : Value), [Value.int .i64 0, .string s, .int .i64 u, .int .i64 y][j]? = some v → (((W.setCell ⟨wr.heap.size, 0, none⟩ (.int .i64 0))).alloc (.cells #[.int .i64 0, .string s, .int .i64 u, .int .i64 y] 55)).cell? ((⟨W.heap.size, 0, none⟩ : Addr).add j) = some v := by
          have h := newsH ((W.setCell ⟨wr.heap.size, 0, none⟩ (.int .i64 0))) ⟨0, s, u, y⟩ 55
          rwa [hsA] at h
        have HNW := Lib.hid hnw
        clear hnw hT rowA beA xA hsA
        go_wp2_with (at_builtin; refine wpList_append_own _ rfl _ _ 24 rfl w.heap.size 55 i0 (.agg #[.int .i64 0, .string ByteArray.empty, .int .i64 0, .int .i64 0]) 4 40 Try.underlying24 HI.out HZ0.out HZ1.out HZ2.out rfl (by decide) _ _ _ rfl (World.ownsRow.alloc HX.out.1 _) ⟨W.heap.size, 0, none⟩ 1 1 [.int .i64 0, .string s, .int .i64 u, .int .i64 y] rfl rfl HNW.out (by simp [Value.oneCell']) (by unfold maxLen; omega) (by omega) (by simp; omega) ?_; intro v' w8 hown8 hgrow _)
        have b8 := (HX.out.2.1.alloc HX.out.2.1.size (.cells #[.int .i64 0, .string s, .int .i64 u, .int .i64 y] 55)).grown hgrow (Nat.le_trans HX.out.2.1.size (by simp)) (fun i hi => (World.ownsRow.lt HX.out.1 i hi).1)
        have o8 : OwnA w8 w.heap.size 55 v' ((backTo cs (m + 1)).map fun x => turnC x.2) := by
          have h1 : backTo cs (m + 1) = backTo cs m ++ [(j, ⟨1, s, y, u⟩)] := by
            have h := HB.out
            rw [HCH.out, ← HMJ.out] at h
            rw [h]
            congr 1
            have := HMJ.out
            have := HL.out
            omega
          unfold OwnA
          rw [h1, List.map_append, List.length_append, flatH_append, List.map_singleton, HX.out.2.2, List.length_map, backTo_length]
          exact hown8
        obtain ⟨A3, c3', he3⟩ := o8.form
        rw [List.length_map, backTo_length] at he3
        subst he3
        go_roundw
        case rel => exact ⟨_, A3, m + 1, c3', rfl, by omega, by omega, rfl, by show _ = _; have := hm.out; omega, o8, b8⟩
        case measure => simp [intOf]
      · skip
        have xA : Blk (W) wr.heap.size 55 #[.int .i64 k, .string s, .int .i64 u, .int .i64 y] := x
        have rowA : World.ownsRow (W) w.heap.size 55 4 (.slice A' m c') m (flatH ((backTo cs m).map fun x => turnC x.2)) := HO.out
        have beA : Below w.heap.size w (W) := b2
        have hsA : (W).heap.size = W.heap.size := rfl
        have hT : turnC ⟨k, s, y, u⟩ = ⟨k, s, u, y⟩ := by simp [turnC, hk0, hk1]
        have HX := Lib.hid (And.intro rowA (And.intro beA hT))
        have g0 := xA.cell 0
        have g1 := xA.cell 1
        have g2 := xA.cell 2
        have g3 := xA.cell 3
        have hnw : ∀ (j : Nat) (v : Value), [Value.int .i64 k, .string s, .int .i64 u, .int .i64 y][j]? = some v → ((W).alloc (.cells #[.int .i64 k, .string s, .int .i64 u, .int .i64 y] 55)).cell? ((⟨W.heap.size, 0, none⟩ : Addr).add j) = some v := by
          have h := newsH (W) ⟨k, s, u, y⟩ 55
          rwa [hsA] at h
        have HNW := Lib.hid hnw
        clear hnw hT rowA beA xA hsA
        go_wp2_with (at_builtin; refine wpList_append_own _ rfl _ _ 24 rfl w.heap.size 55 i0 (.agg #[.int .i64 0, .string ByteArray.empty, .int .i64 0, .int .i64 0]) 4 40 Try.underlying24 HI.out HZ0.out HZ1.out HZ2.out rfl (by decide) _ _ _ rfl (World.ownsRow.alloc HX.out.1 _) ⟨W.heap.size, 0, none⟩ 1 1 [.int .i64 k, .string s, .int .i64 u, .int .i64 y] rfl rfl HNW.out (by simp [Value.oneCell']) (by unfold maxLen; omega) (by omega) (by simp; omega) ?_; intro v' w8 hown8 hgrow _)
        have b8 := (HX.out.2.1.alloc HX.out.2.1.size (.cells #[.int .i64 k, .string s, .int .i64 u, .int .i64 y] 55)).grown hgrow (Nat.le_trans HX.out.2.1.size (by simp)) (fun i hi => (World.ownsRow.lt HX.out.1 i hi).1)
        have o8 : OwnA w8 w.heap.size 55 v' ((backTo cs (m + 1)).map fun x => turnC x.2) := by
          have h1 : backTo cs (m + 1) = backTo cs m ++ [(j, ⟨k, s, y, u⟩)] := by
            have h := HB.out
            rw [HCH.out, ← HMJ.out] at h
            rw [h]
            congr 1
            have := HMJ.out
            have := HL.out
            omega
          unfold OwnA
          rw [h1, List.map_append, List.length_append, flatH_append, List.map_singleton, HX.out.2.2, List.length_map, backTo_length]
          exact hown8
        obtain ⟨A3, c3', he3⟩ := o8.form
        rw [List.length_map, backTo_length] at he3
        subst he3
        go_roundw
        case rel => exact ⟨_, A3, m + 1, c3', rfl, by omega, by omega, rfl, by show _ = _; have := hm.out; omega, o8, b8⟩
        case measure => simp [intOf]
    · obtain rfl : z = -1 := by omega
      have hm2 : m = n := by have := hm.out; omega
      have HH := Lib.hid (And.intro hm2 (And.intro ho.out hb))
      clear hm ho hb
      go_wp2
      go_ret
      obtain ⟨rfl, h1, h2⟩ := HH.out
      rw [← HL.out, backTo_all] at h1
      rw [← HL.out]
      exact ⟨_, _, rfl, h1.toH, h2⟩
end Go.Proofs.Ytioheadchhkjmaa
