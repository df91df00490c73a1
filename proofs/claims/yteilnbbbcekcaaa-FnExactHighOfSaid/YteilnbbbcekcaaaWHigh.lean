/-
  The walks of HighOf, of the program's and of the reference's.
-/
import Derived.Test.YteilnbbbcekcaaaWFlag
import Derived.Shelf.Small.Bits
namespace Go.Proofs.Yteilnbbbcekcaaa
open Go.RowKit

/-! The number of bits of a number. -/
theorem bitLen_fin2 : ∀ a b : Fin 64, a.val * 64 + b.val < 2 ^ Lib.bitLen (a.val * 64 + b.val) ∧ Lib.bitLen (a.val * 64 + b.val) ≤ 12 ∧ (Lib.bitLen (a.val * 64 + b.val) = 0 ∨ 2 ^ (Lib.bitLen (a.val * 64 + b.val) - 1) ≤ a.val * 64 + b.val) := by decide +kernel
theorem bitLen_fin (n : Fin 4096) : n.val < 2 ^ Lib.bitLen n.val ∧ Lib.bitLen n.val ≤ 12 ∧ (Lib.bitLen n.val = 0 ∨ 2 ^ (Lib.bitLen n.val - 1) ≤ n.val) := by
  have h := bitLen_fin2 ⟨n.val / 64, by have := n.isLt; omega⟩ ⟨n.val % 64, Nat.mod_lt _ (by decide)⟩
  simp only at h
  rwa [show n.val / 64 * 64 + n.val % 64 = n.val from by omega] at h
theorem bitLen_is {m j : Nat} (hm : m ≤ 4095) (h1 : m < 2 ^ j) (h2 : j = 0 ∨ 2 ^ (j - 1) ≤ m) : Lib.bitLen m = j := by
  obtain ⟨g1, _, g3⟩ := bitLen_fin ⟨m, by omega⟩
  simp only at g1 g3
  rcases Nat.lt_trichotomy (Lib.bitLen m) j with h | h | h
  · exfalso
    have := Nat.pow_le_pow_right (n := 2) (by decide) (show Lib.bitLen m ≤ j - 1 by omega)
    rcases h2 with h2 | h2 <;> omega
  · exact h
  · exfalso
    have := Nat.pow_le_pow_right (n := 2) (by decide) (show j ≤ Lib.bitLen m - 1 by omega)
    rcases g3 with g3 | g3 <;> omega
/-- All bits up to the highest one. -/
def highV (m : Int) : Int := ((2 ^ Lib.bitLen m.toNat : Nat) : Int) - 1
/-- p is the least power of 2 greater than m. -/
def LeastP (p : Int) (m : Nat) : Prop := ∃ j, p = ((2 ^ j : Nat) : Int) ∧ m < 2 ^ j ∧ (j = 0 ∨ 2 ^ (j - 1) ≤ m)
theorem LeastP.high {p m : Int} (h : LeastP p m.toNat) (hm : m ≤ 4095) : highV m = p - 1 := by
  obtain ⟨j, rfl, h1, h2⟩ := h
  unfold highV
  rw [bitLen_is (by omega) h1 h2]
theorem LeastP.lt {p : Int} {m : Nat} (h : LeastP p m) (hm : m ≤ 4095) : 1 ≤ p ∧ p ≤ 4096 := by
  obtain ⟨j, rfl, h1, h2⟩ := h
  have := bitLen_fin ⟨m, by omega⟩
  simp only [bitLen_is hm h1 h2] at this
  have h3 : 2 ^ j ≤ 2 ^ 12 := Nat.pow_le_pow_right (by decide) this.2.1
  have h4 : 0 < 2 ^ j := Nat.pos_of_ne_zero (by simp)
  omega
theorem LeastP.zero : LeastP 1 0 := ⟨0, rfl, by decide, .inl rfl⟩
/-- The inner loop: p is a power of 2, greater than m, and not greater than it must be for m and v. -/
def NextP (p : Int) (m v : Nat) : Prop := ∃ j, p = ((2 ^ j : Nat) : Int) ∧ m < 2 ^ j ∧ (j = 0 ∨ 2 ^ (j - 1) ≤ m ||| v)
theorem LeastP.next {p : Int} {m : Nat} (v : Nat) (h : LeastP p m) : NextP p m v := by
  obtain ⟨j, rfl, h1, h2⟩ := h
  refine ⟨j, rfl, h1, ?_⟩
  rcases h2 with h2 | h2
  · exact .inl h2
  · exact .inr (Nat.le_trans h2 Nat.left_le_or)
theorem NextP.twice {p : Int} {m v : Nat} (h : NextP p m v) (hp : p ≤ v) : NextP (p * 2) m v := by
  obtain ⟨j, rfl, h1, h2⟩ := h
  refine ⟨j + 1, by rw [Nat.pow_succ]; omega, by rw [Nat.pow_succ]; omega, .inr ?_⟩
  have : v ≤ m ||| v := Nat.right_le_or
  simp only [Nat.add_sub_cancel]
  omega
theorem NextP.done {p : Int} {m v : Nat} (h : NextP p m v) (hp : (v : Int) < p) : LeastP p (m ||| v) := by
  obtain ⟨j, rfl, h1, h2⟩ := h
  exact ⟨j, rfl, Nat.or_lt_two_pow h1 (by omega), h2⟩
theorem NextP.pos {p : Int} {m v : Nat} (h : NextP p m v) : 1 ≤ p := by
  obtain ⟨j, rfl, h1, h2⟩ := h
  have h4 : 0 < 2 ^ j := Nat.pos_of_ne_zero (by simp)
  omega
theorem wrap_pow {k : Nat} (h : k ≤ 12) : wrap64 (wrap64 ((2 : Int) ^ k) - 1) = ((2 ^ k : Nat) : Int) - 1 := by
  have : ∀ k : Fin 13, wrap64 (wrap64 ((2 : Int) ^ k.val) - 1) = ((2 ^ k.val : Nat) : Int) - 1 := by decide +kernel
  exact this ⟨k, by omega⟩

def Try.len_ren : Go.Shelf.Ren := ⟨fun | 125 => 79 | 128 => 81 | 129 => 82 | n => n, fun | 3 => 3 | 4 => 4 | 5 => 5 | 9 => 9 | 46 => 69 | 51 => 71 | 53 => 73 | n => n, fun n => n⟩
theorem Try.len_lays : Go.Proofs.Lays.n125 Try.prog Try.len_ren := {
  mixed := by kernel_rfl
  f125 := Try.func79.trans (congrArg some (by kernel_rfl))
  f128 := Try.func81.trans (congrArg some (by kernel_rfl))
  f129 := Try.func82.trans (congrArg some (by kernel_rfl))
  t3 := Try.underlying3
  a3 := Try.isAgg3
  z3 := Try.sizeOf3
  v3 := Try.zeroValue3
  t4 := Try.underlying4
  a4 := Try.isAgg4
  z4 := Try.sizeOf4
  v4 := Try.zeroValue4
  t5 := Try.underlying5
  a5 := Try.isAgg5
  z5 := Try.sizeOf5
  v5 := Try.zeroValue5
  t9 := Try.underlying9
  a9 := Try.isAgg9
  z9 := Try.sizeOf9
  v9 := Try.zeroValue9
  t46 := Try.underlying69
  a46 := Try.isAgg69
  z46 := Try.sizeOf69
  v46 := Try.zeroValue69
  t51 := Try.underlying71
  a51 := Try.isAgg71
  z51 := Try.sizeOf71
  v51 := Try.zeroValue71
  t53 := Try.underlying73
  a53 := Try.isAgg73
  z53 := Try.sizeOf73
  v53 := Try.zeroValue73
  }
theorem len_any (x : Int) (h0 : 0 ≤ x) (h1 : x ≤ 4095) (w : World) :
    Calls Try.prog 79 #[.int .u64 x] w fun e w' => e = .returned (.int .i64 (Lib.bitLen x.toNat)) ∧ w = w' :=
  (Any.bits_Len Try.len_lays x w h0 (by omega)).mono fun _ _ ⟨he, hw⟩ => ⟨he, hw.symm⟩
set_option maxHeartbeats 1000000 in
theorem high_any (A : Option Addr) (n c : Nat) (ds : List D) (z : Int) (hB : Bits ds) (w : World) (hr : Rd w w.heap.size A n c ds) :
    Calls Try.prog 68 #[.agg #[.slice A n c, .int .i64 z]] w fun e w' => e = .returned (.int .i64 (highV (maskV ds))) ∧ Below w.heap.size w w' := by
  have b := below1 w (.cells #[.slice A n c, .int .i64 z] 29)
  have R := hr.to b
  clear hr
  go_enter Try.func68, Try.ntmps68
  go_wp2_with fail
  refine (mask_any _ _ _ ds _ hB _ R).mono ?_
  rintro e w1 ⟨rfl, hb⟩
  obtain ⟨m0, m1⟩ := maskV_lt hB
  obtain ⟨g1, g2, _⟩ := bitLen_fin ⟨(maskV ds).toNat, by omega⟩
  simp only at g1 g2
  have HW := wrap_pow g2
  go_wp2_with (go_at_call 79; refine (len_any _ m0 m1 _).mono ?_; rintro e w2 ⟨rfl, rfl⟩)
  go_ret
  exact ⟨ret_int (show wrap64 _ = highV _ from HW), Below.on b hb b.size⟩

set_option maxHeartbeats 1000000 in
theorem nextBit_any (B : Nat) (A : Option Addr) (n c : Nat) (ds : List D) (hB : Bits ds) (w : World) (hr : Rd w B A n c ds) :
    Calls Try.prog 78 #[.slice A n c] w fun e w' => e = .returned (.int .i64 (highV (maskV ds) + 1)) ∧ w = w' := by
  have HR := Lib.hid hr
  have HL := Lib.hid hr.1
  have hn := hr.2.1
  have hc := hr.2.2.1
  have HB := Lib.hid hB
  clear hr hB
  go_enter Try.func78, Try.ntmps78
  go_wp2
  go_loop [3, 4] (fun o i => ∃ (k : Nat) (p : Int), k ≤ n ∧ i = .int .i64 k ∧ o = .int .i64 p ∧ Hid (LeastP p (maskTo ds k).toNat)) (fun _ i => n - (intOf i).toNat)
  case atStart => exact ⟨0, 1, Nat.zero_le _, rfl, rfl, LeastP.zero⟩
  case round =>
    obtain ⟨k, p, hk, rfl, rfl, hp⟩ := hrel
    by_cases hkn : k < n
    · obtain ⟨bl, off, rfl, hbl, hcell⟩ := HR.out.2.2.2.2 (by omega)
      obtain ⟨c0, c1⟩ := hcell k hkn
      clear hcell
      obtain ⟨v0, v1⟩ := HB.out k (by rw [HL.out]; exact hkn)
      have HV := Lib.hid (show (maskTo ds k).toNat ||| (nth ds k).2.toNat = (maskTo ds (k + 1)).toNat from by rw [maskTo]; unfold orV; omega)
      go_wp2
      go_loop [3] (fun o => ∃ p : Int, o = .int .i64 p ∧ p ≤ 8192 ∧ Hid (NextP p (maskTo ds k).toNat (nth ds k).2.toNat)) (fun o => 8192 - (intOf o).toNat)
      case atStart =>
        have h := maskTo_lt HB.out (k := k) (by rw [HL.out]; omega)
        have := hp.out.lt (by omega)
        exact ⟨p, rfl, by omega, hp.out.next _⟩
      case round =>
        obtain ⟨p, rfl, hp2, hnp⟩ := hrel
        have hp1 := hnp.out.pos
        by_cases hpv : p ≤ (nth ds k).2
        · have HT := Lib.hid (hnp.out.twice (by omega))
          go_wp2
          go_round
          case rel => exact ⟨p * 2, by go_num, by omega, HT.out⟩
          case measure => simp [intOf]; omega
        · have HT := Lib.hid (hnp.out.done (by omega))
          rw [HV.out] at HT
          go_wp2
          go_round
          case rel => exact ⟨k + 1, p, by omega, by go_num, rfl, HT.out⟩
          case measure => simp [intOf]; omega
    · have hkl : k = ds.length := by rw [HL.out]; omega
      have HS := Lib.hid (show p = highV (maskV ds) + 1 from by
        have := LeastP.high (p := p) (m := maskV ds) (by have := hp.out; rwa [hkl] at this) (maskV_lt HB.out).2
        omega)
      go_wp2
      go_ret
      exact ⟨ret_int HS.out, rfl⟩

set_option maxHeartbeats 400000 in
theorem shigh_any (A : Option Addr) (n c : Nat) (ds : List D) (hB : Bits ds) (w : World) (hr : Rd w w.heap.size A n c ds) :
    Calls Try.prog 67 #[.slice A n c] w fun e w' => e = .returned (.int .i64 (highV (maskV ds))) ∧ Below w.heap.size w w' := by
  obtain ⟨m0, m1⟩ := maskV_lt hB
  obtain ⟨g1, g2, _⟩ := bitLen_fin ⟨(maskV ds).toNat, by omega⟩
  have h3 : 2 ^ Lib.bitLen (maskV ds).toNat ≤ 2 ^ 12 := Nat.pow_le_pow_right (by decide) g2
  have h4 : 0 < 2 ^ Lib.bitLen (maskV ds).toNat := Nat.pos_of_ne_zero (by simp)
  have l0 : 0 ≤ highV (maskV ds) := by unfold highV; omega
  have l1 : highV (maskV ds) ≤ 4095 := by unfold highV; omega
  clear h3 h4
  go_enter Try.func67, Try.ntmps67
  go_wp2_with (go_at_call 78; refine (nextBit_any _ _ _ _ ds hB _ hr).mono ?_; rintro e w2 ⟨rfl, rfl⟩)
  go_ret
  exact ⟨ret_int (by omega), Below.refl _ _⟩

/-- All bits up to the highest one of a valid class, -1 of others. -/
def highOf (ds : List D) (z : Int) : Int := if vFlag ds z then highV (maskV ds) else -1
set_option maxHeartbeats 1000000 in
theorem highOf_any (A : Option Addr) (n c : Nat) (ds : List D) (z : Int) (w : World) (hr : Rd w w.heap.size A n c ds) :
    Calls Try.prog 44 #[.agg #[.slice A n c, .int .i64 z]] w fun e w' => e = .returned (.int .i64 (highOf ds z)) ∧ Below w.heap.size w w' := by
  have q := blk1 w #[.slice A n c, .int .i64 z] 29
  have b := below1 w (.cells #[.slice A n c, .int .i64 z] 29)
  have R := hr.to b
  clear hr
  cases hv : vFlag ds z with
  | false =>
    have HF := Lib.hid (show highOf ds z = -1 from by unfold highOf; rw [hv]; rfl)
    go_enter Try.func44, Try.ntmps44
    go_wp2_with fail
    refine (validFlag_any _ _ _ ds _ _ R).mono ?_
    rintro e w1 ⟨rfl, hb⟩
    go_wp2
    go_ret
    exact ⟨ret_int HF.out.symm, Below.on b hb b.size⟩
  | true =>
    have HF := Lib.hid (show highOf ds z = highV (maskV ds) from by unfold highOf; rw [hv]; rfl)
    have hB := Bits_of (vFlag_defs hv)
    go_enter Try.func44, Try.ntmps44
    go_wp2_with fail
    refine (validFlag_any _ _ _ ds _ _ R).mono ?_
    rintro e w1 ⟨rfl, hb⟩
    replace b := Below.on b hb b.size
    replace q := q.below hb q.lt
    replace R := R.to hb
    have c0 := q.cell 0
    have c1 := q.cell 1
    clear hb
    go_wp2_with fail
    refine (high_any _ _ _ ds _ hB _ R).mono ?_
    rintro e w2 ⟨rfl, hb⟩
    go_wp2
    go_ret
    exact ⟨ret_int HF.out.symm, Below.on b hb b.size⟩

set_option maxHeartbeats 1000000 in
theorem shighOf_any (A : Option Addr) (n c : Nat) (ds : List D) (z : Int) (w : World) (hr : Rd w w.heap.size A n c ds) :
    Calls Try.prog 43 #[.agg #[.slice A n c, .int .i64 z]] w fun e w' => e = .returned (.int .i64 (highOf ds z)) ∧ Below w.heap.size w w' := by
  have q := blk1 w #[.slice A n c, .int .i64 z] 29
  have b := below1 w (.cells #[.slice A n c, .int .i64 z] 29)
  have R := hr.to b
  clear hr
  cases hv : vFlag ds z with
  | false =>
    have HF := Lib.hid (show highOf ds z = -1 from by unfold highOf; rw [hv]; rfl)
    go_enter Try.func43, Try.ntmps43
    go_wp2_with fail
    refine (svalidFlag_any _ _ _ ds _ _ R).mono ?_
    rintro e w1 ⟨rfl, hb⟩
    go_wp2
    go_ret
    exact ⟨ret_int HF.out.symm, Below.on b hb b.size⟩
  | true =>
    have HF := Lib.hid (show highOf ds z = highV (maskV ds) from by unfold highOf; rw [hv]; rfl)
    have hB := Bits_of (vFlag_defs hv)
    go_enter Try.func43, Try.ntmps43
    go_wp2_with fail
    refine (svalidFlag_any _ _ _ ds _ _ R).mono ?_
    rintro e w1 ⟨rfl, hb⟩
    replace b := Below.on b hb b.size
    replace q := q.below hb q.lt
    replace R := R.to hb
    have c0 := q.cell 0
    have c1 := q.cell 1
    clear hb
    go_wp2_with fail
    refine (shigh_any _ _ _ ds hB _ R).mono ?_
    rintro e w2 ⟨rfl, hb⟩
    go_wp2
    go_ret
    exact ⟨ret_int HF.out.symm, Below.on b hb b.size⟩

end Go.Proofs.Yteilnbbbcekcaaa
