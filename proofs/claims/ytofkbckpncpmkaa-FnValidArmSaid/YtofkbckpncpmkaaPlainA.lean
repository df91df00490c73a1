/-
  Arms in plain Lean: which bits they may have. No program is in sight.
-/
import Derived.Test.YtofkbckpncpmkaaPlainF
namespace Go.Proofs.Ytofkbckpncpmkaa
open Go.RowKit

theorem wrap_zero {t : Nat} (h : t < 2 ^ 64) : IntKind.i64.wrap (t : Int) = 0 ↔ t = 0 := by
  rw [IntKind.wrap_i64]; omega
theorem ofInt_wrap (V : BitVec 64) : BitVec.ofInt 64 (IntKind.i64.wrap (V.toNat : Int)) = V := by
  apply BitVec.eq_of_toNat_eq
  rw [IntKind.wrap_i64, BitVec.toNat_ofInt]
  have := V.isLt
  omega
theorem or_in (a b m : Nat) : (a ||| b) &&& m = a ||| b ↔ a &&& m = a ∧ b &&& m = b := by
  constructor
  · intro h
    have hb : ∀ i, ((a.testBit i || b.testBit i) && m.testBit i) = (a.testBit i || b.testBit i) := fun i => by
      have := congrArg (·.testBit i) h
      simpa [Nat.testBit_and, Nat.testBit_or] using this
    refine ⟨Nat.eq_of_testBit_eq fun i => ?_, Nat.eq_of_testBit_eq fun i => ?_⟩ <;> rw [Nat.testBit_and] <;> have := hb i <;> revert this <;> cases a.testBit i <;> cases b.testBit i <;> cases m.testBit i <;> simp
  · rintro ⟨h1, h2⟩
    rw [Nat.and_or_distrib_right, h1, h2]
theorem toNat_i64 {x : Int} (hx : -9223372036854775808 ≤ x ∧ x ≤ 9223372036854775807) : ((BitVec.ofInt 64 x).toNat : Int) = if 0 ≤ x then x else x + 18446744073709551616 := by
  rw [BitVec.toNat_ofInt]
  split <;> omega
/-- Nothing is left of the bits of two numbers without those of a mask exactly if each of them is a value with only bits of the mask. -/
theorem out_bits {x y m : Int} (hx : -9223372036854775808 ≤ x ∧ x ≤ 9223372036854775807) (hy : -9223372036854775808 ≤ y ∧ y ≤ 9223372036854775807) (m0 : 0 ≤ m) (m1 : m ≤ 4095) :
    bits .andNot .i64 (bits .or .i64 x y) m = 0 ↔ (0 ≤ x ∧ x ≤ 4095) ∧ (0 ≤ y ∧ y ≤ 4095) ∧ lessV x m = 0 ∧ lessV y m = 0 := by
  obtain ⟨m, rfl⟩ := Int.eq_ofNat_of_zero_le m0
  have e : bits .or .i64 x y = IntKind.i64.wrap ((BitVec.ofInt 64 x ||| BitVec.ofInt 64 y).toNat : Int) := rfl
  show IntKind.i64.wrap ((BitVec.ofInt 64 (bits .or .i64 x y) &&& ~~~ BitVec.ofInt 64 (m : Int)).toNat : Int) = 0 ↔ _
  rw [e, ofInt_wrap, wrap_zero (BitVec.isLt _), BitVec.toNat_and, BitVec.toNat_not, ofInt_i64 m (by omega), BitVec.toNat_or]
  have hx' := toNat_i64 hx
  have hy' := toNat_i64 hy
  have ha : (BitVec.ofInt 64 x).toNat < 2 ^ 64 := BitVec.isLt _
  have hb : (BitVec.ofInt 64 y).toNat < 2 ^ 64 := BitVec.isLt _
  revert hx' hy' ha hb
  generalize (BitVec.ofInt 64 x).toNat = a
  generalize (BitVec.ofInt 64 y).toNat = b
  intro hx' hy' ha hb
  have hab : a ||| b < 2 ^ 64 := Nat.or_lt_two_pow ha hb
  have h := and_not_add (a ||| b) m hab
  rw [Nat.mod_eq_of_lt (show m < 2 ^ 64 by omega)] at h
  have h1 : (a ||| b) &&& (2 ^ 64 - 1 - m) = 0 ↔ (a ||| b) &&& m = a ||| b := by omega
  rw [h1, or_in]
  have la : a &&& m ≤ m := Nat.and_le_right
  have lb : b &&& m ≤ m := Nat.and_le_right
  have key : ∀ (t : Int) (c : Nat), (-9223372036854775808 ≤ t ∧ t ≤ 9223372036854775807) → (c : Int) = (if 0 ≤ t then t else t + 18446744073709551616) → (c &&& m = c ↔ (0 ≤ t ∧ t ≤ 4095) ∧ lessV t (m : Int) = 0) := by
    intro t c ht hc
    have lc : c &&& m ≤ m := Nat.and_le_right
    unfold lessV andV
    constructor
    · intro hcm
      have h0 : 0 ≤ t := by
        rcases Int.lt_or_le t 0 with h | h
        · rw [if_neg (by omega)] at hc; omega
        · exact h
      rw [if_pos h0] at hc
      have et : t.toNat = c := by omega
      rw [et, Int.toNat_natCast, hcm]
      omega
    · rintro ⟨⟨h0, h2⟩, h3⟩
      rw [if_pos h0] at hc
      have et : t.toNat = c := by omega
      rw [et, Int.toNat_natCast] at h3
      omega
  rw [key x a hx hx', key y b hy hy']
  constructor
  · rintro ⟨⟨p, q⟩, r, s⟩; exact ⟨p, r, q, s⟩
  · rintro ⟨p, r, q, s⟩; exact ⟨⟨p, q⟩, r, s⟩

/-- The bits of an arm are bits of a mask. -/
def inMask (m x y : Int) : Bool := inR x 0 4095 && inR y 0 4095 && lessV x m == 0 && lessV y m == 0
/-- An arm is one of a valid class. -/
def okV (ds : List D) (x y : Int) : Bool := inMask (maskV ds) x y && andV x y == 0
def vArm (ds : List D) (z x y : Int) : Bool := vFlag ds z && okV ds x y
theorem inMask_iff {m x y : Int} : inMask m x y = true ↔ (0 ≤ x ∧ x ≤ 4095) ∧ (0 ≤ y ∧ y ≤ 4095) ∧ lessV x m = 0 ∧ lessV y m = 0 := by
  simp [inMask, inR, and_assoc]
theorem inMask_bits {x y m : Int} (hx : -9223372036854775808 ≤ x ∧ x ≤ 9223372036854775807) (hy : -9223372036854775808 ≤ y ∧ y ≤ 9223372036854775807) (m0 : 0 ≤ m) (m1 : m ≤ 4095) :
    bits .andNot .i64 (bits .or .i64 x y) m = 0 ↔ inMask m x y = true := by rw [out_bits hx hy m0 m1, inMask_iff]
theorem okV_no {ds : List D} {x y : Int} (h : inMask (maskV ds) x y = false) : okV ds x y = false := by simp [okV, h]
theorem okV_yes {ds : List D} {x y : Int} (h : inMask (maskV ds) x y = true) : okV ds x y = (andV x y == 0) := by simp [okV, h]
theorem vArm_bad {ds : List D} {z x y : Int} (h : vFlag ds z = false) : vArm ds z x y = false := by simp [vArm, h]
theorem vArm_good {ds : List D} {z x y : Int} (h : vFlag ds z = true) : vArm ds z x y = okV ds x y := by simp [vArm, h]
theorem vArm_out {ds : List D} {z x y : Int} (h : vArm ds z x y = true) : vFlag ds z = true ∧ ((0 ≤ x ∧ x ≤ 4095) ∧ 0 ≤ y ∧ y ≤ 4095) ∧ andV x y = 0 ∧ lessV x (maskV ds) = 0 ∧ lessV y (maskV ds) = 0 := by
  simp only [vArm, okV, Bool.and_eq_true, beq_iff_eq] at h
  obtain ⟨h1, h2, h3⟩ := h
  obtain ⟨p, q, r, s⟩ := inMask_iff.1 h2
  exact ⟨h1, ⟨p, q⟩, h3, r, s⟩
end Go.Proofs.Ytofkbckpncpmkaa
