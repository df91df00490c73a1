/-
  Bits of numbers, and masks of classes of flags, in plain Lean. No program is in sight.
-/
import Derived.Test.YtmhngmigekmmcaaPlain
import Derived.Laws.BitsAllLaws
import Derived.Laws.BitsLemmas
namespace Go.Proofs.Ytmhngmigekmmcaa
open Go.RowKit

/-! Bits of natural numbers. -/
theorem or_add_and (a b : Nat) : (a ||| b) + (a &&& b) = a + b := by
  induction a using Nat.strongRecOn generalizing b with
  | _ a ih =>
    by_cases h0 : a = 0
    · subst h0; simp
    · have h := ih (a / 2) (by omega) (b / 2)
      have e1 : (a ||| b) / 2 = a / 2 ||| b / 2 := Nat.or_div_two
      have e2 : (a &&& b) / 2 = a / 2 &&& b / 2 := Nat.and_div_two
      have m1 : (a ||| b) % 2 = a % 2 ||| b % 2 := Nat.or_mod_two_pow (n := 1)
      have m2 : (a &&& b) % 2 = a % 2 &&& b % 2 := Nat.and_mod_two_pow (n := 1)
      rw [← e1, ← e2] at h
      have h4 : (a % 2 ||| b % 2) + (a % 2 &&& b % 2) = a % 2 + b % 2 := by
        rcases Nat.mod_two_eq_zero_or_one a with h1 | h1 <;> rcases Nat.mod_two_eq_zero_or_one b with h2 | h2 <;> rw [h1, h2] <;> rfl
      omega
theorem xor_add_and (a b : Nat) : (a ^^^ b) + 2 * (a &&& b) = a + b := by
  induction a using Nat.strongRecOn generalizing b with
  | _ a ih =>
    by_cases h0 : a = 0
    · subst h0; simp
    · have h := ih (a / 2) (by omega) (b / 2)
      have e1 : (a ^^^ b) / 2 = a / 2 ^^^ b / 2 := Nat.xor_div_two
      have e2 : (a &&& b) / 2 = a / 2 &&& b / 2 := Nat.and_div_two
      have m1 : (a ^^^ b) % 2 = a % 2 ^^^ b % 2 := Nat.xor_mod_two_pow (n := 1)
      have m2 : (a &&& b) % 2 = a % 2 &&& b % 2 := Nat.and_mod_two_pow (n := 1)
      rw [← e1, ← e2] at h
      have h4 : (a % 2 ^^^ b % 2) + 2 * (a % 2 &&& b % 2) = a % 2 + b % 2 := by
        rcases Nat.mod_two_eq_zero_or_one a with h1 | h1 <;> rcases Nat.mod_two_eq_zero_or_one b with h2 | h2 <;> rw [h1, h2] <;> rfl
      omega

/-! Bits of integers. -/
def andV (a b : Int) : Int := ((a.toNat &&& b.toNat : Nat) : Int)
def orV (a b : Int) : Int := ((a.toNat ||| b.toNat : Nat) : Int)
def xorV (a b : Int) : Int := ((a.toNat ^^^ b.toNat : Nat) : Int)
def lessV (a b : Int) : Int := a - andV a b
theorem andV_le {a b : Int} (ha : 0 ≤ a) : 0 ≤ andV a b ∧ andV a b ≤ a := by
  have : a.toNat &&& b.toNat ≤ a.toNat := Nat.and_le_left
  unfold andV; omega
theorem lessV_le {a b : Int} (ha : 0 ≤ a) : 0 ≤ lessV a b ∧ lessV a b ≤ a := by
  have := andV_le (b := b) ha
  unfold lessV; omega
theorem orV_lt {a b : Int} (ha : a ≤ 4095) (hb : b ≤ 4095) : 0 ≤ orV a b ∧ orV a b ≤ 4095 := by
  have : a.toNat ||| b.toNat < 2 ^ 12 := Nat.or_lt_two_pow (by omega) (by omega)
  unfold orV; omega
theorem xorV_lt {a b : Int} (ha : a ≤ 4095) (hb : b ≤ 4095) : 0 ≤ xorV a b ∧ xorV a b ≤ 4095 := by
  have : a.toNat ^^^ b.toNat < 2 ^ 12 := Nat.xor_lt_two_pow (by omega) (by omega)
  unfold xorV; omega
theorem orV_eq {a b : Int} (ha : 0 ≤ a) (hb : 0 ≤ b) : orV a b = a + b - andV a b := by
  have := or_add_and a.toNat b.toNat
  unfold orV andV; omega
theorem xorV_eq {a b : Int} (ha : 0 ≤ a) (hb : 0 ≤ b) : xorV a b = a + b - 2 * andV a b := by
  have := xor_add_and a.toNat b.toNat
  unfold xorV andV; omega

theorem ofInt_i64 (a : Nat) (ha : a < 9223372036854775808) : (BitVec.ofInt 64 (a : Int)).toNat = a := by
  rw [BitVec.ofInt_natCast, BitVec.toNat_ofNat]; exact Nat.mod_eq_of_lt (by omega)
theorem bits_and {a b : Int} (ha : 0 ≤ a) (ha' : a ≤ 9223372036854775807) (hb : 0 ≤ b) (hb' : b ≤ 9223372036854775807) : bits .and .i64 a b = andV a b := by
  obtain ⟨a, rfl⟩ := Int.eq_ofNat_of_zero_le ha
  obtain ⟨b, rfl⟩ := Int.eq_ofNat_of_zero_le hb
  have hx : a &&& b < 2 ^ 63 := Nat.and_lt_two_pow _ (by omega)
  show IntKind.i64.wrap ((BitVec.ofInt 64 (a : Int) &&& BitVec.ofInt 64 (b : Int)).toNat : Int) = _
  rw [BitVec.toNat_and, ofInt_i64 a (by omega), ofInt_i64 b (by omega), IntKind.wrap_i64]
  unfold andV
  simp only [Int.toNat_natCast]
  omega
theorem bits_or {a b : Int} (ha : 0 ≤ a) (ha' : a ≤ 9223372036854775807) (hb : 0 ≤ b) (hb' : b ≤ 9223372036854775807) : bits .or .i64 a b = orV a b := by
  obtain ⟨a, rfl⟩ := Int.eq_ofNat_of_zero_le ha
  obtain ⟨b, rfl⟩ := Int.eq_ofNat_of_zero_le hb
  have hx : a ||| b < 2 ^ 63 := Nat.or_lt_two_pow (by omega) (by omega)
  show IntKind.i64.wrap ((BitVec.ofInt 64 (a : Int) ||| BitVec.ofInt 64 (b : Int)).toNat : Int) = _
  rw [BitVec.toNat_or, ofInt_i64 a (by omega), ofInt_i64 b (by omega), IntKind.wrap_i64]
  unfold orV
  simp only [Int.toNat_natCast]
  omega
theorem bits_xor {a b : Int} (ha : 0 ≤ a) (ha' : a ≤ 9223372036854775807) (hb : 0 ≤ b) (hb' : b ≤ 9223372036854775807) : bits .xor .i64 a b = xorV a b := by
  obtain ⟨a, rfl⟩ := Int.eq_ofNat_of_zero_le ha
  obtain ⟨b, rfl⟩ := Int.eq_ofNat_of_zero_le hb
  have hx : a ^^^ b < 2 ^ 63 := Nat.xor_lt_two_pow (by omega) (by omega)
  show IntKind.i64.wrap ((BitVec.ofInt 64 (a : Int) ^^^ BitVec.ofInt 64 (b : Int)).toNat : Int) = _
  rw [BitVec.toNat_xor, ofInt_i64 a (by omega), ofInt_i64 b (by omega), IntKind.wrap_i64]
  unfold xorV
  simp only [Int.toNat_natCast]
  omega
theorem not_bit (b i : Nat) (hi : i < 64) : (2 ^ 64 - 1 - b % 2 ^ 64).testBit i = !(b.testBit i) := by
  have h3 := Nat.testBit_two_pow_sub_succ (x := b % 2 ^ 64) (n := 64) (Nat.mod_lt _ (by decide)) i
  rw [show 2 ^ 64 - 1 - b % 2 ^ 64 = 2 ^ 64 - (b % 2 ^ 64 + 1) from by omega, h3, Nat.testBit_mod_two_pow]
  simp [hi]
theorem and_not_add (a b : Nat) (ha : a < 2 ^ 64) : (a &&& (2 ^ 64 - 1 - b % 2 ^ 64)) + (a &&& b) = a := by
  have hbit : ∀ i, (a &&& (2 ^ 64 - 1 - b % 2 ^ 64)).testBit i = (a.testBit i && !(b.testBit i)) := fun i => by
    rw [Nat.testBit_and]
    by_cases hi : i < 64
    · rw [not_bit b i hi]
    · have h2 : a.testBit i = false := Nat.testBit_lt_two_pow (Nat.lt_of_lt_of_le ha (Nat.pow_le_pow_right (by decide) (by omega)))
      simp [h2]
  have hd : (a &&& (2 ^ 64 - 1 - b % 2 ^ 64)) &&& (a &&& b) = 0 := by
    apply Nat.eq_of_testBit_eq
    intro i
    rw [Nat.testBit_and, hbit, Nat.testBit_and, Nat.zero_testBit]
    cases a.testBit i <;> cases b.testBit i <;> rfl
  have ho : (a &&& (2 ^ 64 - 1 - b % 2 ^ 64)) ||| (a &&& b) = a := by
    apply Nat.eq_of_testBit_eq
    intro i
    rw [Nat.testBit_or, hbit, Nat.testBit_and]
    cases a.testBit i <;> cases b.testBit i <;> rfl
  have := or_add_and (a &&& (2 ^ 64 - 1 - b % 2 ^ 64)) (a &&& b)
  omega
theorem bits_less {a b : Int} (ha : 0 ≤ a) (ha' : a ≤ 9223372036854775807) (hb : 0 ≤ b) (hb' : b ≤ 9223372036854775807) : bits .andNot .i64 a b = lessV a b := by
  obtain ⟨a, rfl⟩ := Int.eq_ofNat_of_zero_le ha
  obtain ⟨b, rfl⟩ := Int.eq_ofNat_of_zero_le hb
  show IntKind.i64.wrap ((BitVec.ofInt 64 (a : Int) &&& ~~~ BitVec.ofInt 64 (b : Int)).toNat : Int) = _
  rw [BitVec.toNat_and, BitVec.toNat_not, ofInt_i64 a (by omega), ofInt_i64 b (by omega), IntKind.wrap_i64]
  have h := and_not_add a b (by omega)
  rw [Nat.mod_eq_of_lt (show b < 2 ^ 64 by omega)] at h
  have hl : a &&& b ≤ a := Nat.and_le_left
  unfold lessV andV
  simp only [Int.toNat_natCast]
  omega

/-! The bits that two numbers have, gathered bit by bit. -/
def PowIs (p k : Nat) : Prop := p = 2 ^ k
theorem PowIs.zero : PowIs 1 0 := rfl
theorem PowIs.succ {p k : Nat} (h : PowIs p k) : PowIs (p * 2) (k + 1) := by unfold PowIs at *; rw [h, Nat.pow_succ]
theorem PowIs.lt {p k : Nat} (h : PowIs p k) (hk : k < 12) : 1 ≤ p ∧ p ≤ 2048 := by
  unfold PowIs at h; subst h
  have h1 : 2 ^ k ≤ 2 ^ 11 := Nat.pow_le_pow_right (by decide) (by omega)
  exact ⟨Nat.pos_of_ne_zero (by simp), by omega⟩
theorem PowIs.last {p k : Nat} (h : PowIs p k) (hk : k = 12) : p = 4096 := by subst hk; exact h
def andTo (a b k : Nat) : Nat := (a &&& b) % 2 ^ k
theorem andTo_zero (a b : Nat) : andTo a b 0 = 0 := by simp [andTo, Nat.mod_one]
theorem andTo_lt (a b k : Nat) (hk : k ≤ 12) : andTo a b k ≤ 4095 := by
  have h1 : (a &&& b) % 2 ^ k < 2 ^ k := Nat.mod_lt _ (Nat.pos_of_ne_zero (by simp))
  have h2 : 2 ^ k ≤ 2 ^ 12 := Nat.pow_le_pow_right (by decide) hk
  unfold andTo; omega
theorem andTo_step (a b k p : Nat) (hp : PowIs p k) : andTo a b (k + 1) = if a / p % 2 = 1 ∧ b / p % 2 = 1 then andTo a b k + p else andTo a b k := by
  unfold PowIs at hp; subst hp
  unfold andTo
  rw [Nat.mod_pow_succ]
  have h : (a &&& b).testBit k = (a.testBit k && b.testBit k) := Nat.testBit_and _ _ _
  rw [Nat.testBit_eq_decide_div_mod_eq, Nat.testBit_eq_decide_div_mod_eq, Nat.testBit_eq_decide_div_mod_eq, ← Bool.decide_and, decide_eq_decide] at h
  rcases Nat.mod_two_eq_zero_or_one ((a &&& b) / 2 ^ k) with h1 | h1
  · rw [if_neg (fun hc => by have := h.2 hc; omega), h1, Nat.mul_zero, Nat.add_zero]
  · rw [if_pos (h.1 h1), h1, Nat.mul_one]
theorem andTo_yes {a b k p : Nat} (hp : PowIs p k) (h1 : a / p % 2 = 1) (h2 : b / p % 2 = 1) : andTo a b (k + 1) = andTo a b k + p := by rw [andTo_step a b k p hp, if_pos ⟨h1, h2⟩]
theorem andTo_no {a b k p : Nat} (hp : PowIs p k) (h : ¬ (a / p % 2 = 1 ∧ b / p % 2 = 1)) : andTo a b (k + 1) = andTo a b k := by rw [andTo_step a b k p hp, if_neg h]
theorem andTo_end {a b k : Nat} (ha : a ≤ 4095) (hk : k = 12) : ((andTo a b k : Nat) : Int) = andV (a : Int) (b : Int) := by
  subst hk
  have h1 : a &&& b ≤ a := Nat.and_le_left
  unfold andTo andV
  rw [Nat.mod_eq_of_lt (by omega)]
  simp

theorem quo_bd {a : Nat} (p : Nat) (ha : a ≤ 4095) : (0 : Int) ≤ (a : Int) / (p : Int) ∧ (a : Int) / (p : Int) ≤ 4095 := by
  have h : a / p ≤ a := Nat.div_le_self _ _
  have e : (a : Int) / (p : Int) = ((a / p : Nat) : Int) := by simp
  rw [e]
  generalize a / p = z at *
  omega
theorem bit_yes {a p : Nat} (h : a / p % 2 = 1) : (a : Int) / (p : Int) % 2 = 1 := by
  have : (((a / p % 2 : Nat)) : Int) = 1 := by rw [h]; rfl
  simpa using this
theorem bit_no {a p : Nat} (h : ¬ a / p % 2 = 1) : ((a : Int) / (p : Int) % 2 == 1) = false := by
  have : ¬ (((a / p % 2 : Nat)) : Int) = 1 := by omega
  simpa using this

/-! Masks. -/
theorem vDefs_at {ds : List D} {lo hi : Int} (h : vDefs ds lo hi = true) {i : Nat} (hi' : i < ds.length) : vName (nth ds i).1 = true ∧ lo ≤ (nth ds i).2 ∧ (nth ds i).2 ≤ hi := by
  simp only [vDefs, okTo, Bool.and_eq_true, List.all_eq_true, List.mem_range] at h
  have h1 := h.1 i hi'
  simp only [okAt, inR, Bool.and_eq_true, decide_eq_true_eq] at h1
  exact ⟨h1.1.1, h1.1.2⟩
theorem vDefs_length {ds : List D} {lo hi : Int} (h : vDefs ds lo hi = true) : ds.length ≤ 12 := by
  simp only [vDefs, Bool.and_eq_true, decide_eq_true_eq] at h
  exact h.2
/-- A class of flags is valid. -/
def vFlag (ds : List D) (z : Int) : Bool := vDefs ds 0 4095 && inR z 0 3
theorem vFlag_defs {ds : List D} {z : Int} (h : vFlag ds z = true) : vDefs ds 0 4095 = true := by simp only [vFlag, Bool.and_eq_true] at h; exact h.1
def maskTo (ds : List D) : Nat → Int
  | 0 => 0
  | k + 1 => orV (maskTo ds k) (nth ds k).2
/-- All bits that are named. -/
def maskV (ds : List D) : Int := maskTo ds ds.length
/-- The values are those of flags. -/
def Bits (ds : List D) : Prop := ∀ i, i < ds.length → 0 ≤ (nth ds i).2 ∧ (nth ds i).2 ≤ 4095
theorem Bits_of {ds : List D} (h : vDefs ds 0 4095 = true) : Bits ds := fun _ hi => (vDefs_at h hi).2
theorem maskTo_lt {ds : List D} (h : Bits ds) {k : Nat} (hk : k ≤ ds.length) : 0 ≤ maskTo ds k ∧ maskTo ds k ≤ 4095 := by
  induction k with
  | zero => exact ⟨Int.le_refl _, show (0 : Int) ≤ 4095 by decide⟩
  | succ k ih => exact orV_lt (ih (by omega)).2 (h k (by omega)).2
theorem maskV_lt {ds : List D} (h : Bits ds) : 0 ≤ maskV ds ∧ maskV ds ≤ 4095 := maskTo_lt h (Nat.le_refl _)
/-- A number is a value of a class. -/
def isVal (ds : List D) (z n : Int) : Bool := vFlag ds z && inR n 0 4095 && (z == 3 || lessV n (maskV ds) == 0)
theorem isVal_bad {ds : List D} {z n : Int} (h : vFlag ds z = false) : isVal ds z n = false := by simp [isVal, h]
theorem isVal_range {ds : List D} {z n : Int} (h : inR n 0 4095 = false) : isVal ds z n = false := by simp [isVal, h]
theorem isVal_keep {ds : List D} {n : Int} (h : vFlag ds 3 = true) (h' : inR n 0 4095 = true) : isVal ds 3 n = true := by simp [isVal, h, h']
theorem isVal_mask {ds : List D} {z n : Int} (h : vFlag ds z = true) (h' : inR n 0 4095 = true) (hz : (z == 3) = false) : isVal ds z n = (lessV n (maskV ds) == 0) := by simp [isVal, h, h', hz]
theorem isVal_lt {ds : List D} {z n : Int} (h : isVal ds z n = true) : vFlag ds z = true ∧ 0 ≤ n ∧ n ≤ 4095 := by
  simp only [isVal, inR, Bool.and_eq_true, decide_eq_true_eq] at h
  exact ⟨h.1.1, h.1.2⟩
end Go.Proofs.Ytmhngmigekmmcaa
