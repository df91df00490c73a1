/-
  The laws of the algebra of flags in plain Lean: what joined values are, and when one has all bits of another one. No program is in sight.
-/
import Derived.Test.YtofkbckpncpmkaaPlainF
namespace Go.Proofs.Ytofkbckpncpmkaa

/-! Bits of natural numbers: one number is a part of another one. -/
def Part (a m : Nat) : Prop := a &&& m = a
theorem part_bit {a m : Nat} : Part a m ↔ ∀ i, a.testBit i = true → m.testBit i = true := by
  unfold Part
  constructor
  · intro h i ha
    have := congrArg (·.testBit i) h
    simp [Nat.testBit_and, ha] at this
    exact this
  · intro h
    apply Nat.eq_of_testBit_eq
    intro i
    rw [Nat.testBit_and]
    cases ha : a.testBit i with
    | false => rfl
    | true => rw [h i ha]; rfl
theorem less_xor (a b : Nat) : a - (a &&& b) = a ^^^ (a &&& b) := by
  have h := xor_add_and a (a &&& b)
  have h1 : a &&& (a &&& b) = a &&& b := by
    apply Nat.eq_of_testBit_eq
    intro i
    simp only [Nat.testBit_and]
    cases a.testBit i <;> cases b.testBit i <;> rfl
  have h2 : a &&& b ≤ a := Nat.and_le_left
  rw [h1] at h
  omega
theorem less_nat (a b : Nat) : lessV (a : Int) (b : Int) = ((a ^^^ (a &&& b) : Nat) : Int) := by
  have h2 : a &&& b ≤ a := Nat.and_le_left
  rw [← less_xor]
  unfold lessV andV
  simp only [Int.toNat_natCast]
  omega
theorem less_zero {a b : Nat} : lessV (a : Int) (b : Int) = 0 ↔ Part a b := by
  have h2 : a &&& b ≤ a := Nat.and_le_left
  unfold lessV andV Part
  simp only [Int.toNat_natCast]
  omega
theorem and_nat (a b : Nat) : andV (a : Int) (b : Int) = ((a &&& b : Nat) : Int) := rfl
theorem or_nat (a b : Nat) : orV (a : Int) (b : Int) = ((a ||| b : Nat) : Int) := rfl
theorem xor_nat (a b : Nat) : xorV (a : Int) (b : Int) = ((a ^^^ b : Nat) : Int) := rfl
theorem less_lt {x y : Int} (hx : 0 ≤ x ∧ x ≤ 4095) : 0 ≤ lessV x y ∧ lessV x y ≤ 4095 := by
  have := lessV_le (b := y) hx.1
  omega
theorem and_lt {x y : Int} (hx : 0 ≤ x ∧ x ≤ 4095) : 0 ≤ andV x y ∧ andV x y ≤ 4095 := by
  have := andV_le (b := y) hx.1
  omega

/-! Values of a class. -/
/-- x is a value of a valid class, told by its mask. -/
def ValueIn (ds : List D) (z x : Int) : Prop := vFlag ds z = true ∧ (0 ≤ x ∧ x ≤ 4095) ∧ (z = 3 ∨ lessV x (maskV ds) = 0)
theorem isVal_iff {ds : List D} {z x : Int} : isVal ds z x = true ↔ ValueIn ds z x := by
  simp only [isVal, inR, ValueIn, Bool.and_eq_true, decide_eq_true_eq, Bool.or_eq_true, beq_iff_eq, and_assoc]
/-- What is made of the bits of two values is a value. -/
theorem value_of {ds : List D} {z x y o : Int} (hx : ValueIn ds z x) (hy : ValueIn ds z y) (ho : 0 ≤ o ∧ o ≤ 4095)
    (hp : ∀ i, o.toNat.testBit i = true → x.toNat.testBit i = true ∨ y.toNat.testBit i = true) : ValueIn ds z o := by
  obtain ⟨hv, ⟨x0, x1⟩, hx3⟩ := hx
  obtain ⟨_, ⟨y0, y1⟩, hy3⟩ := hy
  refine ⟨hv, ho, ?_⟩
  by_cases hz : z = 3
  · exact .inl hz
  refine .inr ?_
  have hx3 := hx3.resolve_left hz
  have hy3 := hy3.resolve_left hz
  have hm := maskV_lt (Bits_of (vFlag_defs hv))
  obtain ⟨ho0, _⟩ := ho
  generalize maskV ds = m at *
  obtain ⟨x, rfl⟩ := Int.eq_ofNat_of_zero_le x0
  obtain ⟨y, rfl⟩ := Int.eq_ofNat_of_zero_le y0
  obtain ⟨o, rfl⟩ := Int.eq_ofNat_of_zero_le ho0
  obtain ⟨m, rfl⟩ := Int.eq_ofNat_of_zero_le hm.1
  rw [less_zero, part_bit] at hx3 hy3 ⊢
  intro i hi
  rcases hp i hi with h | h
  · exact hx3 i h
  · exact hy3 i h
theorem value_mask {ds : List D} {z : Int} (hv : vFlag ds z = true) : ValueIn ds z (maskV ds) := by
  have hm := maskV_lt (Bits_of (vFlag_defs hv))
  refine ⟨hv, hm, .inr ?_⟩
  obtain ⟨m, e⟩ := Int.eq_ofNat_of_zero_le hm.1
  rw [e, less_zero]
  exact Nat.and_self m
section
variable {ds : List D} {z x y : Int}
theorem value_or (hx : ValueIn ds z x) (hy : ValueIn ds z y) : ValueIn ds z (orV x y) :=
  value_of hx hy (orV_lt hx.2.1.2 hy.2.1.2) fun i hi => by
    simp only [orV, Int.toNat_natCast, Nat.testBit_or, Bool.or_eq_true] at hi
    exact hi
theorem value_and (hx : ValueIn ds z x) (hy : ValueIn ds z y) : ValueIn ds z (andV x y) :=
  value_of hx hy (and_lt hx.2.1) fun i hi => by
    simp only [andV, Int.toNat_natCast, Nat.testBit_and, Bool.and_eq_true] at hi
    exact .inl hi.1
theorem value_xor (hx : ValueIn ds z x) (hy : ValueIn ds z y) : ValueIn ds z (xorV x y) :=
  value_of hx hy (xorV_lt hx.2.1.2 hy.2.1.2) fun i hi => by
    simp only [xorV, Int.toNat_natCast, Nat.testBit_xor] at hi
    revert hi
    cases x.toNat.testBit i <;> cases y.toNat.testBit i <;> simp
theorem value_less (hx : ValueIn ds z x) (hy : ValueIn ds z y) : ValueIn ds z (lessV x y) :=
  value_of hx hy (less_lt hx.2.1) fun i hi => by
    obtain ⟨_, ⟨x0, _⟩, _⟩ := hx
    obtain ⟨_, ⟨y0, _⟩, _⟩ := hy
    obtain ⟨x, rfl⟩ := Int.eq_ofNat_of_zero_le x0
    obtain ⟨y, rfl⟩ := Int.eq_ofNat_of_zero_le y0
    rw [less_nat] at hi
    simp only [Int.toNat_natCast, Nat.testBit_xor, Nat.testBit_and] at hi ⊢
    revert hi
    cases x.testBit i <;> cases y.testBit i <;> simp
end

/-! The laws, bit by bit. -/
section
variable {x y c : Int}
theorem bits_law {x y : Int} (hx : 0 ≤ x) (hy : 0 ≤ y) : ∃ a b : Nat, x = a ∧ y = b := by
  obtain ⟨a, rfl⟩ := Int.eq_ofNat_of_zero_le hx
  obtain ⟨b, rfl⟩ := Int.eq_ofNat_of_zero_le hy
  exact ⟨a, b, rfl, rfl⟩
theorem orV_comm : orV x y = orV y x := by unfold orV; rw [Nat.or_comm]
theorem andV_comm : andV x y = andV y x := by unfold andV; rw [Nat.and_comm]
theorem xorV_comm : xorV x y = xorV y x := by unfold xorV; rw [Nat.xor_comm]
theorem or_has1 (hx : 0 ≤ x) (hy : 0 ≤ y) : lessV x (orV x y) = 0 := by
  obtain ⟨a, b, rfl, rfl⟩ := bits_law hx hy
  rw [or_nat, less_zero, part_bit]
  intro i hi
  simp [Nat.testBit_or, hi]
theorem or_has2 (hx : 0 ≤ x) (hy : 0 ≤ y) : lessV y (orV x y) = 0 := by rw [orV_comm]; exact or_has1 hy hx
theorem or_sum (hx : 0 ≤ x) (hy : 0 ≤ y) : orV x y = x + lessV y x := by
  rw [orV_eq hx hy]
  unfold lessV
  rw [andV_comm (x := y)]
  omega
theorem or_twice (hx : 0 ≤ x) (hy : 0 ≤ y) : orV (orV x y) x = orV x y := by
  obtain ⟨a, b, rfl, rfl⟩ := bits_law hx hy
  rw [or_nat, or_nat]
  congr 1
  apply Nat.eq_of_testBit_eq; intro i
  simp only [Nat.testBit_or]
  cases a.testBit i <;> cases b.testBit i <;> rfl
theorem and_has1 (hx : 0 ≤ x) (hy : 0 ≤ y) : lessV (andV x y) x = 0 := by
  obtain ⟨a, b, rfl, rfl⟩ := bits_law hx hy
  rw [and_nat, less_zero, part_bit]
  intro i hi
  simp [Nat.testBit_and] at hi
  exact hi.1
theorem and_has2 (hx : 0 ≤ x) (hy : 0 ≤ y) : lessV (andV x y) y = 0 := by rw [andV_comm]; exact and_has1 hy hx
theorem and_sum (hx : 0 ≤ x) (hy : 0 ≤ y) : andV x y + orV x y = x + y := by rw [orV_eq hx hy]; omega
theorem and_twice (hx : 0 ≤ x) (hy : 0 ≤ y) : andV (andV x y) x = andV x y := by
  obtain ⟨a, b, rfl, rfl⟩ := bits_law hx hy
  rw [and_nat, and_nat]
  congr 1
  apply Nat.eq_of_testBit_eq; intro i
  simp only [Nat.testBit_and]
  cases a.testBit i <;> cases b.testBit i <;> rfl
theorem xor_back (hx : 0 ≤ x) (hy : 0 ≤ y) : xorV (xorV x y) y = x := by
  obtain ⟨a, b, rfl, rfl⟩ := bits_law hx hy
  rw [xor_nat, xor_nat]
  congr 1
  apply Nat.eq_of_testBit_eq; intro i
  simp only [Nat.testBit_xor]
  cases a.testBit i <;> cases b.testBit i <;> rfl
theorem xor_less (hx : 0 ≤ x) (hy : 0 ≤ y) : lessV (orV x y) (andV x y) = xorV x y := by
  obtain ⟨a, b, rfl, rfl⟩ := bits_law hx hy
  rw [or_nat, and_nat, xor_nat, less_nat]
  congr 1
  apply Nat.eq_of_testBit_eq; intro i
  simp only [Nat.testBit_xor, Nat.testBit_or, Nat.testBit_and]
  cases a.testBit i <;> cases b.testBit i <;> rfl
theorem xor_self : xorV x x = 0 := by unfold xorV; rw [Nat.xor_self]; rfl
theorem less_gone (hx : 0 ≤ x) (hy : 0 ≤ y) : andV (lessV x y) y = 0 := by
  obtain ⟨a, b, rfl, rfl⟩ := bits_law hx hy
  rw [less_nat, and_nat]
  have : (a ^^^ (a &&& b)) &&& b = 0 := by
    apply Nat.eq_of_testBit_eq; intro i
    simp only [Nat.testBit_xor, Nat.testBit_and, Nat.zero_testBit]
    cases a.testBit i <;> cases b.testBit i <;> rfl
  rw [this]; rfl
theorem less_or (hx : 0 ≤ x) (hy : 0 ≤ y) : orV (lessV x y) (andV x y) = x := by
  obtain ⟨a, b, rfl, rfl⟩ := bits_law hx hy
  rw [less_nat, and_nat, or_nat]
  congr 1
  apply Nat.eq_of_testBit_eq; intro i
  simp only [Nat.testBit_xor, Nat.testBit_or, Nat.testBit_and]
  cases a.testBit i <;> cases b.testBit i <;> rfl
theorem less_has (hx : 0 ≤ x) (hy : 0 ≤ y) : lessV (lessV x y) x = 0 := by
  obtain ⟨a, b, rfl, rfl⟩ := bits_law hx hy
  rw [less_nat, less_zero, part_bit]
  intro i hi
  simp only [Nat.testBit_xor, Nat.testBit_and] at hi
  revert hi
  cases a.testBit i <;> cases b.testBit i <;> simp
theorem less_self (hx : 0 ≤ x) : lessV x x = 0 := by
  obtain ⟨a, rfl⟩ := Int.eq_ofNat_of_zero_le hx
  rw [less_zero]
  exact Nat.and_self a
theorem has_and : (lessV y x == 0) = (andV x y == y) := by
  rw [Bool.eq_iff_iff, beq_iff_eq, beq_iff_eq, andV_comm]
  unfold lessV
  omega
theorem has_or (hx : 0 ≤ x) (hy : 0 ≤ y) : (lessV y x == 0) = (orV x y == x) := by
  rw [Bool.eq_iff_iff, beq_iff_eq, beq_iff_eq, or_sum hx hy]
  omega
theorem spread (hx : 0 ≤ x) (hy : 0 ≤ y) (hc : 0 ≤ c) : andV c (orV x y) = orV (andV c x) (andV c y) := by
  obtain ⟨a, b, rfl, rfl⟩ := bits_law hx hy
  obtain ⟨c, rfl⟩ := Int.eq_ofNat_of_zero_le hc
  rw [or_nat, and_nat, and_nat, and_nat, or_nat]
  congr 1
  apply Nat.eq_of_testBit_eq; intro i
  simp only [Nat.testBit_or, Nat.testBit_and]
  cases a.testBit i <;> cases b.testBit i <;> cases c.testBit i <;> rfl
theorem spread' (hx : 0 ≤ x) (hy : 0 ≤ y) (hc : 0 ≤ c) : orV c (andV x y) = andV (orV c x) (orV c y) := by
  obtain ⟨a, b, rfl, rfl⟩ := bits_law hx hy
  obtain ⟨c, rfl⟩ := Int.eq_ofNat_of_zero_le hc
  rw [and_nat, or_nat, or_nat, or_nat, and_nat]
  congr 1
  apply Nat.eq_of_testBit_eq; intro i
  simp only [Nat.testBit_or, Nat.testBit_and]
  cases a.testBit i <;> cases b.testBit i <;> cases c.testBit i <;> rfl
theorem less_both (h1 : lessV x y = 0) (h2 : lessV y x = 0) : x = y := by
  unfold lessV at h1 h2
  rw [andV_comm (x := y)] at h2
  omega
end
end Go.Proofs.Ytofkbckpncpmkaa
