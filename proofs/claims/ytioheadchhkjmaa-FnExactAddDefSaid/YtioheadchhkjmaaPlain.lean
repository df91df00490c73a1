/-
  What the functions compute, in plain Lean: names, validity, look-ups. No program is in sight.
-/
import Derived.Test.YtioheadchhkjmaaMem
namespace Go.Proofs.Ytioheadchhkjmaa

/-- A number is in a range. -/
def inR (n lo hi : Int) : Bool := decide (lo ≤ n) && decide (n ≤ hi)
theorem inR_yes {n lo hi : Int} (h : lo ≤ n) (h' : n ≤ hi) : inR n lo hi = true := by simp [inR, h, h']
theorem inR_lo {n lo hi : Int} (h : n < lo) : inR n lo hi = false := by simp [inR]; omega
theorem inR_hi {n lo hi : Int} (h : hi < n) : inR n lo hi = false := by simp [inR]; omega

def letter (c : UInt8) : Bool := decide (97 ≤ c.toNat) && decide (c.toNat ≤ 122)
/-- A name: 1 to 6 letters. -/
def vName (s : ByteArray) : Bool := s.data.toList.all letter && inR s.size 1 6
theorem take_snoc (s : ByteArray) (k : Nat) (h : k < s.size) : s.data.toList.take (k + 1) = s.data.toList.take k ++ [s[k]] := by
  rw [List.take_succ_eq_append_getElem (by simpa using h)]; rfl
theorem letters_snoc (s : ByteArray) (k : Nat) (h : k < s.size) (hl : (s.data.toList.take k).all letter = true) (h1 : 97 ≤ (s[k].toNat : Int)) (h2 : (s[k].toNat : Int) ≤ 122) :
    (s.data.toList.take (k + 1)).all letter = true := by
  rw [take_snoc s k h, List.all_append, hl]
  simp [letter]; omega
theorem vName_no (s : ByteArray) (k : Nat) (h : k < s.size) (h1 : (s[k].toNat : Int) < 97 ∨ 122 < (s[k].toNat : Int)) : vName s = false := by
  unfold vName
  have : s.data.toList.all letter = false := by
    rw [List.all_eq_false]
    refine ⟨s[k], ?_, by simp [letter]; omega⟩
    show s.data[k] ∈ s.data.toList
    simp
  simp [this]
theorem vName_end (s : ByteArray) (k : Nat) (h : ¬ k < s.size) (hl : (s.data.toList.take k).all letter = true) : vName s = inR s.size 1 6 := by
  unfold vName
  have : s.data.toList.take k = s.data.toList := List.take_of_length_le (by simp; omega)
  rw [this] at hl
  simp [hl]

/-! Looking up. -/
def eqS (a b : ByteArray) : Bool := a.toList == b.toList
def nameIs (s : ByteArray) (d : D) : Bool := eqS d.1 s
def valueIs (n : Int) (d : D) : Bool := d.2 == n
/-- The index of the first one for which p holds, or -1. -/
def ix (p : D → Bool) (ds : List D) : Int := if ds.findIdx p < ds.length then (ds.findIdx p : Int) else -1
/-- p holds for none of the first k. -/
def noneTo (p : D → Bool) (ds : List D) (k : Nat) : Prop := ∀ j, j < k → p (nth ds j) = false
theorem noneTo_zero (p : D → Bool) (ds : List D) : noneTo p ds 0 := fun j h => absurd h (by omega)
theorem noneTo_succ {p : D → Bool} {ds : List D} {k : Nat} (h : noneTo p ds k) (hk : p (nth ds k) = false) : noneTo p ds (k + 1) := fun j hj => by
  rcases Nat.lt_or_ge j k with h1 | h1
  · exact h j h1
  · obtain rfl : j = k := by omega
    exact hk
theorem nth_get {ds : List D} {i : Nat} (h : i < ds.length) : nth ds i = ds[i] := by
  unfold nth; rw [List.getD_eq_getElem?_getD, List.getElem?_eq_getElem h]; rfl
theorem ix_yes {p : D → Bool} {ds : List D} {k : Nat} (hk : k < ds.length) (h : noneTo p ds k) (hp : p (nth ds k) = true) : ix p ds = k := by
  have : ds.findIdx p = k := by
    rw [List.findIdx_eq hk]
    refine ⟨by rw [← nth_get hk]; exact hp, fun j hj => ?_⟩
    rw [← nth_get (by omega)]
    exact h j hj
  unfold ix
  rw [this, if_pos hk]
theorem ix_no {p : D → Bool} {ds : List D} (h : noneTo p ds ds.length) : ix p ds = -1 := by
  unfold ix
  rw [if_neg]
  intro hk
  have h1 := List.findIdx_getElem (xs := ds) (p := p) (w := hk)
  have h2 := h _ hk
  rw [nth_get hk] at h2
  rw [h1] at h2
  cases h2
theorem ix_end {p : D → Bool} {ds : List D} {n k : Nat} (hl : ds.length = n) (hk : k ≤ n) (hn : ¬ k < n) (h : noneTo p ds k) : ix p ds = -1 := by
  obtain rfl : k = ds.length := by omega
  exact ix_no h
theorem ix_cases (p : D → Bool) (ds : List D) : (ix p ds = -1 ∧ noneTo p ds ds.length) ∨ ∃ k : Nat, k < ds.length ∧ ix p ds = k ∧ noneTo p ds k ∧ p (nth ds k) = true := by
  unfold ix
  by_cases h : ds.findIdx p < ds.length
  · rw [if_pos h]
    refine .inr ⟨_, h, rfl, fun j hj => ?_, ?_⟩
    · rw [nth_get (by omega)]
      simpa using List.not_of_lt_findIdx hj
    · rw [nth_get h]; exact List.findIdx_getElem
  · rw [if_neg h]
    refine .inl ⟨rfl, fun j hj => ?_⟩
    rw [nth_get hj]
    have := List.findIdx_eq_length.1 (Nat.le_antisymm List.findIdx_le_length (Nat.not_lt.1 h))
    simpa using this _ (List.getElem_mem hj)

/-! Validity. -/
def okAt (ds : List D) (lo hi : Int) (i : Nat) : Bool := vName (nth ds i).1 && inR (nth ds i).2 lo hi && decide (ix (nameIs (nth ds i).1) (ds.take i) < 0)
def okTo (ds : List D) (lo hi : Int) (k : Nat) : Bool := (List.range k).all (okAt ds lo hi)
/-- Definitions have different names, and values in a range; they are 12 at most. -/
def vDefs (ds : List D) (lo hi : Int) : Bool := okTo ds lo hi ds.length && decide (ds.length ≤ 12)
theorem okTo_zero (ds : List D) (lo hi : Int) : okTo ds lo hi 0 = true := rfl
theorem okTo_succ {ds : List D} {lo hi : Int} {k : Nat} (h : okTo ds lo hi k = true) (hk : okAt ds lo hi k = true) : okTo ds lo hi (k + 1) = true := by
  unfold okTo at *; rw [List.range_succ, List.all_append, h]; simp [hk]
theorem vDefs_no {ds : List D} {lo hi : Int} {k : Nat} (hk : k < ds.length) (h : okAt ds lo hi k = false) : vDefs ds lo hi = false := by
  have : okTo ds lo hi ds.length = false := by
    unfold okTo
    rw [List.all_eq_false]
    exact ⟨k, List.mem_range.2 hk, by simp [h]⟩
  simp [vDefs, this]
theorem vDefs_end {ds : List D} {lo hi : Int} {k : Nat} (hk : ¬ k < ds.length) (h1 : k ≤ ds.length) (h : okTo ds lo hi k = true) : vDefs ds lo hi = decide (ds.length ≤ 12) := by
  obtain rfl : k = ds.length := by omega
  simp [vDefs, h]
theorem okAt_name {ds : List D} {lo hi : Int} {k : Nat} (h : vName (nth ds k).1 = false) : okAt ds lo hi k = false := by simp [okAt, h]
theorem okAt_range {ds : List D} {lo hi : Int} {k : Nat} (h : inR (nth ds k).2 lo hi = false) : okAt ds lo hi k = false := by simp [okAt, h]
theorem okAt_twice {ds : List D} {lo hi : Int} {k : Nat} (h : 0 ≤ ix (nameIs (nth ds k).1) (ds.take k)) : okAt ds lo hi k = false := by
  simp only [okAt, Bool.and_eq_false_iff, decide_eq_false_iff_not]; exact .inr (by omega)
theorem okAt_yes {ds : List D} {lo hi : Int} {k : Nat} (h1 : vName (nth ds k).1 = true) (h2 : inR (nth ds k).2 lo hi = true) (h3 : ix (nameIs (nth ds k).1) (ds.take k) < 0) : okAt ds lo hi k = true := by
  simp [okAt, h1, h2, h3]
end Go.Proofs.Ytioheadchhkjmaa
