/-
  Enumerations in plain Lean: values of names, names of values, members. No program is in sight.
-/
import Derived.Test.YtioheadchhkjmaaPlain
namespace Go.Proofs.Ytioheadchhkjmaa

/-- An enumeration is valid. -/
def vEnum (ds : List D) : Bool := vDefs ds (-1000) 1000
/-- A valid enumeration has a name; the name's value, 0 if it has none. -/
def hasName (ds : List D) (s : ByteArray) : Bool := vEnum ds && decide (0 ≤ ix (nameIs s) ds)
def valV (ds : List D) (s : ByteArray) : Int := if hasName ds s then (nth ds (ix (nameIs s) ds).toNat).2 else 0
/-- A valid enumeration has a value; the member with it, no text if there is none. -/
def hasVal (ds : List D) (n : Int) : Bool := vEnum ds && decide (0 ≤ ix (valueIs n) ds)
def nameV (ds : List D) (n : Int) : ByteArray := if hasVal ds n then (nth ds (ix (valueIs n) ds).toNat).1 else ⟨#[]⟩

theorem hasName_bad {ds : List D} (s : ByteArray) (h : vEnum ds = false) : hasName ds s = false ∧ valV ds s = 0 := by
  have : hasName ds s = false := by simp [hasName, h]
  exact ⟨this, by unfold valV; rw [this]; rfl⟩
theorem hasName_no {ds : List D} {s : ByteArray} (h : ix (nameIs s) ds = -1) : hasName ds s = false ∧ valV ds s = 0 := by
  have : hasName ds s = false := by simp [hasName, h]
  exact ⟨this, by unfold valV; rw [this]; rfl⟩
theorem hasName_yes {ds : List D} {s : ByteArray} {k : Nat} (hv : vEnum ds = true) (h : ix (nameIs s) ds = k) : hasName ds s = true ∧ valV ds s = (nth ds k).2 := by
  have h1 : hasName ds s = true := by simp [hasName, h, hv]
  refine ⟨h1, ?_⟩
  unfold valV
  rw [h1, h]
  simp
theorem hasName_cases (ds : List D) (s : ByteArray) : (hasName ds s = false ∧ valV ds s = 0 ∧ (vEnum ds = true → ix (nameIs s) ds = -1 ∧ noneTo (nameIs s) ds ds.length)) ∨
    ∃ k : Nat, vEnum ds = true ∧ k < ds.length ∧ ix (nameIs s) ds = k ∧ noneTo (nameIs s) ds k ∧ nameIs s (nth ds k) = true ∧ hasName ds s = true ∧ valV ds s = (nth ds k).2 := by
  cases hv : vEnum ds with
  | false => exact .inl ⟨(hasName_bad s hv).1, (hasName_bad s hv).2, fun h => by cases h⟩
  | true =>
    rcases ix_cases (nameIs s) ds with ⟨h, ht⟩ | ⟨k, hk, h, ht, hp⟩
    · exact .inl ⟨(hasName_no h).1, (hasName_no h).2, fun _ => ⟨h, ht⟩⟩
    · exact .inr ⟨k, rfl, hk, h, ht, hp, (hasName_yes hv h).1, (hasName_yes hv h).2⟩
theorem hasVal_bad {ds : List D} (s : Int) (h : vEnum ds = false) : hasVal ds s = false ∧ nameV ds s = ⟨#[]⟩ := by
  have : hasVal ds s = false := by simp [hasVal, h]
  exact ⟨this, by unfold nameV; rw [this]; rfl⟩
theorem hasVal_no {ds : List D} {s : Int} (h : ix (valueIs s) ds = -1) : hasVal ds s = false ∧ nameV ds s = ⟨#[]⟩ := by
  have : hasVal ds s = false := by simp [hasVal, h]
  exact ⟨this, by unfold nameV; rw [this]; rfl⟩
theorem hasVal_yes {ds : List D} {s : Int} {k : Nat} (hv : vEnum ds = true) (h : ix (valueIs s) ds = k) : hasVal ds s = true ∧ nameV ds s = (nth ds k).1 := by
  have h1 : hasVal ds s = true := by simp [hasVal, h, hv]
  refine ⟨h1, ?_⟩
  unfold nameV
  rw [h1, h]
  simp
theorem hasVal_cases (ds : List D) (s : Int) : (hasVal ds s = false ∧ nameV ds s = ⟨#[]⟩ ∧ (vEnum ds = true → ix (valueIs s) ds = -1 ∧ noneTo (valueIs s) ds ds.length)) ∨
    ∃ k : Nat, vEnum ds = true ∧ k < ds.length ∧ ix (valueIs s) ds = k ∧ noneTo (valueIs s) ds k ∧ valueIs s (nth ds k) = true ∧ hasVal ds s = true ∧ nameV ds s = (nth ds k).1 := by
  cases hv : vEnum ds with
  | false => exact .inl ⟨(hasVal_bad s hv).1, (hasVal_bad s hv).2, fun h => by cases h⟩
  | true =>
    rcases ix_cases (valueIs s) ds with ⟨h, ht⟩ | ⟨k, hk, h, ht, hp⟩
    · exact .inl ⟨(hasVal_no h).1, (hasVal_no h).2, fun _ => ⟨h, ht⟩⟩
    · exact .inr ⟨k, rfl, hk, h, ht, hp, (hasVal_yes hv h).1, (hasVal_yes hv h).2⟩

/-! Members: the first name of each value. -/
def memTo (ds : List D) : Nat → List D
  | 0 => []
  | k + 1 => if ix (valueIs (nth ds k).2) (memTo ds k) < 0 then memTo ds k ++ [nth ds k] else memTo ds k
def mem (ds : List D) : List D := memTo ds ds.length
theorem memTo_in {ds : List D} {k : Nat} {d : D} (h : d ∈ memTo ds k) : ∃ j, j < k ∧ d = nth ds j := by
  induction k with
  | zero => simp [memTo] at h
  | succ k ih =>
    unfold memTo at h
    split at h
    · rcases List.mem_append.1 h with h | h
      · obtain ⟨j, hj, e⟩ := ih h; exact ⟨j, by omega, e⟩
      · exact ⟨k, by omega, by simpa using h⟩
    · obtain ⟨j, hj, e⟩ := ih h; exact ⟨j, by omega, e⟩
theorem memTo_length (ds : List D) (k : Nat) : (memTo ds k).length ≤ k := by
  induction k with
  | zero => simp [memTo]
  | succ k ih =>
    unfold memTo
    split
    · simp; omega
    · omega
theorem memTo_good {ds : List D} {k : Nat} (hg : Good ds) (hk : k ≤ ds.length) : Good (memTo ds k) := by
  refine ⟨by have := memTo_length ds k; have := hg.1; omega, fun d hd => ?_⟩
  obtain ⟨j, hj, rfl⟩ := memTo_in hd
  exact hg.nth (by omega)
theorem nth_snoc_lt {ds : List D} {d : D} {i : Nat} (h : i < ds.length) : nth (ds ++ [d]) i = nth ds i := by
  unfold nth; simp [List.getElem?_append_left h]
theorem nth_snoc_eq {ds : List D} {d : D} : nth (ds ++ [d]) ds.length = d := by
  unfold nth; simp
theorem ix_neg {p : D → Bool} {ds : List D} : ix p ds < 0 ↔ noneTo p ds ds.length := by
  rcases ix_cases p ds with ⟨h, ht⟩ | ⟨k, hk, h, _, hp⟩
  · exact ⟨fun _ => ht, fun _ => by omega⟩
  · refine ⟨fun h' => by omega, fun h' => ?_⟩
    rw [h' k hk] at hp; cases hp
/-- A value is among the members exactly if it is among the definitions. -/
theorem memTo_values (ds : List D) (v : Int) (k : Nat) : noneTo (valueIs v) (memTo ds k) (memTo ds k).length ↔ noneTo (valueIs v) ds k := by
  induction k with
  | zero => exact ⟨fun _ => noneTo_zero _ _, fun _ j hj => by simp [memTo] at hj⟩
  | succ k ih =>
    unfold memTo
    split
    · rename_i h
      constructor
      · intro h1
        have h2 : noneTo (valueIs v) (memTo ds k) (memTo ds k).length := fun j hj => by
          have := h1 j (by simp; omega)
          rwa [nth_snoc_lt hj] at this
        have h3 := h1 (memTo ds k).length (by simp)
        rw [nth_snoc_eq] at h3
        exact noneTo_succ (ih.1 h2) h3
      · intro h1 j hj
        simp at hj
        rcases Nat.lt_or_ge j (memTo ds k).length with h2 | h2
        · rw [nth_snoc_lt h2]; exact ih.2 (fun i hi => h1 i (by omega)) j h2
        · obtain rfl : j = (memTo ds k).length := by omega
          rw [nth_snoc_eq]; exact h1 k (by omega)
    · rename_i h
      constructor
      · intro h1
        refine noneTo_succ (ih.1 h1) ?_
        rcases ix_cases (valueIs (nth ds k).2) (memTo ds k) with ⟨h2, _⟩ | ⟨i, hi, _, _, hp⟩
        · omega
        · have h3 := h1 i hi
          simp only [valueIs, beq_iff_eq, beq_eq_false_iff_ne] at hp h3 ⊢
          omega
      · exact fun h1 => ih.2 (fun i hi => h1 i (by omega))
theorem first_yes {ds : List D} {k : Nat} (hk : k < ds.length) (h : ix (valueIs (nth ds k).2) (memTo ds k) < 0) : ix (valueIs (nth ds k).2) ds = k :=
  ix_yes hk ((memTo_values ds _ k).1 (ix_neg.1 h)) (by simp [valueIs])
theorem first_no {ds : List D} {k : Nat} (hk : k < ds.length) (h : ¬ ix (valueIs (nth ds k).2) (memTo ds k) < 0) : ∃ j : Nat, j < k ∧ ix (valueIs (nth ds k).2) ds = j := by
  rcases ix_cases (valueIs (nth ds k).2) ds with ⟨_, ht⟩ | ⟨j, hj, he, ht, _⟩
  · have := ht k hk
    simp [valueIs] at this
  · rcases Nat.lt_or_ge j k with h1 | h1
    · exact ⟨j, h1, he⟩
    · exact absurd (ix_neg.2 ((memTo_values ds _ k).2 (fun i hi => ht i (by omega)))) h
theorem memTo_yes {ds : List D} {k : Nat} (h : ix (valueIs (nth ds k).2) (memTo ds k) < 0) : memTo ds (k + 1) = memTo ds k ++ [nth ds k] := by rw [memTo, if_pos h]
theorem memTo_no {ds : List D} {k : Nat} (h : ¬ ix (valueIs (nth ds k).2) (memTo ds k) < 0) : memTo ds (k + 1) = memTo ds k := by rw [memTo, if_neg h]
end Go.Proofs.Ytioheadchhkjmaa
