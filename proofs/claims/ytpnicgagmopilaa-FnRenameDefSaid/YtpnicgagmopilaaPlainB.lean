/-
  Two enumerations in plain Lean: a name led to another one by its name, or by its value; old values that are read. No program is in sight.
-/
import Derived.Test.YtpnicgagmopilaaPlainE
namespace Go.Proofs.Ytpnicgagmopilaa

theorem ix_self {ds : List D} {k : Nat} (hk : k < ds.length) : ∃ j : Nat, j < ds.length ∧ ix (valueIs (nth ds k).2) ds = j ∧ (nth ds j).2 = (nth ds k).2 := by
  rcases ix_cases (valueIs (nth ds k).2) ds with ⟨_, ht⟩ | ⟨j, hj, he, _, hp⟩
  · have := ht k hk
    simp [valueIs] at this
  · exact ⟨j, hj, he, by simpa [valueIs] using hp⟩
theorem hasVal_of {ds : List D} {s : ByteArray} (h : hasName ds s = true) : hasVal ds (valV ds s) = true := by
  rcases hasName_cases ds s with ⟨h1, _⟩ | ⟨k, hv, hk, _, _, _, _, he⟩
  · rw [h1] at h; cases h
  · obtain ⟨j, _, hj, _⟩ := ix_self hk
    rw [he]
    exact (hasVal_yes hv hj).1
def byNameH (a b : List D) (s : ByteArray) : Bool := hasName a s && hasName b s
def byNameV (a b : List D) (s : ByteArray) : ByteArray := if byNameH a b s then nameV b (valV b s) else ⟨#[]⟩
def byValueH (a b : List D) (s : ByteArray) : Bool := hasName a s && hasVal b (valV a s)
def byValueV (a b : List D) (s : ByteArray) : ByteArray := if byValueH a b s then nameV b (valV a s) else ⟨#[]⟩
theorem byName_no1 {a b : List D} {s : ByteArray} (h : hasName a s = false) : byNameH a b s = false ∧ byNameV a b s = ⟨#[]⟩ := by
  have : byNameH a b s = false := by simp [byNameH, h]
  exact ⟨this, by unfold byNameV; rw [this]; rfl⟩
theorem byName_no2 {a b : List D} {s : ByteArray} (h : hasName b s = false) : byNameH a b s = false ∧ byNameV a b s = ⟨#[]⟩ := by
  have : byNameH a b s = false := by simp [byNameH, h]
  exact ⟨this, by unfold byNameV; rw [this]; rfl⟩
theorem byName_yes {a b : List D} {s : ByteArray} (h : hasName a s = true) (h' : hasName b s = true) : byNameH a b s = true ∧ byNameV a b s = nameV b (valV b s) := by
  have : byNameH a b s = true := by simp [byNameH, h, h']
  exact ⟨this, by unfold byNameV; rw [this]; rfl⟩
theorem byValue_no1 {a b : List D} {s : ByteArray} (h : hasName a s = false) : byValueH a b s = false ∧ byValueV a b s = ⟨#[]⟩ := by
  have : byValueH a b s = false := by simp [byValueH, h]
  exact ⟨this, by unfold byValueV; rw [this]; rfl⟩
theorem byValue_no2 {a b : List D} {s : ByteArray} (h : hasVal b (valV a s) = false) : byValueH a b s = false ∧ byValueV a b s = ⟨#[]⟩ := by
  have : byValueH a b s = false := by simp [byValueH, h]
  exact ⟨this, by unfold byValueV; rw [this]; rfl⟩
theorem byValue_yes {a b : List D} {s : ByteArray} (h : hasName a s = true) : byValueH a b s = hasVal b (valV a s) ∧ byValueV a b s = nameV b (valV a s) := by
  have h1 : byValueH a b s = hasVal b (valV a s) := by simp [byValueH, h]
  refine ⟨h1, ?_⟩
  unfold byValueV
  rw [h1]
  cases hv : hasVal b (valV a s) with
  | true => rfl
  | false => rcases hasVal_cases b (valV a s) with ⟨_, h2, _⟩ | ⟨_, _, _, _, _, _, h2, _⟩
             · rw [h2]; rfl
             · rw [hv] at h2; cases h2
def old1 (a b : List D) (v : Int) : Bool := hasVal b v && hasName a (nameV b v) && (valV a (nameV b v) == v)
def readsTo (a b : List D) (k : Nat) : Bool := (List.range k).all fun i => old1 a b (nth (mem a) i).2
def readsOld (a b : List D) : Bool := vEnum a && vEnum b && readsTo a b (mem a).length
theorem readsTo_succ {a b : List D} {k : Nat} (h : readsTo a b k = true) (hk : old1 a b (nth (mem a) k).2 = true) : readsTo a b (k + 1) = true := by
  unfold readsTo at *; rw [List.range_succ, List.all_append, h]; simp [hk]
theorem readsOld_no {a b : List D} {k : Nat} (hk : k < (mem a).length) (h : old1 a b (nth (mem a) k).2 = false) : readsOld a b = false := by
  have : readsTo a b (mem a).length = false := by
    unfold readsTo
    rw [List.all_eq_false]
    exact ⟨k, List.mem_range.2 hk, by simp [h]⟩
  simp [readsOld, this]
theorem readsOld_end {a b : List D} {k : Nat} (ha : vEnum a = true) (hb : vEnum b = true) (hk : ¬ k < (mem a).length) (h1 : k ≤ (mem a).length) (h : readsTo a b k = true) : readsOld a b = true := by
  obtain rfl : k = (mem a).length := by omega
  simp [readsOld, ha, hb, h]
end Go.Proofs.Ytpnicgagmopilaa
