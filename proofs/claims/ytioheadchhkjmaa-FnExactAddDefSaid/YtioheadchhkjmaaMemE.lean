/-
  Words for memory: a name or a value is stored into a row of definitions that the call owns. No program is in sight.
-/
import Derived.Test.YtioheadchhkjmaaMemG
namespace Go.Proofs.Ytioheadchhkjmaa
open Go.RowKit

/-! A name or a value is stored into a row. -/
theorem flat_name (ds : List D) (i : Nat) (s : ByteArray) (h : i < ds.length) : (flat ds).set (i * 2) (.string s) = flat (ds.set i (s, (nth ds i).2)) := by
  induction ds generalizing i with
  | nil => simp at h
  | cons x ds ih =>
    cases i with
    | zero => rfl
    | succ i =>
      have h1 := ih i (by simpa using h)
      have e : flat (x :: ds) = .string x.1 :: .int .i64 x.2 :: flat ds := rfl
      rw [e, show (i + 1) * 2 = i * 2 + 1 + 1 from by omega, List.set_cons_succ, List.set_cons_succ, h1]
      rfl
theorem flat_value (ds : List D) (i : Nat) (z : Int) (h : i < ds.length) : (flat ds).set (i * 2 + 1) (.int .i64 z) = flat (ds.set i ((nth ds i).1, z)) := by
  induction ds generalizing i with
  | nil => simp at h
  | cons x ds ih =>
    cases i with
    | zero => rfl
    | succ i =>
      have h1 := ih i (by simpa using h)
      have e : flat (x :: ds) = .string x.1 :: .int .i64 x.2 :: flat ds := rfl
      rw [e, show (i + 1) * 2 + 1 = i * 2 + 1 + 1 + 1 from by omega, List.set_cons_succ, List.set_cons_succ, h1]
      rfl
section
variable {w : World} {B : Nat} {t : TypeId} {v : Value} {ds : List D} {b n c : Nat}
theorem Own.name (h : Own w B t (.slice (some ⟨b, 0, none⟩) n c) ds) (hn : n = ds.length) {i : Nat} (hi : i < ds.length) (s : ByteArray) :
    Own (w.setCell ⟨b, i * 2, none⟩ (.string s)) B t (.slice (some ⟨b, 0, none⟩) n c) (ds.set i (s, (nth ds i).2)) := by
  subst hn
  have h1 := (World.ownsRow.stored h (i * 2) (.string s)).1
  rw [flat_name ds i s hi] at h1
  unfold Own
  rw [List.length_set]
  exact h1
theorem Own.value (h : Own w B t (.slice (some ⟨b, 0, none⟩) n c) ds) (hn : n = ds.length) {i : Nat} (hi : i < ds.length) (z : Int) :
    Own (w.setCell ⟨b, i * 2 + 1, none⟩ (.int .i64 z)) B t (.slice (some ⟨b, 0, none⟩) n c) (ds.set i ((nth ds i).1, z)) := by
  subst hn
  have h1 := (World.ownsRow.stored h (i * 2 + 1) (.int .i64 z)).1
  rw [flat_value ds i z hi] at h1
  unfold Own
  rw [List.length_set]
  exact h1
theorem Own.cells (h : Own w B t (.slice (some ⟨b, 0, none⟩) n c) ds) (hn : n = ds.length) {i : Nat} (hi : i < ds.length) : w.cell? ⟨b, i * 2, none⟩ = some (.string (nth ds i).1) ∧ w.cell? ⟨b, i * 2 + 1, none⟩ = some (.int .i64 (nth ds i).2) := by
  subst hn
  have f := flat_at ds i hi
  rw [World.ownsRow.cellAt h (i * 2) (by omega), World.ownsRow.cellAt h (i * 2 + 1) (by omega)]
  exact f
theorem Own.froz (h : Own w B t (.slice (some ⟨b, 0, none⟩) n c) ds) (hn : n = ds.length) (j : Nat) : w.frozen? ⟨b, j, none⟩ = false := by
  subst hn
  exact World.ownsRow.frozenAt h j
theorem Own.some (h : Own w B t v ds) (h0 : 0 < ds.length) : ∃ b c, v = .slice (some ⟨b, 0, none⟩) ds.length c ∧ B ≤ b ∧ b < w.heap.size ∧ ds.length ≤ c ∧ c ≤ 9223372036854775807 := by
  rcases h.2 with ⟨_, hn⟩ | ⟨g, cap, cur, hv, hb, hg, hn, hc, _⟩
  · omega
  · exact ⟨g, cap, hv, hb, (Array.getElem?_eq_some_iff.1 hg).1, hn, by unfold maxLen at hc; omega⟩
end
end Go.Proofs.Ytioheadchhkjmaa
