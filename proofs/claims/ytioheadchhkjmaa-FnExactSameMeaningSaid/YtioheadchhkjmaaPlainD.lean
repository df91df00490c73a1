/-
  Plain words: how many changes lead from definitions to others.
-/
import Derived.Test.YtioheadchhkjmaaPlain
import Derived.Test.YtioheadchhkjmaaMemH
namespace Go.Proofs.Ytioheadchhkjmaa
open Go.RowKit

/-- The definitions have no such name. -/
def isNew (b : List D) (d : D) : Bool := decide (ix (nameIs d.1) b < 0)
/-- They have it, with another value. -/
def isTurn (b : List D) (d : D) : Bool := decide (0 ≤ ix (nameIs d.1) b) && !((nth b (ix (nameIs d.1) b).toNat).2 == d.2)
/-- How many of the first k are so. -/
def cnt (p : D → Bool) (ds : List D) (k : Nat) : Nat := (ds.take k).countP p
theorem cnt_zero (p : D → Bool) (ds : List D) : cnt p ds 0 = 0 := by simp [cnt]
theorem cnt_succ {p : D → Bool} {ds : List D} {k : Nat} (hk : k < ds.length) : cnt p ds (k + 1) = cnt p ds k + if p (nth ds k) = true then 1 else 0 := by
  unfold cnt
  rw [List.take_succ_eq_append_getElem hk, List.countP_append, nth_get hk]
  simp [List.countP_cons]
theorem cnt_yes {p : D → Bool} {ds : List D} {k : Nat} (hk : k < ds.length) (h : p (nth ds k) = true) : cnt p ds (k + 1) = cnt p ds k + 1 := by rw [cnt_succ hk, if_pos h]
theorem cnt_no {p : D → Bool} {ds : List D} {k : Nat} (hk : k < ds.length) (h : p (nth ds k) = false) : cnt p ds (k + 1) = cnt p ds k := by rw [cnt_succ hk, h]; simp
theorem cnt_le (p : D → Bool) (ds : List D) (k : Nat) : cnt p ds k ≤ k := by
  unfold cnt
  exact Nat.le_trans List.countP_le_length (by rw [List.length_take]; omega)
/-- How many changes there are. -/
def diffLen (a b : List D) : Nat := cnt (isNew b) a a.length + cnt (isTurn b) a a.length + cnt (isNew a) b b.length
theorem isNew_yes {b : List D} {d : D} (h : ix (nameIs d.1) b < 0) : isNew b d = true := by simp [isNew, h]
theorem isNew_no {b : List D} {d : D} (h : ¬ ix (nameIs d.1) b < 0) : isNew b d = false := by simp [isNew]; omega
theorem isTurn_neg {b : List D} {d : D} (h : ix (nameIs d.1) b < 0) : isTurn b d = false := by
  have : decide (0 ≤ ix (nameIs d.1) b) = false := by simp; omega
  simp [isTurn, this]
theorem isTurn_at {b : List D} {d : D} {j : Nat} (h : ix (nameIs d.1) b = j) : isTurn b d = !((nth b j).2 == d.2) := by
  simp [isTurn, h]
/-- The changes fit. -/
def FitAll (cs : List Ch) : Prop := ∀ c ∈ cs, c.name.size ≤ 9223372036854775807 ∧ Fits c.kind ∧ Fits c.was ∧ Fits c.will
theorem FitAll.nil : FitAll [] := by simp [FitAll]
theorem FitAll.snoc {cs : List Ch} (h : FitAll cs) {c : Ch} (h1 : c.name.size ≤ 9223372036854775807) (h2 : Fits c.kind) (h3 : Fits c.was) (h4 : Fits c.will) : FitAll (cs ++ [c]) := by
  intro x hx
  rcases List.mem_append.1 hx with hx | hx
  · exact h x hx
  · rw [List.mem_singleton.1 hx]; exact ⟨h1, h2, h3, h4⟩
theorem FitAll.good {cs : List Ch} (h : FitAll cs) (hl : cs.length ≤ 3518437208883) : GoodH cs := ⟨hl, h⟩
end Go.Proofs.Ytioheadchhkjmaa
