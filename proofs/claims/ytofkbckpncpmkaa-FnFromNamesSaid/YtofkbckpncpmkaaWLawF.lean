/-
  What the laws of the algebra of flags ask, in plain Lean: what each call returns.
-/
import Derived.Test.YtofkbckpncpmkaaWValue
import Derived.Test.YtofkbckpncpmkaaPlainL
namespace Go.Proofs.Ytofkbckpncpmkaa

section
variable {ds : List D} {z x y : Int}
theorem two_iff : isTwo ds z x y = true ↔ ValueIn ds z x ∧ ValueIn ds z y := by
  unfold isTwo
  rw [Bool.and_eq_true, isVal_iff, isVal_iff]
theorem joined (of : Int → Int → Int) (hx : ValueIn ds z x) (hy : ValueIn ds z y) : joinV of ds z x y = of x y := joinV_yes (of := of) (two_iff.2 ⟨hx, hy⟩)
theorem has_yes (hx : ValueIn ds z x) (hy : ValueIn ds z y) (h : lessV y x = 0) : hasAllV ds z x y = true := by
  unfold hasAllV
  rw [two_iff.2 ⟨hx, hy⟩, h]
  rfl
theorem has_is (hx : ValueIn ds z x) (hy : ValueIn ds z y) : hasAllV ds z x y = (lessV y x == 0) := by
  unfold hasAllV
  rw [two_iff.2 ⟨hx, hy⟩]
  rfl
end
end Go.Proofs.Ytofkbckpncpmkaa
