/-
  The walk of equal definitions (the same as in XWBound, for seats without classes of flags).
-/
import Derived.Test.YtioheadchhkjmaaWDefs
namespace Go.Proofs.Ytioheadchhkjmaa
open Go.RowKit

theorem rd_nil (w : World) : Rd w w.heap.size none 0 0 [] := ⟨rfl, Nat.le_refl _, by omega, ⟨by simp, by simp⟩, fun h => absurd h (by omega)⟩
end Go.Proofs.Ytioheadchhkjmaa
