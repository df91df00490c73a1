/-
  The walks of the names that are drawn: aName, anyName.
-/
import Derived.Test.YtioheadchhkjmaaWDraw
namespace Go.Proofs.Ytioheadchhkjmaa
open Go.RowKit

/-- A text of a list of texts that are drawn; a number of a list of numbers that are drawn. -/
def okS : Value → Bool
  | .string s => decide (s.size ≤ 10)
  | _ => false
def okI : Value → Bool
  | .int .i64 v => decide (-5000 ≤ v) && decide (v ≤ 5000)
  | _ => false
theorem cellsS {w : World} {g n : Nat} {t : TypeId} {cs : Array Value} (h : Blk w g t cs) (hn : cs.size = n) (ha : cs.toList.all okS = true) : ∀ i, i < n → ∃ v : ByteArray, w.cell? ⟨g, i, none⟩ = some (.string v) ∧ v.size ≤ 10 := by
  intro i hi
  have hlt : i < cs.size := by omega
  have h1 := List.all_eq_true.1 ha cs[i] (by simp)
  rw [h.cell i, Array.getElem?_eq_getElem hlt]
  revert h1
  cases cs[i] <;> simp [okS]
theorem cellsI {w : World} {g n : Nat} {t : TypeId} {cs : Array Value} (h : Blk w g t cs) (hn : cs.size = n) (ha : cs.toList.all okI = true) : ∀ i, i < n → ∃ v : Int, w.cell? ⟨g, i, none⟩ = some (.int .i64 v) ∧ -5000 ≤ v ∧ v ≤ 5000 := by
  intro i hi
  have hlt : i < cs.size := by omega
  have h1 := List.all_eq_true.1 ha cs[i] (by simp)
  rw [h.cell i, Array.getElem?_eq_getElem hlt]
  revert h1
  cases cs[i] with
  | int k v => cases k <;> simp [okI]
  | _ => simp [okI]
/-- A short text. -/
def Short (s : ByteArray) : Prop := s.size ≤ 10
/-- A small number. -/
def Small (v : Int) : Prop := -5000 ≤ v ∧ v ≤ 5000

set_option maxHeartbeats 400000 in
theorem aName_any (base g k : Nat) (w : World) (hr : Rdr w base g 78 (k + 1)) :
    Calls Try.prog 52 #[.pointer (some ⟨g, 0, none⟩)] w (Drawn Short w base g k) := by
  have HR := Lib.hid hr
  clear hr
  go_enter Try.func52, Try.ntmps52
  go_wp2_with fail
  refine (of_any Short base g k w.heap.size 12 12 _ (by omega) (by omega) (by have := HR.out.lt; omega) (cellsS (blk1 w _ _) rfl (by rfl)) (HR.out.below (below1 w _))).mono ?_
  rintro e w1 ⟨s, rfl, hs, hr, hg⟩
  go_wp2
  go_ret
  exact ⟨s, rfl, hs, hr, (World.grownBy_alloc w _ _).trans hg⟩

end Go.Proofs.Ytioheadchhkjmaa
