/-
  The walks of the reader: newReader, of, one, names.
-/
import Derived.Test.YtioheadchhkjmaaWRead
import Derived.Test.YtioheadchhkjmaaMemS
namespace Go.Proofs.Ytioheadchhkjmaa
open Go.RowKit

set_option maxHeartbeats 400000 in
theorem newReader_any (A : Option Addr) (n c : Nat) (w : World) (hr : RdB w w.heap.size A n c) :
    Calls Try.prog 33 #[.slice A n c] w fun e w' => ∃ g, e = .returned (.pointer (some ⟨g, 0, none⟩)) ∧ Rdr w' w.heap.size g 78 1000000 ∧ Below w.heap.size w w' := by
  have hnc := hr.1
  have hc := hr.2.1
  have HR := Lib.hid hr
  clear hr
  by_cases hn : (2000 : Int) < n
  · obtain ⟨b, off, rfl, hb, hcell⟩ := HR.out.2.2 (by omega)
    clear hcell
    go_enter Try.func33, Try.ntmps33
    go_wp2
    go_ret
    have h1 := below1 w (.cells #[.slice (some ⟨b, off, none⟩) 2000 c, .int .i64 0] 78)
    exact ⟨_, rfl, ⟨Nat.le_refl _, _, 2000, c, 0, Nat.le_refl _, Nat.le_refl _, (HR.out.below h1).cut (by omega), blk1 w _ _⟩, h1⟩
  · go_enter Try.func33, Try.ntmps33
    go_wp2
    go_ret
    have h1 := below1 w (.cells #[.slice A n c, .int .i64 0] 78)
    exact ⟨_, rfl, ⟨Nat.le_refl _, _, n, c, 0, by omega, Nat.le_refl _, HR.out.below h1, blk1 w _ _⟩, h1⟩

/-- A text is drawn of a list. -/
def Drawn (P : ByteArray → Prop) (w : World) (base g k : Nat) (e : Ending) (w' : World) : Prop :=
  ∃ s : ByteArray, e = .returned (.string s) ∧ P s ∧ Rdr w' base g 78 k ∧ w.grownBy w' (some g)
/-- A number is drawn of a list. -/
def DrawnI (P : Int → Prop) (w : World) (base g k : Nat) (e : Ending) (w' : World) : Prop :=
  ∃ v : Int, e = .returned (.int .i64 v) ∧ P v ∧ Rdr w' base g 78 k ∧ w.grownBy w' (some g)
theorem grown_cell {w w' : World} {g b o : Nat} {v : Value} (h : w.grownBy w' (some g)) (hc : w.cell? ⟨b, o, none⟩ = some v) (hne : b ≠ g) : w'.cell? ⟨b, o, none⟩ = some v :=
  h.cell hc (by simpa using hne)
set_option maxHeartbeats 400000 in
theorem of_any (P : ByteArray → Prop) (base g k b n c : Nat) (w : World) (hn : 0 < n) (hn1 : n ≤ 100) (hne : b ≠ g) (hcell : ∀ i, i < n → ∃ v : ByteArray, w.cell? ⟨b, i, none⟩ = some (.string v) ∧ P v) (hr : Rdr w base g 78 (k + 1)) :
    Calls Try.prog 62 #[.pointer (some ⟨g, 0, none⟩), .slice (some ⟨b, 0, none⟩) n c] w (Drawn P w base g k) := by
  have HC := Lib.hid hcell
  have HR := Lib.hid hr
  clear hr hcell
  go_enter Try.func62, Try.ntmps62
  go_wp2_with fail
  refine (pick_any base g k _ _ HR.out).mono ?_
  rintro e w1 ⟨v, rfl, hv0, hv1, hr, hg⟩
  obtain ⟨i, rfl⟩ := Int.eq_ofNat_of_zero_le hv0
  have hi : i < n := by have := hv1 (by omega); omega
  obtain ⟨x, hx, hp⟩ := HC.out i hi
  have c0 := grown_cell hg hx hne
  have HQ := Lib.hid (And.intro hr hg)
  clear hr hg hv1 hx
  go_wp2
  go_ret
  exact ⟨x, rfl, hp, HQ.out⟩

set_option maxHeartbeats 400000 in
theorem one_any (P : Int → Prop) (base g k b n c : Nat) (w : World) (hn : 0 < n) (hn1 : n ≤ 100) (hne : b ≠ g) (hcell : ∀ i, i < n → ∃ v : Int, w.cell? ⟨b, i, none⟩ = some (.int .i64 v) ∧ P v) (hr : Rdr w base g 78 (k + 1)) :
    Calls Try.prog 51 #[.pointer (some ⟨g, 0, none⟩), .slice (some ⟨b, 0, none⟩) n c] w (DrawnI P w base g k) := by
  have HC := Lib.hid hcell
  have HR := Lib.hid hr
  clear hr hcell
  go_enter Try.func51, Try.ntmps51
  go_wp2_with fail
  refine (pick_any base g k _ _ HR.out).mono ?_
  rintro e w1 ⟨v, rfl, hv0, hv1, hr, hg⟩
  obtain ⟨i, rfl⟩ := Int.eq_ofNat_of_zero_le hv0
  have hi : i < n := by have := hv1 (by omega); omega
  obtain ⟨x, hx, hp⟩ := HC.out i hi
  have c0 := grown_cell hg hx hne
  have HQ := Lib.hid (And.intro hr hg)
  clear hr hg hv1 hx
  go_wp2
  go_ret
  exact ⟨x, rfl, hp, HQ.out⟩

end Go.Proofs.Ytioheadchhkjmaa
