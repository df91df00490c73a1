/-
  All names of a class: they have the mask. No program is in sight.
-/
import Derived.Test.YtofkbckpncpmkaaPlainX
import Derived.Test.YtofkbckpncpmkaaPlainL
import Derived.Test.YtofkbckpncpmkaaWMembers
namespace Go.Proofs.Ytofkbckpncpmkaa

theorem part_or1 (x y : Int) (hx : 0 ≤ x) (hy : 0 ≤ y) (v : Int) (hv : 0 ≤ v) (h : lessV v x = 0) : lessV v (orV x y) = 0 := by
  obtain ⟨a, b, rfl, rfl⟩ := bits_law hx hy
  obtain ⟨c, rfl⟩ := Int.eq_ofNat_of_zero_le hv
  rw [or_nat, less_zero, part_bit]
  rw [less_zero, part_bit] at h
  intro i hi
  simp [Nat.testBit_or, h i hi]
theorem mask_part {ds : List D} (hB : Bits ds) (k : Nat) (hk : k ≤ ds.length) : ∀ i, i < k → lessV (nth ds i).2 (maskTo ds k) = 0 := by
  induction k with
  | zero => intro i hi; omega
  | succ k ih =>
    intro i hi
    have hm := maskTo_lt hB (k := k) (by omega)
    have hv := hB k (by omega)
    have hvi := hB i (by omega)
    show lessV (nth ds i).2 (orV (maskTo ds k) (nth ds k).2) = 0
    rcases Nat.lt_or_ge i k with h | h
    · exact part_or1 _ _ hm.1 hv.1 _ hvi.1 (ih (by omega) i h)
    · obtain rfl : i = k := by omega
      exact or_has2 hm.1 hv.1
theorem value_named {ds : List D} {z : Int} (hv : vFlag ds z = true) {i : Nat} (hi : i < ds.length) : ValueIn ds z (nth ds i).2 ∧ lessV (nth ds i).2 (maskV ds) = 0 := by
  have hB := Bits_of (vFlag_defs hv)
  have hp := mask_part hB ds.length (Nat.le_refl _) i hi
  exact ⟨⟨hv, hB i hi, .inr hp⟩, hp⟩
theorem names_mask {ds : List D} {z : Int} (hv : vFlag ds z = true) (k : Nat) (hk : k ≤ ds.length) : knowsTo ds (nmTo anyD ds ds.length) k = true ∧ fromTo ds (nmTo anyD ds ds.length) k = maskTo ds k := by
  induction k with
  | zero => exact ⟨rfl, rfl⟩
  | succ k ih =>
    obtain ⟨h1, h2⟩ := ih (by omega)
    have hn := ixName (vFlag_defs hv) (i := k) (by omega)
    have h3 := from_step h1 (j := k) (by rw [nmAny_nth ds (by omega)]; exact hn)
    refine ⟨h3.1, ?_⟩
    rw [h3.2, h2]
    rfl
theorem names_all {ds : List D} {z : Int} (hv : vFlag ds z = true) : fromOk ds z (nmTo anyD ds ds.length) = true ∧ fromV ds z (nmTo anyD ds ds.length) = maskV ds := by
  obtain ⟨h1, h2⟩ := names_mask hv ds.length (Nat.le_refl _)
  have h3 := from_yes (ss := nmTo anyD ds ds.length) hv (k := ds.length) (by rw [nmAny_length]) h1
  exact ⟨h3.1, h3.2.trans h2⟩
end Go.Proofs.Ytofkbckpncpmkaa
