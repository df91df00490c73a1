/-
  Names that add up, in plain Lean. No program is in sight.
-/
import Derived.Test.YtofkbckpncpmkaaPlainK
namespace Go.Proofs.Ytofkbckpncpmkaa

theorem orV_assoc {x y c : Int} : orV (orV x y) c = orV x (orV y c) := by
  unfold orV
  rw [Int.toNat_natCast, Int.toNat_natCast, Nat.or_assoc]
theorem orV_zero' {x : Int} (h : 0 ≤ x) : orV x 0 = x := by rw [orV_comm]; exact orV_zero h
theorem nthS_take {ss : List ByteArray} {k i : Nat} (h : i < k) : nthS (ss.take k) i = nthS ss i := by
  unfold nthS; simp [h]
theorem nthS_drop {ss : List ByteArray} {k i : Nat} : nthS (ss.drop k) i = nthS ss (k + i) := by
  unfold nthS; simp [List.getD_eq_getElem?_getD]
theorem take_same {ds : List D} {ss : List ByteArray} {m : Nat} (k : Nat) (hk : k ≤ m) : knowsTo ds (ss.take m) k = knowsTo ds ss k ∧ fromTo ds (ss.take m) k = fromTo ds ss k := by
  induction k with
  | zero => exact ⟨rfl, rfl⟩
  | succ k ih =>
    obtain ⟨h1, h2⟩ := ih (by omega)
    have e := nthS_take (ss := ss) (k := m) (i := k) (by omega)
    exact ⟨by unfold knowsTo; rw [h1, e], by unfold fromTo; rw [h2, e]⟩
theorem drop_same {ds : List D} {ss : List ByteArray} {k : Nat} (h0 : 0 ≤ fromTo ds ss k) (j : Nat) (h : knowsTo ds ss (k + j) = true) : knowsTo ds (ss.drop k) j = true ∧ fromTo ds ss (k + j) = orV (fromTo ds ss k) (fromTo ds (ss.drop k) j) := by
  induction j with
  | zero => exact ⟨rfl, (orV_zero' h0).symm⟩
  | succ j ih =>
    have h' : knowsTo ds ss (k + j + 1) = true := h
    unfold knowsTo at h'
    rw [Bool.and_eq_true] at h'
    obtain ⟨h1, h2⟩ := ih h'.1
    have e := nthS_drop (ss := ss) (k := k) (i := j)
    refine ⟨by unfold knowsTo; rw [h1, e, h'.2]; rfl, ?_⟩
    rw [show fromTo ds ss (k + (j + 1)) = orV (fromTo ds ss (k + j)) (nth ds (ix (nameIs (nthS ss (k + j))) ds).toNat).2 from rfl, show fromTo ds (ss.drop k) (j + 1) = orV (fromTo ds (ss.drop k) j) (nth ds (ix (nameIs (nthS (ss.drop k) j)) ds).toNat).2 from rfl, h2, e, orV_assoc]
theorem from_value {ds : List D} {z : Int} (hv : vFlag ds z = true) {ss : List ByteArray} (k : Nat) (h : knowsTo ds ss k = true) : ValueIn ds z (fromTo ds ss k) := by
  induction k with
  | zero =>
    refine ⟨hv, ⟨Int.le_refl _, show (0 : Int) ≤ 4095 by decide⟩, .inr ?_⟩
    show lessV 0 (maskV ds) = 0
    simp [lessV, andV]
  | succ k ih =>
    unfold knowsTo at h
    rw [Bool.and_eq_true, decide_eq_true_eq] at h
    rcases ix_cases (nameIs (nthS ss k)) ds with ⟨h1, _⟩ | ⟨j, hj, h1, _, _⟩
    · omega
    · show ValueIn ds z (orV (fromTo ds ss k) (nth ds (ix (nameIs (nthS ss k)) ds).toNat).2)
      rw [h1]
      exact value_or (ih h.1) (value_named hv hj).1
theorem from_both {ds : List D} {z : Int} {ss : List ByteArray} (h : fromOk ds z ss = true) {k : Nat} (hk : k ≤ ss.length) :
    fromOk ds z (ss.take k) = true ∧ fromOk ds z (ss.drop k) = true ∧ ValueIn ds z (fromV ds z (ss.take k)) ∧ ValueIn ds z (fromV ds z (ss.drop k)) ∧ orV (fromV ds z (ss.take k)) (fromV ds z (ss.drop k)) = fromV ds z ss ∧ ValueIn ds z (fromV ds z ss) := by
  have h' := h
  simp only [fromOk, Bool.and_eq_true] at h'
  obtain ⟨hv, hn⟩ := h'
  have hkk : knowsTo ds ss k = true := by
    cases hc : knowsTo ds ss k with
    | true => rfl
    | false => rw [knowsTo_mono hk hc] at hn; cases hn
  have v0 := from_value hv k hkk
  have hd := drop_same (k := k) v0.2.1.1 (ss.length - k) (by rw [Nat.add_sub_cancel' hk]; exact hn)
  have ht := take_same (ds := ds) (ss := ss) (m := k) k (Nat.le_refl _)
  have f1 := from_yes (ss := ss.take k) hv (k := k) (by rw [List.length_take]; omega) (ht.1.trans hkk)
  have f2 := from_yes (ss := ss.drop k) hv (k := ss.length - k) (by rw [List.length_drop]) hd.1
  have f3 := from_yes (ss := ss) hv (k := ss.length) rfl hn
  have e := hd.2
  rw [Nat.add_sub_cancel' hk] at e
  refine ⟨f1.1, f2.1, ?_, ?_, ?_, ?_⟩
  · rw [f1.2, ht.2]; exact v0
  · rw [f2.2]; exact from_value hv _ hd.1
  · rw [f1.2, f2.2, f3.2, ht.2, e]
  · rw [f3.2]; exact from_value hv _ hn
end Go.Proofs.Ytofkbckpncpmkaa
