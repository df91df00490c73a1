/-
  Words for memory: a row of definitions that the call has made, whatever room is behind it. No program is in sight.
-/
import Derived.Test.YtioheadchhkjmaaMemE
import Derived.Laws.AppendOwnNone
namespace Go.Proofs.Ytioheadchhkjmaa
open Go.RowKit

theorem add_addr (b off n : Nat) : (⟨b, off, none⟩ : Addr).add n = ⟨b, off + n, none⟩ := by
  unfold Addr.add
  split
  · subst_vars; rfl
  · rfl
/-- The cells of what is read, one by one. -/
theorem rd_news {w : World} {b off n : Nat} {ds : List D} (hl : ds.length = n) (hc : ∀ i, i < n → w.cell? ⟨b, off + i * 2, none⟩ = some (.string (nth ds i).1) ∧ w.cell? ⟨b, off + i * 2 + 1, none⟩ = some (.int .i64 (nth ds i).2)) :
    ∀ (j : Nat) (u : Value), (flat ds)[j]? = some u → w.cell? ((⟨b, off, none⟩ : Addr).add j) = some u := by
  intro j u hj
  have hlt : j < ds.length * 2 := by
    have := (List.getElem?_eq_some_iff.1 hj).1
    rwa [flat_length] at this
  have f := flat_at ds (j / 2) (by omega)
  have g := hc (j / 2) (by omega)
  rw [add_addr]
  rcases Nat.mod_two_eq_zero_or_one j with h | h
  · have e : j / 2 * 2 = j := by omega
    rw [e] at f g
    rw [f.1] at hj
    rw [g.1]
    exact hj
  · have e : j / 2 * 2 + 1 = j := by omega
    rw [e] at f
    rw [show off + j / 2 * 2 + 1 = off + j from by omega] at g
    rw [f.2] at hj
    rw [g.2]
    exact hj

/-- A row that the call has made; there may be more behind it. -/
def OwnC (w : World) (B : Nat) (t : TypeId) (v : Value) (ds : List D) : Prop :=
  (v = .slice none 0 0 ∧ ds = []) ∨ ∃ g c cur, v = .slice (some ⟨g, 0, none⟩) ds.length c ∧ B ≤ g ∧ w.heap[g]? = some (.cells cur t (0, 0)) ∧ ds.length ≤ c ∧ c ≤ maxLen ∧ ds.length * 2 ≤ cur.size ∧ cur.toList.take (ds.length * 2) = flat ds
section
variable {w w' : World} {B n : Nat} {t : TypeId} {v : Value} {ds : List D}
theorem Own.toC (h : Own w B t v ds) : OwnC w B t v ds := by
  rcases h.2 with ⟨hv, hn⟩ | ⟨g, cap, cur, hv, hb, hg, hn, hc, hs, ht⟩
  · exact .inl ⟨hv, List.eq_nil_of_length_eq_zero hn⟩
  · exact .inr ⟨g, cap, cur, hv, hb, hg, hn, hc, by rw [hs]; exact Nat.mul_le_mul_right _ hn, ht⟩
theorem OwnC.form (h : OwnC w B t v ds) : ∃ A c, v = .slice A ds.length c := by
  rcases h with ⟨hv, hn⟩ | ⟨g, c, _, hv, _⟩
  · exact ⟨none, 0, by rw [hv, hn]; rfl⟩
  · exact ⟨_, c, hv⟩
theorem OwnC.base {B' : Nat} (h : OwnC w B t v ds) (hB : B' ≤ B) : OwnC w B' t v ds := by
  refine h.imp id ?_
  rintro ⟨g, c, cur, hv, hb, hr⟩
  exact ⟨g, c, cur, hv, Nat.le_trans hB hb, hr⟩
theorem OwnC.lt (h : OwnC w B t v ds) : ∀ k, v.ownBlock = some k → B ≤ k ∧ k < w.heap.size := by
  rcases h with ⟨hv, _⟩ | ⟨g, c, cur, hv, hb, hg, _⟩
  · rw [hv]; intro k hk; simp [Value.ownBlock] at hk
  · rw [hv]; intro k hk
    simp [Value.ownBlock] at hk
    subst hk
    exact ⟨hb, (Array.getElem?_eq_some_iff.1 hg).1⟩
theorem OwnC.keep (h : OwnC w B t v ds) (hk : ∀ k, v.ownBlock = some k → w'.heap[k]? = w.heap[k]?) : OwnC w' B t v ds := by
  rcases h with h | ⟨g, c, cur, hv, hb, hg, hr⟩
  · exact .inl h
  · exact .inr ⟨g, c, cur, hv, hb, (hk g (by rw [hv]; rfl)).trans hg, hr⟩
theorem OwnC.below (h : OwnC w B t v ds) (hb : Below w.heap.size w w') : OwnC w' B t v ds := h.keep fun k hk => hb.block k (h.lt k hk).2
theorem OwnC.alloc (h : OwnC w B t v ds) (o : Obj) : OwnC (w.alloc o) B t v ds := h.below (below1 w o)
theorem OwnC.drew (h : OwnC w B t v ds) : OwnC w.drew B t v ds := h
theorem OwnC.ne (h : OwnC w B t v ds) {p : Nat} (hp : p < B ∨ w.heap.size ≤ p) : v.ownBlock ≠ some p := fun e => by have := h.lt p e; omega
theorem OwnC.far {p i : Nat} (h : OwnC w B t v ds) (hp : v.ownBlock ≠ some p) (u : Value) : OwnC (w.setCell ⟨p, i, none⟩ u) B t v ds :=
  h.keep fun k hk => Below.heap_setCell w ⟨p, i, none⟩ u k (fun e => hp (by rw [hk, e]))
theorem OwnC.rd (h : OwnC w B t v ds) (hg : Good ds) : ∃ A c, v = .slice A ds.length c ∧ Rd w w.heap.size A ds.length c ds := by
  rcases h with ⟨hv, hn⟩ | ⟨g, c, cur, hv, hb, hh, hn, hc, hs, ht⟩
  · subst hn
    exact ⟨none, 0, hv, rfl, Nat.le_refl _, by omega, hg, fun h => absurd h (by simp)⟩
  · refine ⟨some ⟨g, 0, none⟩, c, hv, rfl, hn, by unfold maxLen at hc; omega, hg, fun _ => ⟨g, 0, rfl, (Array.getElem?_eq_some_iff.1 hh).1, fun i hi => ?_⟩⟩
    have hf := flat_at ds i hi
    have hcell : ∀ j, j < ds.length * 2 → w.cell? ⟨g, j, none⟩ = (flat ds)[j]? := fun j hj => by
      rw [← ht, List.getElem?_take, if_pos hj]
      simp [World.cell?, hh]
    rw [Nat.zero_add, hcell _ (by omega), hcell _ (by omega)]
    exact hf
end
theorem OwnC.cap {w : World} {B : Nat} {t : TypeId} {v : Value} {ds : List D} (h : OwnC w B t v ds) : ∃ A c, v = .slice A ds.length c ∧ ds.length ≤ c ∧ c ≤ 9223372036854775807 ∧ (A = none → c = 0) := by
  rcases h with ⟨hv, hd⟩ | ⟨g, c, cur, hv, _, _, hn, hc, _⟩
  · subst hd
    exact ⟨none, 0, hv, Nat.le_refl _, by omega, fun _ => rfl⟩
  · exact ⟨_, c, hv, hn, by unfold maxLen at hc; omega, fun h => by cases h⟩
end Go.Proofs.Ytioheadchhkjmaa
