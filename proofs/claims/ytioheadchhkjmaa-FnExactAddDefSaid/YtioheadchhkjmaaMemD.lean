/-
  Words for memory: a name is stored into a row that the call has made. No program is in sight.
-/
import Derived.Test.YtioheadchhkjmaaMemC
import Derived.Test.YtioheadchhkjmaaMemE
namespace Go.Proofs.Ytioheadchhkjmaa
open Go.RowKit

section
variable {w : World} {B : Nat} {t : TypeId} {v : Value} {ds : List D} {b n c : Nat}
theorem OwnC.blk (h : OwnC w B t v ds) (h0 : 0 < ds.length) : ∃ b c, v = .slice (some ⟨b, 0, none⟩) ds.length c ∧ B ≤ b ∧ b < w.heap.size ∧ ds.length ≤ c ∧ c ≤ 9223372036854775807 := by
  rcases h with ⟨_, hn⟩ | ⟨g, c, cur, hv, hb, hg, hn, hc, _⟩
  · rw [hn] at h0; simp at h0
  · exact ⟨g, c, hv, hb, (Array.getElem?_eq_some_iff.1 hg).1, hn, by unfold maxLen at hc; omega⟩
theorem OwnC.name (h : OwnC w B t (.slice (some ⟨b, 0, none⟩) ds.length c) ds) {i : Nat} (hi : i < ds.length) (s : ByteArray) :
    (∃ x, w.cell? ⟨b, i * 2, none⟩ = some x) ∧ w.frozen? ⟨b, i * 2, none⟩ = false ∧
    OwnC (w.setCell ⟨b, i * 2, none⟩ (.string s)) B t (.slice (some ⟨b, 0, none⟩) (ds.set i (s, (nth ds i).2)).length c) (ds.set i (s, (nth ds i).2)) := by
  rcases h with ⟨hv, _⟩ | ⟨g, c', cur, hv, hb, hg, hn, hc, hs, ht⟩
  · simp at hv
  · simp only [Value.slice.injEq, Option.some.injEq, Addr.mk.injEq, and_true, true_and] at hv
    obtain ⟨rfl, rfl⟩ := hv
    have q : Blk w b t cur := hg
    have hx : i * 2 < cur.size := by omega
    refine ⟨⟨cur[i * 2], by rw [q.cell]; exact Array.getElem?_eq_getElem hx⟩, q.frozen _, .inr ⟨b, c, cur.setIfInBounds (i * 2) (.string s), rfl, hb, q.set_ _ _, by rw [List.length_set]; exact hn, hc, by rw [List.length_set, Array.size_setIfInBounds]; exact hs, ?_⟩⟩
    rw [List.length_set, Array.toList_setIfInBounds, List.take_set, ht, flat_name ds i s hi]
end
end Go.Proofs.Ytioheadchhkjmaa
