/-
  A list of texts that came in.
-/
import Derived.Test.YteilnbbbcekcaaaOpen
import Derived.Test.YteilnbbbcekcaaaMemS
import Derived.Deep.Strs
namespace Go.Proofs.Yteilnbbbcekcaaa
open Go.ChangeShapes Go.WideShapes Go.ChangeAt Go.RowKit Go.Deep

theorem open_texts {H : Type} {enc : TypeId × Value → H} {W : World} {r : Reach} {base : Nat} {v : Value} {d : DataW H} {p : List MemPlace} (hv : Value.okWide Try.prog W r base 39 v)
    (h : DataW.Trod enc Try.prog W 0 (fun _ => true) true 39 v d p) (hw : ∀ x ∈ d.weights Try.prog 39, x ≤ reachBytes) :
    ∃ A n c ss, v = .slice A n c ∧ RdS W W.heap.size A n c ss := by
  obtain ⟨A0, n0, c0, rfl⟩ := okWide_slice Try.underlying39 hv
  obtain ⟨fuel, hf⟩ := h
  have hb : Try.prog.bytesOf 9 = 16 := by kernel_rfl
  rcases open_strs Try.underlying39 Try.underlying9 (by kernel_rfl) hf with ⟨hcs, _⟩ | ⟨a, n, c, m, Sx, hcs, _, hn, hc, hm, hx, hi⟩
  · simp [Value.cells] at hcs
    obtain ⟨rfl, rfl, rfl⟩ := hcs
    exact ⟨none, 0, 0, [], rfl, rfl, Nat.le_refl _, by omega, ⟨by simp, by simp⟩, fun h => absurd h (by omega)⟩
  · simp [Value.cells] at hcs
    obtain ⟨rfl, rfl, rfl⟩ := hcs
    simp only [if_true] at hm
    subst hm
    unfold maxLen at hc hi
    refine ⟨some a, n0, m, (List.range n0).map Sx, rfl, by simp, hn, hc, ⟨?_, ?_⟩, fun hn0 => ?_⟩
    · simp only [Prod.mk.injEq] at hx
      have := hw ((n0 + (m - n0)) * Try.prog.bytesOf 9) (by rw [hx.1]; simp [DataW.weights, Try.underlying39])
      rw [hb] at this
      unfold reachBytes at this
      simp; omega
    · intro s hs
      obtain ⟨i, hi', rfl⟩ := List.mem_map.1 hs
      exact (hi i (by have := List.mem_range.1 hi'; omega)).2
    · obtain ⟨b, off, rfl, hblt⟩ := addr_of_cell (hi 0 (by omega)).1
      refine ⟨b, off, rfl, hblt, fun i hi' => ?_⟩
      have e := (hi i (by omega)).1
      rw [add_plain] at e
      have en : nthS ((List.range n0).map Sx) i = Sx i := by simp [nthS, hi']
      rw [en]
      exact e
end Go.Proofs.Yteilnbbbcekcaaa
