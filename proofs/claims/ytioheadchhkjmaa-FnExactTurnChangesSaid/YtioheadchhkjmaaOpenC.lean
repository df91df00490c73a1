/-
  The changes that came in.
-/
import Derived.Test.YtioheadchhkjmaaOpen
import Derived.Test.YtioheadchhkjmaaMemH
namespace Go.Proofs.Ytioheadchhkjmaa
open Go.ChangeShapes Go.WideShapes Go.ChangeAt Go.RowKit Go.Deep

section
variable {H : Type} {enc : TypeId × Value → H} {P : Program} {w : World}
/-- A slice of changes that came in. -/
theorem open_chs {t e : TypeId} {f0 f1 f2 f3 : Field} {fuel : Nat} {v : Value} {y : DataW H × List MemPlace} (ht : P.underlying t = some (.slice e)) (he : P.underlying e = some (.struct #[f0, f1, f2, f3])) (hone : oneCellFields P #[f0, f1, f2, f3] = true)
    (hC : P.cellsOf e = 4) (h0 : P.underlying f0.type = some (.int .i64)) (h1 : P.underlying f1.type = some .string) (h2 : P.underlying f2.type = some (.int .i64)) (h3 : P.underlying f3.type = some (.int .i64)) (hb : P.bytesOf e = 40)
    (h : DataW.trod enc P w 0 (fun _ => true) true fuel t [v] = some y) (hw : ∀ x ∈ y.1.weights P t, x ≤ reachBytes) : ∃ A n c ds, v = .slice A n c ∧ RdH w w.heap.size A n c ds := by
  rcases open_slice ht h with ⟨hv, _⟩ | ⟨a, n, c, m, k, X, Pl, hv, _, hn, hc, hm, rfl, hi⟩
  · simp only [List.cons.injEq, and_true] at hv
    exact ⟨none, 0, 0, [], hv, rfl, Nat.le_refl _, by omega, ⟨by simp, by simp⟩, fun h => absurd h (by omega)⟩
  · simp only [List.cons.injEq, and_true] at hv
    simp only [if_true] at hm
    subst hm
    rw [hC] at hi
    obtain ⟨o0, k0⟩ := hone_of hone 0 f0 rfl
    obtain ⟨o1, k1⟩ := hone_of hone 1 f1 rfl
    obtain ⟨o2, k2⟩ := hone_of hone 2 f2 rfl
    obtain ⟨o3, k3⟩ := hone_of hone 3 f3 rfl
    haveI : Inhabited Ch := ⟨noH⟩
    obtain ⟨V, hV⟩ := choose_lt (α := Ch) (p := fun i d => w.cell? (a.add (i * 4)) = some (.int .i64 d.kind) ∧ w.cell? ((a.add (i * 4)).add 1) = some (.string d.name) ∧ w.cell? ((a.add (i * 4)).add 2) = some (.int .i64 d.was) ∧ w.cell? ((a.add (i * 4)).add 3) = some (.int .i64 d.will) ∧ d.name.size ≤ maxLen ∧ (Lit.int .i64 d.kind).wf = true ∧ (Lit.int .i64 d.was).wf = true ∧ (Lit.int .i64 d.will).wf = true) (fun i him => by
      obtain ⟨cs, hcs, htr⟩ := hi i him
      obtain ⟨_, hlen, hcell⟩ := World.cells?_some hcs
      obtain ⟨xs, n', _, _, _, hxl, hf⟩ := DataW.trod_struct he htr
      match cs, hlen with
      | [c0, c1, c2, c3], _ =>
        have g0 := hf 0 f0 rfl
        have g1 := hf 1 f1 rfl
        have g2 := hf 2 f2 rfl
        have g3 := hf 3 f3 rfl
        rw [o0, k0] at g0
        rw [o1, k1] at g1
        rw [o2, k2] at g2
        rw [o3, k3] at g3
        match xs, hxl with
        | [y0, y1, y2, y3], _ =>
          obtain ⟨z0, hz0, _, wf0⟩ := DataW.trod_int h0 (x := y0) (by simpa using g0)
          obtain ⟨s, hs, _, hsl⟩ := DataW.trod_string h1 (x := y1) (by simpa using g1)
          obtain ⟨z2, hz2, _, wf2⟩ := DataW.trod_int h2 (x := y2) (by simpa using g2)
          obtain ⟨z3, hz3, _, wf3⟩ := DataW.trod_int h3 (x := y3) (by simpa using g3)
          have e0 := hcell 0 (by omega)
          have e1 := hcell 1 (by omega)
          have e2 := hcell 2 (by omega)
          have e3 := hcell 3 (by omega)
          simp at hs hz0 hz2 hz3
          subst hs; subst hz0; subst hz2; subst hz3
          exact ⟨⟨z0, s, z2, z3⟩, by simpa [Addr.add] using e0, by simpa using e1, by simpa using e2, by simpa using e3, hsl, wf0, wf2, wf3⟩)
    refine ⟨some a, n, m, (List.range n).map V, hv, by simp, hn, ?_, ⟨?_, ?_⟩, fun hn0 => ?_⟩
    · exact hc
    · have := hw ((n + (m - n)) * P.bytesOf e) (by simp [DataW.weights, ht])
      rw [hb] at this
      unfold reachBytes at this
      simp; omega
    · intro d hd
      obtain ⟨i, hi', rfl⟩ := List.mem_map.1 hd
      obtain ⟨_, _, _, _, hs, w0, w1, w2⟩ := hV i (by have := List.mem_range.1 hi'; omega)
      simp [Lit.wf, IntKind.min, IntKind.max, IntKind.signed, IntKind.bits] at w0 w1 w2
      unfold maxLen at hs
      exact ⟨hs, ⟨by omega, by omega⟩, ⟨by omega, by omega⟩, ⟨by omega, by omega⟩⟩
    · obtain ⟨b, off, rfl, hblt⟩ := addr_of_cell (hV 0 (by omega)).1
      refine ⟨b, off, rfl, hblt, fun i hi' => ?_⟩
      obtain ⟨e0, e1, e2, e3, _⟩ := hV i (by omega)
      have en : nthH ((List.range n).map V) i = V i := by simp [nthH, hi']
      rw [en]
      simp only [add_plain] at e0 e1 e2 e3
      exact ⟨e0, e1, e2, e3⟩
end
set_option maxRecDepth 100000 in
theorem open_changes {H : Type} {enc : TypeId × Value → H} {W : World} {r : Reach} {base : Nat} {v : Value} {d : DataW H} {p : List MemPlace} (hv : Value.okWide Try.prog W r base 22 v)
    (h : DataW.Trod enc Try.prog W 0 (fun _ => true) true 22 v d p) (hw : ∀ x ∈ d.weights Try.prog 22, x ≤ reachBytes) :
    ∃ A n c ds, v = .slice A n c ∧ RdH W W.heap.size A n c ds := by
  obtain ⟨A0, n0, c0, rfl⟩ := okWide_slice Try.underlying22 hv
  obtain ⟨fuel, hf⟩ := h
  exact open_chs Try.underlying22 Try.underlying54 (by kernel_rfl) (by kernel_rfl) Try.underlying3 Try.underlying9 Try.underlying3 Try.underlying3 (by kernel_rfl) (y := (d, p)) (by simpa [Value.cells] using hf) hw
end Go.Proofs.Ytioheadchhkjmaa
