/-
  The code's bytes that came in.
-/
import Derived.Test.YtioheadchhkjmaaOpen
import Derived.Test.YtioheadchhkjmaaMemR
import Derived.ChangeSlices
namespace Go.Proofs.Ytioheadchhkjmaa
open Go.ChangeShapes Go.WideShapes Go.ChangeAt Go.RowKit Go.Deep

theorem open_code {H : Type} {enc : TypeId × Value → H} {W : World} {r : Reach} {base : Nat} {v : Value} {d : DataW H} {p : List MemPlace} (hv : Value.okWide Try.prog W r base 30 v)
    (h : DataW.Trod enc Try.prog W 0 (fun _ => true) true 30 v d p) :
    ∃ A n c, v = .slice A n c ∧ RdB W W.heap.size A n c := by
  obtain ⟨A0, n0, c0, rfl⟩ := okWide_slice Try.underlying30 hv
  obtain ⟨fuel, hf⟩ := h
  rcases open_ints Try.underlying30 Try.underlying5 (by kernel_rfl) hf with ⟨hcs, _⟩ | ⟨a, n, c, zs, hcs, _, hn, hc, hz, hx, hi, hwf⟩
  · simp [Value.cells] at hcs
    obtain ⟨rfl, rfl, rfl⟩ := hcs
    exact ⟨none, 0, 0, rfl, Nat.le_refl _, by omega, fun h => absurd h (by omega)⟩
  · simp [Value.cells] at hcs
    obtain ⟨rfl, rfl, rfl⟩ := hcs
    simp only [if_true] at hz
    unfold maxLen at hc
    refine ⟨some a, n0, c0, rfl, hn, by omega, fun hn0 => ?_⟩
    obtain ⟨b, off, rfl, hblt⟩ := addr_of_cell (hi 0 (by omega))
    refine ⟨b, off, rfl, hblt, fun i hi' => ?_⟩
    have hlt : i < zs.length := by omega
    have e := hi i hlt
    rw [add_plain] at e
    have hw := hwf (zs.getD i 0) (by rw [List.getD_eq_getElem?_getD, List.getElem?_eq_getElem hlt]; exact List.getElem_mem hlt)
    simp [Lit.wf, IntKind.min, IntKind.max, IntKind.signed, IntKind.bits] at hw
    exact ⟨_, e, by simpa using hw.1, by simpa using hw.2⟩
end Go.Proofs.Ytioheadchhkjmaa
