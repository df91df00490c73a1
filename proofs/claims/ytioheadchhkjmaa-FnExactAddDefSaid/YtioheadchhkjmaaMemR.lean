/-
  Words for memory: the code's bytes, the reader that draws numbers from them. No program is in sight.
-/
import Derived.Test.YtioheadchhkjmaaMem
import Derived.Maps.AppendAt
namespace Go.Proofs.Ytioheadchhkjmaa
open Go.RowKit

/-- The slice value '.slice A n c' holds n bytes, below block B. -/
def RdB (w : World) (B : Nat) (A : Option Addr) (n c : Nat) : Prop :=
  n ≤ c ∧ c ≤ 9223372036854775807 ∧ (0 < n → ∃ b off, A = some ⟨b, off, none⟩ ∧ b < B ∧ ∀ i, i < n → ∃ x : Int, w.cell? ⟨b, off + i, none⟩ = some (.int .u8 x) ∧ 0 ≤ x ∧ x ≤ 255)
theorem RdB.keep {w w' : World} {B n c : Nat} {A : Option Addr} (h : RdB w B A n c) (hk : ∀ b o, b < B → w'.cell? ⟨b, o, none⟩ = w.cell? ⟨b, o, none⟩) : RdB w' B A n c := by
  obtain ⟨h1, h2, h5⟩ := h
  refine ⟨h1, h2, fun hn => ?_⟩
  obtain ⟨b, off, e, hb, hc⟩ := h5 hn
  refine ⟨b, off, e, hb, fun i hi => ?_⟩
  obtain ⟨x, hx, h⟩ := hc i hi
  exact ⟨x, (hk _ _ hb).trans hx, h⟩
theorem RdB.below {w w' : World} {B n c : Nat} {A : Option Addr} (h : RdB w B A n c) (hb : Below B w w') : RdB w' B A n c := h.keep fun b o hp => hb.cell (p := ⟨b, o, none⟩) hp
theorem RdB.more {w : World} {B B' n c : Nat} {A : Option Addr} (h : RdB w B A n c) (hB : B ≤ B') : RdB w B' A n c := by
  obtain ⟨h1, h2, h5⟩ := h
  refine ⟨h1, h2, fun hn => ?_⟩
  obtain ⟨b, off, e, hb, hc⟩ := h5 hn
  exact ⟨b, off, e, by omega, hc⟩
theorem RdB.cut {w : World} {B n c m : Nat} {A : Option Addr} (h : RdB w B A n c) (hm : m ≤ n) : RdB w B A m c := by
  obtain ⟨h1, h2, h5⟩ := h
  refine ⟨by omega, h2, fun hn => ?_⟩
  obtain ⟨b, off, e, hb, hc⟩ := h5 (by omega)
  exact ⟨b, off, e, hb, fun i hi => hc i (by omega)⟩

/-- A reader lies in block g, not below block base; its bytes lie below base; k more numbers can be drawn. -/
def Rdr (w : World) (base g : Nat) (t : TypeId) (k : Nat) : Prop :=
  base ≤ g ∧ ∃ A n c p, n ≤ 2000 ∧ p + k ≤ 1000000 ∧ RdB w base A n c ∧ Blk w g t #[.slice A n c, .int .i64 ((p : Nat) : Int)]
theorem Rdr.less {w : World} {base g k k' : Nat} {t : TypeId} (h : Rdr w base g t k) (hk : k' ≤ k) : Rdr w base g t k' := by
  obtain ⟨h0, A, n, c, p, h1, h2, h3, h4⟩ := h
  exact ⟨h0, A, n, c, p, h1, by omega, h3, h4⟩
theorem Rdr.lt {w : World} {base g k : Nat} {t : TypeId} (h : Rdr w base g t k) : g < w.heap.size := by
  obtain ⟨_, A, n, c, p, _, _, _, h4⟩ := h
  exact h4.lt
theorem Rdr.below {w w' : World} {base g k : Nat} {t : TypeId} (h : Rdr w base g t k) (hb : Below w.heap.size w w') : Rdr w' base g t k := by
  have hlt := h.lt
  obtain ⟨h0, A, n, c, p, h1, h2, h3, h4⟩ := h
  exact ⟨h0, A, n, c, p, h1, h2, h3.below (hb.mono (by omega)), h4.below hb hlt⟩
theorem Rdr.drew {w : World} {base g k : Nat} {t : TypeId} (h : Rdr w base g t k) : Rdr w.drew base g t k := h

/-! Worlds that have grown, with block g alone turned. -/
theorem grown_of {w w' : World} (h : Below w.heap.size w w') (g : Option Nat) : w.grownBy w' g := ⟨h.os, h.tape, h.output, h.size, fun i hi _ => h.block i hi⟩
theorem grown_below {w w' : World} {base g : Nat} (h : w.grownBy w' (some g)) (hg : base ≤ g) (hb : base ≤ w.heap.size) : Below base w w' :=
  ⟨h.os, h.tape, h.output, h.size, fun i hi => h.block i (by omega) (by simp; omega)⟩
theorem grown_drew {w w' : World} {g : Option Nat} (h : w.grownBy w' g) : w.grownBy w'.drew g := ⟨h.os, h.tape, h.output, h.size, h.block⟩
theorem grown_set {w w' : World} {g i : Nat} (h : w.grownBy w' (some g)) (u : Value) : w.grownBy (w'.setCell ⟨g, i, none⟩ u) (some g) :=
  ⟨h.os, h.tape, h.output, by simpa using h.size, fun j hj hne => (Below.heap_setCell w' ⟨g, i, none⟩ u j (by simpa using fun h' => hne (by rw [h']))).trans (h.block j hj hne)⟩
theorem Blk.grown {w w' : World} {g i : Nat} {t : TypeId} {cs : Array Value} (h : Blk w i t cs) (hg : w.grownBy w' (some g)) (hne : i ≠ g) : Blk w' i t cs := (hg.block i h.lt (by simpa using hne)).trans h
theorem Blk.gr {w w' : World} {g i : Nat} {t : TypeId} {cs : Array Value} (h : Blk w i t cs) (hg : w.grownBy w' (some g)) (hne : g < i) : Blk w' i t cs := h.grown hg (by omega)
theorem own_grown {w w' : World} {base g n size : Nat} {t : TypeId} {v : Value} {xs : List Value} (h : w.ownsRow base t size v n xs) (hg : w.grownBy w' (some g)) (hlt : g < base) : w'.ownsRow base t size v n xs :=
  h.kept hg (by
    cases hv : v.ownBlock with
    | none => exact .inl rfl
    | some i => exact .inr (by have := (h.lt i hv).1; simp; omega))
theorem own_below {w w' : World} {base n size : Nat} {t : TypeId} {v : Value} {xs : List Value} (h : w.ownsRow base t size v n xs) (hb : Below w.heap.size w w') : w'.ownsRow base t size v n xs :=
  h.kept (row := none) ⟨hb.os, hb.tape, hb.output, hb.size, fun i hi _ => hb.block i hi⟩ (by cases hv : v.ownBlock <;> simp)
end Go.Proofs.Ytioheadchhkjmaa
