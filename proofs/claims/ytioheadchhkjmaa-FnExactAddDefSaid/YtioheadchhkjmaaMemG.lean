/-
  Words for memory while numbers are drawn: the reader alone turns, and rows that the draw itself makes. No program is in sight.
-/
import Derived.Test.YtioheadchhkjmaaMemR
import Derived.Maps.AppendAt
import Derived.Deep.AppendLies
namespace Go.Proofs.Ytioheadchhkjmaa
open Go.RowKit

theorem grown_refl (w : World) (row : Option Nat) : w.grownBy w row := ⟨rfl, rfl, rfl, Nat.le_refl _, fun _ _ _ => rfl⟩
/-- The reader is kept where another block is written. -/
theorem Rdr.row {w w' : World} {base g k : Nat} {t : TypeId} {row : Option Nat} (h : Rdr w base g t k) (hg : w.grownBy w' row) (hr : ∀ i, row = some i → base ≤ i ∧ i ≠ g) : Rdr w' base g t k := by
  have hlt := h.lt
  obtain ⟨h0, A, n, c, p, h1, h2, h3, h4⟩ := h
  exact ⟨h0, A, n, c, p, h1, h2, h3.keep fun b o hb => World.cell?_of_block (w := w) (a := ⟨b, o, none⟩) (hg.block b (show b < w.heap.size by omega) fun e => by have := (hr b e.symm).1; omega), (hg.block g hlt fun e => (hr g e.symm).2 rfl).trans h4⟩

/-- Since the world w numbers have been drawn, k more can be drawn, and all else that was is as it was. -/
structure DS (w : World) (base g : Nat) (t : TypeId) (k : Nat) (w' : World) : Prop where
  lt : g < w.heap.size
  rd : Rdr w' base g t k
  gr : w.grownBy w' (some g)
section
variable {w a b : World} {base g k : Nat} {t : TypeId}
theorem DS.start (h : Rdr w base g t k) : DS w base g t k w := ⟨h.lt, h, grown_refl w (some g)⟩
theorem DS.size (h : DS w base g t k a) : w.heap.size ≤ a.heap.size := h.gr.size
theorem DS.bse (h : DS w base g t k a) : base ≤ w.heap.size := by have := h.rd.1; have := h.lt; omega
theorem DS.less {k' : Nat} (h : DS w base g t k a) (hk : k' ≤ k) : DS w base g t k' a := ⟨h.lt, h.rd.less hk, h.gr⟩
theorem DS.row {row : Option Nat} (h : DS w base g t k a) (hg : a.grownBy b row) (hr : ∀ i, row = some i → w.heap.size ≤ i) : DS w base g t k b :=
  ⟨h.lt, h.rd.row hg fun i hi => ⟨by have := hr i hi; have := h.bse; omega, by have := hr i hi; have := h.lt; omega⟩,
    ⟨hg.os.trans h.gr.os, hg.tape.trans h.gr.tape, hg.output.trans h.gr.output, Nat.le_trans h.gr.size hg.size, fun i hi hne => (hg.block i (Nat.lt_of_lt_of_le hi h.gr.size) (fun e => by have := hr i e.symm; omega)).trans (h.gr.block i hi hne)⟩⟩
theorem DS.alloc (h : DS w base g t k a) (o : Obj) : DS w base g t k (a.alloc o) := h.row (World.grownBy_alloc a o none) (by simp)
theorem DS.drew (h : DS w base g t k a) : DS w base g t k a.drew := ⟨h.lt, h.rd.drew, grown_drew h.gr⟩
theorem DS.below (h : DS w base g t k a) (hb : Below a.heap.size a b) : DS w base g t k b := h.row (row := none) ⟨hb.os, hb.tape, hb.output, hb.size, fun i hi _ => hb.block i hi⟩ (by simp)
theorem DS.set {p i : Nat} (h : DS w base g t k a) (hp : w.heap.size ≤ p) (u : Value) : DS w base g t k (a.setCell ⟨p, i, none⟩ u) :=
  h.row (grown_set (grown_refl a (some p)) u) fun j hj => by simp at hj; omega
theorem DS.draw {k' : Nat} (h : DS w base g t k a) (hr : Rdr b base g t k') (hg : a.grownBy b (some g)) : DS w base g t k' b :=
  ⟨h.lt, hr, World.grownBy.trans h.gr hg⟩
theorem DS.trans {k' : Nat} (h : DS w base g t k a) (h' : DS a base g t k' b) : DS w base g t k' b := h.draw h'.rd h'.gr
theorem DS.end_ (h : DS w base g t k a) (hB : base ≤ w.heap.size) : Below base w a := grown_below h.gr h.rd.1 hB
end

theorem Blk.row {w w' : World} {i : Nat} {t : TypeId} {cs : Array Value} {row : Option Nat} (h : Blk w i t cs) (hg : w.grownBy w' row) (hne : row ≠ some i) : Blk w' i t cs := (hg.block i h.lt (fun e => hne e.symm)).trans h
/-- The definitions are short, and their values are small. -/
def Fine (m : Nat) (ds : List D) : Prop := ds.length ≤ m ∧ ∀ d ∈ ds, d.1.size ≤ 10 ∧ -5000 ≤ d.2 ∧ d.2 ≤ 5000
theorem Fine.good {m : Nat} {ds : List D} (h : Fine m ds) (hm : m ≤ 1000) : Good ds := ⟨by have := h.1; omega, fun d hd => by have := h.2 d hd; omega⟩
theorem Fine.more {m m' : Nat} {ds : List D} (h : Fine m ds) (hm : m ≤ m') : Fine m' ds := ⟨by have := h.1; omega, h.2⟩
theorem Fine.nil (m : Nat) : Fine m [] := ⟨Nat.zero_le _, by simp⟩
theorem Fine.snoc {m : Nat} {ds : List D} (h : Fine m ds) {d : D} (h1 : d.1.size ≤ 10) (h2 : -5000 ≤ d.2 ∧ d.2 ≤ 5000) : Fine (m + 1) (ds ++ [d]) := by
  refine ⟨by have := h.1; simp; omega, fun x hx => ?_⟩
  rcases List.mem_append.1 hx with hx | hx
  · exact h.2 x hx
  · rw [List.mem_singleton.1 hx]; exact ⟨h1, h2⟩
theorem Fine.nth {m : Nat} {ds : List D} (h : Fine m ds) {i : Nat} (hi : i < ds.length) : (nth ds i).1.size ≤ 10 ∧ -5000 ≤ (nth ds i).2 ∧ (nth ds i).2 ≤ 5000 := h.2 _ (nth_mem hi)
theorem Fine.set {m : Nat} {ds : List D} (h : Fine m ds) (i : Nat) {d : D} (h1 : d.1.size ≤ 10) (h2 : -5000 ≤ d.2 ∧ d.2 ≤ 5000) : Fine m (ds.set i d) := by
  refine ⟨by rw [List.length_set]; exact h.1, fun x hx => ?_⟩
  rcases List.mem_or_eq_of_mem_set hx with hx | rfl
  · exact h.2 x hx
  · exact ⟨h1, h2⟩

/-- The call's own row of definitions. -/
def Own (w : World) (B : Nat) (t : TypeId) (v : Value) (ds : List D) : Prop := w.ownsRow B t 2 v ds.length (flat ds)
section
variable {w w' : World} {B : Nat} {t : TypeId} {v : Value} {ds : List D}
theorem Own.nil (w : World) (B : Nat) (t : TypeId) : Own w B t (.slice none 0 0) [] := World.ownsRow_nil w B t 2
theorem Own.alloc (h : Own w B t v ds) (o : Obj) : Own (w.alloc o) B t v ds := World.ownsRow.alloc h o
theorem Own.drew (h : Own w B t v ds) : Own w.drew B t v ds := h
theorem Own.below (h : Own w B t v ds) (hb : Below w.heap.size w w') : Own w' B t v ds := own_below h hb
theorem Own.draw {g : Nat} (h : Own w B t v ds) (hg : w.grownBy w' (some g)) (hlt : g < B) : Own w' B t v ds := own_grown h hg hlt
theorem Own.form (h : Own w B t v ds) : ∃ A c, v = .slice A ds.length c := by
  rcases h.2 with ⟨hv, h0⟩ | ⟨g, cap, _, hv, _⟩
  · exact ⟨none, 0, by rw [hv, h0]⟩
  · exact ⟨_, cap, hv⟩
theorem Own.far {p i : Nat} (h : Own w B t v ds) (hp : v.ownBlock ≠ some p) (u : Value) : Own (w.setCell ⟨p, i, none⟩ u) B t v ds :=
  World.ownsRow.kept h (grown_set (grown_refl w (some p)) u) (.inr hp)
theorem Own.base {B' : Nat} (h : Own w B t v ds) (hB : B' ≤ B) : Own w B' t v ds := by
  refine ⟨h.1, h.2.imp id ?_⟩
  rintro ⟨g, cap, cur, hv, hb, hr⟩
  exact ⟨g, cap, cur, hv, Nat.le_trans hB hb, hr⟩
theorem Own.ne (h : Own w B t v ds) {p : Nat} (hp : p < B ∨ w.heap.size ≤ p) : v.ownBlock ≠ some p := fun e => by have := World.ownsRow.lt h p e; omega
theorem Own.rd {m : Nat} (h : Own w B t v ds) (hf : Fine m ds) (hm : m ≤ 1000) : ∃ A c, v = .slice A ds.length c ∧ Rd w w.heap.size A ds.length c ds := own_rd h (hf.good hm)
end
end Go.Proofs.Ytioheadchhkjmaa
