/-
  Words for memory: a slice of texts that reads as a list. No program is in sight.
-/
import Derived.Test.YtioheadchhkjmaaMem
namespace Go.Proofs.Ytioheadchhkjmaa
open Go.RowKit

/-- The texts are such as Go can hold. -/
def GoodS (ss : List ByteArray) : Prop := ss.length ≤ 8796093022208 ∧ ∀ s ∈ ss, s.size ≤ 9223372036854775807
/-- The i-th text. -/
def nthS (ss : List ByteArray) (i : Nat) : ByteArray := ss.getD i ByteArray.empty
theorem nthS_mem {ss : List ByteArray} {i : Nat} (h : i < ss.length) : nthS ss i ∈ ss := by
  unfold nthS; rw [List.getD_eq_getElem?_getD, List.getElem?_eq_getElem h]; exact List.getElem_mem h
theorem GoodS.nth {ss : List ByteArray} (h : GoodS ss) {i : Nat} (hi : i < ss.length) : (nthS ss i).size ≤ 9223372036854775807 := h.2 _ (nthS_mem hi)
/-- The cells of texts. -/
def flatS (ss : List ByteArray) : List Value := ss.map .string
theorem flatS_at (ss : List ByteArray) (i : Nat) (h : i < ss.length) : (flatS ss)[i]? = some (.string (nthS ss i)) := by
  unfold flatS nthS
  rw [List.getElem?_map, List.getElem?_eq_getElem h]
  simp [h]
theorem nthS_snoc_lt {ss : List ByteArray} {s : ByteArray} {i : Nat} (h : i < ss.length) : nthS (ss ++ [s]) i = nthS ss i := by
  unfold nthS; simp [List.getElem?_append_left h]
theorem nthS_snoc_eq {ss : List ByteArray} {s : ByteArray} : nthS (ss ++ [s]) ss.length = s := by
  unfold nthS; simp
/-- The texts after k of them have been copied into a new row of them. -/
def upToS (ss : List ByteArray) (k : Nat) : List ByteArray := ss.take k ++ List.replicate (ss.length - k) ByteArray.empty
theorem upToS_length (ss : List ByteArray) (k : Nat) (h : k ≤ ss.length) : (upToS ss k).length = ss.length := by simp [upToS]; omega
theorem upToS_zero (ss : List ByteArray) : upToS ss 0 = List.replicate ss.length ByteArray.empty := by simp [upToS]
theorem upToS_end (ss : List ByteArray) : upToS ss ss.length = ss := by simp [upToS]
theorem upToS_succ (ss : List ByteArray) {k : Nat} (h : k < ss.length) : (upToS ss k).set k (nthS ss k) = upToS ss (k + 1) := by
  unfold upToS nthS
  rw [List.set_append]
  simp only [List.length_take, Nat.min_eq_left (Nat.le_of_lt h), Nat.lt_irrefl, if_false, Nat.sub_self]
  rw [show ss.length - k = ss.length - (k + 1) + 1 from by omega, List.replicate_succ, List.set_cons_zero, List.take_succ_eq_append_getElem h, List.append_assoc]
  simp [List.getD_eq_getElem?_getD, h]
theorem made_texts (n : Nat) : madeCells #[.string ByteArray.empty] (n * 1) = (flatS (List.replicate n ByteArray.empty)).toArray := by
  apply Array.ext
  · simp [madeCells, flatS]
  · intro j h1 h2
    simp [madeCells, flatS, Nat.mod_one]
/-- 'make' of a row of texts. -/
theorem run_make_texts {P : Program} {t e : TypeId} {i : TypeInfo} (ht : P.underlying t = some (.slice e)) (hi : P.info? e = some i) (hz : i.zero = some (.string ByteArray.empty)) (hs : i.size = 1) (hb : i.bytes = 16)
    (n : Nat) (hn : n ≤ 8796093022208) (w : World) :
    (Instr.makeSlice t (.int .i64 (n : Int)) (.int .i64 (n : Int))).run P w = .ok (.slice (some ⟨w.heap.size, 0, none⟩) n n) (w.alloc (.cells (flatS (List.replicate n ByteArray.empty)).toArray e)) := by
  have h := run_make (P := P) w t e i _ ht hi hz .i64 .i64 (n : Int) (n : Int) (by omega) (by omega) (by rw [hb]; omega) (by omega)
  rw [hs, Int.toNat_natCast, show Value.cells (.string ByteArray.empty) = #[.string ByteArray.empty] from rfl, made_texts] at h
  exact h
/-- A row of texts lies in block g. -/
def RowS (w : World) (g : Nat) (t : TypeId) (ss : List ByteArray) : Prop := w.heap[g]? = some (.cells (flatS ss).toArray t (0, 0))

section
variable {w w' : World} {g : Nat} {t : TypeId} {ss : List ByteArray}
theorem RowS.lt (h : RowS w g t ss) : g < w.heap.size := by
  rcases Nat.lt_or_ge g w.heap.size with h1 | h1
  · exact h1
  · unfold RowS at h; rw [Array.getElem?_eq_none h1] at h; cases h
theorem RowS.below {B : Nat} (h : RowS w g t ss) (hb : Below B w w') (hg : g < B) : RowS w' g t ss := (hb.block g hg).trans h
theorem RowS.drew (h : RowS w g t ss) : RowS w.drew g t ss := h
theorem RowS.frozen (h : RowS w g t ss) (i : Nat) : w.frozen? ⟨g, i, none⟩ = false := by
  unfold RowS at h
  simp [World.frozen?, h]
theorem RowS.cell (h : RowS w g t ss) (i : Nat) : w.cell? ⟨g, i, none⟩ = (flatS ss)[i]? := by
  unfold RowS at h
  simp [World.cell?, h]
theorem RowS.cells (h : RowS w g t ss) {i : Nat} (hi : i < ss.length) : w.cell? ⟨g, i, none⟩ = some (.string (nthS ss i)) := by
  rw [h.cell]
  exact flatS_at ss i hi
theorem RowS.far (h : RowS w g t ss) {p : Addr} (hp : g ≠ p.block) (u : Value) : RowS (w.setCell p u) g t ss := (Below.heap_setCell w p u g hp).trans h
theorem RowS.alloc (h : RowS w g t ss) (o : Obj) : RowS (w.alloc o) g t ss := (Below.heap_alloc w o g h.lt).trans h
/-- A text is stored into a row. -/
theorem RowS.set_ (h : RowS w g t ss) (i : Nat) (s : ByteArray) : RowS (w.setCell ⟨g, i, none⟩ (.string s)) g t (ss.set i s) := by
  unfold RowS at *
  simp only [World.setCell, Array.getElem?_modify, h]
  simp only [if_true, Option.map_some, Option.some.injEq]
  simp [flatS, List.map_set]
end

/-- The slice value '.slice A n c' holds the texts ss, below block B. -/
def RdS (w : World) (B : Nat) (A : Option Addr) (n c : Nat) (ss : List ByteArray) : Prop :=
  ss.length = n ∧ n ≤ c ∧ c ≤ 9223372036854775807 ∧ GoodS ss ∧
    (0 < n → ∃ b off, A = some ⟨b, off, none⟩ ∧ b < B ∧ ∀ i, i < n → w.cell? ⟨b, off + i, none⟩ = some (.string (nthS ss i)))

section
variable {w w' : World} {B B' n c : Nat} {A : Option Addr} {ss : List ByteArray}
theorem RdS.keep (h : RdS w B A n c ss) (hk : ∀ b o, b < B → w'.cell? ⟨b, o, none⟩ = w.cell? ⟨b, o, none⟩) : RdS w' B A n c ss := by
  obtain ⟨h1, h2, h3, h4, h5⟩ := h
  refine ⟨h1, h2, h3, h4, fun hn => ?_⟩
  obtain ⟨b, off, e, hb, hc⟩ := h5 hn
  exact ⟨b, off, e, hb, fun i hi => (hk _ _ hb).trans (hc i hi)⟩
theorem RdS.below (h : RdS w B A n c ss) (hb : Below B w w') : RdS w' B A n c ss := h.keep fun b o hp => hb.cell (p := ⟨b, o, none⟩) hp
theorem RdS.drew (h : RdS w B A n c ss) : RdS w.drew B A n c ss := h
theorem RdS.more (h : RdS w B A n c ss) (hB : B ≤ B') : RdS w B' A n c ss := by
  obtain ⟨h1, h2, h3, h4, h5⟩ := h
  refine ⟨h1, h2, h3, h4, fun hn => ?_⟩
  obtain ⟨b, off, e, hb, hc⟩ := h5 hn
  exact ⟨b, off, e, by omega, hc⟩
theorem RdS.to (h : RdS w w.heap.size A n c ss) (hb : Below w.heap.size w w') : RdS w' w'.heap.size A n c ss := (h.below hb).more hb.size
theorem RowS.rd {g : Nat} {t : TypeId} (h : RowS w g t ss) (hg : GoodS ss) : RdS w w.heap.size (some ⟨g, 0, none⟩) ss.length ss.length ss :=
  ⟨rfl, Nat.le_refl _, by have := hg.1; omega, hg, fun _ => ⟨g, 0, rfl, h.lt, fun i hi => by simpa using h.cells hi⟩⟩
/-- What the call owns reads as a list of texts. -/
theorem own_rdS {base : Nat} {t : TypeId} {v : Value} (h : w.ownsRow base t 1 v ss.length (flatS ss)) (hg : GoodS ss) : ∃ A c, v = .slice A ss.length c ∧ RdS w w.heap.size A ss.length c ss := by
  rcases h.2 with ⟨hv, h0⟩ | ⟨g, cap, cur, hv, hb, hh, hn, hc, hs, ht⟩
  · exact ⟨none, 0, by rw [hv, h0], rfl, by omega, by omega, hg, fun hn => by omega⟩
  · refine ⟨some ⟨g, 0, none⟩, cap, hv, rfl, hn, hc, hg, fun hn0 => ⟨g, 0, rfl, ?_, fun i hi => ?_⟩⟩
    · rcases Nat.lt_or_ge g w.heap.size with h1 | h1
      · exact h1
      · rw [Array.getElem?_eq_none h1] at hh; cases hh
    · have hf := flatS_at ss i hi
      have hcell : ∀ j, j < ss.length * 1 → w.cell? ⟨g, j, none⟩ = (flatS ss)[j]? := fun j hj => by
        rw [← ht, List.getElem?_take, if_pos hj]
        simp [World.cell?, hh]
      rw [Nat.zero_add, hcell _ (by omega)]
      exact hf
theorem flatS_snoc (ss : List ByteArray) (s : ByteArray) : flatS (ss ++ [s]) = flatS ss ++ [.string s] := by simp [flatS]
end
end Go.Proofs.Ytioheadchhkjmaa
