/-
  Words for memory: a slice of definitions (a name and a value) that reads as a list. No program is in sight.
-/
import Derived.Below
import Derived.Laws.OwnMore
import Derived.Laws.MakeOwn
import Derived.Deep.AppendLies
import Derived.Deep.Draws
namespace Go.Proofs.Ytioheadchhkjmaa
open Go.RowKit

/-- A definition: a name, and a value. -/
abbrev D := ByteArray × Int

/-- The definitions are such as Go can hold: no name, no value and no list is too great. -/
def Good (ds : List D) : Prop := ds.length ≤ 5864062014805 ∧ ∀ d ∈ ds, d.1.size ≤ 9223372036854775807 ∧ -9223372036854775808 ≤ d.2 ∧ d.2 ≤ 9223372036854775807

/-- The i-th definition. -/
def nth (ds : List D) (i : Nat) : D := ds.getD i (ByteArray.empty, 0)
theorem nth_take {ds : List D} {k i : Nat} (h : i < k) : nth (ds.take k) i = nth ds i := by
  unfold nth; simp [h]
theorem nth_mem {ds : List D} {i : Nat} (h : i < ds.length) : nth ds i ∈ ds := by
  unfold nth; rw [List.getD_eq_getElem?_getD, List.getElem?_eq_getElem h]; exact List.getElem_mem h
theorem Good.nth {ds : List D} (h : Good ds) {i : Nat} (hi : i < ds.length) : (nth ds i).1.size ≤ 9223372036854775807 ∧ -9223372036854775808 ≤ (nth ds i).2 ∧ (nth ds i).2 ≤ 9223372036854775807 := h.2 _ (nth_mem hi)

/-- The cells of definitions. -/
def flat (ds : List D) : List Value := ds.flatMap fun d => [.string d.1, .int .i64 d.2]
theorem flat_length (ds : List D) : (flat ds).length = ds.length * 2 := by
  induction ds with
  | nil => rfl
  | cons d ds ih => simp only [flat, List.flatMap_cons, List.length_append, List.length_cons, List.length_nil] at *; omega
theorem flat_append (xs ys : List D) : flat (xs ++ ys) = flat xs ++ flat ys := by simp [flat]
theorem flat_at (ds : List D) (i : Nat) (h : i < ds.length) : (flat ds)[i * 2]? = some (.string (nth ds i).1) ∧ (flat ds)[i * 2 + 1]? = some (.int .i64 (nth ds i).2) := by
  induction ds generalizing i with
  | nil => simp at h
  | cons d ds ih =>
    cases i with
    | zero => exact ⟨rfl, rfl⟩
    | succ i =>
      obtain ⟨h0, h1⟩ := ih i (by simpa using h)
      have e : flat (d :: ds) = .string d.1 :: .int .i64 d.2 :: flat ds := rfl
      rw [e, show (i + 1) * 2 = i * 2 + 1 + 1 from by omega, show nth (d :: ds) (i + 1) = nth ds i from rfl]
      exact ⟨by simpa using h0, by simpa using h1⟩
/-- The definition without a name, and with the value 0. -/
def noD : D := (ByteArray.empty, 0)
/-- The definitions after k of them have been copied into a new row of them. -/
def upTo (ds : List D) (k : Nat) : List D := ds.take k ++ List.replicate (ds.length - k) noD
theorem upTo_length (ds : List D) (k : Nat) (h : k ≤ ds.length) : (upTo ds k).length = ds.length := by simp [upTo]; omega
theorem upTo_zero (ds : List D) : upTo ds 0 = List.replicate ds.length noD := by simp [upTo]
theorem upTo_end (ds : List D) : upTo ds ds.length = ds := by simp [upTo]
theorem flat_zeros (n : Nat) : flat (List.replicate n noD) = (List.replicate n [Value.string ByteArray.empty, .int .i64 0]).flatten := by
  simp [flat, List.flatMap_def, noD]
theorem nth_replicate (n i : Nat) (h : i < n) : nth (List.replicate n noD) i = noD := by simp [nth, h]
theorem made_defs (n : Nat) : madeCells #[.string ByteArray.empty, .int .i64 0] (n * 2) = (flat (List.replicate n noD)).toArray := by
  apply Array.ext
  · simp [madeCells, flat_length]
  · intro j h1 h2
    have hj : j < n * 2 := by simpa [madeCells] using h1
    have hl : j / 2 < (List.replicate n noD).length := by simp; omega
    obtain ⟨f0, f1⟩ := flat_at (List.replicate n noD) (j / 2) hl
    rw [nth_replicate n (j / 2) (by omega)] at f0 f1
    rcases Nat.mod_two_eq_zero_or_one j with hm | hm
    · have e : j / 2 * 2 = j := by omega
      rw [e] at f0
      have := (List.getElem?_eq_some_iff.1 f0).2
      simp [madeCells, hm, this]
      rfl
    · have e : j / 2 * 2 + 1 = j := by omega
      rw [e] at f1
      have := (List.getElem?_eq_some_iff.1 f1).2
      simp [madeCells, hm, this]
      rfl
/-- 'make' of a row of definitions. -/
theorem run_make_defs {P : Program} {t e : TypeId} {i : TypeInfo} (ht : P.underlying t = some (.slice e)) (hi : P.info? e = some i) (hz : i.zero = some (.agg #[.string ByteArray.empty, .int .i64 0])) (hs : i.size = 2) (hb : i.bytes = 24)
    (n : Nat) (hn : n ≤ 5864062014805) (w : World) :
    (Instr.makeSlice t (.int .i64 (n : Int)) (.int .i64 (n : Int))).run P w = .ok (.slice (some ⟨w.heap.size, 0, none⟩) n n) (w.alloc (.cells (flat (List.replicate n noD)).toArray e)) := by
  have h := run_make (P := P) w t e i _ ht hi hz .i64 .i64 (n : Int) (n : Int) (by omega) (by omega) (by rw [hb]; omega) (by omega)
  rw [hs, Int.toNat_natCast, show Value.cells (.agg #[.string ByteArray.empty, .int .i64 0]) = #[.string ByteArray.empty, .int .i64 0] from rfl, made_defs] at h
  exact h
/-- A row of definitions lies in block g. -/
def Row (w : World) (g : Nat) (t : TypeId) (ds : List D) : Prop := w.heap[g]? = some (.cells (flat ds).toArray t (0, 0))

section
variable {w w' : World} {g : Nat} {t : TypeId} {ds : List D}
theorem Row.lt (h : Row w g t ds) : g < w.heap.size := by
  rcases Nat.lt_or_ge g w.heap.size with h1 | h1
  · exact h1
  · unfold Row at h; rw [Array.getElem?_eq_none h1] at h; cases h
theorem Row.below {B : Nat} (h : Row w g t ds) (hb : Below B w w') (hg : g < B) : Row w' g t ds := (hb.block g hg).trans h
theorem Row.drew (h : Row w g t ds) : Row w.drew g t ds := h
theorem Row.frozen (h : Row w g t ds) (i : Nat) : w.frozen? ⟨g, i, none⟩ = false := by
  unfold Row at h
  simp [World.frozen?, h]
theorem Row.cell (h : Row w g t ds) (i : Nat) : w.cell? ⟨g, i, none⟩ = (flat ds)[i]? := by
  unfold Row at h
  simp [World.cell?, h]
theorem Row.cells (h : Row w g t ds) {i : Nat} (hi : i < ds.length) : w.cell? ⟨g, i * 2, none⟩ = some (.string (nth ds i).1) ∧ w.cell? ⟨g, i * 2 + 1, none⟩ = some (.int .i64 (nth ds i).2) := by
  rw [h.cell, h.cell]
  exact flat_at ds i hi
theorem flat_set (ds : List D) (i : Nat) (d : D) (h : i < ds.length) : ((flat ds).set (i * 2) (.string d.1)).set (i * 2 + 1) (.int .i64 d.2) = flat (ds.set i d) := by
  induction ds generalizing i with
  | nil => simp at h
  | cons x ds ih =>
    cases i with
    | zero => rfl
    | succ i =>
      have h1 := ih i (by simpa using h)
      have e : flat (x :: ds) = .string x.1 :: .int .i64 x.2 :: flat ds := rfl
      rw [e, show (i + 1) * 2 = i * 2 + 1 + 1 from by omega, List.set_cons_succ, List.set_cons_succ, List.set_cons_succ, List.set_cons_succ, h1]
      rfl
theorem Row.far (h : Row w g t ds) {p : Addr} (hp : g ≠ p.block) (u : Value) : Row (w.setCell p u) g t ds := (Below.heap_setCell w p u g hp).trans h
theorem Row.alloc (h : Row w g t ds) (o : Obj) : Row (w.alloc o) g t ds := (Below.heap_alloc w o g h.lt).trans h
/-- A definition is stored into a row. -/
theorem Row.set_ (h : Row w g t ds) {i : Nat} (hi : i < ds.length) (d : D) : Row ((w.setCell ⟨g, i * 2, none⟩ (.string d.1)).setCell ⟨g, i * 2 + 1, none⟩ (.int .i64 d.2)) g t (ds.set i d) := by
  unfold Row at *
  simp only [World.setCell, Array.getElem?_modify, h]
  simp only [if_true, Option.map_some, Option.some.injEq]
  rw [← flat_set ds i d hi]
  simp
end
theorem upTo_succ (ds : List D) {k : Nat} (h : k < ds.length) : (upTo ds k).set k (nth ds k) = upTo ds (k + 1) := by
  unfold upTo nth
  rw [List.set_append]
  simp only [List.length_take, Nat.min_eq_left (Nat.le_of_lt h), Nat.lt_irrefl, if_false, Nat.sub_self]
  rw [show ds.length - k = ds.length - (k + 1) + 1 from by omega, List.replicate_succ, List.set_cons_zero, List.take_succ_eq_append_getElem h, List.append_assoc]
  simp [List.getD_eq_getElem?_getD, h]

/-- The slice value '.slice A n c' holds the definitions ds, below block B. -/
def Rd (w : World) (B : Nat) (A : Option Addr) (n c : Nat) (ds : List D) : Prop :=
  ds.length = n ∧ n ≤ c ∧ c ≤ 9223372036854775807 ∧ Good ds ∧
    (0 < n → ∃ b off, A = some ⟨b, off, none⟩ ∧ b < B ∧ ∀ i, i < n → w.cell? ⟨b, off + i * 2, none⟩ = some (.string (nth ds i).1) ∧ w.cell? ⟨b, off + i * 2 + 1, none⟩ = some (.int .i64 (nth ds i).2))

theorem cell_new1 (w : World) (v : Value) (t : TypeId) : (w.alloc (.cells #[v] t)).cell? ⟨w.heap.size, 0, none⟩ = some v := by
  rw [World.cell?_alloc_new]; rfl

theorem below_drewN {B : Nat} {a w : World} (h : Below B a w) (n : Nat) : Below B a (w.drewN n) := ⟨h.os, h.tape, h.output, h.size, h.block⟩
/-- A step further. -/
theorem Below.on {B : Nat} {a w w' : World} (h : Below B a w) (h' : Below w.heap.size w w') (hB : B ≤ w.heap.size) : Below B a w' := h.trans (h'.mono hB)

/-- A block that is known whole. -/
def Blk (w : World) (g : Nat) (t : TypeId) (cs : Array Value) : Prop := w.heap[g]? = some (.cells cs t (0, 0))
theorem Blk.lt {w : World} {g : Nat} {t : TypeId} {cs : Array Value} (h : Blk w g t cs) : g < w.heap.size := by
  rcases Nat.lt_or_ge g w.heap.size with h1 | h1
  · exact h1
  · unfold Blk at h; rw [Array.getElem?_eq_none h1] at h; cases h
theorem Blk.cell {w : World} {g : Nat} {t : TypeId} {cs : Array Value} (h : Blk w g t cs) (i : Nat) : w.cell? ⟨g, i, none⟩ = cs[i]? := by
  unfold Blk at h; simp [World.cell?, h]
theorem Blk.frozen {w : World} {g : Nat} {t : TypeId} {cs : Array Value} (h : Blk w g t cs) (i : Nat) : w.frozen? ⟨g, i, none⟩ = false := by
  unfold Blk at h; simp [World.frozen?, h]
theorem Blk.below {w w' : World} {B g : Nat} {t : TypeId} {cs : Array Value} (h : Blk w g t cs) (hb : Below B w w') (hg : g < B) : Blk w' g t cs := (hb.block g hg).trans h
theorem Blk.alloc {w : World} {g : Nat} {t : TypeId} {cs : Array Value} (h : Blk w g t cs) (o : Obj) : Blk (w.alloc o) g t cs := (Below.heap_alloc w o g h.lt).trans h
theorem Blk.drew {w : World} {g : Nat} {t : TypeId} {cs : Array Value} (h : Blk w g t cs) : Blk w.drew g t cs := h
theorem Blk.set_ {w : World} {g : Nat} {t : TypeId} {cs : Array Value} (h : Blk w g t cs) (i : Nat) (u : Value) : Blk (w.setCell ⟨g, i, none⟩ u) g t (cs.setIfInBounds i u) := by
  unfold Blk at h ⊢
  simp [World.setCell, Array.getElem?_modify, h]
theorem Blk.far {w : World} {g : Nat} {t : TypeId} {cs : Array Value} (h : Blk w g t cs) {p : Addr} (hp : g ≠ p.block) (u : Value) : Blk (w.setCell p u) g t cs := (Below.heap_setCell w p u g hp).trans h
theorem blk1 (w : World) (cs : Array Value) (t : TypeId) : Blk (w.alloc (.cells cs t)) w.heap.size t cs := heap_alloc_new w _
theorem blk2 (w : World) (o1 : Obj) (cs : Array Value) (t : TypeId) : Blk ((w.alloc o1).alloc (.cells cs t)) (w.heap.size + 1) t cs := by
  have h := blk1 (w.alloc o1) cs t; rwa [World.size_alloc] at h
theorem blk3 (w : World) (o1 o2 : Obj) (cs : Array Value) (t : TypeId) : Blk (((w.alloc o1).alloc o2).alloc (.cells cs t)) (w.heap.size + 1 + 1) t cs := by
  have h := blk2 (w.alloc o1) o2 cs t; rwa [World.size_alloc] at h
theorem blk4 (w : World) (o1 o2 o3 : Obj) (cs : Array Value) (t : TypeId) : Blk ((((w.alloc o1).alloc o2).alloc o3).alloc (.cells cs t)) (w.heap.size + 1 + 1 + 1) t cs := by
  have h := blk3 (w.alloc o1) o2 o3 cs t; rwa [World.size_alloc] at h
theorem below1 (w : World) (o1 : Obj) : Below w.heap.size w (w.alloc o1) := (Below.refl _ _).alloc (Nat.le_refl _) o1
theorem below2 (w : World) (o1 o2 : Obj) : Below w.heap.size w ((w.alloc o1).alloc o2) := (below1 w o1).alloc (by simp) o2
theorem below3 (w : World) (o1 o2 o3 : Obj) : Below w.heap.size w (((w.alloc o1).alloc o2).alloc o3) := (below2 w o1 o2).alloc (by simp; omega) o3
theorem below4 (w : World) (o1 o2 o3 o4 : Obj) : Below w.heap.size w ((((w.alloc o1).alloc o2).alloc o3).alloc o4) := (below3 w o1 o2 o3).alloc (by simp; omega) o4

section
variable {w w' : World} {B B' n c : Nat} {A : Option Addr} {ds : List D}
theorem Rd.keep (h : Rd w B A n c ds) (hk : ∀ b o, b < B → w'.cell? ⟨b, o, none⟩ = w.cell? ⟨b, o, none⟩) : Rd w' B A n c ds := by
  obtain ⟨h1, h2, h3, h4, h5⟩ := h
  refine ⟨h1, h2, h3, h4, fun hn => ?_⟩
  obtain ⟨b, off, e, hb, hc⟩ := h5 hn
  exact ⟨b, off, e, hb, fun i hi => ⟨(hk _ _ hb).trans (hc i hi).1, (hk _ _ hb).trans (hc i hi).2⟩⟩
theorem Rd.below (h : Rd w B A n c ds) (hb : Below B w w') : Rd w' B A n c ds := h.keep fun b o hp => hb.cell (p := ⟨b, o, none⟩) hp
theorem Rd.drew (h : Rd w B A n c ds) : Rd w.drew B A n c ds := h
theorem Rd.to (h : Rd w w.heap.size A n c ds) (hb : Below w.heap.size w w') : Rd w' w'.heap.size A n c ds := by
  obtain ⟨h1, h2, h3, h4, h5⟩ := h.below hb
  refine ⟨h1, h2, h3, h4, fun hn => ?_⟩
  obtain ⟨b, off, e, hlt, hc⟩ := h5 hn
  exact ⟨b, off, e, Nat.lt_of_lt_of_le hlt hb.size, hc⟩
theorem Row.rd {g : Nat} {t : TypeId} (h : Row w g t ds) (hg : Good ds) : Rd w w.heap.size (some ⟨g, 0, none⟩) ds.length ds.length ds :=
  ⟨rfl, Nat.le_refl _, by have := hg.1; omega, hg, fun _ => ⟨g, 0, rfl, h.lt, fun i hi => by simpa using h.cells hi⟩⟩
theorem Rd.more (h : Rd w B A n c ds) (hB : B ≤ B') : Rd w B' A n c ds := by
  obtain ⟨h1, h2, h3, h4, h5⟩ := h
  refine ⟨h1, h2, h3, h4, fun hn => ?_⟩
  obtain ⟨b, off, e, hb, hc⟩ := h5 hn
  exact ⟨b, off, e, by omega, hc⟩
theorem Rd.take {k : Nat} (h : Rd w B A n c ds) (hk : k ≤ n) : Rd w B A k c (ds.take k) := by
  obtain ⟨h1, h2, h3, h4, h5⟩ := h
  refine ⟨by rw [List.length_take]; omega, by omega, h3, ⟨by rw [List.length_take]; have := h4.1; omega, fun d hd => h4.2 d (List.mem_of_mem_take hd)⟩, fun hn => ?_⟩
  obtain ⟨b, off, e, hb, hc⟩ := h5 (by omega)
  refine ⟨b, off, e, hb, fun i hi => ?_⟩
  rw [nth_take hi]
  exact hc i (by omega)
/-- What the call owns reads as a list. -/
theorem own_rd {base : Nat} {t : TypeId} {v : Value} (h : w.ownsRow base t 2 v ds.length (flat ds)) (hg : Good ds) : ∃ A c, v = .slice A ds.length c ∧ Rd w w.heap.size A ds.length c ds := by
  rcases h.2 with ⟨hv, h0⟩ | ⟨g, cap, cur, hv, hb, hh, hn, hc, hs, ht⟩
  · exact ⟨none, 0, by rw [hv, h0], rfl, by omega, by omega, hg, fun hn => by omega⟩
  · refine ⟨some ⟨g, 0, none⟩, cap, hv, rfl, hn, hc, hg, fun hn0 => ⟨g, 0, rfl, ?_, fun i hi => ?_⟩⟩
    · rcases Nat.lt_or_ge g w.heap.size with h1 | h1
      · exact h1
      · rw [Array.getElem?_eq_none h1] at hh; cases hh
    · have hf := flat_at ds i hi
      have hcell : ∀ j, j < ds.length * 2 → w.cell? ⟨g, j, none⟩ = (flat ds)[j]? := fun j hj => by
        rw [← ht, List.getElem?_take, if_pos hj]
        simp [World.cell?, hh]
      rw [Nat.zero_add, hcell _ (by omega), hcell _ (by omega)]
      exact hf
theorem flat_snoc (ds : List D) (d : D) : flat (ds ++ [d]) = flat ds ++ [.string d.1, .int .i64 d.2] := by simp [flat]
end
end Go.Proofs.Ytioheadchhkjmaa
