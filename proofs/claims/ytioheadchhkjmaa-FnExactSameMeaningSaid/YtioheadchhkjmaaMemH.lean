/-
  Words for memory: a slice of changes (a kind, a name, an old and a new value) that reads as a list; rows of them that the call has made. No program is in sight.
-/
import Derived.Test.YtioheadchhkjmaaMemC
namespace Go.Proofs.Ytioheadchhkjmaa
open Go.RowKit

/-! Lists of cells, a fixed number for each element. -/
section
variable {α : Type} {f : α → List Value} {s : Nat}
theorem flatMap_len (hf : ∀ a, (f a).length = s) (l : List α) : (l.flatMap f).length = l.length * s := by
  induction l with
  | nil => simp
  | cons a l ih => rw [List.flatMap_cons, List.length_append, ih, hf, List.length_cons, Nat.add_mul]; omega
theorem flatMap_at (hf : ∀ a, (f a).length = s) (l : List α) (d : α) (i j : Nat) (hi : i < l.length) (hj : j < s) : (l.flatMap f)[i * s + j]? = (f (l.getD i d))[j]? := by
  induction l generalizing i with
  | nil => simp at hi
  | cons a l ih =>
    cases i with
    | zero => rw [List.flatMap_cons, Nat.zero_mul, Nat.zero_add, List.getElem?_append_left (by rw [hf]; exact hj)]; rfl
    | succ i =>
      rw [List.flatMap_cons, show (i + 1) * s + j = s + (i * s + j) from by rw [Nat.add_mul]; omega, List.getElem?_append_right (by rw [hf]; omega), hf, Nat.add_sub_cancel_left, ih i (by simpa using hi)]
      rfl
theorem flatMap_set (hf : ∀ a, (f a).length = s) (l : List α) (d a : α) (i j : Nat) (u : Value) (hi : i < l.length) (hj : j < s) (ha : f a = (f (l.getD i d)).set j u) : (l.flatMap f).set (i * s + j) u = (l.set i a).flatMap f := by
  induction l generalizing i with
  | nil => simp at hi
  | cons b l ih =>
    cases i with
    | zero =>
      rw [List.flatMap_cons, Nat.zero_mul, Nat.zero_add, List.set_append, if_pos (by rw [hf]; exact hj)]
      show _ = f a ++ l.flatMap f
      rw [ha]
      rfl
    | succ i =>
      have h1 := ih i (by simpa using hi) ha
      rw [List.flatMap_cons, show (i + 1) * s + j = s + (i * s + j) from by rw [Nat.add_mul]; omega, List.set_append, if_neg (by rw [hf]; omega), hf, Nat.add_sub_cancel_left, h1]
      rfl
theorem flatMap_made (hf : ∀ a, (f a).length = s) (d : α) (z : Array Value) (hz : z.toList = f d) (hs : 0 < s) (n : Nat) : madeCells z (n * s) = ((List.replicate n d).flatMap f).toArray := by
  have hzs : z.size = s := by rw [← Array.length_toList, hz, hf]
  apply Array.ext
  · simp [madeCells, flatMap_len hf]
  · intro j h1 h2
    have hj : j < n * s := by simpa [madeCells] using h1
    have hm : j % s < s := Nat.mod_lt _ hs
    have hd : j / s < n := Nat.div_lt_of_lt_mul (by rwa [Nat.mul_comm])
    have e := flatMap_at hf (List.replicate n d) d (j / s) (j % s) (by simpa using hd) hm
    rw [show j / s * s + j % s = j from by rw [Nat.mul_comm]; exact Nat.div_add_mod j s] at e
    have e2 : (List.replicate n d).getD (j / s) d = d := by rw [List.getD_eq_getElem?_getD, List.getElem?_replicate, if_pos hd]; rfl
    have hfl : j % s < (f d).length := by rw [hf]; exact hm
    have hzl : j % s < z.size := by rw [hzs]; exact hm
    rw [e2, List.getElem?_eq_getElem hfl] at e
    have e3 := (List.getElem?_eq_some_iff.1 e).2
    have e4 : ((List.replicate n d).flatMap f).toArray[j]'h2 = (f d)[j % s] := by rw [List.getElem_toArray]; exact e3
    rw [e4]
    simp only [madeCells, Array.getElem_map, Array.getElem_range, hzs]
    rw [getElem!_pos z (j % s) hzl, ← Array.getElem_toList]
    simp only [hz]
end

/-- A change: a kind, a name, the old value and the new one. -/
structure Ch where
  kind : Int
  name : ByteArray
  was : Int
  will : Int
/-- A number that fits. -/
def Fits (z : Int) : Prop := -9223372036854775808 ≤ z ∧ z ≤ 9223372036854775807
theorem Fits.lo {z : Int} (h : Fits z) : -9223372036854775808 ≤ z := h.1
theorem Fits.hi {z : Int} (h : Fits z) : z ≤ 9223372036854775807 := h.2
/-- The changes are such as Go can hold. -/
def GoodH (cs : List Ch) : Prop := cs.length ≤ 3518437208883 ∧ ∀ c ∈ cs, c.name.size ≤ 9223372036854775807 ∧ Fits c.kind ∧ Fits c.was ∧ Fits c.will
def noH : Ch := ⟨0, ByteArray.empty, 0, 0⟩
/-- The i-th change. -/
def nthH (cs : List Ch) (i : Nat) : Ch := cs.getD i noH
/-- A change's cells, and those of a list. -/
def cellsH (c : Ch) : List Value := [.int .i64 c.kind, .string c.name, .int .i64 c.was, .int .i64 c.will]
theorem cellsH_len (c : Ch) : (cellsH c).length = 4 := rfl
def flatH (cs : List Ch) : List Value := cs.flatMap cellsH
theorem flatH_len (cs : List Ch) : (flatH cs).length = cs.length * 4 := flatMap_len cellsH_len cs
theorem flatH_append (xs ys : List Ch) : flatH (xs ++ ys) = flatH xs ++ flatH ys := by simp [flatH]
theorem flatH_snoc (xs : List Ch) (c : Ch) : flatH (xs ++ [c]) = flatH xs ++ [.int .i64 c.kind, .string c.name, .int .i64 c.was, .int .i64 c.will] := by simp [flatH, cellsH]
theorem flatH_at (cs : List Ch) (i : Nat) (h : i < cs.length) : (flatH cs)[i * 4]? = some (.int .i64 (nthH cs i).kind) ∧ (flatH cs)[i * 4 + 1]? = some (.string (nthH cs i).name) ∧ (flatH cs)[i * 4 + 2]? = some (.int .i64 (nthH cs i).was) ∧ (flatH cs)[i * 4 + 3]? = some (.int .i64 (nthH cs i).will) :=
  ⟨flatMap_at cellsH_len cs noH i 0 h (by omega), flatMap_at cellsH_len cs noH i 1 h (by omega), flatMap_at cellsH_len cs noH i 2 h (by omega), flatMap_at cellsH_len cs noH i 3 h (by omega)⟩
theorem onesH (cs : List Ch) : ∀ u ∈ flatH cs, u.oneCell' = true := by
  intro u hu
  unfold flatH at hu
  obtain ⟨d, _, hd⟩ := List.mem_flatMap.1 hu
  simp [cellsH] at hd
  rcases hd with rfl | rfl | rfl | rfl <;> rfl
theorem nthH_get {cs : List Ch} {i : Nat} (h : i < cs.length) : nthH cs i = cs[i] := by
  unfold nthH; rw [List.getD_eq_getElem?_getD, List.getElem?_eq_getElem h]; rfl
theorem nthH_mem {cs : List Ch} {i : Nat} (h : i < cs.length) : nthH cs i ∈ cs := by
  rw [nthH_get h]; exact List.getElem_mem h
theorem GoodH.nth {cs : List Ch} (h : GoodH cs) {i : Nat} (hi : i < cs.length) : (nthH cs i).name.size ≤ 9223372036854775807 ∧ Fits (nthH cs i).kind ∧ Fits (nthH cs i).was ∧ Fits (nthH cs i).will := h.2 _ (nthH_mem hi)
theorem nthH_set {cs : List Ch} {i j : Nat} (hi : i < cs.length) (d : Ch) : nthH (cs.set i d) j = if i = j then d else nthH cs j := by
  unfold nthH
  rw [List.getD_eq_getElem?_getD, List.getD_eq_getElem?_getD, List.getElem?_set]
  by_cases h : i = j
  · rw [if_pos h, if_pos h]; subst h; rw [if_pos hi]; rfl
  · rw [if_neg h, if_neg h]
theorem nthH_self {cs : List Ch} {i : Nat} (hi : i < cs.length) (d : Ch) : nthH (cs.set i d) i = d := by rw [nthH_set hi, if_pos rfl]
theorem flatH_set0 (cs : List Ch) (i : Nat) (z : Int) (h : i < cs.length) : (flatH cs).set (i * 4) (.int .i64 z) = flatH (cs.set i { nthH cs i with kind := z }) := flatMap_set cellsH_len cs noH _ i 0 _ h (by omega) rfl
theorem flatH_set1 (cs : List Ch) (i : Nat) (z : ByteArray) (h : i < cs.length) : (flatH cs).set (i * 4 + 1) (.string z) = flatH (cs.set i { nthH cs i with name := z }) := flatMap_set cellsH_len cs noH _ i 1 _ h (by omega) rfl
theorem flatH_set2 (cs : List Ch) (i : Nat) (z : Int) (h : i < cs.length) : (flatH cs).set (i * 4 + 2) (.int .i64 z) = flatH (cs.set i { nthH cs i with was := z }) := flatMap_set cellsH_len cs noH _ i 2 _ h (by omega) rfl
theorem flatH_set3 (cs : List Ch) (i : Nat) (z : Int) (h : i < cs.length) : (flatH cs).set (i * 4 + 3) (.int .i64 z) = flatH (cs.set i { nthH cs i with will := z }) := flatMap_set cellsH_len cs noH _ i 3 _ h (by omega) rfl

/-- The slice value '.slice A n c' holds the changes cs, below block B. -/
def RdH (w : World) (B : Nat) (A : Option Addr) (n c : Nat) (cs : List Ch) : Prop :=
  cs.length = n ∧ n ≤ c ∧ c ≤ 9223372036854775807 ∧ GoodH cs ∧
    (0 < n → ∃ b off, A = some ⟨b, off, none⟩ ∧ b < B ∧ ∀ i, i < n → w.cell? ⟨b, off + i * 4, none⟩ = some (.int .i64 (nthH cs i).kind) ∧ w.cell? ⟨b, off + i * 4 + 1, none⟩ = some (.string (nthH cs i).name) ∧ w.cell? ⟨b, off + i * 4 + 2, none⟩ = some (.int .i64 (nthH cs i).was) ∧ w.cell? ⟨b, off + i * 4 + 3, none⟩ = some (.int .i64 (nthH cs i).will))
section
variable {w w' : World} {B B' n c : Nat} {A : Option Addr} {cs : List Ch}
theorem RdH.keep (h : RdH w B A n c cs) (hk : ∀ b o, b < B → w'.cell? ⟨b, o, none⟩ = w.cell? ⟨b, o, none⟩) : RdH w' B A n c cs := by
  obtain ⟨h1, h2, h3, h4, h5⟩ := h
  refine ⟨h1, h2, h3, h4, fun hn => ?_⟩
  obtain ⟨b, off, e, hb, hc⟩ := h5 hn
  exact ⟨b, off, e, hb, fun i hi => ⟨(hk _ _ hb).trans (hc i hi).1, (hk _ _ hb).trans (hc i hi).2.1, (hk _ _ hb).trans (hc i hi).2.2.1, (hk _ _ hb).trans (hc i hi).2.2.2⟩⟩
theorem RdH.below (h : RdH w B A n c cs) (hb : Below B w w') : RdH w' B A n c cs := h.keep fun b o hp => hb.cell (p := ⟨b, o, none⟩) hp
theorem RdH.drew (h : RdH w B A n c cs) : RdH w.drew B A n c cs := h
theorem RdH.more (h : RdH w B A n c cs) (hB : B ≤ B') : RdH w B' A n c cs := by
  obtain ⟨h1, h2, h3, h4, h5⟩ := h
  refine ⟨h1, h2, h3, h4, fun hn => ?_⟩
  obtain ⟨b, off, e, hb, hc⟩ := h5 hn
  exact ⟨b, off, e, by omega, hc⟩
theorem RdH.to (h : RdH w w.heap.size A n c cs) (hb : Below w.heap.size w w') : RdH w' w'.heap.size A n c cs := (h.below hb).more hb.size
theorem rdH_nil (w : World) : RdH w w.heap.size none 0 0 [] := ⟨rfl, Nat.le_refl _, by omega, ⟨by simp, by simp⟩, fun h => absurd h (by omega)⟩
end

/-- A row of changes that the call has made; there may be more behind it. -/
def OwnH (w : World) (B : Nat) (t : TypeId) (v : Value) (cs : List Ch) : Prop :=
  (v = .slice none 0 0 ∧ cs = []) ∨ ∃ g c cur, v = .slice (some ⟨g, 0, none⟩) cs.length c ∧ B ≤ g ∧ w.heap[g]? = some (.cells cur t (0, 0)) ∧ cs.length ≤ c ∧ c ≤ maxLen ∧ cs.length * 4 ≤ cur.size ∧ cur.toList.take (cs.length * 4) = flatH cs
/-- A row of changes that can be added to. -/
def OwnA (w : World) (B : Nat) (t : TypeId) (v : Value) (cs : List Ch) : Prop := w.ownsRow B t 4 v cs.length (flatH cs)
section
variable {w w' : World} {B n : Nat} {t : TypeId} {v : Value} {cs : List Ch}
theorem OwnA.toH (h : OwnA w B t v cs) : OwnH w B t v cs := by
  rcases h.2 with ⟨hv, hn⟩ | ⟨g, cap, cur, hv, hb, hg, hn, hc, hs, ht⟩
  · exact .inl ⟨hv, List.eq_nil_of_length_eq_zero hn⟩
  · exact .inr ⟨g, cap, cur, hv, hb, hg, hn, hc, by rw [hs]; exact Nat.mul_le_mul_right _ hn, ht⟩
theorem OwnA.nil (w : World) (B : Nat) (t : TypeId) : OwnA w B t (.slice none 0 0) [] := World.ownsRow_nil w B t 4
theorem OwnA.empty (w : World) (t : TypeId) : OwnA (w.alloc (.cells #[] t)) w.heap.size t (.slice (some ⟨w.heap.size, 0, none⟩) 0 0) [] := World.ownsRow_lit (size := 4) w #[] 0 (Nat.le_refl _) (by unfold maxLen; omega) rfl
theorem OwnA.alloc (h : OwnA w B t v cs) (o : Obj) : OwnA (w.alloc o) B t v cs := World.ownsRow.alloc h o
theorem OwnA.drew (h : OwnA w B t v cs) : OwnA w.drew B t v cs := h
theorem OwnA.below (h : OwnA w B t v cs) (hb : Below w.heap.size w w') : OwnA w' B t v cs := own_below h hb
theorem OwnA.draw {g : Nat} (h : OwnA w B t v cs) (hg : w.grownBy w' (some g)) (hlt : g < B) : OwnA w' B t v cs := own_grown h hg hlt
theorem OwnA.form (h : OwnA w B t v cs) : ∃ A c, v = .slice A cs.length c := by
  rcases h.2 with ⟨hv, h0⟩ | ⟨g, cap, _, hv, _⟩
  · exact ⟨none, 0, by rw [hv, h0]⟩
  · exact ⟨_, cap, hv⟩
theorem OwnA.far {p i : Nat} (h : OwnA w B t v cs) (hp : v.ownBlock ≠ some p) (u : Value) : OwnA (w.setCell ⟨p, i, none⟩ u) B t v cs :=
  World.ownsRow.kept h (grown_set (grown_refl w (some p)) u) (.inr hp)
theorem OwnA.base {B' : Nat} (h : OwnA w B t v cs) (hB : B' ≤ B) : OwnA w B' t v cs := by
  refine ⟨h.1, h.2.imp id ?_⟩
  rintro ⟨g, cap, cur, hv, hb, hr⟩
  exact ⟨g, cap, cur, hv, Nat.le_trans hB hb, hr⟩
theorem OwnA.lt (h : OwnA w B t v cs) : ∀ k, v.ownBlock = some k → B ≤ k ∧ k < w.heap.size := World.ownsRow.lt h
theorem OwnA.ne (h : OwnA w B t v cs) {p : Nat} (hp : p < B ∨ w.heap.size ≤ p) : v.ownBlock ≠ some p := fun e => by have := World.ownsRow.lt h p e; omega

theorem OwnH.form (h : OwnH w B t v cs) : ∃ A c, v = .slice A cs.length c := by
  rcases h with ⟨hv, hn⟩ | ⟨g, c, _, hv, _⟩
  · exact ⟨none, 0, by rw [hv, hn]; rfl⟩
  · exact ⟨_, c, hv⟩
theorem OwnH.base {B' : Nat} (h : OwnH w B t v cs) (hB : B' ≤ B) : OwnH w B' t v cs := by
  refine h.imp id ?_
  rintro ⟨g, c, cur, hv, hb, hr⟩
  exact ⟨g, c, cur, hv, Nat.le_trans hB hb, hr⟩
theorem OwnH.lt (h : OwnH w B t v cs) : ∀ k, v.ownBlock = some k → B ≤ k ∧ k < w.heap.size := by
  rcases h with ⟨hv, _⟩ | ⟨g, c, cur, hv, hb, hg, _⟩
  · rw [hv]; intro k hk; simp [Value.ownBlock] at hk
  · rw [hv]; intro k hk
    simp [Value.ownBlock] at hk
    subst hk
    exact ⟨hb, (Array.getElem?_eq_some_iff.1 hg).1⟩
theorem OwnH.keep (h : OwnH w B t v cs) (hk : ∀ k, v.ownBlock = some k → w'.heap[k]? = w.heap[k]?) : OwnH w' B t v cs := by
  rcases h with h | ⟨g, c, cur, hv, hb, hg, hr⟩
  · exact .inl h
  · exact .inr ⟨g, c, cur, hv, hb, (hk g (by rw [hv]; rfl)).trans hg, hr⟩
theorem OwnH.below (h : OwnH w B t v cs) (hb : Below w.heap.size w w') : OwnH w' B t v cs := h.keep fun k hk => hb.block k (h.lt k hk).2
theorem OwnH.alloc (h : OwnH w B t v cs) (o : Obj) : OwnH (w.alloc o) B t v cs := h.below (below1 w o)
theorem OwnH.drew (h : OwnH w B t v cs) : OwnH w.drew B t v cs := h
theorem OwnH.row {row : Option Nat} (h : OwnH w B t v cs) (hg : w.grownBy w' row) (hne : ∀ i, v.ownBlock = some i → row ≠ some i) : OwnH w' B t v cs :=
  h.keep fun i hi => hg.block i (h.lt i hi).2 (fun e => hne i hi e.symm)
theorem OwnH.ne (h : OwnH w B t v cs) {p : Nat} (hp : p < B ∨ w.heap.size ≤ p) : v.ownBlock ≠ some p := fun e => by have := h.lt p e; omega
theorem OwnH.far {p i : Nat} (h : OwnH w B t v cs) (hp : v.ownBlock ≠ some p) (u : Value) : OwnH (w.setCell ⟨p, i, none⟩ u) B t v cs :=
  h.keep fun k hk => Below.heap_setCell w ⟨p, i, none⟩ u k (fun e => hp (by rw [hk, e]))
theorem OwnH.clip {n c : Nat} {A : Option Addr} (h : OwnH w B t (.slice A n c) cs) : OwnH w B t (.slice A n n) cs := by
  rcases h with ⟨hv, hd⟩ | ⟨g, c', cur, hv, hb, hg, hn, hc, hs, ht⟩
  · simp only [Value.slice.injEq] at hv
    obtain ⟨rfl, rfl, _⟩ := hv
    exact .inl ⟨rfl, hd⟩
  · simp only [Value.slice.injEq] at hv
    obtain ⟨rfl, rfl, rfl⟩ := hv
    exact .inr ⟨g, cs.length, cur, rfl, hb, hg, Nat.le_refl _, Nat.le_trans hn hc, hs, ht⟩
theorem OwnH.rd (h : OwnH w B t v cs) (hg : GoodH cs) : ∃ A c, v = .slice A cs.length c ∧ RdH w w.heap.size A cs.length c cs := by
  rcases h with ⟨hv, hn⟩ | ⟨g, c, cur, hv, hb, hh, hn, hc, hs, ht⟩
  · subst hn
    exact ⟨none, 0, hv, rfl, Nat.le_refl _, by omega, hg, fun h => absurd h (by simp)⟩
  · refine ⟨some ⟨g, 0, none⟩, c, hv, rfl, hn, by unfold maxLen at hc; omega, hg, fun _ => ⟨g, 0, rfl, (Array.getElem?_eq_some_iff.1 hh).1, fun i hi => ?_⟩⟩
    have hf := flatH_at cs i hi
    have hcell : ∀ j, j < cs.length * 4 → w.cell? ⟨g, j, none⟩ = (flatH cs)[j]? := fun j hj => by
      rw [← ht, List.getElem?_take, if_pos hj]
      simp [World.cell?, hh]
    rw [Nat.zero_add, hcell _ (by omega), hcell _ (by omega), hcell _ (by omega), hcell _ (by omega)]
    exact hf
theorem OwnH.rd2 {A : Option Addr} {n c : Nat} (h : OwnH w B t (.slice A n c) cs) (hg : GoodH cs) (hl : cs.length = n) : RdH w w.heap.size A n c cs := by
  obtain ⟨A', c', he, r⟩ := h.rd hg
  simp only [Value.slice.injEq] at he
  obtain ⟨rfl, _, rfl⟩ := he
  rwa [hl] at r
theorem OwnH.blk (h : OwnH w B t v cs) (h0 : 0 < cs.length) : ∃ b c, v = .slice (some ⟨b, 0, none⟩) cs.length c ∧ B ≤ b ∧ b < w.heap.size ∧ cs.length ≤ c ∧ c ≤ 9223372036854775807 := by
  rcases h with ⟨_, hn⟩ | ⟨g, c, cur, hv, hb, hg, hn, hc, _⟩
  · rw [hn] at h0; simp at h0
  · exact ⟨g, c, hv, hb, (Array.getElem?_eq_some_iff.1 hg).1, hn, by unfold maxLen at hc; omega⟩
/-- A cell is stored into a row. -/
theorem OwnH.store {b c j : Nat} {cs' : List Ch} {u : Value} (h : OwnH w B t (.slice (some ⟨b, 0, none⟩) cs.length c) cs) (hj : j < cs.length * 4) (he : (flatH cs).set j u = flatH cs') (hl : cs'.length = cs.length) :
    (∃ x, w.cell? ⟨b, j, none⟩ = some x) ∧ w.frozen? ⟨b, j, none⟩ = false ∧ OwnH (w.setCell ⟨b, j, none⟩ u) B t (.slice (some ⟨b, 0, none⟩) cs'.length c) cs' := by
  rcases h with ⟨hv, _⟩ | ⟨g, c', cur, hv, hb, hg, hn, hc, hs, ht⟩
  · simp at hv
  · simp only [Value.slice.injEq, Option.some.injEq, Addr.mk.injEq, and_true, true_and] at hv
    obtain ⟨rfl, rfl⟩ := hv
    have q : Blk w b t cur := hg
    have hx : j < cur.size := by omega
    refine ⟨⟨cur[j], by rw [q.cell]; exact Array.getElem?_eq_getElem hx⟩, q.frozen _, .inr ⟨b, c, cur.setIfInBounds j u, rfl, hb, q.set_ _ _, by rw [hl]; exact hn, hc, by rw [hl, Array.size_setIfInBounds]; exact hs, ?_⟩⟩
    rw [hl, Array.toList_setIfInBounds, List.take_set, ht, he]
/-- The changes in the cells of a block. -/
theorem ownH_blk {g : Nat} {t : TypeId} (h : w.heap[g]? = some (.cells (flatH cs).toArray t (0, 0))) (hB : B ≤ g) (hg : GoodH cs) : OwnH w B t (.slice (some ⟨g, 0, none⟩) cs.length cs.length) cs :=
  .inr ⟨g, cs.length, (flatH cs).toArray, rfl, hB, h, Nat.le_refl _, by have := hg.1; unfold maxLen; omega, by simp [flatH_len], List.take_of_length_le (by rw [flatH_len]; exact Nat.le_refl _)⟩
end
/-- The new block that holds one change. -/
theorem newsH (w : World) (c : Ch) (t : TypeId) : ∀ (j : Nat) (u : Value), [Value.int .i64 c.kind, .string c.name, .int .i64 c.was, .int .i64 c.will][j]? = some u → (w.alloc (.cells #[.int .i64 c.kind, .string c.name, .int .i64 c.was, .int .i64 c.will] t)).cell? ((⟨w.heap.size, 0, none⟩ : Addr).add j) = some u := by
  intro j u hj
  have h := (blk1 w #[.int .i64 c.kind, .string c.name, .int .i64 c.was, .int .i64 c.will] t).cell
  match j, hj with
  | 0, hj => simp at hj; subst hj; exact h 0
  | 1, hj => simp at hj; subst hj; exact h 1
  | 2, hj => simp at hj; subst hj; exact h 2
  | 3, hj => simp at hj; subst hj; exact h 3
/-- 'make' of a row of changes. -/
theorem run_make_chs {P : Program} {t e : TypeId} {i : TypeInfo} (ht : P.underlying t = some (.slice e)) (hi : P.info? e = some i) (hz : i.zero = some (.agg #[.int .i64 0, .string ByteArray.empty, .int .i64 0, .int .i64 0])) (hs : i.size = 4) (hb : i.bytes = 40)
    (n : Nat) (hn : n ≤ 3518437208883) (w : World) :
    (Instr.makeSlice t (.int .i64 (n : Int)) (.int .i64 (n : Int))).run P w = .ok (.slice (some ⟨w.heap.size, 0, none⟩) n n) (w.alloc (.cells (flatH (List.replicate n noH)).toArray e)) := by
  have h := run_make (P := P) w t e i _ ht hi hz .i64 .i64 (n : Int) (n : Int) (by omega) (by omega) (by rw [hb]; omega) (by omega)
  have hm : madeCells #[.int .i64 0, .string ByteArray.empty, .int .i64 0, .int .i64 0] (n * 4) = (flatH (List.replicate n noH)).toArray := flatMap_made cellsH_len noH _ rfl (by omega) n
  rw [hs, Int.toNat_natCast, show Value.cells (.agg #[.int .i64 0, .string ByteArray.empty, .int .i64 0, .int .i64 0]) = #[.int .i64 0, .string ByteArray.empty, .int .i64 0, .int .i64 0] from rfl, hm] at h
  exact h
end Go.Proofs.Ytioheadchhkjmaa
