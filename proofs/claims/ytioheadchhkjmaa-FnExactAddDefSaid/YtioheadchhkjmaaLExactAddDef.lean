/-
  The walk of the law ExactAddDef: whatever comes in, the program and the reference agree, and no memory is shared.
-/
import Derived.Test.YtioheadchhkjmaaWAddDef
import Derived.Test.YtioheadchhkjmaaWLaws
import Derived.Deep.DeepCutAuto
namespace Go.Proofs.Ytioheadchhkjmaa
open Go.RowKit
attribute [local go_sem ↓] Go.wp_at_zero Go.wp_at_succ

theorem mtGo_size (f : Nat) : ∀ (j : Nat) (out : ByteArray), (mtGo f j out).size ≤ out.size + j := by
  induction f with
  | zero => intro j out; show out.size ≤ _; omega
  | succ f ih =>
    intro j out
    by_cases hj : j = 0
    · rw [mtGo, if_pos hj]; omega
    · rw [mtGo, if_neg hj]
      have h1 := ih (j / 10) (digitT j ++ out)
      have h2 : (digitT j ++ out).size = 1 + out.size := by rw [ByteArray.size_append]; unfold digitT; rw [strOfNums_size]; rfl
      omega
theorem mT_size (k : Nat) : (mT k).size ≤ k + 1 := by
  have h1 := mtGo_size (k + 1) k ⟨#[]⟩
  have h0 : (⟨#[]⟩ : ByteArray).size = 0 := rfl
  have h2 : (mT k).size = 1 + (mtGo (k + 1) k ⟨#[]⟩).size := by unfold mT; rw [ByteArray.size_append]; rfl
  omega
theorem Marked.good {k n : Nat} {ds : List D} (h : Marked k n ds) (hl : ds.length = n) (hn : n ≤ 5864062014805) (hk : k + 2 * n ≤ 4611686018427387904) : Good ds := by
  refine ⟨by omega, fun d hd => ?_⟩
  obtain ⟨j, hj, rfl⟩ := List.getElem_of_mem hd
  have e := h j (by omega)
  rw [nth_get hj] at e
  rw [e]
  have := mT_size (k + 2 * j)
  exact ⟨by simp only; omega, by simp only; omega, by simp only; omega⟩
theorem ownC_row {w : World} {B g : Nat} {t : TypeId} {ds : List D} (h : Row w g t ds) (hB : B ≤ g) (hg : Good ds) : OwnC w B t (.slice (some ⟨g, 0, none⟩) ds.length ds.length) ds :=
  .inr ⟨g, ds.length, (flat ds).toArray, rfl, hB, h, Nat.le_refl _, by have := hg.1; unfold maxLen; omega, by simp [flat_length], List.take_of_length_le (by rw [flat_length]; exact Nat.le_refl _)⟩
theorem OwnC.row {w w' : World} {B : Nat} {t : TypeId} {v : Value} {ds : List D} {row : Option Nat} (h : OwnC w B t v ds) (hg : w.grownBy w' row) (hne : ∀ i, v.ownBlock = some i → row ≠ some i) : OwnC w' B t v ds :=
  h.keep fun i hi => hg.block i (h.lt i hi).2 (fun e => hne i hi e.symm)

theorem OwnC.neB {w : World} {B g : Nat} {t t' : TypeId} {v : Value} {ds : List D} {cs : Array Value} (h : OwnC w B t v ds) (hb : Blk w g t' cs) (hne : t' ≠ t) : v.ownBlock ≠ some g := by
  rcases h with ⟨hv, _⟩ | ⟨g', c, cur, hv, _, hg, _⟩
  · rw [hv]; simp [Value.ownBlock]
  · rw [hv]
    intro e
    have e' : g' = g := by simpa [Value.ownBlock] using e
    subst e'
    unfold Blk at hb
    rw [hb] at hg
    injection hg with hg
    injection hg with _ ht
    exact hne ht
theorem OwnC.rd2 {w : World} {B n c : Nat} {t : TypeId} {A : Option Addr} {ds : List D} (h : OwnC w B t (.slice A n c) ds) (hg : Good ds) (hl : ds.length = n) : Rd w w.heap.size A n c ds := by
  obtain ⟨A', c', he, r⟩ := h.rd hg
  simp only [Value.slice.injEq] at he
  obtain ⟨rfl, _, rfl⟩ := he
  rwa [hl] at r
/-- A size has been taken away; where it is not too great the list is short. -/
def SzInt (n : Nat) (m : Int) (w : World) (e : Ending) (w' : World) : Prop := ∃ r : Int, -1 ≤ r ∧ r ≤ m ∧ (0 ≤ r → (n : Int) ≤ m) ∧ e = .returned (.int .i64 r) ∧ Below w.heap.size w w'
set_option maxHeartbeats 400000 in
theorem szDefS_len (A : Option Addr) (n c : Nat) (ds : List D) (m : Int) (h0 : 0 ≤ m) (h1 : m ≤ 1048576) (w : World) (hr : Rd w w.heap.size A n c ds) :
    Calls Try.prog 36 #[.slice A n c, .int .i64 m] w (SzInt n m w) := by
  by_cases hm : m - (n : Int) < 0
  · have hn := hr.2.1
    have hc := hr.2.2.1
    clear hr
    go_enter Try.func36, Try.ntmps36
    go_wp2
    go_ret
    exact ⟨_, by omega, by omega, by omega, rfl, Below.refl _ _⟩
  · exact (szDefS_any A n c ds m h0 h1 w hr).mono fun e w' ⟨r, a, b, c, d⟩ => ⟨r, a, b, fun _ => by omega, c, d⟩
set_option maxHeartbeats 400000 in
theorem szEnum_len (A : Option Addr) (n c : Nat) (ds : List D) (m : Int) (h0 : 0 ≤ m) (h1 : m ≤ 1048576) (w : World) (hr : Rd w w.heap.size A n c ds) :
    Calls Try.prog 16 #[.agg #[.slice A n c], .int .i64 m] w (SzInt n m w) := by
  have hr1 := (hr.below ((Below.refl _ w).alloc (Nat.le_refl _) (.cells #[.slice A n c] 35))).more (B' := (w.alloc (.cells #[.slice A n c] 35)).heap.size) (by simp)
  have HR := Lib.hid hr1
  clear hr hr1
  go_enter Try.func16, Try.ntmps16
  go_wp2_with (go_at_call 36; refine (szDefS_len _ _ _ ds m h0 h1 _ HR.out).mono ?_; rintro e w1 ⟨t, ht0, ht1, ht2, rfl, hb1⟩; have HT := Lib.hid ht2; clear ht2)
  · go_ret
    exact ⟨_, by omega, by omega, fun h => absurd h (by omega), rfl, Below.on ((Below.refl _ w).alloc (Nat.le_refl _) _) hb1 (by simp)⟩
  · go_ret
    exact ⟨_, by omega, by omega, HT.out, rfl, Below.on ((Below.refl _ w).alloc (Nat.le_refl _) _) hb1 (by simp)⟩
set_option maxRecDepth 100000 in
set_option maxHeartbeats 8000000 in
theorem exactAddDef_walk (A : Option Addr) (n c : Nat) (ds : List D) (d : D) (w : World) (hr : Rd w w.heap.size A n c ds) (hd : d.1.size ≤ 9223372036854775807 ∧ -9223372036854775808 ≤ d.2 ∧ d.2 ≤ 9223372036854775807) :
    Calls Try.prog 5 #[.agg #[.slice A n c], .agg #[.string d.1, .int .i64 d.2]] w fun e w' => e = .returned (.bool true) ∧ Below w.heap.size w w' := by
  obtain rfl : ds.length = n := hr.1
  have HR := Lib.hid hr
  have hg := Lib.hid hr.2.2.2.1
  have hd1 := hd.1
  have HD := Lib.hid hd
  clear hr hd
  have q := (blk1 w #[.slice A ds.length c] 35).alloc (.cells #[.string d.1, .int .i64 d.2] 37)
  have p := blk2 w (.cells #[.slice A ds.length c] 35) #[.string d.1, .int .i64 d.2] 37
  have b := below2 w (.cells #[.slice A ds.length c] 35) (.cells #[.string d.1, .int .i64 d.2] 37)
  have c0 := q.cell 0
  have d0 := p.cell 0
  have d1 := p.cell 1
  go_enter Try.func5, Try.ntmps5
  go_wp2_with fail
  refine (szEnum_len _ _ _ ds _ (by omega) (by omega) _ (HR.out.to b)).mono ?_
  rintro e w1 ⟨m, hm0, hm1, hmn, rfl, hb⟩
  have HMN := Lib.hid hmn
  clear hmn
  replace b := Below.on b hb b.size
  replace q := q.below hb q.lt
  replace p := p.below hb p.lt
  try replace p0 := p0.below hb p0.lt
  try replace O0 := O0.below hb
  try replace x := x.below hb x.lt
  try replace OX := OX.below hb
  try replace pg := pg.below hb pg.lt
  try replace OG := OG.below hb
  clear hb
  replace c0 := q.cell 0
  replace d0 := p.cell 0
  replace d1 := p.cell 1
  try replace e0 := p0.cell 0
  try replace x0 := x.cell 0
  try replace f0 := pg.cell 0
  by_cases hm : m < 0
  · go_wp2
    go_ret
    exact ⟨rfl, b⟩
  have hlen : (ds.length : Int) ≤ 1048576 := HMN.out (by omega)
  obtain ⟨ds', ok, hgd, hI, hS⟩ := addDef_both ds d (by
    refine ⟨by rw [List.length_append]; simp; omega, fun x hx => ?_⟩
    rcases List.mem_append.1 hx with hx | hx
    · exact hg.out.2 x hx
    · rw [List.mem_singleton.1 hx]; exact HD.out)
  have HGd := Lib.hid hgd
  have HI := Lib.hid hI
  have HS := Lib.hid hS
  have hn2 := hgd.1
  clear hgd hI hS
  go_wp2_with fail
  refine (szDef_any d hd1 m (by omega) (by omega) _).mono ?_
  rintro e w2 ⟨m', hm0', hm1', rfl, hb⟩
  replace b := Below.on b hb b.size
  replace q := q.below hb q.lt
  replace p := p.below hb p.lt
  try replace p0 := p0.below hb p0.lt
  try replace O0 := O0.below hb
  try replace x := x.below hb x.lt
  try replace OX := OX.below hb
  try replace pg := pg.below hb pg.lt
  try replace OG := OG.below hb
  clear hb
  replace c0 := q.cell 0
  replace d0 := p.cell 0
  replace d1 := p.cell 1
  try replace e0 := p0.cell 0
  try replace x0 := x.cell 0
  try replace f0 := pg.cell 0
  by_cases hm' : m' < 0
  · go_wp2
    go_ret
    exact ⟨rfl, b⟩
  go_upto_region 8 with fail
  go_cut [6, 7] (fun u6 u7 wx => ∃ (B0 : Nat) (A0 : Option Addr) (k0 : Nat), u6 = .pointer (some ⟨B0, 0, none⟩) ∧ u7 = .bool ok ∧ w.heap.size + 2 ≤ B0 ∧ Hid (Blk wx B0 42 #[.slice A0 ds'.length k0]) ∧ Hid (OwnC wx (w.heap.size + 2) 46 (.slice A0 ds'.length k0) ds') ∧ Blk wx w.heap.size 35 #[.slice A ds.length c] ∧ Blk wx (w.heap.size + 1) 37 #[.string d.1, .int .i64 d.2] ∧ Below w.heap.size w wx)
  case first =>
    replace b := b.drew
    replace q := q.drew
    replace p := p.drew
    have k0 := q.lt
    have k1 := p.lt
    go_region_held3 (fun w' => w'.cell? ⟨w.heap.size, 0, none⟩ = some (.slice A ds.length c) ∧ w'.cell? ⟨w.heap.size + 1, 0, none⟩ = some (.string d.1) ∧ w'.cell? ⟨w.heap.size + 1, 1, none⟩ = some (.int .i64 d.2)) (first | go_keep | exact ⟨cellFarA c0 (by omega), cellFarA d0 (by omega), cellFarA d1 (by omega)⟩)
    (first
      | (go_at_call 19; refine (toEnum_any A ds.length c ds _ (HR.out.to b)).mono ?_; rintro e wa ⟨ga, rfl, _, ra, hb⟩; replace b := Below.on b hb b.size; replace q := q.below hb q.lt; replace p := p.below hb p.lt; (try replace P0 := P0.below hb P0.lt); (try replace x := x.below hb x.lt); (try replace P9 := P9.below hb P9.lt); (try replace Q0 := Q0.below hb); (try replace OX := OX.below hb); (try replace Q9 := Q9.below hb); (try replace n0 := n0.below hb n0.lt); have Ra := ra.rd hg.out; replace c0 := q.cell 0; replace d0 := p.cell 0; replace d1 := p.cell 1; have k0 := q.lt; have k1 := p.lt; clear hb ra)
      | (go_at_call 19; refine (toEnum_any A ds.length c ds _ (HR.out.to (b.alloc b.size (.cells #[.slice none 0 0] 42)))).mono ?_; rintro e wa ⟨ga, rfl, _, ra, hb⟩; have hB0 : w.heap.size + 1 < (w2).heap.size := p.lt; (try have hb0 : B0 < (w2).heap.size := P0.lt); (try have hb9 : B9 < (w2).heap.size := P9.lt); have n0 : Blk wa (w2).heap.size 42 #[.slice none 0 0] := Blk.below (blk1 ((w2).drew) #[.slice none 0 0] 42) hb (by simp); replace b := Below.on (b.alloc b.size (.cells #[.slice none 0 0] 42)) hb (b.alloc b.size (.cells #[.slice none 0 0] 42)).size; replace q := (q.alloc (.cells #[.slice none 0 0] 42)).below hb (q.alloc (.cells #[.slice none 0 0] 42)).lt; replace p := (p.alloc (.cells #[.slice none 0 0] 42)).below hb (p.alloc (.cells #[.slice none 0 0] 42)).lt; (try replace P0 := (P0.alloc (.cells #[.slice none 0 0] 42)).below hb (P0.alloc (.cells #[.slice none 0 0] 42)).lt); (try replace x := (x.alloc (.cells #[.slice none 0 0] 42)).below hb (x.alloc (.cells #[.slice none 0 0] 42)).lt); (try replace P9 := (P9.alloc (.cells #[.slice none 0 0] 42)).below hb (P9.alloc (.cells #[.slice none 0 0] 42)).lt); (try replace Q0 := (Q0.alloc (.cells #[.slice none 0 0] 42)).below hb); (try replace OX := (OX.alloc (.cells #[.slice none 0 0] 42)).below hb); (try replace Q9 := (Q9.alloc (.cells #[.slice none 0 0] 42)).below hb); have Ra := ra.rd hg.out; replace c0 := q.cell 0; replace d0 := p.cell 0; replace d1 := p.cell 1; have k0 := q.lt; have k1 := p.lt; clear hb ra)
      | (go_at_call 20; refine (toDef_any d _).mono ?_; rintro e wb ⟨rfl, hb⟩; replace Ra := Ra.to hb; replace b := Below.on b hb b.size; replace q := q.below hb q.lt; replace p := p.below hb p.lt; (try replace P0 := P0.below hb P0.lt); (try replace x := x.below hb x.lt); (try replace P9 := P9.below hb P9.lt); (try replace Q0 := Q0.below hb); (try replace OX := OX.below hb); (try replace Q9 := Q9.below hb); (try replace n0 := n0.below hb n0.lt); replace c0 := q.cell 0; replace d0 := p.cell 0; replace d1 := p.cell 1; have k0 := q.lt; have k1 := p.lt; clear hb)
      | (go_at_call 20; refine (toDef_any d _).mono ?_; rintro e wb ⟨rfl, hb⟩; replace Ra := (Ra.to (below1 _ (.cells #[.slice none 0 0] 42))).to hb; have hB0 := p.lt; (try have hb0 := P0.lt); (try have hb9 := P9.lt); have n0 := Blk.below (blk1 _ #[.slice none 0 0] 42) hb (by simp); replace b := Below.on (b.alloc b.size (.cells #[.slice none 0 0] 42)) hb (b.alloc b.size (.cells #[.slice none 0 0] 42)).size; replace q := (q.alloc (.cells #[.slice none 0 0] 42)).below hb (q.alloc (.cells #[.slice none 0 0] 42)).lt; replace p := (p.alloc (.cells #[.slice none 0 0] 42)).below hb (p.alloc (.cells #[.slice none 0 0] 42)).lt; (try replace P0 := (P0.alloc (.cells #[.slice none 0 0] 42)).below hb (P0.alloc (.cells #[.slice none 0 0] 42)).lt); (try replace x := (x.alloc (.cells #[.slice none 0 0] 42)).below hb (x.alloc (.cells #[.slice none 0 0] 42)).lt); (try replace P9 := (P9.alloc (.cells #[.slice none 0 0] 42)).below hb (P9.alloc (.cells #[.slice none 0 0] 42)).lt); (try replace Q0 := (Q0.alloc (.cells #[.slice none 0 0] 42)).below hb); (try replace OX := (OX.alloc (.cells #[.slice none 0 0] 42)).below hb); (try replace Q9 := (Q9.alloc (.cells #[.slice none 0 0] 42)).below hb); replace c0 := q.cell 0; replace d0 := p.cell 0; replace d1 := p.cell 1; have k0 := q.lt; have k1 := p.lt; clear hb)
      | (go_at_call 18; refine (HS.out _ _ _ Ra (fun h => by cases h)).mono ?_; rintro e wc ⟨Ac, kc, rfl, oc, hb⟩; replace oc := oc.base (B' := w.heap.size + 2) k1; replace b := Below.on b hb b.size; replace q := q.below hb q.lt; replace p := p.below hb p.lt; (try replace P0 := P0.below hb P0.lt); (try replace x := x.below hb x.lt); (try replace P9 := P9.below hb P9.lt); (try replace Q0 := Q0.below hb); (try replace OX := OX.below hb); (try replace Q9 := Q9.below hb); (try replace n0 := n0.below hb n0.lt); replace c0 := q.cell 0; replace d0 := p.cell 0; replace d1 := p.cell 1; have k0 := q.lt; have k1 := p.lt; (try have z0 := n0.cell 0); (try have z1 := n0.frozen 0); (try have hb0 := P0.lt); (try have hb9 := P9.lt); clear hb)
      | (go_at_call 18; refine (HS.out _ _ _ (Ra.to (below1 _ (.cells #[.slice none 0 0] 42))) (fun h => by cases h)).mono ?_; rintro e wc ⟨Ac, kc, rfl, oc, hb⟩; replace oc := oc.base (B' := w.heap.size + 2) (by simp; omega); have hB0 := p.lt; (try have hb0 := P0.lt); (try have hb9 := P9.lt); have n0 := Blk.below (blk1 _ #[.slice none 0 0] 42) hb (by simp); replace b := Below.on (b.alloc b.size (.cells #[.slice none 0 0] 42)) hb (b.alloc b.size (.cells #[.slice none 0 0] 42)).size; replace q := (q.alloc (.cells #[.slice none 0 0] 42)).below hb (q.alloc (.cells #[.slice none 0 0] 42)).lt; replace p := (p.alloc (.cells #[.slice none 0 0] 42)).below hb (p.alloc (.cells #[.slice none 0 0] 42)).lt; (try replace P0 := (P0.alloc (.cells #[.slice none 0 0] 42)).below hb (P0.alloc (.cells #[.slice none 0 0] 42)).lt); (try replace x := (x.alloc (.cells #[.slice none 0 0] 42)).below hb (x.alloc (.cells #[.slice none 0 0] 42)).lt); (try replace P9 := (P9.alloc (.cells #[.slice none 0 0] 42)).below hb (P9.alloc (.cells #[.slice none 0 0] 42)).lt); (try replace Q0 := (Q0.alloc (.cells #[.slice none 0 0] 42)).below hb); (try replace OX := (OX.alloc (.cells #[.slice none 0 0] 42)).below hb); (try replace Q9 := (Q9.alloc (.cells #[.slice none 0 0] 42)).below hb); replace c0 := q.cell 0; replace d0 := p.cell 0; replace d1 := p.cell 1; have k0 := q.lt; have k1 := p.lt; have z0 := n0.cell 0; have z1 := n0.frozen 0; clear hb))
    all_goals
      go_wp2_with fail
      go_meet
      first
        | exact ⟨_, Ac, kc, rfl, rfl, by omega, blk1 wc _ _, oc.alloc _, q.alloc _, p.alloc _, b.alloc b.size _⟩
        | exact ⟨_, Ac, kc, rfl, rfl, by omega, n0.set_ 0 _, oc.far (oc.neB n0 (by decide)) _, q.far (p := ⟨_, 0, none⟩) (by dsimp only; omega) _, p.far (p := ⟨_, 0, none⟩) (by dsimp only; omega) _, b.setCell (p := ⟨_, 0, none⟩) (by dsimp only; omega) _⟩
  case rest =>
    obtain ⟨B0, A0, k0', rfl, rfl, hB0, hP0, hQ0, q, p, b⟩ := hcut
    have P0 := hP0.out
    have Q0 := hQ0.out
    clear hP0 hQ0
    have c0 := q.cell 0
    go_wp2_with fail
    refine (toEnum_any _ _ _ ds _ (HR.out.to b)).mono ?_
    rintro e w6 ⟨g6, rfl, hg6, r6, hb⟩
    have h0lt : ∀ i, (.slice A0 ds'.length k0' : Value).ownBlock = some i → i < g6 := fun i hi => Nat.lt_of_lt_of_le (Q0.lt i hi).2 hg6
    have hB0g : B0 < g6 := Nat.lt_of_lt_of_le P0.lt hg6
    have hqg : w.heap.size + 1 < g6 := Nat.lt_of_lt_of_le p.lt hg6
    replace b := Below.on b hb b.size
    replace q := q.below hb q.lt
    replace p := p.below hb p.lt
    try replace P0 := P0.below hb P0.lt
    try replace Q0 := Q0.below hb
    try replace x := x.below hb x.lt
    try replace OX := OX.below hb
    try replace P9 := P9.below hb P9.lt
    try replace Q9 := Q9.below hb
    clear hb
    have OX' := ownC_row (B := g6) r6 (Nat.le_refl _) hg.out
    have hg6w : g6 < w6.heap.size := (OX'.lt g6 rfl).2
    have x' := blk1 w6 #[.slice (some ⟨g6, 0, none⟩) ds.length ds.length] 42
    have hb := below1 w6 (.cells #[.slice (some ⟨g6, 0, none⟩) ds.length ds.length] 42)
    have OX := OX'.below hb
    replace b := Below.on b hb b.size
    replace q := q.below hb q.lt
    replace p := p.below hb p.lt
    try replace P0 := P0.below hb P0.lt
    try replace Q0 := Q0.below hb
    try replace x := x.below hb x.lt
    try replace OX := OX.below hb
    try replace P9 := P9.below hb P9.lt
    try replace Q9 := Q9.below hb
    clear hb
    have x := x'
    clear OX' x' r6
    have Ra := OX.rd2 hg.out rfl
    have x0 := x.cell 0
    have d0 := p.cell 0
    have d1 := p.cell 1
    clear c0
    go_upto_region 10 with fail
    obtain ⟨W7, hW7⟩ : ∃ W7, w6.alloc (.cells #[.slice (some ⟨g6, 0, none⟩) ds.length ds.length] 42) = W7 := ⟨_, rfl⟩
    rw [hW7] at x OX Ra q p b P0 Q0 x0 d0 d1 ⊢
    clear hW7
    go_cut [9, 10] (fun u9 u10 wx => ∃ (B9 : Nat) (A9 : Option Addr) (k9 : Nat), u9 = .pointer (some ⟨B9, 0, none⟩) ∧ u10 = .bool ok ∧ w6.heap.size < B9 ∧ Hid (Blk wx B9 42 #[.slice A9 ds'.length k9]) ∧ Hid (OwnC wx (w6.heap.size + 1) 46 (.slice A9 ds'.length k9) ds') ∧ Hid (Blk wx B0 42 #[.slice A0 ds'.length k0']) ∧ Hid (OwnC wx (w.heap.size + 2) 46 (.slice A0 ds'.length k0') ds') ∧ Hid (Blk wx w6.heap.size 42 #[.slice (some ⟨g6, 0, none⟩) ds.length ds.length]) ∧ Hid (OwnC wx g6 46 (.slice (some ⟨g6, 0, none⟩) ds.length ds.length) ds) ∧ Blk wx w.heap.size 35 #[.slice A ds.length c] ∧ Blk wx (w.heap.size + 1) 37 #[.string d.1, .int .i64 d.2] ∧ Below w.heap.size w wx)
    case first =>
      replace b := b.drew
      replace q := q.drew
      replace p := p.drew
      replace P0 := P0.drew
      replace Q0 := Q0.drew
      replace x := x.drew
      replace OX := OX.drew
      replace Ra := Ra.drew
      have k0 := q.lt
      have k1 := p.lt
      have k2 := x.lt
      go_region_held3 (fun w' => w'.cell? ⟨w6.heap.size, 0, none⟩ = some (.slice (some ⟨g6, 0, none⟩) ds.length ds.length) ∧ w'.cell? ⟨w.heap.size + 1, 0, none⟩ = some (.string d.1) ∧ w'.cell? ⟨w.heap.size + 1, 1, none⟩ = some (.int .i64 d.2)) (first | go_keep | exact ⟨cellFarA x0 (by omega), cellFarA d0 (by omega), cellFarA d1 (by omega)⟩)
      (first
        | (go_at_call 20; refine (toDef_any d _).mono ?_; rintro e wb ⟨rfl, hb⟩; replace Ra := Ra.to hb; replace b := Below.on b hb b.size; replace q := q.below hb q.lt; replace p := p.below hb p.lt; (try replace P0 := P0.below hb P0.lt); (try replace x := x.below hb x.lt); (try replace P9 := P9.below hb P9.lt); (try replace Q0 := Q0.below hb); (try replace OX := OX.below hb); (try replace Q9 := Q9.below hb); (try replace n0 := n0.below hb n0.lt); replace x0 := x.cell 0; replace d0 := p.cell 0; replace d1 := p.cell 1; have k0 := q.lt; have k1 := p.lt; have k2 := x.lt; clear hb)
        | (go_at_call 20; refine (toDef_any d _).mono ?_; rintro e wb ⟨rfl, hb⟩; replace Ra := (Ra.to (below1 _ (.cells #[.slice none 0 0] 42))).to hb; have hB0 : w.heap.size + 1 < (W7).heap.size := p.lt; (try have hb0 : B0 < (W7).heap.size := P0.lt); (try have hb9 : B9 < (W7).heap.size := P9.lt); have hB1 : w6.heap.size < (W7).heap.size := x.lt; have n0 : Blk wb (W7).heap.size 42 #[.slice none 0 0] := Blk.below (blk1 ((W7).drew) #[.slice none 0 0] 42) hb (by simp); replace b := Below.on (b.alloc b.size (.cells #[.slice none 0 0] 42)) hb (b.alloc b.size (.cells #[.slice none 0 0] 42)).size; replace q := (q.alloc (.cells #[.slice none 0 0] 42)).below hb (q.alloc (.cells #[.slice none 0 0] 42)).lt; replace p := (p.alloc (.cells #[.slice none 0 0] 42)).below hb (p.alloc (.cells #[.slice none 0 0] 42)).lt; (try replace P0 := (P0.alloc (.cells #[.slice none 0 0] 42)).below hb (P0.alloc (.cells #[.slice none 0 0] 42)).lt); (try replace x := (x.alloc (.cells #[.slice none 0 0] 42)).below hb (x.alloc (.cells #[.slice none 0 0] 42)).lt); (try replace P9 := (P9.alloc (.cells #[.slice none 0 0] 42)).below hb (P9.alloc (.cells #[.slice none 0 0] 42)).lt); (try replace Q0 := (Q0.alloc (.cells #[.slice none 0 0] 42)).below hb); (try replace OX := (OX.alloc (.cells #[.slice none 0 0] 42)).below hb); (try replace Q9 := (Q9.alloc (.cells #[.slice none 0 0] 42)).below hb); replace x0 := x.cell 0; replace d0 := p.cell 0; replace d1 := p.cell 1; have k0 := q.lt; have k1 := p.lt; have k2 := x.lt; clear hb)
        | (go_at_call 21; refine (HI.out _ _ _ Ra (fun h => by cases h)).mono ?_; rintro e wc ⟨Ac, kc, rfl, oc, hb⟩; replace oc := oc.base (B' := w6.heap.size + 1) k2; replace b := Below.on b hb b.size; replace q := q.below hb q.lt; replace p := p.below hb p.lt; (try replace P0 := P0.below hb P0.lt); (try replace x := x.below hb x.lt); (try replace P9 := P9.below hb P9.lt); (try replace Q0 := Q0.below hb); (try replace OX := OX.below hb); (try replace Q9 := Q9.below hb); (try replace n0 := n0.below hb n0.lt); replace x0 := x.cell 0; replace d0 := p.cell 0; replace d1 := p.cell 1; have k0 := q.lt; have k1 := p.lt; have k2 := x.lt; (try have z0 := n0.cell 0); (try have z1 := n0.frozen 0); (try have hb0 := P0.lt); (try have hb9 := P9.lt); clear hb)
        | (go_at_call 21; refine (HI.out _ _ _ (Ra.to (below1 _ (.cells #[.slice none 0 0] 42))) (fun h => by cases h)).mono ?_; rintro e wc ⟨Ac, kc, rfl, oc, hb⟩; replace oc := oc.base (B' := w6.heap.size + 1) (by simp; omega); have hB0 := p.lt; (try have hb0 := P0.lt); (try have hb9 := P9.lt); have hB1 := x.lt; have n0 := Blk.below (blk1 _ #[.slice none 0 0] 42) hb (by simp); replace b := Below.on (b.alloc b.size (.cells #[.slice none 0 0] 42)) hb (b.alloc b.size (.cells #[.slice none 0 0] 42)).size; replace q := (q.alloc (.cells #[.slice none 0 0] 42)).below hb (q.alloc (.cells #[.slice none 0 0] 42)).lt; replace p := (p.alloc (.cells #[.slice none 0 0] 42)).below hb (p.alloc (.cells #[.slice none 0 0] 42)).lt; (try replace P0 := (P0.alloc (.cells #[.slice none 0 0] 42)).below hb (P0.alloc (.cells #[.slice none 0 0] 42)).lt); (try replace x := (x.alloc (.cells #[.slice none 0 0] 42)).below hb (x.alloc (.cells #[.slice none 0 0] 42)).lt); (try replace P9 := (P9.alloc (.cells #[.slice none 0 0] 42)).below hb (P9.alloc (.cells #[.slice none 0 0] 42)).lt); (try replace Q0 := (Q0.alloc (.cells #[.slice none 0 0] 42)).below hb); (try replace OX := (OX.alloc (.cells #[.slice none 0 0] 42)).below hb); (try replace Q9 := (Q9.alloc (.cells #[.slice none 0 0] 42)).below hb); replace x0 := x.cell 0; replace d0 := p.cell 0; replace d1 := p.cell 1; have k0 := q.lt; have k1 := p.lt; have k2 := x.lt; have z0 := n0.cell 0; have z1 := n0.frozen 0; clear hb))
      all_goals
        go_wp2_with fail
        go_meet
        first
          | exact ⟨_, Ac, kc, rfl, rfl, by omega, blk1 wc _ _, oc.alloc _, P0.alloc _, Q0.alloc _, x.alloc _, OX.alloc _, q.alloc _, p.alloc _, b.alloc b.size _⟩
          | exact ⟨_, Ac, kc, rfl, rfl, by omega, n0.set_ 0 _, oc.far (oc.neB n0 (by decide)) _, P0.far (p := ⟨_, 0, none⟩) (by dsimp only; omega) _, Q0.far (Q0.neB n0 (by decide)) _, x.far (p := ⟨_, 0, none⟩) (by dsimp only; omega) _, OX.far (OX.neB n0 (by decide)) _, q.far (p := ⟨_, 0, none⟩) (by dsimp only; omega) _, p.far (p := ⟨_, 0, none⟩) (by dsimp only; omega) _, b.setCell (p := ⟨_, 0, none⟩) (by dsimp only; omega) _⟩
    case rest =>
      obtain ⟨B9, A9, k9, rfl, rfl, hB9, hP9, hQ9, hP0, hQ0, hx, hOX, q, p, b⟩ := hcut
      have P9 := hP9.out
      have Q9 := hQ9.out
      have P0 := hP0.out
      have Q0 := hQ0.out
      have x := hx.out
      have OX := hOX.out
      clear hP9 hQ9 hP0 hQ0 hx hOX
      have RG := Q9.rd2 HGd.out rfl
      have R0 := Q0.rd2 HGd.out rfl
      have e9 := P9.cell 0
      have e0 := P0.cell 0
      go_wp2_with fail
      refine (eqEnum_same _ _ _ _ _ ds' _ RG R0).mono ?_
      rintro e wn ⟨rfl, hb⟩
      clear RG R0 e9 e0
      replace b := Below.on b hb b.size
      replace q := q.below hb q.lt
      replace p := p.below hb p.lt
      try replace P0 := P0.below hb P0.lt
      try replace Q0 := Q0.below hb
      try replace x := x.below hb x.lt
      try replace OX := OX.below hb
      try replace P9 := P9.below hb P9.lt
      try replace Q9 := Q9.below hb
      clear hb
      have x0 := x.cell 0
      have c0 := q.cell 0
      have k0 : w.heap.size < wn.heap.size := q.lt
      have k2 : w6.heap.size < wn.heap.size := x.lt
      have RX := OX.rd2 hg.out rfl
      go_wp2_with fail
      replace b := b.drew
      replace q := q.drew
      replace p := p.drew
      replace P0 := P0.drew
      replace Q0 := Q0.drew
      replace P9 := P9.drew
      replace Q9 := Q9.drew
      replace x := x.drew
      replace OX := OX.drew
      replace RX := RX.drew
      go_region_held3 (fun w' => w'.cell? ⟨w6.heap.size, 0, none⟩ = some (.slice (some ⟨g6, 0, none⟩) ds.length ds.length) ∧ w'.cell? ⟨w.heap.size, 0, none⟩ = some (.slice A ds.length c)) (go_keep)
        (first
          | (go_at_call 19; refine (toEnum_any _ _ _ ds _ (HR.out.to b)).mono ?_; rintro e wk ⟨g7, rfl, _, r7, hb⟩; replace b := Below.on b hb b.size; replace q := q.below hb q.lt; replace p := p.below hb p.lt; (try replace P0 := P0.below hb P0.lt); (try replace x := x.below hb x.lt); (try replace P9 := P9.below hb P9.lt); (try replace Q0 := Q0.below hb); (try replace OX := OX.below hb); (try replace Q9 := Q9.below hb); (try replace n0 := n0.below hb n0.lt); replace RX := RX.to hb; replace x0 := x.cell 0; replace c0 := q.cell 0; have Y := r7.rd hg.out; clear hb r7)
          | (go_at_call 22; refine (eqEnum_same _ _ _ _ _ ds _ RX Y).mono ?_; rintro e w8 ⟨rfl, hb⟩; replace b := Below.on b hb b.size; replace q := q.below hb q.lt; replace p := p.below hb p.lt; (try replace P0 := P0.below hb P0.lt); (try replace x := x.below hb x.lt); (try replace P9 := P9.below hb P9.lt); (try replace Q0 := Q0.below hb); (try replace OX := OX.below hb); (try replace Q9 := Q9.below hb); (try replace n0 := n0.below hb n0.lt); replace x0 := x.cell 0; replace c0 := q.cell 0; clear hb))
      have hbw : w.heap.size ≤ g6 := by omega
      clear RX
      try clear Y
      go_wp2_with fail
      refine (markEnum_any g6 (some ⟨g6, 0, none⟩) ds.length ds.length ds 1 (by omega) (by omega) _ rfl OX).mono ?_
      rintro e w9 ⟨mx, rfl, hlx, hmx, OX2, hgr⟩
      replace hgr : World.grownBy w8 w9 (some g6) := hgr
      replace b := b.grown hgr b.size (fun i hi => by simp at hi; omega)
      replace q := q.row hgr (by simp; omega)
      replace p := p.row hgr (by simp; omega)
      replace P0 := P0.row hgr (by simp; omega)
      replace Q0 := Q0.row hgr (fun i hi => by have := h0lt i hi; simp; omega)
      replace P9 := P9.row hgr (by simp; omega)
      replace Q9 := Q9.row hgr (fun i hi => by have := (Q9.lt i hi).1; simp; omega)
      clear hgr OX OX2 hmx hlx x x0 c0 k0 k2
      have hp1 : ¬ (((1 + 2 * ds.length : Nat) : Int) < 0) := by omega
      have RG := Q9.rd2 HGd.out rfl
      have R0 := Q0.rd2 HGd.out rfl
      have e9 := P9.cell 0
      have e0 := P0.cell 0
      go_wp2_with fail
      refine (eqEnum_same _ _ _ _ _ ds' _ RG R0).mono ?_
      rintro e wn ⟨rfl, hb⟩
      clear RG R0 e9 e0
      replace b := Below.on b hb b.size
      replace q := q.below hb q.lt
      replace p := p.below hb p.lt
      try replace P0 := P0.below hb P0.lt
      try replace Q0 := Q0.below hb
      try replace x := x.below hb x.lt
      try replace OX := OX.below hb
      try replace P9 := P9.below hb P9.lt
      try replace Q9 := Q9.below hb
      clear hb
      have e9 := P9.cell 0
      go_wp2_with fail
      refine (markEnum_any (w6.heap.size + 1) A9 ds'.length k9 ds' 1 (by omega) (by omega) _ rfl Q9).mono ?_
      rintro e w10 ⟨mg, rfl, hlg, hmg, Q92, hgr⟩
      have HOG := fun i hi => (Q9.lt i hi).1
      replace b := b.grown hgr b.size (fun i hi => by have := HOG i hi; omega)
      replace q := q.row hgr (Q9.neB q (by decide))
      replace p := p.row hgr (Q9.neB p (by decide))
      replace P0 := P0.row hgr (Q9.neB P0 (by decide))
      replace P9 := P9.row hgr (Q9.neB P9 (by decide))
      replace Q0 := Q0.row hgr (fun i hi e => by have := HOG i e; have := h0lt i hi; omega)
      replace Q9 := Q92
      have HMG := Lib.hid hmg
      have HLM := Lib.hid hlg
      have HGM := Lib.hid (hmg.good hlg (by omega) (by omega))
      clear hgr Q92 HOG hmg hlg e9
      have hp2 : ¬ (((1 + 2 * ds'.length : Nat) : Int) < 0) := by omega
      have RH := Q9.rd2 HGM.out HLM.out
      have e9 := P9.cell 0
      go_wp2_with fail
      refine (heldEnum_any _ _ _ mg 1 (by omega) (by omega) _ RH HMG.out).mono ?_
      rintro e wh ⟨rfl, hb⟩
      clear RH e9
      replace b := Below.on b hb b.size
      replace q := q.below hb q.lt
      replace p := p.below hb p.lt
      try replace P0 := P0.below hb P0.lt
      try replace Q0 := Q0.below hb
      try replace x := x.below hb x.lt
      try replace OX := OX.below hb
      try replace P9 := P9.below hb P9.lt
      try replace Q9 := Q9.below hb
      clear hb
      have c0 := q.cell 0
      have d0 := p.cell 0
      have d1 := p.cell 1
      go_upto_region 27 with fail
      go_cut [14, 15] (fun u14 u15 wx => ∃ (B14 : Nat) (A14 : Option Addr) (k14 : Nat), u14 = .pointer (some ⟨B14, 0, none⟩) ∧ u15 = .bool ok ∧ Hid (Blk wx B14 42 #[.slice A14 ds'.length k14]) ∧ Hid (OwnC wx 0 46 (.slice A14 ds'.length k14) ds') ∧ Hid (Blk wx B9 42 #[.slice A9 ds'.length k9]) ∧ Hid (OwnC wx (w6.heap.size + 1) 46 (.slice A9 ds'.length k9) mg) ∧ Hid (Blk wx B0 42 #[.slice A0 ds'.length k0']) ∧ Hid (OwnC wx (w.heap.size + 2) 46 (.slice A0 ds'.length k0') ds') ∧ Blk wx w.heap.size 35 #[.slice A ds.length c] ∧ Blk wx (w.heap.size + 1) 37 #[.string d.1, .int .i64 d.2] ∧ Below w.heap.size w wx)
      case first =>
        replace b := b.drew
        replace q := q.drew
        replace p := p.drew
        replace P0 := P0.drew
        replace Q0 := Q0.drew
        replace P9 := P9.drew
        replace Q9 := Q9.drew
        have k0 := q.lt
        have k1 := p.lt
        go_region_held3 (fun w' => w'.cell? ⟨w.heap.size, 0, none⟩ = some (.slice A ds.length c) ∧ w'.cell? ⟨w.heap.size + 1, 0, none⟩ = some (.string d.1) ∧ w'.cell? ⟨w.heap.size + 1, 1, none⟩ = some (.int .i64 d.2)) (first | go_keep | exact ⟨cellFarA c0 (by omega), cellFarA d0 (by omega), cellFarA d1 (by omega)⟩)
        (first
          | (go_at_call 19; refine (toEnum_any A ds.length c ds _ (HR.out.to b)).mono ?_; rintro e wa ⟨ga, rfl, _, ra, hb⟩; replace b := Below.on b hb b.size; replace q := q.below hb q.lt; replace p := p.below hb p.lt; (try replace P0 := P0.below hb P0.lt); (try replace x := x.below hb x.lt); (try replace P9 := P9.below hb P9.lt); (try replace Q0 := Q0.below hb); (try replace OX := OX.below hb); (try replace Q9 := Q9.below hb); (try replace n0 := n0.below hb n0.lt); have Ra := ra.rd hg.out; replace c0 := q.cell 0; replace d0 := p.cell 0; replace d1 := p.cell 1; have k0 := q.lt; have k1 := p.lt; clear hb ra)
          | (go_at_call 19; refine (toEnum_any A ds.length c ds _ (HR.out.to (b.alloc b.size (.cells #[.slice none 0 0] 42)))).mono ?_; rintro e wa ⟨ga, rfl, _, ra, hb⟩; have hB0 : w.heap.size + 1 < (wh).heap.size := p.lt; (try have hb0 : B0 < (wh).heap.size := P0.lt); (try have hb9 : B9 < (wh).heap.size := P9.lt); have n0 : Blk wa (wh).heap.size 42 #[.slice none 0 0] := Blk.below (blk1 ((wh).drew) #[.slice none 0 0] 42) hb (by simp); replace b := Below.on (b.alloc b.size (.cells #[.slice none 0 0] 42)) hb (b.alloc b.size (.cells #[.slice none 0 0] 42)).size; replace q := (q.alloc (.cells #[.slice none 0 0] 42)).below hb (q.alloc (.cells #[.slice none 0 0] 42)).lt; replace p := (p.alloc (.cells #[.slice none 0 0] 42)).below hb (p.alloc (.cells #[.slice none 0 0] 42)).lt; (try replace P0 := (P0.alloc (.cells #[.slice none 0 0] 42)).below hb (P0.alloc (.cells #[.slice none 0 0] 42)).lt); (try replace x := (x.alloc (.cells #[.slice none 0 0] 42)).below hb (x.alloc (.cells #[.slice none 0 0] 42)).lt); (try replace P9 := (P9.alloc (.cells #[.slice none 0 0] 42)).below hb (P9.alloc (.cells #[.slice none 0 0] 42)).lt); (try replace Q0 := (Q0.alloc (.cells #[.slice none 0 0] 42)).below hb); (try replace OX := (OX.alloc (.cells #[.slice none 0 0] 42)).below hb); (try replace Q9 := (Q9.alloc (.cells #[.slice none 0 0] 42)).below hb); have Ra := ra.rd hg.out; replace c0 := q.cell 0; replace d0 := p.cell 0; replace d1 := p.cell 1; have k0 := q.lt; have k1 := p.lt; clear hb ra)
          | (go_at_call 20; refine (toDef_any d _).mono ?_; rintro e wb ⟨rfl, hb⟩; replace Ra := Ra.to hb; replace b := Below.on b hb b.size; replace q := q.below hb q.lt; replace p := p.below hb p.lt; (try replace P0 := P0.below hb P0.lt); (try replace x := x.below hb x.lt); (try replace P9 := P9.below hb P9.lt); (try replace Q0 := Q0.below hb); (try replace OX := OX.below hb); (try replace Q9 := Q9.below hb); (try replace n0 := n0.below hb n0.lt); replace c0 := q.cell 0; replace d0 := p.cell 0; replace d1 := p.cell 1; have k0 := q.lt; have k1 := p.lt; clear hb)
          | (go_at_call 20; refine (toDef_any d _).mono ?_; rintro e wb ⟨rfl, hb⟩; replace Ra := (Ra.to (below1 _ (.cells #[.slice none 0 0] 42))).to hb; have hB0 := p.lt; (try have hb0 := P0.lt); (try have hb9 := P9.lt); have n0 := Blk.below (blk1 _ #[.slice none 0 0] 42) hb (by simp); replace b := Below.on (b.alloc b.size (.cells #[.slice none 0 0] 42)) hb (b.alloc b.size (.cells #[.slice none 0 0] 42)).size; replace q := (q.alloc (.cells #[.slice none 0 0] 42)).below hb (q.alloc (.cells #[.slice none 0 0] 42)).lt; replace p := (p.alloc (.cells #[.slice none 0 0] 42)).below hb (p.alloc (.cells #[.slice none 0 0] 42)).lt; (try replace P0 := (P0.alloc (.cells #[.slice none 0 0] 42)).below hb (P0.alloc (.cells #[.slice none 0 0] 42)).lt); (try replace x := (x.alloc (.cells #[.slice none 0 0] 42)).below hb (x.alloc (.cells #[.slice none 0 0] 42)).lt); (try replace P9 := (P9.alloc (.cells #[.slice none 0 0] 42)).below hb (P9.alloc (.cells #[.slice none 0 0] 42)).lt); (try replace Q0 := (Q0.alloc (.cells #[.slice none 0 0] 42)).below hb); (try replace OX := (OX.alloc (.cells #[.slice none 0 0] 42)).below hb); (try replace Q9 := (Q9.alloc (.cells #[.slice none 0 0] 42)).below hb); replace c0 := q.cell 0; replace d0 := p.cell 0; replace d1 := p.cell 1; have k0 := q.lt; have k1 := p.lt; clear hb)
          | (go_at_call 21; refine (HI.out _ _ _ Ra (fun h => by cases h)).mono ?_; rintro e wc ⟨Ac, kc, rfl, oc, hb⟩; replace oc := oc.base (B' := 0) (Nat.zero_le _); replace b := Below.on b hb b.size; replace q := q.below hb q.lt; replace p := p.below hb p.lt; (try replace P0 := P0.below hb P0.lt); (try replace x := x.below hb x.lt); (try replace P9 := P9.below hb P9.lt); (try replace Q0 := Q0.below hb); (try replace OX := OX.below hb); (try replace Q9 := Q9.below hb); (try replace n0 := n0.below hb n0.lt); replace c0 := q.cell 0; replace d0 := p.cell 0; replace d1 := p.cell 1; have k0 := q.lt; have k1 := p.lt; (try have z0 := n0.cell 0); (try have z1 := n0.frozen 0); (try have hb0 := P0.lt); (try have hb9 := P9.lt); clear hb)
          | (go_at_call 21; refine (HI.out _ _ _ (Ra.to (below1 _ (.cells #[.slice none 0 0] 42))) (fun h => by cases h)).mono ?_; rintro e wc ⟨Ac, kc, rfl, oc, hb⟩; replace oc := oc.base (B' := 0) (Nat.zero_le _); have hB0 := p.lt; (try have hb0 := P0.lt); (try have hb9 := P9.lt); have n0 := Blk.below (blk1 _ #[.slice none 0 0] 42) hb (by simp); replace b := Below.on (b.alloc b.size (.cells #[.slice none 0 0] 42)) hb (b.alloc b.size (.cells #[.slice none 0 0] 42)).size; replace q := (q.alloc (.cells #[.slice none 0 0] 42)).below hb (q.alloc (.cells #[.slice none 0 0] 42)).lt; replace p := (p.alloc (.cells #[.slice none 0 0] 42)).below hb (p.alloc (.cells #[.slice none 0 0] 42)).lt; (try replace P0 := (P0.alloc (.cells #[.slice none 0 0] 42)).below hb (P0.alloc (.cells #[.slice none 0 0] 42)).lt); (try replace x := (x.alloc (.cells #[.slice none 0 0] 42)).below hb (x.alloc (.cells #[.slice none 0 0] 42)).lt); (try replace P9 := (P9.alloc (.cells #[.slice none 0 0] 42)).below hb (P9.alloc (.cells #[.slice none 0 0] 42)).lt); (try replace Q0 := (Q0.alloc (.cells #[.slice none 0 0] 42)).below hb); (try replace OX := (OX.alloc (.cells #[.slice none 0 0] 42)).below hb); (try replace Q9 := (Q9.alloc (.cells #[.slice none 0 0] 42)).below hb); replace c0 := q.cell 0; replace d0 := p.cell 0; replace d1 := p.cell 1; have k0 := q.lt; have k1 := p.lt; have z0 := n0.cell 0; have z1 := n0.frozen 0; clear hb))
        all_goals
          go_wp2_with fail
          go_meet
          first
            | exact ⟨_, Ac, kc, rfl, rfl, blk1 wc _ _, oc.alloc _, P9.alloc _, Q9.alloc _, P0.alloc _, Q0.alloc _, q.alloc _, p.alloc _, b.alloc b.size _⟩
            | exact ⟨_, Ac, kc, rfl, rfl, n0.set_ 0 _, oc.far (oc.neB n0 (by decide)) _, P9.far (p := ⟨_, 0, none⟩) (by dsimp only; omega) _, Q9.far (Q9.neB n0 (by decide)) _, P0.far (p := ⟨_, 0, none⟩) (by dsimp only; omega) _, Q0.far (Q0.neB n0 (by decide)) _, q.far (p := ⟨_, 0, none⟩) (by dsimp only; omega) _, p.far (p := ⟨_, 0, none⟩) (by dsimp only; omega) _, b.setCell (p := ⟨_, 0, none⟩) (by dsimp only; omega) _⟩
      case rest =>
        obtain ⟨B14, A14, k14, rfl, rfl, hP14, hQ14, hP9, hQ9, hP0, hQ0, q, p, b⟩ := hcut
        have P9 := hP9.out
        have Q9 := hQ9.out
        have P0 := hP0.out
        have Q0 := hQ0.out
        have P14 := hP14.out
        have Q14 := hQ14.out
        clear hP9 hQ9 hP0 hQ0 hP14 hQ14
        have RG := Q14.rd2 HGd.out rfl
        have R0 := Q0.rd2 HGd.out rfl
        have e9 := P14.cell 0
        have e0 := P0.cell 0
        go_wp2_with fail
        refine (eqEnum_same _ _ _ _ _ ds' _ RG R0).mono ?_
        rintro e wn ⟨rfl, hb⟩
        clear RG R0 e9 e0 P14 Q14
        replace b := Below.on b hb b.size
        replace q := q.below hb q.lt
        replace p := p.below hb p.lt
        try replace P0 := P0.below hb P0.lt
        try replace Q0 := Q0.below hb
        try replace x := x.below hb x.lt
        try replace OX := OX.below hb
        try replace P9 := P9.below hb P9.lt
        try replace Q9 := Q9.below hb
        clear hb
        have RH := Q9.rd2 HGM.out HLM.out
        have e9 := P9.cell 0
        go_wp2_with fail
        refine (heldEnum_any _ _ _ mg 1 (by omega) (by omega) _ RH HMG.out).mono ?_
        rintro e wh ⟨rfl, hb⟩
        clear RH e9
        replace b := Below.on b hb b.size
        replace q := q.below hb q.lt
        replace p := p.below hb p.lt
        try replace P0 := P0.below hb P0.lt
        try replace Q0 := Q0.below hb
        try replace x := x.below hb x.lt
        try replace OX := OX.below hb
        try replace P9 := P9.below hb P9.lt
        try replace Q9 := Q9.below hb
        clear hb
        go_wp2
        go_ret
        exact ⟨rfl, b⟩
end Go.Proofs.Ytioheadchhkjmaa
