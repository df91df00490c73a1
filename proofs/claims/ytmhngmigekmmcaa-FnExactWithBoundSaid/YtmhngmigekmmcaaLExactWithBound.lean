/-
  The walk of the law ExactWithBound: whatever comes in, the program and the reference agree, and no memory is shared.
-/
import Derived.Test.YtmhngmigekmmcaaWMarkF
import Derived.Test.YtmhngmigekmmcaaWLawsF
import Derived.Deep.RegionHeld3
namespace Go.Proofs.Ytmhngmigekmmcaa
open Go.RowKit
attribute [local go_sem ↓] Go.wp_at_zero Go.wp_at_succ

theorem mtGo_size (f : Nat) : ∀ (j : Nat) (out : ByteArray), (mtGo f j out).size ≤ out.size + j := by
  induction f with
  | zero => intro j out; show out.size ≤ _; omega
  | succ f ih =>
    intro j out
    by_cases hj : j = 0
    · rw [mtGo, if_pos hj]; omega
    · rw [mtGo, if_neg hj]
      have h1 := ih (j / 10) (digitT j ++ out)
      have h2 : (digitT j ++ out).size = 1 + out.size := by rw [ByteArray.size_append]; unfold digitT; rw [strOfNums_size]; rfl
      omega
theorem mT_size (k : Nat) : (mT k).size ≤ k + 1 := by
  have h1 := mtGo_size (k + 1) k ⟨#[]⟩
  have h0 : (⟨#[]⟩ : ByteArray).size = 0 := rfl
  have h2 : (mT k).size = 1 + (mtGo (k + 1) k ⟨#[]⟩).size := by unfold mT; rw [ByteArray.size_append]; rfl
  omega
theorem Marked.good {k n : Nat} {ds : List D} (h : Marked k n ds) (hl : ds.length = n) (hn : n ≤ 5864062014805) (hk : k + 2 * n ≤ 4611686018427387904) : Good ds := by
  refine ⟨by omega, fun d hd => ?_⟩
  obtain ⟨j, hj, rfl⟩ := List.getElem_of_mem hd
  have e := h j (by omega)
  rw [nth_get hj] at e
  rw [e]
  have := mT_size (k + 2 * j)
  exact ⟨by simp only; omega, by simp only; omega, by simp only; omega⟩
theorem ownC_row {w : World} {B g : Nat} {t : TypeId} {ds : List D} (h : Row w g t ds) (hB : B ≤ g) (hg : Good ds) : OwnC w B t (.slice (some ⟨g, 0, none⟩) ds.length ds.length) ds :=
  .inr ⟨g, ds.length, (flat ds).toArray, rfl, hB, h, Nat.le_refl _, by have := hg.1; unfold maxLen; omega, by simp [flat_length], List.take_of_length_le (by rw [flat_length]; exact Nat.le_refl _)⟩
theorem OwnC.row {w w' : World} {B : Nat} {t : TypeId} {v : Value} {ds : List D} {row : Option Nat} (h : OwnC w B t v ds) (hg : w.grownBy w' row) (hne : ∀ i, v.ownBlock = some i → row ≠ some i) : OwnC w' B t v ds :=
  h.keep fun i hi => hg.block i (h.lt i hi).2 (fun e => hne i hi e.symm)

set_option maxRecDepth 100000 in
set_option maxHeartbeats 8000000 in
theorem exactWithBound_walk (A : Option Addr) (n c : Nat) (ds : List D) (z : Int) (k : Int) (w : World) (hr : Rd w w.heap.size A n c ds) (_hz : -9223372036854775808 ≤ z ∧ z ≤ 9223372036854775807) (_hk : -9223372036854775808 ≤ k ∧ k ≤ 9223372036854775807) :
    Calls Try.prog 4 #[.agg #[.slice A n c, .int .i64 z], .int .i64 k] w fun e w' => e = .returned (.bool true) ∧ Below w.heap.size w w' := by
  have HR := Lib.hid hr
  have hg := Lib.hid hr.2.2.2.1
  have HL := Lib.hid hr.1
  have hn1 : n ≤ 5864062014805 := by have := hr.2.2.2.1.1; rw [hr.1] at this; exact this
  obtain ⟨ds', z', ok, hgd, hI, hS⟩ := withBound_both ds z k hr.2.2.2.1
  have HGd := Lib.hid hgd
  have HI := Lib.hid hI
  have HS := Lib.hid hS
  have hn2 := hgd.1
  clear hr hgd hI hS
  have q := blk1 w #[.slice A n c, .int .i64 z] 33
  have b := below1 w (.cells #[.slice A n c, .int .i64 z] 33)
  go_enter Try.func4, Try.ntmps4
  go_wp2_with fail
  refine (szFlag_any _ _ _ ds z _ (by omega) (by omega) _ (HR.out.to b)).mono ?_
  rintro e w1 ⟨m, hm0, hm1, rfl, hb⟩
  replace b := Below.on b hb b.size
  replace q := q.below hb q.lt
  try replace p0 := p0.below hb p0.lt
  try replace O0 := O0.below hb
  try replace x := x.below hb x.lt
  try replace OX := OX.below hb
  try replace pg := pg.below hb pg.lt
  try replace OG := OG.below hb
  clear hb
  have c0 := q.cell 0
  have c1 := q.cell 1
  by_cases hm : m < 0
  · go_wp2
    go_ret
    exact ⟨rfl, b⟩
  go_wp2_with fail
  refine (toFlag_any _ _ _ ds z _ (HR.out.to b)).mono ?_
  rintro e w2 ⟨g2, rfl, _, r2, hb⟩
  have R2 := r2.rd hg.out
  rw [HL.out] at R2
  replace b := Below.on b hb b.size
  replace q := q.below hb q.lt
  try replace p0 := p0.below hb p0.lt
  try replace O0 := O0.below hb
  try replace x := x.below hb x.lt
  try replace OX := OX.below hb
  try replace pg := pg.below hb pg.lt
  try replace OG := OG.below hb
  clear hb
  replace c0 := q.cell 0
  replace c1 := q.cell 1
  try replace e0 := p0.cell 0
  try replace e1 := p0.cell 1
  try replace d0 := x.cell 0
  try replace d1 := x.cell 1
  try replace f0 := pg.cell 0
  try replace f1 := pg.cell 1
  clear r2
  go_wp2_with fail
  refine (HS.out _ n n _ R2 (by simp)).mono ?_
  rintro e w3 ⟨A0, cw, rfl, O0', hb⟩
  replace b := Below.on b hb b.size
  replace q := q.below hb q.lt
  try replace p0 := p0.below hb p0.lt
  try replace O0 := O0.below hb
  try replace x := x.below hb x.lt
  try replace OX := OX.below hb
  try replace pg := pg.below hb pg.lt
  try replace OG := OG.below hb
  clear hb
  clear R2
  have p0' := blk1 w3 #[.slice A0 ds'.length cw, .int .i64 z'] 36
  have hb := below1 w3 (.cells #[.slice A0 ds'.length cw, .int .i64 z'] 36)
  have O0 := O0'.below hb
  replace b := Below.on b hb b.size
  replace q := q.below hb q.lt
  try replace p0 := p0.below hb p0.lt
  try replace O0 := O0.below hb
  try replace x := x.below hb x.lt
  try replace OX := OX.below hb
  try replace pg := pg.below hb pg.lt
  try replace OG := OG.below hb
  clear hb
  have p0 := p0'
  clear O0' p0'
  replace c0 := q.cell 0
  replace c1 := q.cell 1
  try replace e0 := p0.cell 0
  try replace e1 := p0.cell 1
  try replace d0 := x.cell 0
  try replace d1 := x.cell 1
  try replace f0 := pg.cell 0
  try replace f1 := pg.cell 1
  go_wp2_with fail
  refine (toFlag_any _ _ _ ds z _ (HR.out.to b)).mono ?_
  rintro e w4 ⟨g4, rfl, hg4, r4, hb⟩
  have h0lt : ∀ i, (.slice A0 ds'.length cw : Value).ownBlock = some i → i < g4 := fun i hi => Nat.lt_of_lt_of_le (O0.lt i hi).2 hg4
  have hp0g : w3.heap.size < g4 := Nat.lt_of_lt_of_le p0.lt hg4
  have hqg : w.heap.size < g4 := Nat.lt_of_lt_of_le q.lt hg4
  replace b := Below.on b hb b.size
  replace q := q.below hb q.lt
  try replace p0 := p0.below hb p0.lt
  try replace O0 := O0.below hb
  try replace x := x.below hb x.lt
  try replace OX := OX.below hb
  try replace pg := pg.below hb pg.lt
  try replace OG := OG.below hb
  clear hb
  have OX' := ownC_row (B := g4) r4 (Nat.le_refl _) hg.out
  rw [HL.out] at OX'
  have x' := blk1 w4 #[.slice (some ⟨g4, 0, none⟩) n n, .int .i64 z] 36
  have hg4w : g4 < w4.heap.size := by have := OX'.lt g4 rfl; exact this.2
  have hb := below1 w4 (.cells #[.slice (some ⟨g4, 0, none⟩) n n, .int .i64 z] 36)
  have OX := OX'.below hb
  replace b := Below.on b hb b.size
  replace q := q.below hb q.lt
  try replace p0 := p0.below hb p0.lt
  try replace O0 := O0.below hb
  try replace x := x.below hb x.lt
  try replace OX := OX.below hb
  try replace pg := pg.below hb pg.lt
  try replace OG := OG.below hb
  clear hb
  have x := x'
  clear OX' x' r4
  replace c0 := q.cell 0
  replace c1 := q.cell 1
  try replace e0 := p0.cell 0
  try replace e1 := p0.cell 1
  try replace d0 := x.cell 0
  try replace d1 := x.cell 1
  try replace f0 := pg.cell 0
  try replace f1 := pg.cell 1
  obtain ⟨A', c', he, RX⟩ := OX.rd hg.out
  rw [HL.out] at he RX
  simp only [Value.slice.injEq] at he
  obtain ⟨rfl, _, rfl⟩ := he
  go_wp2_with fail
  refine (HI.out _ n n _ RX (by simp)).mono ?_
  rintro e w5 ⟨Ag, cg, rfl, OG', hb⟩
  have hgxl : w4.heap.size < w5.heap.size := Nat.lt_of_lt_of_le x.lt hb.size
  replace OG' := OG'.base (B' := w4.heap.size + 1) (by simp)
  have hglt : ∀ i, (.slice Ag ds'.length cg : Value).ownBlock = some i → i < w5.heap.size := fun i hi => (OG'.lt i hi).2
  replace b := Below.on b hb b.size
  replace q := q.below hb q.lt
  try replace p0 := p0.below hb p0.lt
  try replace O0 := O0.below hb
  try replace x := x.below hb x.lt
  try replace OX := OX.below hb
  try replace pg := pg.below hb pg.lt
  try replace OG := OG.below hb
  clear hb
  clear RX
  have pg' := blk1 w5 #[.slice Ag ds'.length cg, .int .i64 z'] 36
  have hb := below1 w5 (.cells #[.slice Ag ds'.length cg, .int .i64 z'] 36)
  have OG := OG'.below hb
  replace b := Below.on b hb b.size
  replace q := q.below hb q.lt
  try replace p0 := p0.below hb p0.lt
  try replace O0 := O0.below hb
  try replace x := x.below hb x.lt
  try replace OX := OX.below hb
  try replace pg := pg.below hb pg.lt
  try replace OG := OG.below hb
  clear hb
  have pg := pg'
  clear OG' pg'
  replace c0 := q.cell 0
  replace c1 := q.cell 1
  try replace e0 := p0.cell 0
  try replace e1 := p0.cell 1
  try replace d0 := x.cell 0
  try replace d1 := x.cell 1
  try replace f0 := pg.cell 0
  try replace f1 := pg.cell 1
  obtain ⟨A', c', he, RG⟩ := OG.rd HGd.out
  simp only [Value.slice.injEq] at he
  obtain ⟨rfl, _, rfl⟩ := he
  obtain ⟨A', c', he, R0⟩ := O0.rd HGd.out
  simp only [Value.slice.injEq] at he
  obtain ⟨rfl, _, rfl⟩ := he
  go_wp2_with fail
  refine (eqFlag_same _ _ _ _ _ ds' z' _ RG R0).mono ?_
  rintro e wn ⟨rfl, hb⟩
  clear RG R0
  replace b := Below.on b hb b.size
  replace q := q.below hb q.lt
  try replace p0 := p0.below hb p0.lt
  try replace O0 := O0.below hb
  try replace x := x.below hb x.lt
  try replace OX := OX.below hb
  try replace pg := pg.below hb pg.lt
  try replace OG := OG.below hb
  clear hb
  replace c0 := q.cell 0
  replace c1 := q.cell 1
  try replace e0 := p0.cell 0
  try replace e1 := p0.cell 1
  try replace d0 := x.cell 0
  try replace d1 := x.cell 1
  try replace f0 := pg.cell 0
  try replace f1 := pg.cell 1
  obtain ⟨A', c', he, RX⟩ := OX.rd hg.out
  rw [HL.out] at he RX
  simp only [Value.slice.injEq] at he
  obtain ⟨rfl, _, rfl⟩ := he
  have hne : w.heap.size < wn.heap.size := q.lt
  have hne' : w4.heap.size < wn.heap.size := x.lt
  go_wp2_with fail
  go_region_held3 (fun w' => w'.cell? ⟨w4.heap.size, 0, none⟩ = some (.slice (some ⟨g4, 0, none⟩) n n) ∧ w'.cell? ⟨w4.heap.size, 1, none⟩ = some (.int .i64 z) ∧ w'.cell? ⟨w.heap.size, 0, none⟩ = some (.slice A n c) ∧ w'.cell? ⟨w.heap.size, 1, none⟩ = some (.int .i64 z)) (go_keep)
    (first
      | (go_at_call 14; refine (toFlag_any _ _ _ ds z _ (HR.out.to b.drew)).mono ?_; rintro e w7 ⟨g7, rfl, _, r7, hb7⟩; have x7 := x.drew.below hb7 x.lt; have q7 := q.drew.below hb7 q.lt; have y0 := x7.cell 0; have y1 := x7.cell 1; have y2 := q7.cell 0; have y3 := q7.cell 1; have R7 := r7.rd hg.out; rw [HL.out] at R7)
      | (go_at_call 16; refine (eqFlag_same _ _ _ _ _ ds z _ (RX.drew.to hb7) R7).mono ?_; rintro e w8 ⟨rfl, hb8⟩; have y4 := (x7.below hb8 x7.lt).cell 0; have y5 := (x7.below hb8 x7.lt).cell 1; have y6 := (q7.below hb8 q7.lt).cell 0; have y7 := (q7.below hb8 q7.lt).cell 1))
  have hb : Below wn.heap.size wn w8 := Below.on (Below.on (Below.refl wn.heap.size wn).drew hb7 (Nat.le_refl _)) hb8 hb7.size
  clear y0 y1 y2 y3 y4 y5 y6 y7 x7 q7 R7 RX hb7 hb8 r7
  replace b := Below.on b hb b.size
  replace q := q.below hb q.lt
  try replace p0 := p0.below hb p0.lt
  try replace O0 := O0.below hb
  try replace x := x.below hb x.lt
  try replace OX := OX.below hb
  try replace pg := pg.below hb pg.lt
  try replace OG := OG.below hb
  clear hb
  replace c0 := q.cell 0
  replace c1 := q.cell 1
  try replace e0 := p0.cell 0
  try replace e1 := p0.cell 1
  try replace d0 := x.cell 0
  try replace d1 := x.cell 1
  try replace f0 := pg.cell 0
  try replace f1 := pg.cell 1
  go_wp2_with fail
  refine (markFlag_any g4 (some ⟨g4, 0, none⟩) n n ds z 1 (by omega) (by omega) _ HL.out OX).mono ?_
  rintro e w9 ⟨mx, rfl, hlx, hmx, OX2, hgr⟩
  replace hgr : World.grownBy w8 w9 (some g4) := hgr
  replace b := b.grown hgr b.size (fun i hi => by simp at hi; omega)
  replace q := q.row hgr (by simp; omega)
  replace p0 := p0.row hgr (by simp; omega)
  replace O0 := O0.row hgr (fun i hi => by have := h0lt i hi; simp; omega)
  replace x := x.row hgr (by simp; omega)
  replace pg := pg.row hgr (by simp; omega)
  replace OG := OG.row hgr (fun i hi => by have := (OG.lt i hi).1; simp; omega)
  clear hgr OX OX2 hmx hlx
  have hp1 : ¬ (((1 + 2 * n : Nat) : Int) < 0) := by omega
  replace c0 := q.cell 0
  replace c1 := q.cell 1
  try replace e0 := p0.cell 0
  try replace e1 := p0.cell 1
  try replace d0 := x.cell 0
  try replace d1 := x.cell 1
  try replace f0 := pg.cell 0
  try replace f1 := pg.cell 1
  obtain ⟨A', c', he, RG⟩ := OG.rd HGd.out
  simp only [Value.slice.injEq] at he
  obtain ⟨rfl, _, rfl⟩ := he
  obtain ⟨A', c', he, R0⟩ := O0.rd HGd.out
  simp only [Value.slice.injEq] at he
  obtain ⟨rfl, _, rfl⟩ := he
  go_wp2_with fail
  refine (eqFlag_same _ _ _ _ _ ds' z' _ RG R0).mono ?_
  rintro e wn ⟨rfl, hb⟩
  clear RG R0
  replace b := Below.on b hb b.size
  replace q := q.below hb q.lt
  try replace p0 := p0.below hb p0.lt
  try replace O0 := O0.below hb
  try replace x := x.below hb x.lt
  try replace OX := OX.below hb
  try replace pg := pg.below hb pg.lt
  try replace OG := OG.below hb
  clear hb
  replace c0 := q.cell 0
  replace c1 := q.cell 1
  try replace e0 := p0.cell 0
  try replace e1 := p0.cell 1
  try replace d0 := x.cell 0
  try replace d1 := x.cell 1
  try replace f0 := pg.cell 0
  try replace f1 := pg.cell 1
  go_wp2_with fail
  refine (markFlag_any (w4.heap.size + 1) Ag ds'.length cg ds' z' 1 (by omega) (by omega) _ rfl OG).mono ?_
  rintro e w10 ⟨mg, rfl, hlg, hmg, OG2, hgr⟩
  have HOG := fun i hi => (OG.lt i hi).1
  replace b := b.grown hgr b.size (fun i hi => by have := HOG i hi; omega)
  replace q := q.row hgr (fun e => by have := HOG _ e; omega)
  replace p0 := p0.row hgr (fun e => by have := HOG _ e; omega)
  replace O0 := O0.row hgr (fun i hi e => by have := HOG i e; have := h0lt i hi; omega)
  replace x := x.row hgr (fun e => by have := HOG _ e; omega)
  replace pg := pg.row hgr (fun e => by have := hglt _ e; omega)
  replace OG := OG2
  have HMG := Lib.hid hmg
  have hgm := Lib.hid (hmg.good hlg (by omega) (by omega))
  clear hgr OG2 HOG hmg
  replace c0 := q.cell 0
  replace c1 := q.cell 1
  try replace e0 := p0.cell 0
  try replace e1 := p0.cell 1
  try replace d0 := x.cell 0
  try replace d1 := x.cell 1
  try replace f0 := pg.cell 0
  try replace f1 := pg.cell 1
  have hp2 : ¬ (((1 + 2 * ds'.length : Nat) : Int) < 0) := by omega
  obtain ⟨A', c', he, RH⟩ := OG.rd hgm.out
  rw [hlg] at he RH
  simp only [Value.slice.injEq] at he
  obtain ⟨rfl, _, rfl⟩ := he
  go_wp2_with fail
  refine (heldFlag_any _ _ _ mg z' 1 (by omega) (by omega) _ RH HMG.out).mono ?_
  rintro e wh ⟨rfl, hb⟩
  clear RH
  replace b := Below.on b hb b.size
  replace q := q.below hb q.lt
  try replace p0 := p0.below hb p0.lt
  try replace O0 := O0.below hb
  try replace x := x.below hb x.lt
  try replace OX := OX.below hb
  try replace pg := pg.below hb pg.lt
  try replace OG := OG.below hb
  clear hb
  replace c0 := q.cell 0
  replace c1 := q.cell 1
  try replace e0 := p0.cell 0
  try replace e1 := p0.cell 1
  try replace d0 := x.cell 0
  try replace d1 := x.cell 1
  try replace f0 := pg.cell 0
  try replace f1 := pg.cell 1
  go_wp2_with fail
  refine (toFlag_any _ _ _ ds z _ (HR.out.to b)).mono ?_
  rintro e w12 ⟨g12, rfl, _, r12, hb⟩
  have R12 := r12.rd hg.out
  rw [HL.out] at R12
  replace b := Below.on b hb b.size
  replace q := q.below hb q.lt
  try replace p0 := p0.below hb p0.lt
  try replace O0 := O0.below hb
  try replace x := x.below hb x.lt
  try replace OX := OX.below hb
  try replace pg := pg.below hb pg.lt
  try replace OG := OG.below hb
  clear hb
  replace c0 := q.cell 0
  replace c1 := q.cell 1
  try replace e0 := p0.cell 0
  try replace e1 := p0.cell 1
  try replace d0 := x.cell 0
  try replace d1 := x.cell 1
  try replace f0 := pg.cell 0
  try replace f1 := pg.cell 1
  clear r12
  go_wp2_with fail
  refine (HI.out _ n n _ R12 (by simp)).mono ?_
  rintro e w13 ⟨Ah, ch, rfl, OH', hb⟩
  replace b := Below.on b hb b.size
  replace q := q.below hb q.lt
  try replace p0 := p0.below hb p0.lt
  try replace O0 := O0.below hb
  try replace x := x.below hb x.lt
  try replace OX := OX.below hb
  try replace pg := pg.below hb pg.lt
  try replace OG := OG.below hb
  clear hb
  clear R12
  have ph := blk1 w13 #[.slice Ah ds'.length ch, .int .i64 z'] 36
  have hb := below1 w13 (.cells #[.slice Ah ds'.length ch, .int .i64 z'] 36)
  have OH := OH'.below hb
  replace b := Below.on b hb b.size
  replace q := q.below hb q.lt
  try replace p0 := p0.below hb p0.lt
  try replace O0 := O0.below hb
  try replace x := x.below hb x.lt
  try replace OX := OX.below hb
  try replace pg := pg.below hb pg.lt
  try replace OG := OG.below hb
  clear hb
  replace c0 := q.cell 0
  replace c1 := q.cell 1
  try replace e0 := p0.cell 0
  try replace e1 := p0.cell 1
  try replace d0 := x.cell 0
  try replace d1 := x.cell 1
  try replace f0 := pg.cell 0
  try replace f1 := pg.cell 1
  have h0 := ph.cell 0
  have h1 := ph.cell 1
  obtain ⟨A', c', he, RG⟩ := OH.rd HGd.out
  simp only [Value.slice.injEq] at he
  obtain ⟨rfl, _, rfl⟩ := he
  obtain ⟨A', c', he, R0⟩ := O0.rd HGd.out
  simp only [Value.slice.injEq] at he
  obtain ⟨rfl, _, rfl⟩ := he
  go_wp2_with fail
  refine (eqFlag_same _ _ _ _ _ ds' z' _ RG R0).mono ?_
  rintro e w14 ⟨rfl, hb⟩
  clear RG R0 OH OH' ph h0 h1
  replace b := Below.on b hb b.size
  replace q := q.below hb q.lt
  try replace p0 := p0.below hb p0.lt
  try replace O0 := O0.below hb
  try replace x := x.below hb x.lt
  try replace OX := OX.below hb
  try replace pg := pg.below hb pg.lt
  try replace OG := OG.below hb
  clear hb
  replace c0 := q.cell 0
  replace c1 := q.cell 1
  try replace e0 := p0.cell 0
  try replace e1 := p0.cell 1
  try replace d0 := x.cell 0
  try replace d1 := x.cell 1
  try replace f0 := pg.cell 0
  try replace f1 := pg.cell 1
  obtain ⟨A', c', he, RH⟩ := OG.rd hgm.out
  rw [hlg] at he RH
  simp only [Value.slice.injEq] at he
  obtain ⟨rfl, _, rfl⟩ := he
  go_wp2_with fail
  refine (heldFlag_any _ _ _ mg z' 1 (by omega) (by omega) _ RH HMG.out).mono ?_
  rintro e wh ⟨rfl, hb⟩
  clear RH
  replace b := Below.on b hb b.size
  replace q := q.below hb q.lt
  try replace p0 := p0.below hb p0.lt
  try replace O0 := O0.below hb
  try replace x := x.below hb x.lt
  try replace OX := OX.below hb
  try replace pg := pg.below hb pg.lt
  try replace OG := OG.below hb
  clear hb
  replace c0 := q.cell 0
  replace c1 := q.cell 1
  try replace e0 := p0.cell 0
  try replace e1 := p0.cell 1
  try replace d0 := x.cell 0
  try replace d1 := x.cell 1
  try replace f0 := pg.cell 0
  try replace f1 := pg.cell 1
  go_wp2
  go_ret
  exact ⟨rfl, b⟩
end Go.Proofs.Ytmhngmigekmmcaa
