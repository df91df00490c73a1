/-
  The walk of the law ExactTurnChanges: whatever comes in, the program and the reference agree, and no memory is shared.
-/
import Derived.Test.YtioheadchhkjmaaWTurnI
import Derived.Test.YtioheadchhkjmaaWTurnS
import Derived.Test.YtioheadchhkjmaaWLawsH
import Derived.Test.YtioheadchhkjmaaWMarksH
import Derived.Deep.RegionHeld3
namespace Go.Proofs.Ytioheadchhkjmaa
open Go.RowKit
attribute [local go_sem ↓] Go.wp_at_zero Go.wp_at_succ

theorem mtGoH_size (f : Nat) : ∀ (j : Nat) (out : ByteArray), (mtGo f j out).size ≤ out.size + j := by
  induction f with
  | zero => intro j out; show out.size ≤ _; omega
  | succ f ih =>
    intro j out
    by_cases hj : j = 0
    · rw [mtGo, if_pos hj]; omega
    · rw [mtGo, if_neg hj]
      have h1 := ih (j / 10) (digitT j ++ out)
      have h2 : (digitT j ++ out).size = 1 + out.size := by rw [ByteArray.size_append]; unfold digitT; rw [strOfNums_size]; rfl
      omega
theorem mTH_size (k : Nat) : (mT k).size ≤ k + 1 := by
  have h1 := mtGoH_size (k + 1) k ⟨#[]⟩
  have h0 : (⟨#[]⟩ : ByteArray).size = 0 := rfl
  have h2 : (mT k).size = 1 + (mtGo (k + 1) k ⟨#[]⟩).size := by unfold mT; rw [ByteArray.size_append]; rfl
  omega
theorem MarkedH.good {k n : Nat} {cs : List Ch} (h : MarkedH k n cs) (hl : cs.length = n) (hn : n ≤ 3518437208883) (hk : k + 4 * n ≤ 4611686018427387904) : GoodH cs := by
  refine ⟨by omega, fun d hd => ?_⟩
  obtain ⟨j, hj, rfl⟩ := List.getElem_of_mem hd
  have e := h j (by omega)
  rw [nthH_get hj] at e
  rw [e]
  have := mTH_size (k + 4 * j + 1)
  exact ⟨by simp only [markH]; omega, ⟨by simp only [markH]; omega, by simp only [markH]; omega⟩, ⟨by simp only [markH]; omega, by simp only [markH]; omega⟩, ⟨by simp only [markH]; omega, by simp only [markH]; omega⟩⟩

set_option maxRecDepth 100000 in
set_option maxHeartbeats 8000000 in
theorem exactTurnChanges_walk (A : Option Addr) (n c : Nat) (cs : List Ch) (w : World) (hr : RdH w w.heap.size A n c cs) :
    Calls Try.prog 3 #[.slice A n c] w fun e w' => e = .returned (.bool true) ∧ Below w.heap.size w w' := by
  have HR := Lib.hid hr
  have HG := Lib.hid hr.2.2.2.1
  have HL := Lib.hid hr.1
  have hn1 : n ≤ 3518437208883 := by have := hr.2.2.2.1.1; rw [hr.1] at this; exact this
  have HGT := Lib.hid (turned_good hr.2.2.2.1)
  have HLT := Lib.hid (show (turned cs).length = n from by rw [turned_length]; exact hr.1)
  have b := Below.refl w.heap.size w
  clear hr
  go_enter Try.func3, Try.ntmps3
  go_wp2_with fail
  refine (szChangeS_any _ _ _ cs _ (by omega) (by omega) _ HR.out).mono ?_
  rintro e w1 ⟨m, hm0, hm1, rfl, hb⟩
  replace b := Below.on b hb b.size
  clear hb
  by_cases hm : m < 0
  · go_wp2
    go_ret
    exact ⟨rfl, b⟩
  go_wp2_with fail
  refine (toChangeS_any _ _ _ cs _ (HR.out.to b)).mono ?_
  rintro e w2 ⟨g2, rfl, hge, r2, hb⟩
  have R2 := (ownH_blk (B := 0) r2 (Nat.zero_le _) HG.out).rd2 HG.out rfl
  rw [HL.out] at R2
  replace b := Below.on b hb b.size
  clear hb r2 hge
  go_wp2_with fail
  refine (turnS_any _ _ _ cs _ R2).mono ?_
  rintro e w3 ⟨A0, c0, rfl, O0, hb⟩
  rw [HL.out]
  rw [HL.out] at O0
  replace b := Below.on b hb b.size
  clear hb R2
  go_wp2_with fail
  refine (toChangeS_any _ _ _ cs _ (HR.out.to b)).mono ?_
  rintro e w4 ⟨g4, rfl, hge, r4, hb⟩
  have h0lt : ∀ i, (.slice A0 n c0 : Value).ownBlock = some i → i < g4 := fun i hi => Nat.lt_of_lt_of_le (O0.lt i hi).2 hge
  have OX := ownH_blk (B := g4) r4 (Nat.le_refl _) HG.out
  rw [HL.out] at OX
  have hg4w : g4 < w4.heap.size := (OX.lt g4 rfl).2
  have hb4 : w.heap.size ≤ g4 := Nat.le_trans b.size hge
  replace b := Below.on b hb b.size
  replace O0 := O0.below hb
  clear hb r4 hge
  have RX := OX.rd2 HG.out HL.out
  go_wp2_with fail
  refine (turnI_any _ _ _ cs _ RX).mono ?_
  rintro e w5 ⟨Ag, cg, rfl, OG, hb⟩
  rw [HL.out]
  rw [HL.out] at OG
  have hw4 : w.heap.size ≤ w4.heap.size := b.size
  replace b := Below.on b hb b.size
  replace O0 := O0.below hb
  replace OX := OX.below hb
  clear hb RX
  have RG := OG.rd2 HGT.out HLT.out
  have R0 := O0.rd2 HGT.out HLT.out
  go_wp2_with fail
  refine (eqChangeS_same _ _ _ _ _ (turned cs) _ RG R0).mono ?_
  rintro e wn ⟨rfl, hb⟩
  clear RG R0
  replace b := Below.on b hb b.size
  try replace O0 := O0.below hb
  try replace OX := OX.below hb
  try replace OG := OG.below hb
  clear hb
  go_wp2_with fail
  refine (toChangeS_any _ _ _ cs _ (HR.out.to b)).mono ?_
  rintro e w7 ⟨g7, rfl, hge, r7, hb⟩
  have R7 := (ownH_blk (B := 0) r7 (Nat.zero_le _) HG.out).rd2 HG.out rfl
  rw [HL.out] at R7
  clear r7 hge
  replace b := Below.on b hb b.size
  try replace O0 := O0.below hb
  try replace OX := OX.below hb
  try replace OG := OG.below hb
  clear hb
  have RX := OX.rd2 HG.out HL.out
  go_wp2_with fail
  refine (eqChangeS_same _ _ _ _ _ cs _ RX R7).mono ?_
  rintro e w8 ⟨rfl, hb⟩
  clear RX R7
  replace b := Below.on b hb b.size
  try replace O0 := O0.below hb
  try replace OX := OX.below hb
  try replace OG := OG.below hb
  clear hb
  go_wp2_with fail
  refine (markChangeS_any g4 (some ⟨g4, 0, none⟩) n n cs 1 (by omega) (by omega) _ HL.out OX).mono ?_
  rintro e w9 ⟨mx, rfl, hlx, hmx, OX2, hgr⟩
  replace hgr : World.grownBy w8 w9 (some g4) := hgr
  replace b := b.grown hgr b.size (fun i hi => by simp at hi; omega)
  replace O0 := O0.row hgr (fun i hi => by have := h0lt i hi; simp; omega)
  replace OG := OG.row hgr (fun i hi => by have := (OG.lt i hi).1; simp; omega)
  clear hgr OX OX2 hmx hlx
  have hp1 : ¬ (((1 + 4 * n : Nat) : Int) < 0) := by omega
  have RG := OG.rd2 HGT.out HLT.out
  have R0 := O0.rd2 HGT.out HLT.out
  go_wp2_with fail
  refine (eqChangeS_same _ _ _ _ _ (turned cs) _ RG R0).mono ?_
  rintro e wn ⟨rfl, hb⟩
  clear RG R0
  replace b := Below.on b hb b.size
  try replace O0 := O0.below hb
  try replace OX := OX.below hb
  try replace OG := OG.below hb
  clear hb
  go_wp2_with fail
  refine (markChangeS_any w4.heap.size Ag n cg (turned cs) 1 (by omega) (by omega) _ HLT.out OG).mono ?_
  rintro e w10 ⟨mg, rfl, hlg, hmg, OG2, hgr⟩
  have HOG := fun i hi => (OG.lt i hi).1
  replace b := b.grown hgr b.size (fun i hi => by have := HOG i hi; omega)
  replace O0 := O0.row hgr (fun i hi e => by have := HOG i e; have := h0lt i hi; omega)
  replace OG := OG2
  have HMG := Lib.hid hmg
  have HLM := Lib.hid hlg
  have HGM := Lib.hid (hmg.good hlg (by omega) (by omega))
  clear hgr OG2 HOG hmg hlg
  have RH := OG.rd2 HGM.out HLM.out
  go_wp2_with fail
  refine (heldChangeS_any _ _ _ mg 1 (by omega) (by omega) _ RH HMG.out).mono ?_
  rintro e wh ⟨rfl, hb⟩
  clear RH
  replace b := Below.on b hb b.size
  try replace O0 := O0.below hb
  try replace OX := OX.below hb
  try replace OG := OG.below hb
  clear hb
  go_wp2_with fail
  refine (toChangeS_any _ _ _ cs _ (HR.out.to b)).mono ?_
  rintro e w12 ⟨g12, rfl, hge, r12, hb⟩
  have R12 := (ownH_blk (B := 0) r12 (Nat.zero_le _) HG.out).rd2 HG.out rfl
  rw [HL.out] at R12
  clear r12 hge
  replace b := Below.on b hb b.size
  try replace O0 := O0.below hb
  try replace OX := OX.below hb
  try replace OG := OG.below hb
  clear hb
  go_wp2_with fail
  refine (turnI_any _ _ _ cs _ R12).mono ?_
  rintro e w13 ⟨Ah, ch, rfl, OH, hb⟩
  rw [HL.out]
  rw [HL.out] at OH
  clear R12
  replace b := Below.on b hb b.size
  try replace O0 := O0.below hb
  try replace OX := OX.below hb
  try replace OG := OG.below hb
  clear hb
  have RG := OH.rd2 HGT.out HLT.out
  have R0 := O0.rd2 HGT.out HLT.out
  go_wp2_with fail
  refine (eqChangeS_same _ _ _ _ _ (turned cs) _ RG R0).mono ?_
  rintro e w14 ⟨rfl, hb⟩
  clear RG R0 OH
  replace b := Below.on b hb b.size
  try replace O0 := O0.below hb
  try replace OX := OX.below hb
  try replace OG := OG.below hb
  clear hb
  have RH := OG.rd2 HGM.out HLM.out
  go_wp2_with fail
  refine (heldChangeS_any _ _ _ mg 1 (by omega) (by omega) _ RH HMG.out).mono ?_
  rintro e wh ⟨rfl, hb⟩
  clear RH
  replace b := Below.on b hb b.size
  try replace O0 := O0.below hb
  try replace OX := OX.below hb
  try replace OG := OG.below hb
  clear hb
  go_wp2
  go_ret
  exact ⟨rfl, b⟩
end Go.Proofs.Ytioheadchhkjmaa
