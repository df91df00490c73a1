/-
  The walk of the law ExactArmCovers: whatever comes in, the program and the reference agree.
-/
import Derived.Test.YthobedmjbkjfoaaWArm
import Derived.Test.YthobedmjbkjfoaaWLawsF
import Derived.Deep.DeepCutAuto
namespace Go.Proofs.Ythobedmjbkjfoaa
open Go.RowKit

set_option maxHeartbeats 4000000 in
theorem exactArmCovers_walk (A : Option Addr) (n c : Nat) (ds : List D) (z : Int) (x y x' y' : Int) (w : World) (hr : Rd w w.heap.size A n c ds) (_hz : -9223372036854775808 ≤ z ∧ z ≤ 9223372036854775807) (hxy : (-9223372036854775808 ≤ x ∧ x ≤ 9223372036854775807) ∧ -9223372036854775808 ≤ y ∧ y ≤ 9223372036854775807) (hxy' : (-9223372036854775808 ≤ x' ∧ x' ≤ 9223372036854775807) ∧ -9223372036854775808 ≤ y' ∧ y' ≤ 9223372036854775807) :
    Calls Try.prog 6 #[.agg #[.slice A n c, .int .i64 z], .agg #[.int .i64 x, .int .i64 y], .agg #[.int .i64 x', .int .i64 y']] w fun e w' => e = .returned (.bool true) ∧ Below w.heap.size w w' := by
  have HR := Lib.hid hr
  have HG := Lib.hid hr.2.2.2.1
  have HL := Lib.hid hr.1
  obtain ⟨hx, hy⟩ := hxy
  obtain ⟨hx', hy'⟩ := hxy'
  clear hr
  have q := ((blk1 w #[.slice A n c, .int .i64 z] 24).alloc (.cells #[.int .i64 x, .int .i64 y] 26)).alloc (.cells #[.int .i64 x', .int .i64 y'] 26)
  have p := (blk2 w (.cells #[.slice A n c, .int .i64 z] 24) #[.int .i64 x, .int .i64 y] 26).alloc (.cells #[.int .i64 x', .int .i64 y'] 26)
  have p' := blk3 w (.cells #[.slice A n c, .int .i64 z] 24) (.cells #[.int .i64 x, .int .i64 y] 26) #[.int .i64 x', .int .i64 y'] 26
  have b := below3 w (.cells #[.slice A n c, .int .i64 z] 24) (.cells #[.int .i64 x, .int .i64 y] 26) (.cells #[.int .i64 x', .int .i64 y'] 26)
  go_enter Try.func6, Try.ntmps6
  go_wp2_with fail
  refine (szFlag_any _ _ _ ds z _ (by omega) (by omega) _ (HR.out.to b)).mono ?_
  rintro e w1 ⟨m, hm0, hm1, rfl, hb⟩
  replace b := Below.on b hb b.size
  replace q := q.below hb q.lt
  replace p := p.below hb p.lt
  replace p' := p'.below hb p'.lt
  have f0 := q.cell 0
  have f1 := q.cell 1
  have f2 := p.cell 0
  have f3 := p.cell 1
  have f4 := p'.cell 0
  have f5 := p'.cell 1
  clear hb
  by_cases hm : m < 0
  · go_wp2
    go_ret
    exact ⟨rfl, b⟩
  go_upto_region 5 with fail
  go_cut [8] (fun s0 wx => s0 = .bool (armCovers ds z x y x' y') ∧ Blk wx (w.heap.size) 24 #[.slice A n c, .int .i64 z] ∧ Blk wx (w.heap.size + 1) 26 #[.int .i64 x, .int .i64 y] ∧ Blk wx (w.heap.size + 1 + 1) 26 #[.int .i64 x', .int .i64 y'] ∧ Below w.heap.size w wx)
  case first =>
    replace b := b.drew
    replace q := q.drew
    replace p := p.drew
    replace p' := p'.drew
    go_region_held3 (fun w' => w'.cell? ⟨w.heap.size, 0, none⟩ = some (.slice A n c) ∧ w'.cell? ⟨w.heap.size, 1, none⟩ = some (.int .i64 z) ∧ w'.cell? ⟨w.heap.size + 1, 0, none⟩ = some (.int .i64 x) ∧ w'.cell? ⟨w.heap.size + 1, 1, none⟩ = some (.int .i64 y) ∧ w'.cell? ⟨w.heap.size + 1 + 1, 0, none⟩ = some (.int .i64 x') ∧ w'.cell? ⟨w.heap.size + 1 + 1, 1, none⟩ = some (.int .i64 y')) (go_keep)
      (first
        | (go_at_call 12; refine (toFlag_any _ _ _ ds z _ (HR.out.to b)).mono ?_; rintro e wk ⟨ga, rfl, _, ra, hb⟩; replace b := Below.on b hb b.size; replace q := q.below hb q.lt; replace p := p.below hb p.lt; replace p' := p'.below hb p'.lt; have f0 := q.cell 0; have f1 := q.cell 1; have f2 := p.cell 0; have f3 := p.cell 1; have f4 := p'.cell 0; have f5 := p'.cell 1; have R2 := ra.rd HG.out; rw [HL.out] at R2; clear hb ra)
        | (go_at_call 13; refine (toArm_any _ _ _).mono ?_; rintro e wk ⟨rfl, hb⟩; replace b := Below.on b hb b.size; replace q := q.below hb q.lt; replace p := p.below hb p.lt; replace p' := p'.below hb p'.lt; have f0 := q.cell 0; have f1 := q.cell 1; have f2 := p.cell 0; have f3 := p.cell 1; have f4 := p'.cell 0; have f5 := p'.cell 1; (try replace R2 := R2.to hb); clear hb)
        | (go_at_call 20; refine (sarmCovers_any x y x' y' _ _ _ ds z _ R2).mono ?_; rintro e wk ⟨rfl, hb⟩; replace b := Below.on b hb b.size; replace q := q.below hb q.lt; replace p := p.below hb p.lt; replace p' := p'.below hb p'.lt; have f0 := q.cell 0; have f1 := q.cell 1; have f2 := p.cell 0; have f3 := p.cell 1; have f4 := p'.cell 0; have f5 := p'.cell 1; clear hb))
    all_goals (go_wp2_with fail; go_meet; exact ⟨rfl, q, p, p', b⟩)
  case rest =>
    obtain ⟨rfl, q, p, p', b⟩ := hcut
    have f0 := q.cell 0
    have f1 := q.cell 1
    have f2 := p.cell 0
    have f3 := p.cell 1
    have f4 := p'.cell 0
    have f5 := p'.cell 1
    go_wp2_with fail
    refine (toFlag_any _ _ _ ds z _ (HR.out.to b)).mono ?_
    rintro e w4 ⟨g4, rfl, _, r4, hb⟩
    replace b := Below.on b hb b.size
    replace q := q.below hb q.lt
    replace p := p.below hb p.lt
    replace p' := p'.below hb p'.lt
    have x0 := blk1 w4 #[.slice (some ⟨g4, 0, none⟩) n n, .int .i64 z] 31
    have r5 := r4.alloc (.cells #[.slice (some ⟨g4, 0, none⟩) n n, .int .i64 z] 31)
    have X := r5.rd HG.out
    rw [HL.out] at X
    replace q := q.alloc (.cells #[.slice (some ⟨g4, 0, none⟩) n n, .int .i64 z] 31)
    replace p := p.alloc (.cells #[.slice (some ⟨g4, 0, none⟩) n n, .int .i64 z] 31)
    replace p' := p'.alloc (.cells #[.slice (some ⟨g4, 0, none⟩) n n, .int .i64 z] 31)
    replace b := Below.on b (below1 w4 (.cells #[.slice (some ⟨g4, 0, none⟩) n n, .int .i64 z] 31)) b.size
    have k0 : w.heap.size < w4.heap.size + 1 := by simpa using q.lt
    clear hb r4 r5 f0 f1 f2 f3 f4 f5
    have f0 := q.cell 0
    have f1 := q.cell 1
    have f2 := p.cell 0
    have f3 := p.cell 1
    have f4 := p'.cell 0
    have f5 := p'.cell 1
    have f6 := x0.cell 0
    have f7 := x0.cell 1
    go_upto_region 7 with fail
    go_cut [10] (fun s0 wx => s0 = .bool (armCovers ds z x y x' y') ∧ Blk wx (w.heap.size) 24 #[.slice A n c, .int .i64 z] ∧ Blk wx (w.heap.size + 1) 26 #[.int .i64 x, .int .i64 y] ∧ Blk wx (w.heap.size + 1 + 1) 26 #[.int .i64 x', .int .i64 y'] ∧ Blk wx w4.heap.size 31 #[.slice (some ⟨g4, 0, none⟩) n n, .int .i64 z] ∧ Rd wx wx.heap.size (some ⟨g4, 0, none⟩) n n ds ∧ Below w.heap.size w wx)
    case first =>
      replace b := b.drew
      replace X := X.drew
      replace q := q.drew
      replace p := p.drew
      replace p' := p'.drew
      replace x0 := x0.drew
      go_region_held3 (fun w' => w'.cell? ⟨w4.heap.size, 0, none⟩ = some (.slice (some ⟨g4, 0, none⟩) n n) ∧ w'.cell? ⟨w4.heap.size, 1, none⟩ = some (.int .i64 z) ∧ w'.cell? ⟨w.heap.size + 1, 0, none⟩ = some (.int .i64 x) ∧ w'.cell? ⟨w.heap.size + 1, 1, none⟩ = some (.int .i64 y) ∧ w'.cell? ⟨w.heap.size + 1 + 1, 0, none⟩ = some (.int .i64 x') ∧ w'.cell? ⟨w.heap.size + 1 + 1, 1, none⟩ = some (.int .i64 y')) (go_keep)
        (first
          | (go_at_call 13; refine (toArm_any _ _ _).mono ?_; rintro e wk ⟨rfl, hb⟩; replace b := Below.on b hb b.size; replace q := q.below hb q.lt; replace p := p.below hb p.lt; replace p' := p'.below hb p'.lt; replace x0 := x0.below hb x0.lt; have f0 := q.cell 0; have f1 := q.cell 1; have f2 := p.cell 0; have f3 := p.cell 1; have f4 := p'.cell 0; have f5 := p'.cell 1; have f6 := x0.cell 0; have f7 := x0.cell 1; replace X := X.to hb; clear hb)
          | (go_at_call 21; refine (armCovers_any x y x' y' hx hy hx' hy' _ _ _ ds z _ X).mono ?_; rintro e wk ⟨rfl, hb⟩; replace b := Below.on b hb b.size; replace q := q.below hb q.lt; replace p := p.below hb p.lt; replace p' := p'.below hb p'.lt; replace x0 := x0.below hb x0.lt; have f0 := q.cell 0; have f1 := q.cell 1; have f2 := p.cell 0; have f3 := p.cell 1; have f4 := p'.cell 0; have f5 := p'.cell 1; have f6 := x0.cell 0; have f7 := x0.cell 1; replace X := X.to hb; clear hb))
      all_goals (go_wp2_with fail; go_meet; exact ⟨rfl, q, p, p', x0, X, b⟩)
    case rest =>
      obtain ⟨rfl, q, p, p', x0, X, b⟩ := hcut
      have f0 := q.cell 0
      have f1 := q.cell 1
      have f2 := p.cell 0
      have f3 := p.cell 1
      have f4 := p'.cell 0
      have f5 := p'.cell 1
      have f6 := x0.cell 0
      have f7 := x0.cell 1
      go_wp2_with fail
      replace b := b.drew
      replace X := X.drew
      replace q := q.drew
      replace p := p.drew
      replace p' := p'.drew
      replace x0 := x0.drew
      go_region_held3 (fun w' => w'.cell? ⟨w4.heap.size, 0, none⟩ = some (.slice (some ⟨g4, 0, none⟩) n n) ∧ w'.cell? ⟨w4.heap.size, 1, none⟩ = some (.int .i64 z) ∧ w'.cell? ⟨w.heap.size, 0, none⟩ = some (.slice A n c) ∧ w'.cell? ⟨w.heap.size, 1, none⟩ = some (.int .i64 z)) (go_keep)
        (first
          | (go_at_call 12; refine (toFlag_any _ _ _ ds z _ (HR.out.to b)).mono ?_; rintro e wk ⟨g7, rfl, _, r7, hb⟩; replace b := Below.on b hb b.size; replace q := q.below hb q.lt; replace p := p.below hb p.lt; replace p' := p'.below hb p'.lt; replace x0 := x0.below hb x0.lt; have f0 := q.cell 0; have f1 := q.cell 1; have f2 := p.cell 0; have f3 := p.cell 1; have f4 := p'.cell 0; have f5 := p'.cell 1; have f6 := x0.cell 0; have f7 := x0.cell 1; replace X := X.to hb; have Y := r7.rd HG.out; rw [HL.out] at Y; clear hb r7)
          | (go_at_call 15; refine (eqFlag_same _ _ _ _ _ ds z _ X Y).mono ?_; rintro e wk ⟨rfl, hb⟩; replace b := Below.on b hb b.size; replace q := q.below hb q.lt; replace p := p.below hb p.lt; replace p' := p'.below hb p'.lt; replace x0 := x0.below hb x0.lt; have f0 := q.cell 0; have f1 := q.cell 1; have f2 := p.cell 0; have f3 := p.cell 1; have f4 := p'.cell 0; have f5 := p'.cell 1; have f6 := x0.cell 0; have f7 := x0.cell 1; replace X := X.to hb; clear hb))
      go_wp2
      go_ret
      exact ⟨rfl, b⟩
end Go.Proofs.Ythobedmjbkjfoaa
