/-
  The walk of the law ExactHighOf: whatever comes in, the program and the reference agree.
-/
import Derived.Test.YteilnbbbcekcaaaWHigh
import Derived.Test.YteilnbbbcekcaaaWLawsF
namespace Go.Proofs.Yteilnbbbcekcaaa
open Go.RowKit

set_option maxHeartbeats 2000000 in
theorem exactHighOf_walk (A : Option Addr) (n c : Nat) (ds : List D) (z : Int) (w : World) (hr : Rd w w.heap.size A n c ds) (_hz : -9223372036854775808 ≤ z ∧ z ≤ 9223372036854775807) :
    Calls Try.prog 14 #[.agg #[.slice A n c, .int .i64 z]] w fun e w' => e = .returned (.bool true) ∧ Below w.heap.size w w' := by
  have HR := Lib.hid hr
  have hg := Lib.hid hr.2.2.2.1
  have HL := Lib.hid hr.1
  clear hr
  have q := blk1 w #[.slice A n c, .int .i64 z] 24
  have b := below1 w (.cells #[.slice A n c, .int .i64 z] 24)
  go_enter Try.func14, Try.ntmps14
  go_wp2_with fail
  refine (szFlag_any _ _ _ ds z _ (by omega) (by omega) _ (HR.out.to b)).mono ?_
  rintro e w1 ⟨m, hm0, hm1, rfl, hb⟩
  replace b := Below.on b hb b.size
  replace q := q.below hb q.lt
  have c0 := q.cell 0
  have c1 := q.cell 1
  clear hb
  by_cases hm : m < 0
  · go_wp2
    go_ret
    exact ⟨rfl, b⟩
  go_wp2_with fail
  refine (toFlag_any _ _ _ ds z _ (HR.out.to b)).mono ?_
  rintro e w2 ⟨g2, rfl, _, r2, hb⟩
  replace b := Below.on b hb b.size
  replace q := q.below hb q.lt
  replace c0 := q.cell 0
  replace c1 := q.cell 1
  have R2 := r2.rd hg.out
  rw [HL.out] at R2
  clear hb r2
  go_wp2_with fail
  refine (shighOf_any _ _ _ ds z _ R2).mono ?_
  rintro e w3 ⟨rfl, hb⟩
  replace b := Below.on b hb b.size
  replace q := q.below hb q.lt
  replace c0 := q.cell 0
  replace c1 := q.cell 1
  clear hb R2
  go_wp2_with fail
  refine (toFlag_any _ _ _ ds z _ (HR.out.to b)).mono ?_
  rintro e w4 ⟨g4, rfl, _, r4, hb⟩
  replace b := Below.on b hb b.size
  replace q := q.below hb q.lt
  have x := blk1 w4 #[.slice (some ⟨g4, 0, none⟩) n n, .int .i64 z] 29
  have r5 := r4.alloc (.cells #[.slice (some ⟨g4, 0, none⟩) n n, .int .i64 z] 29)
  have X := r5.rd hg.out
  rw [HL.out] at X
  replace q := q.alloc (.cells #[.slice (some ⟨g4, 0, none⟩) n n, .int .i64 z] 29)
  replace b := Below.on b (below1 w4 (.cells #[.slice (some ⟨g4, 0, none⟩) n n, .int .i64 z] 29)) b.size
  replace c0 := q.cell 0
  replace c1 := q.cell 1
  clear hb r4 r5
  go_wp2_with fail
  refine (highOf_any _ _ _ ds z _ X).mono ?_
  rintro e w6 ⟨rfl, hb⟩
  replace b := Below.on b hb b.size
  replace q := q.below hb q.lt
  replace c0 := q.cell 0
  replace c1 := q.cell 1
  replace x := x.below hb x.lt
  have d0 := x.cell 0
  have d1 := x.cell 1
  replace X := X.to hb
  have hne : w.heap.size < w6.heap.size := q.lt
  have hne' : w4.heap.size < w6.heap.size := x.lt
  clear hb
  go_wp2_with fail
  go_region_held3 (fun w' => w'.cell? ⟨w4.heap.size, 0, none⟩ = some (.slice (some ⟨g4, 0, none⟩) n n) ∧ w'.cell? ⟨w4.heap.size, 1, none⟩ = some (.int .i64 z) ∧ w'.cell? ⟨w.heap.size, 0, none⟩ = some (.slice A n c) ∧ w'.cell? ⟨w.heap.size, 1, none⟩ = some (.int .i64 z)) (go_keep)
    (first
      | (go_at_call 17; refine (toFlag_any _ _ _ ds z _ (HR.out.to b.drew)).mono ?_; rintro e w7 ⟨g7, rfl, _, r7, hb7⟩; have x7 := x.drew.below hb7 x.lt; have q7 := q.drew.below hb7 q.lt; have e0 := x7.cell 0; have e1 := x7.cell 1; have e2 := q7.cell 0; have e3 := q7.cell 1; have R7 := r7.rd hg.out; rw [HL.out] at R7)
      | (go_at_call 19; refine (eqFlag_same _ _ _ _ _ ds z _ (X.drew.to hb7) R7).mono ?_; rintro e w8 ⟨rfl, hb8⟩; have e4 := (x7.below hb8 x7.lt).cell 0; have e5 := (x7.below hb8 x7.lt).cell 1; have e6 := (q7.below hb8 q7.lt).cell 0; have e7 := (q7.below hb8 q7.lt).cell 1))
  go_wp2
  go_ret
  exact ⟨rfl, Below.on (Below.on b.drew hb7 b.size) hb8 (Nat.le_trans b.size hb7.size)⟩
end Go.Proofs.Yteilnbbbcekcaaa
