/-
  The walk of the law ExactValidEnum: whatever the enumeration, the program's ValidEnum and the reference's agree.
-/
import Derived.Test.YtnfedlhjekghoaaWSDefs
import Derived.Test.YtnfedlhjekghoaaWLaws
namespace Go.Proofs.Ytnfedlhjekghoaa
open Go.RowKit

set_option maxHeartbeats 1000000 in
theorem exactValidEnum_walk (A : Option Addr) (n c : Nat) (ds : List D) (w : World) (hr : Rd w w.heap.size A n c ds) :
    Calls Try.prog 5 #[.agg #[.slice A n c]] w fun e w' => e = .returned (.bool true) ∧ Below w.heap.size w w' := by
  have hg := Lib.hid hr.2.2.2.1
  have HR := Lib.hid hr
  have HL := Lib.hid hr.1
  clear hr
  have q0 := blk1 w #[.slice A n c] 26
  have b0 := below1 w (.cells #[.slice A n c] 26)
  go_enter Try.func5, Try.ntmps5
  go_wp2_with fail
  refine (szEnum_any _ _ _ ds _ (by omega) (by omega) _ (HR.out.to b0)).mono ?_
  rintro e w1 ⟨m, hm0, hm1, rfl, hb1⟩
  have b1 := Below.on b0 hb1 b0.size
  have q1 := q0.below hb1 q0.lt
  have c1 := q1.cell 0
  clear hb1 q0 b0
  by_cases hm : m < 0
  · go_wp2
    go_ret
    exact ⟨rfl, b1⟩
  go_wp2_with fail
  refine (toEnum_any _ _ _ ds _ (HR.out.to b1)).mono ?_
  rintro e w2 ⟨g2, rfl, _, r2, hb2⟩
  have b2 := Below.on b1 hb2 b1.size
  have q2 := q1.below hb2 q1.lt
  have c2 := q2.cell 0
  have R2 := r2.rd hg.out
  rw [HL.out] at R2
  clear b1 q1 c1 hb2
  go_wp2_with fail
  refine (sValidEnum_any _ _ _ ds _ R2).mono ?_
  rintro e w3 ⟨rfl, hb3⟩
  have b3 := Below.on b2 hb3 b2.size
  have q3 := q2.below hb3 q2.lt
  have c3 := q3.cell 0
  clear b2 q2 c2 hb3 R2 r2
  go_wp2_with fail
  refine (toEnum_any _ _ _ ds _ (HR.out.to b3)).mono ?_
  rintro e w4 ⟨g4, rfl, _, r4, hb4⟩
  have b4 := Below.on b3 hb4 b3.size
  have q4 := q3.below hb4 q3.lt
  have c4 := q4.cell 0
  clear b3 q3 c3 hb4
  have hx := blk1 w4 #[.slice (some ⟨g4, 0, none⟩) n n] 31
  have r5 := r4.alloc (.cells #[.slice (some ⟨g4, 0, none⟩) n n] 31)
  have R5 := r5.rd hg.out
  rw [HL.out] at R5
  have q5 := q4.alloc (.cells #[.slice (some ⟨g4, 0, none⟩) n n] 31)
  have b5 := Below.on b4 (below1 w4 (.cells #[.slice (some ⟨g4, 0, none⟩) n n] 31)) b4.size
  have c5 := q5.cell 0
  go_wp2_with fail
  refine (validEnum_any _ _ _ ds _ R5).mono ?_
  rintro e w6 ⟨rfl, hb6⟩
  have b6 := Below.on b5 hb6 b5.size
  have q6 := q5.below hb6 q5.lt
  have c6 := q6.cell 0
  have x6 := hx.below hb6 hx.lt
  have d6 := x6.cell 0
  have R6 := R5.to hb6
  have hne : w.heap.size < w6.heap.size := q6.lt
  have hne' : w4.heap.size < w6.heap.size := x6.lt
  clear q5 b5 c5 hx R5 r5 hb6 b4 q4 c4 r4
  go_wp2_with fail
  go_region_held3 (fun w' => w'.cell? ⟨w4.heap.size, 0, none⟩ = some (.slice (some ⟨g4, 0, none⟩) n n) ∧ w'.cell? ⟨w.heap.size, 0, none⟩ = some (.slice A n c)) (go_keep)
    (first
      | (go_at_call 19; refine (toEnum_any _ _ _ ds _ (HR.out.to b6.drew)).mono ?_; rintro e w7 ⟨g7, rfl, _, r7, hb7⟩; have x7 := x6.drew.below hb7 x6.lt; have q7 := q6.drew.below hb7 q6.lt; have e0 := x7.cell 0; have e1 := q7.cell 0; have R7 := r7.rd hg.out; rw [HL.out] at R7)
      | (go_at_call 21; refine (eqEnum_same _ _ _ _ _ ds _ (R6.drew.to hb7) R7).mono ?_; rintro e w8 ⟨rfl, hb8⟩; have e2 := (x7.below hb8 x7.lt).cell 0; have e3 := (q7.below hb8 q7.lt).cell 0))
  go_wp2
  go_ret
  exact ⟨rfl, Below.on (Below.on b6.drew hb7 b6.size) hb8 (Nat.le_trans b6.size hb7.size)⟩
end Go.Proofs.Ytnfedlhjekghoaa
