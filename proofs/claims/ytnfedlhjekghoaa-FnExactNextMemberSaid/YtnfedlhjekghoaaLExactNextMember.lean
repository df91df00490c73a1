/-
  The walk of the law ExactNextMember: whatever comes in, the program and the reference agree.
-/
import Derived.Test.YtnfedlhjekghoaaWRank
import Derived.Test.YtnfedlhjekghoaaWLaws
namespace Go.Proofs.Ytnfedlhjekghoaa
open Go.RowKit

set_option maxHeartbeats 2000000 in
theorem exactNextMember_walk (A : Option Addr) (n c : Nat) (ds : List D) (s : ByteArray) (w : World) (hr : Rd w w.heap.size A n c ds) (_hs : s.size ≤ 9223372036854775807) :
    Calls Try.prog 10 #[.agg #[.slice A n c], .string s] w fun e w' => e = .returned (.bool true) ∧ Below w.heap.size w w' := by
  by_cases hlen : (1048576 : Int) < s.size
  · go_enter Try.func10, Try.ntmps10
    go_wp2_with fail
    go_ret
    exact ⟨rfl, below1 _ _⟩
  have HR := Lib.hid hr
  have hg := Lib.hid hr.2.2.2.1
  have HL := Lib.hid hr.1
  clear hr
  have q := blk1 w #[.slice A n c] 26
  have b := below1 w (.cells #[.slice A n c] 26)
  go_enter Try.func10, Try.ntmps10
  go_wp2_with fail
  refine (szEnum_any _ _ _ ds _ (by omega) (by omega) _ (HR.out.to b)).mono ?_
  rintro e w1 ⟨m, hm0, hm1, rfl, hb⟩
  replace b := Below.on b hb b.size
  replace q := q.below hb q.lt
  have c0 := q.cell 0
  clear hb
  by_cases hm : m < 0
  · go_wp2
    go_ret
    exact ⟨rfl, b⟩
  go_wp2_with fail
  refine (toEnum_any _ _ _ ds _ (HR.out.to b)).mono ?_
  rintro e w2 ⟨g2, rfl, _, r2, hb⟩
  replace b := Below.on b hb b.size
  replace q := q.below hb q.lt
  replace c0 := q.cell 0
  have R2 := r2.rd hg.out
  rw [HL.out] at R2
  clear hb r2
  go_wp2_with fail
  refine (snextMember_any _ _ _ ds s _ R2).mono ?_
  rintro e w3 ⟨rfl, hb⟩
  replace b := Below.on b hb b.size
  replace q := q.below hb q.lt
  replace c0 := q.cell 0
  clear hb R2
  go_wp2_with fail
  refine (toEnum_any _ _ _ ds _ (HR.out.to b)).mono ?_
  rintro e w4 ⟨g4, rfl, _, r4, hb⟩
  replace b := Below.on b hb b.size
  replace q := q.below hb q.lt
  have x := blk1 w4 #[.slice (some ⟨g4, 0, none⟩) n n] 31
  have r5 := r4.alloc (.cells #[.slice (some ⟨g4, 0, none⟩) n n] 31)
  have X := r5.rd hg.out
  rw [HL.out] at X
  replace q := q.alloc (.cells #[.slice (some ⟨g4, 0, none⟩) n n] 31)
  replace b := Below.on b (below1 w4 (.cells #[.slice (some ⟨g4, 0, none⟩) n n] 31)) b.size
  replace c0 := q.cell 0
  clear hb r4 r5
  go_wp2_with fail
  refine (nextMember_any _ _ _ ds s _ X).mono ?_
  rintro e w6 ⟨rfl, hb⟩
  replace b := Below.on b hb b.size
  replace q := q.below hb q.lt
  replace c0 := q.cell 0
  replace x := x.below hb x.lt
  have d0 := x.cell 0
  replace X := X.to hb
  have hne : w.heap.size < w6.heap.size := q.lt
  have hne' : w4.heap.size < w6.heap.size := x.lt
  clear hb
  go_wp2_with fail
  go_region_held3 (fun w' => w'.cell? ⟨w4.heap.size, 0, none⟩ = some (.slice (some ⟨g4, 0, none⟩) n n) ∧ w'.cell? ⟨w.heap.size, 0, none⟩ = some (.slice A n c)) (go_keep)
    (first
      | (go_at_call 19; refine (toEnum_any _ _ _ ds _ (HR.out.to b.drew)).mono ?_; rintro e w7 ⟨g7, rfl, _, r7, hb7⟩; have x7 := x.drew.below hb7 x.lt; have q7 := q.drew.below hb7 q.lt; have e0 := x7.cell 0; have e1 := q7.cell 0; have R7 := r7.rd hg.out; rw [HL.out] at R7)
      | (go_at_call 21; refine (eqEnum_same _ _ _ _ _ ds _ (X.drew.to hb7) R7).mono ?_; rintro e w8 ⟨rfl, hb8⟩; have e2 := (x7.below hb8 x7.lt).cell 0; have e3 := (q7.below hb8 q7.lt).cell 0))
  go_wp2
  go_ret
  exact ⟨rfl, Below.on (Below.on b.drew hb7 b.size) hb8 (Nat.le_trans b.size hb7.size)⟩
end Go.Proofs.Ytnfedlhjekghoaa
