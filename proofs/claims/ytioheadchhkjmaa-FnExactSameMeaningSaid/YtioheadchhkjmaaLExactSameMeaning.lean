/-
  The walk of the law ExactSameMeaning: whatever comes in, the program and the reference agree.
-/
import Derived.Test.YtioheadchhkjmaaWSame
import Derived.Test.YtioheadchhkjmaaWLaws
import Derived.Deep.DeepCutAuto
namespace Go.Proofs.Ytioheadchhkjmaa
open Go.RowKit

set_option maxHeartbeats 4000000 in
theorem exactSameMeaning_walk (A : Option Addr) (n c : Nat) (ds : List D) (A' : Option Addr) (n' c' : Nat) (ds' : List D) (w : World) (hr : Rd w w.heap.size A n c ds) (hr' : Rd w w.heap.size A' n' c' ds') :
    Calls Try.prog 6 #[.agg #[.slice A n c], .agg #[.slice A' n' c']] w fun e w' => e = .returned (.bool true) ∧ Below w.heap.size w w' := by
  have HR := Lib.hid hr
  have HG := Lib.hid hr.2.2.2.1
  have HL := Lib.hid hr.1
  have HR' := Lib.hid hr'
  have HG' := Lib.hid hr'.2.2.2.1
  have HL' := Lib.hid hr'.1
  clear hr hr'
  have q := (blk1 w #[.slice A n c] 35).alloc (.cells #[.slice A' n' c'] 35)
  have q' := blk2 w (.cells #[.slice A n c] 35) #[.slice A' n' c'] 35
  have b := below2 w (.cells #[.slice A n c] 35) (.cells #[.slice A' n' c'] 35)
  have c0 := q.cell 0
  have c1 := q'.cell 0
  go_enter Try.func6, Try.ntmps6
  go_wp2_with fail
  refine (szEnum_any _ _ _ ds _ (by omega) (by omega) _ (HR.out.to b)).mono ?_
  rintro e w1 ⟨m, hm0, hm1, rfl, hb⟩
  replace b := Below.on b hb b.size
  replace q := q.below hb q.lt
  replace q' := q'.below hb q'.lt
  replace c0 := q.cell 0
  replace c1 := q'.cell 0
  clear hb
  by_cases hm : m < 0
  · go_wp2
    go_ret
    exact ⟨rfl, b⟩
  go_wp2_with fail
  refine (szEnum_any _ _ _ ds' _ (by omega) (by omega) _ (HR'.out.to b)).mono ?_
  rintro e w2 ⟨m', hm0', hm1', rfl, hb⟩
  replace b := Below.on b hb b.size
  replace q := q.below hb q.lt
  replace q' := q'.below hb q'.lt
  replace c0 := q.cell 0
  replace c1 := q'.cell 0
  clear hb
  by_cases hm' : m' < 0
  · go_wp2
    go_ret
    exact ⟨rfl, b⟩
  go_upto_region 8 with fail
  go_cut [6] (fun u6_ wx => u6_ = (.bool (sameV ds ds') : Value) ∧ Blk wx w.heap.size 35 #[.slice A n c] ∧ Blk wx (w.heap.size + 1) 35 #[.slice A' n' c'] ∧ Below w.heap.size w wx)
  case first =>
    replace b := b.drew
    replace q := q.drew
    replace q' := q'.drew
    go_region_held3 (fun w' => w'.cell? ⟨w.heap.size, 0, none⟩ = some (.slice A n c) ∧ w'.cell? ⟨w.heap.size + 1, 0, none⟩ = some (.slice A' n' c')) (go_keep)
      (first
        | (go_at_call 19; ((with_reducible refine (toEnum_any A n c ds _ (HR.out.to b)).mono ?_); rintro e wk ⟨ga, rfl, _, ra, hb⟩); replace b := Below.on b hb b.size; replace q := q.below hb q.lt; replace q' := q'.below hb q'.lt; replace c0 := q.cell 0; replace c1 := q'.cell 0; have Ra := ra.rd HG.out; rw [HL.out] at Ra; (try replace Rb := Rb.to hb); clear hb ra)
        | (go_at_call 19; ((with_reducible refine (toEnum_any A' n' c' ds' _ (HR'.out.to b)).mono ?_); rintro e wk ⟨gb, rfl, _, rb, hb⟩); replace b := Below.on b hb b.size; replace q := q.below hb q.lt; replace q' := q'.below hb q'.lt; replace c0 := q.cell 0; replace c1 := q'.cell 0; have Rb := rb.rd HG'.out; rw [HL'.out] at Rb; (try replace Ra := Ra.to hb); clear hb rb)
        | (go_at_call 25; refine (ssameMeaning_any _ _ _ ds _ _ _ ds' _ Ra Rb).mono ?_; rintro e wk ⟨rfl, hb⟩; replace b := Below.on b hb b.size; replace q := q.below hb q.lt; replace q' := q'.below hb q'.lt; replace c0 := q.cell 0; replace c1 := q'.cell 0; clear hb))
    all_goals (go_wp2_with fail; go_meet; exact ⟨rfl, q, q', b⟩)
  case rest =>
    obtain ⟨rfl, q, q', b⟩ := hcut
    have c2 := q.cell 0
    have c3 := q'.cell 0
    go_wp2_with fail
    refine (toEnum_any _ _ _ ds _ (HR.out.to b)).mono ?_
    rintro e w4 ⟨g4, rfl, _, r4, hb⟩
    replace b := Below.on b hb b.size
    replace q := q.below hb q.lt
    replace q' := q'.below hb q'.lt
    have x := blk1 w4 #[.slice (some ⟨g4, 0, none⟩) n n] 42
    have r5 := r4.alloc (.cells #[.slice (some ⟨g4, 0, none⟩) n n] 42)
    have X := r5.rd HG.out
    rw [HL.out] at X
    replace q := q.alloc (.cells #[.slice (some ⟨g4, 0, none⟩) n n] 42)
    replace q' := q'.alloc (.cells #[.slice (some ⟨g4, 0, none⟩) n n] 42)
    replace b := Below.on b (below1 w4 (.cells #[.slice (some ⟨g4, 0, none⟩) n n] 42)) b.size
    replace c2 := q.cell 0
    replace c3 := q'.cell 0
    clear hb r4 r5
    go_wp2_with fail
    refine (toEnum_any _ _ _ ds' _ (HR'.out.to b)).mono ?_
    rintro e w5 ⟨g5, rfl, _, r5, hb⟩
    replace b := Below.on b hb b.size
    replace q := q.below hb q.lt
    replace q' := q'.below hb q'.lt
    replace x := x.below hb x.lt
    have hlt4 : w4.heap.size < w5.heap.size := x.lt
    replace X := X.to hb
    have x' := blk1 w5 #[.slice (some ⟨g5, 0, none⟩) n' n'] 42
    have r6 := r5.alloc (.cells #[.slice (some ⟨g5, 0, none⟩) n' n'] 42)
    have X' := r6.rd HG'.out
    rw [HL'.out] at X'
    replace q := q.alloc (.cells #[.slice (some ⟨g5, 0, none⟩) n' n'] 42)
    replace q' := q'.alloc (.cells #[.slice (some ⟨g5, 0, none⟩) n' n'] 42)
    replace x := x.alloc (.cells #[.slice (some ⟨g5, 0, none⟩) n' n'] 42)
    replace X := X.to (below1 w5 (.cells #[.slice (some ⟨g5, 0, none⟩) n' n'] 42))
    replace b := Below.on b (below1 w5 (.cells #[.slice (some ⟨g5, 0, none⟩) n' n'] 42)) b.size
    have d0 := x.cell 0
    clear hb r5 r6 c2 c3
    go_wp2_with fail
    refine (sameMeaning_any _ _ _ ds _ _ _ ds' _ X X').mono ?_
    rintro e w6 ⟨rfl, hb⟩
    replace b := Below.on b hb b.size
    replace q := q.below hb q.lt
    replace q' := q'.below hb q'.lt
    replace x := x.below hb x.lt
    replace x' := x'.below hb x'.lt
    replace X := X.to hb
    replace X' := X'.to hb
    have c0 := q.cell 0
    have c1 := q'.cell 0
    replace d0 := x.cell 0
    have d1 := x'.cell 0
    have k0 : w.heap.size < w6.heap.size := q.lt
    have k1 : w.heap.size + 1 < w6.heap.size := q'.lt
    have k2 : w4.heap.size < w6.heap.size := x.lt
    have k3 : w5.heap.size < w6.heap.size := x'.lt
    clear hb
    go_wp2_with fail
    replace b := b.drew
    replace q := q.drew
    replace q' := q'.drew
    replace x := x.drew
    replace x' := x'.drew
    replace X := X.drew
    replace X' := X'.drew
    go_region_held3 (fun w' => w'.cell? ⟨w4.heap.size, 0, none⟩ = some (.slice (some ⟨g4, 0, none⟩) n n) ∧ w'.cell? ⟨w.heap.size, 0, none⟩ = some (.slice A n c)) (go_keep)
      (first
        | (go_at_call 19; refine (toEnum_any _ _ _ ds _ (HR.out.to b)).mono ?_; rintro e w7 ⟨g7, rfl, _, r7, hb⟩; replace b := Below.on b hb b.size; replace q := q.below hb q.lt; replace q' := q'.below hb q'.lt; replace x := x.below hb x.lt; replace x' := x'.below hb x'.lt; replace X := X.to hb; replace X' := X'.to hb; replace c0 := q.cell 0; replace c1 := q'.cell 0; replace d0 := x.cell 0; replace d1 := x'.cell 0; have Y := r7.rd HG.out; rw [HL.out] at Y; clear hb)
        | (go_at_call 22; refine (eqEnum_same _ _ _ _ _ ds _ X Y).mono ?_; rintro e w8 ⟨rfl, hb⟩; replace b := Below.on b hb b.size; replace q := q.below hb q.lt; replace q' := q'.below hb q'.lt; replace x := x.below hb x.lt; replace x' := x'.below hb x'.lt; replace X := X.to hb; replace X' := X'.to hb; replace c0 := q.cell 0; replace c1 := q'.cell 0; replace d0 := x.cell 0; replace d1 := x'.cell 0; clear hb))
    go_wp2_with fail
    replace b := b.drew
    replace q := q.drew
    replace q' := q'.drew
    replace x := x.drew
    replace x' := x'.drew
    replace X := X.drew
    replace X' := X'.drew
    go_region_held3 (fun w' => w'.cell? ⟨w5.heap.size, 0, none⟩ = some (.slice (some ⟨g5, 0, none⟩) n' n') ∧ w'.cell? ⟨w.heap.size + 1, 0, none⟩ = some (.slice A' n' c')) (go_keep)
      (first
        | (go_at_call 19; refine (toEnum_any _ _ _ ds' _ (HR'.out.to b)).mono ?_; rintro e w9 ⟨g9, rfl, _, r9, hb⟩; replace b := Below.on b hb b.size; replace q := q.below hb q.lt; replace q' := q'.below hb q'.lt; replace x := x.below hb x.lt; replace x' := x'.below hb x'.lt; replace X := X.to hb; replace X' := X'.to hb; replace c0 := q.cell 0; replace c1 := q'.cell 0; replace d0 := x.cell 0; replace d1 := x'.cell 0; have Z := r9.rd HG'.out; rw [HL'.out] at Z; clear hb)
        | (go_at_call 22; refine (eqEnum_same _ _ _ _ _ ds' _ X' Z).mono ?_; rintro e w10 ⟨rfl, hb⟩; replace b := Below.on b hb b.size; replace q := q.below hb q.lt; replace q' := q'.below hb q'.lt; replace x := x.below hb x.lt; replace x' := x'.below hb x'.lt; replace X := X.to hb; replace X' := X'.to hb; replace c0 := q.cell 0; replace c1 := q'.cell 0; replace d0 := x.cell 0; replace d1 := x'.cell 0; clear hb))
    go_wp2
    go_ret
    exact ⟨rfl, b⟩
end Go.Proofs.Ytioheadchhkjmaa
