/-
  The walks of SameMeaning of both sides.
-/
import Derived.Test.YtioheadchhkjmaaWDiffI
namespace Go.Proofs.Ytioheadchhkjmaa
open Go.RowKit
attribute [local go_sem ↓] Go.wp_at_zero Go.wp_at_succ

/-- Both are valid, and no changes lead from one to the other. -/
def sameV (xs ys : List D) : Bool := vDefs xs (-1000) 1000 && vDefs ys (-1000) 1000 && decide (diffLen xs ys = 0)
theorem vDefs_len {xs : List D} {lo hi : Int} (h : vDefs xs lo hi = true) : xs.length ≤ 12 := by
  unfold vDefs at h
  simp only [Bool.and_eq_true, decide_eq_true_eq] at h
  exact h.2
set_option maxRecDepth 100000 in
set_option maxHeartbeats 4000000 in
theorem sameMeaning_any (A : Option Addr) (n c : Nat) (xs : List D) (A' : Option Addr) (n' c' : Nat) (ys : List D) (w : World) (hr : Rd w w.heap.size A n c xs) (hr' : Rd w w.heap.size A' n' c' ys) :
    Calls Try.prog 26 #[.agg #[.slice A n c], .agg #[.slice A' n' c']] w fun e w' => e = .returned (.bool (sameV xs ys)) ∧ Below w.heap.size w w' := by
  have q := (blk1 w #[.slice A n c] 42).alloc (.cells #[.slice A' n' c'] 42)
  have p := blk2 w (.cells #[.slice A n c] 42) #[.slice A' n' c'] 42
  have b := below2 w (.cells #[.slice A n c] 42) (.cells #[.slice A' n' c'] 42)
  have R := hr.to b
  have R' := hr'.to b
  have HL := Lib.hid hr.1
  have HL' := Lib.hid hr'.1
  have c0 := q.cell 0
  have c1 := p.cell 0
  clear hr hr'
  cases hv1 : vDefs xs (-1000) 1000 with
  | false =>
    have HS := Lib.hid (show sameV xs ys = false from by unfold sameV; rw [hv1]; rfl)
    have V1 := Lib.hid hv1
    clear hv1
    go_enter Try.func26, Try.ntmps26
    go_wp2_with fail
    refine (validEnum_any _ _ _ xs _ R).mono ?_
    rintro e w1 ⟨rfl, hb⟩
    rw [show vDefs xs (-1000) 1000 = false from V1.out]
    replace b := Below.on b hb b.size
    replace q := q.below hb q.lt
    replace p := p.below hb p.lt
    replace c0 := q.cell 0
    replace c1 := p.cell 0
    go_wp2
    go_ret
    exact ⟨by rw [HS.out] <;> rfl, b⟩
  | true =>
    have V1 := Lib.hid hv1
    cases hv2 : vDefs ys (-1000) 1000 with
    | false =>
      have HS := Lib.hid (show sameV xs ys = false from by unfold sameV; rw [hv1, hv2]; rfl)
      have V2 := Lib.hid hv2
      clear hv1 hv2
      go_enter Try.func26, Try.ntmps26
      go_wp2_with fail
      refine (validEnum_any _ _ _ xs _ R).mono ?_
      rintro e w1 ⟨rfl, hb⟩
      rw [show vDefs xs (-1000) 1000 = true from V1.out]
      replace b := Below.on b hb b.size
      replace q := q.below hb q.lt
      replace p := p.below hb p.lt
      replace R' := R'.to hb
      replace c0 := q.cell 0
      replace c1 := p.cell 0
      clear hb
      go_wp2_with fail
      refine (validEnum_any _ _ _ ys _ R').mono ?_
      rintro e w2 ⟨rfl, hb⟩
      rw [show vDefs ys (-1000) 1000 = false from V2.out]
      replace b := Below.on b hb b.size
      go_wp2
      go_ret
      exact ⟨by rw [HS.out] <;> rfl, b⟩
    | true =>
      have HS := Lib.hid (show sameV xs ys = decide (diffLen xs ys = 0) from by unfold sameV; rw [hv1, hv2]; rfl)
      have V2 := Lib.hid hv2
      have hl1 := vDefs_len hv1
      have hl2 := vDefs_len hv2
      rw [HL.out] at hl1
      rw [HL'.out] at hl2
      clear hv1 hv2
      go_enter Try.func26, Try.ntmps26
      go_wp2_with fail
      refine (validEnum_any _ _ _ xs _ R).mono ?_
      rintro e w1 ⟨rfl, hb⟩
      rw [show vDefs xs (-1000) 1000 = true from V1.out]
      replace b := Below.on b hb b.size
      replace q := q.below hb q.lt
      replace p := p.below hb p.lt
      replace R := R.to hb
      replace R' := R'.to hb
      replace c0 := q.cell 0
      replace c1 := p.cell 0
      clear hb
      go_wp2_with fail
      refine (validEnum_any _ _ _ ys _ R').mono ?_
      rintro e w2 ⟨rfl, hb⟩
      rw [show vDefs ys (-1000) 1000 = true from V2.out]
      replace b := Below.on b hb b.size
      replace q := q.below hb q.lt
      replace p := p.below hb p.lt
      replace R := R.to hb
      replace R' := R'.to hb
      replace c0 := q.cell 0
      replace c1 := p.cell 0
      clear hb
      go_wp2_with fail
      refine (diffEnums_any _ _ _ _ _ _ xs ys V1.out V2.out _ R R' (by omega) (by omega)).mono ?_
      rintro e w3 ⟨A3, c3, rfl, hb⟩
      replace b := Below.on b hb b.size
      clear hb R R'
      obtain ⟨m, hm⟩ : ∃ m, diffLen xs ys = m := ⟨_, rfl⟩
      rw [hm] at HS
      rw [hm]
      clear hm
      by_cases h0 : m = 0
      · subst h0
        go_wp2
        go_ret
        exact ⟨by rw [HS.out] <;> rfl, b⟩
      · have h1 : ((m : Int) == 0) = false := by simp; omega
        have h2 : ¬ ((m : Int) = 0) := by omega
        have HS2 := Lib.hid (show sameV xs ys = false from by rw [HS.out]; simp [h0])
        clear HS
        go_wp2
        go_ret
        exact ⟨ret_bool (by rw [HS2.out]), b⟩
set_option maxRecDepth 100000 in
set_option maxHeartbeats 4000000 in
theorem ssameMeaning_any (A : Option Addr) (n c : Nat) (xs : List D) (A' : Option Addr) (n' c' : Nat) (ys : List D) (w : World) (hr : Rd w w.heap.size A n c xs) (hr' : Rd w w.heap.size A' n' c' ys) :
    Calls Try.prog 25 #[.agg #[.slice A n c], .agg #[.slice A' n' c']] w fun e w' => e = .returned (.bool (sameV xs ys)) ∧ Below w.heap.size w w' := by
  have q := (blk1 w #[.slice A n c] 42).alloc (.cells #[.slice A' n' c'] 42)
  have p := blk2 w (.cells #[.slice A n c] 42) #[.slice A' n' c'] 42
  have b := below2 w (.cells #[.slice A n c] 42) (.cells #[.slice A' n' c'] 42)
  have R := hr.to b
  have R' := hr'.to b
  have HL := Lib.hid hr.1
  have HL' := Lib.hid hr'.1
  have c0 := q.cell 0
  have c1 := p.cell 0
  clear hr hr'
  cases hv1 : vDefs xs (-1000) 1000 with
  | false =>
    have HS := Lib.hid (show sameV xs ys = false from by unfold sameV; rw [hv1]; rfl)
    have V1 := Lib.hid hv1
    clear hv1
    go_enter Try.func25, Try.ntmps25
    go_wp2_with fail
    refine (svalidEnum_any _ _ _ xs _ R).mono ?_
    rintro e w1 ⟨rfl, hb⟩
    rw [show vDefs xs (-1000) 1000 = false from V1.out]
    replace b := Below.on b hb b.size
    replace q := q.below hb q.lt
    replace p := p.below hb p.lt
    replace c0 := q.cell 0
    replace c1 := p.cell 0
    go_wp2
    go_ret
    exact ⟨by rw [HS.out] <;> rfl, b⟩
  | true =>
    have V1 := Lib.hid hv1
    cases hv2 : vDefs ys (-1000) 1000 with
    | false =>
      have HS := Lib.hid (show sameV xs ys = false from by unfold sameV; rw [hv1, hv2]; rfl)
      have V2 := Lib.hid hv2
      clear hv1 hv2
      go_enter Try.func25, Try.ntmps25
      go_wp2_with fail
      refine (svalidEnum_any _ _ _ xs _ R).mono ?_
      rintro e w1 ⟨rfl, hb⟩
      rw [show vDefs xs (-1000) 1000 = true from V1.out]
      replace b := Below.on b hb b.size
      replace q := q.below hb q.lt
      replace p := p.below hb p.lt
      replace R' := R'.to hb
      replace c0 := q.cell 0
      replace c1 := p.cell 0
      clear hb
      go_wp2_with fail
      refine (svalidEnum_any _ _ _ ys _ R').mono ?_
      rintro e w2 ⟨rfl, hb⟩
      rw [show vDefs ys (-1000) 1000 = false from V2.out]
      replace b := Below.on b hb b.size
      go_wp2
      go_ret
      exact ⟨by rw [HS.out] <;> rfl, b⟩
    | true =>
      have HS := Lib.hid (show sameV xs ys = decide (diffLen xs ys = 0) from by unfold sameV; rw [hv1, hv2]; rfl)
      have V2 := Lib.hid hv2
      have hl1 := vDefs_len hv1
      have hl2 := vDefs_len hv2
      rw [HL.out] at hl1
      rw [HL'.out] at hl2
      clear hv1 hv2
      go_enter Try.func25, Try.ntmps25
      go_wp2_with fail
      refine (svalidEnum_any _ _ _ xs _ R).mono ?_
      rintro e w1 ⟨rfl, hb⟩
      rw [show vDefs xs (-1000) 1000 = true from V1.out]
      replace b := Below.on b hb b.size
      replace q := q.below hb q.lt
      replace p := p.below hb p.lt
      replace R := R.to hb
      replace R' := R'.to hb
      replace c0 := q.cell 0
      replace c1 := p.cell 0
      clear hb
      go_wp2_with fail
      refine (svalidEnum_any _ _ _ ys _ R').mono ?_
      rintro e w2 ⟨rfl, hb⟩
      rw [show vDefs ys (-1000) 1000 = true from V2.out]
      replace b := Below.on b hb b.size
      replace q := q.below hb q.lt
      replace p := p.below hb p.lt
      replace R := R.to hb
      replace R' := R'.to hb
      replace c0 := q.cell 0
      replace c1 := p.cell 0
      clear hb
      go_wp2_with fail
      refine (differ_any _ _ _ _ _ _ xs ys _ R R' (by omega) (by omega)).mono ?_
      rintro e w3 ⟨A3, c3, cs3, rfl, hl3, _, _, hb⟩
      rw [hl3]
      clear hl3
      replace b := Below.on b hb b.size
      clear hb R R'
      obtain ⟨m, hm⟩ : ∃ m, diffLen xs ys = m := ⟨_, rfl⟩
      rw [hm] at HS
      rw [hm]
      clear hm
      by_cases h0 : m = 0
      · subst h0
        go_wp2
        go_ret
        exact ⟨by rw [HS.out] <;> rfl, b⟩
      · have h1 : ((m : Int) == 0) = false := by simp; omega
        have h2 : ¬ ((m : Int) = 0) := by omega
        have HS2 := Lib.hid (show sameV xs ys = false from by rw [HS.out]; simp [h0])
        clear HS
        go_wp2
        go_ret
        exact ⟨ret_bool (by rw [HS2.out]), b⟩
end Go.Proofs.Ytioheadchhkjmaa
