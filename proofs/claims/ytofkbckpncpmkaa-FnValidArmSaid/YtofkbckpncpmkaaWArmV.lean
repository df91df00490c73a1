/-
  The walks over arms, of the program's and of the reference's.
-/
import Derived.Test.YtofkbckpncpmkaaWValue
import Derived.Test.YtofkbckpncpmkaaPlainA
namespace Go.Proofs.Ytofkbckpncpmkaa
open Go.RowKit

set_option maxHeartbeats 1000000 in
theorem ok_any (x y : Int) (hx : -9223372036854775808 ≤ x ∧ x ≤ 9223372036854775807) (hy : -9223372036854775808 ≤ y ∧ y ≤ 9223372036854775807) (A : Option Addr) (n c : Nat) (ds : List D) (z : Int) (hB : Bits ds) (w : World) (hr : Rd w w.heap.size A n c ds) :
    Calls Try.prog 88 #[.agg #[.int .i64 x, .int .i64 y], .agg #[.slice A n c, .int .i64 z]] w fun e w' => e = .returned (.bool (okV ds x y)) ∧ Below w.heap.size w w' := by
  have p := (blk1 w #[.int .i64 x, .int .i64 y] 51).alloc (.cells #[.slice A n c, .int .i64 z] 25)
  have q := blk2 w (.cells #[.int .i64 x, .int .i64 y] 51) #[.slice A n c, .int .i64 z] 25
  have b := below2 w (.cells #[.int .i64 x, .int .i64 y] 51) (.cells #[.slice A n c, .int .i64 z] 25)
  have R := hr.to b
  have HB := Lib.hid hB
  obtain ⟨m0, m1⟩ := maskV_lt hB
  have hm := inMask_bits hx hy m0 m1
  have c0 := p.cell 0
  have c1 := p.cell 1
  have c2 := q.cell 0
  have c3 := q.cell 1
  clear hr hB
  cases hi : inMask (maskV ds) x y with
  | false =>
    have HF := Lib.hid (okV_no hi)
    have hne : ¬ bits .andNot .i64 (bits .or .i64 x y) (maskV ds) = 0 := by rw [hm, hi]; decide
    clear hm hi
    go_enter Try.func88, Try.ntmps88
    go_wp2_with fail
    refine wp_region_noPanic ?_
    refine wp_region_held_drew (S := (fun w' => w'.cell? ⟨w.heap.size, 0, none⟩ = some (.int .i64 x) ∧ w'.cell? ⟨w.heap.size, 1, none⟩ = some (.int .i64 y) ∧ w'.cell? ⟨w.heap.size + 1, 0, none⟩ = some (.slice A n c) ∧ w'.cell? ⟨w.heap.size + 1, 1, none⟩ = some (.int .i64 z))) (by kernel_rfl) ?_ (fun hHeld => ?_)
    · try dsimp only
      go_keep
    refine wpAnyH_take (i := 0) (oi := { dst := some 5, op := _, type := _, pos := _, after := _, guard := _ }) (v := ?_) rfl (by kernel_rfl) (by kernel_rfl) (by kernel_rfl) (fun _ _ _ h => h) (Or.inl ⟨by rfl, ?_⟩) (by assumption) ?_
    rotate_left
    · intro w hSw; (try dsimp only at hSw); go_simp; try with_reducible rfl
    simp only [Act.put, List.setIfInBounds_toArray, List.set_cons_zero, List.set_cons_succ]
    refine wpAnyH_take (i := 1) (oi := { dst := some 6, op := _, type := _, pos := _, after := _, guard := _ }) (v := ?_) rfl (by kernel_rfl) (by kernel_rfl) (by kernel_rfl) (fun _ _ _ h => h) (Or.inl ⟨by rfl, ?_⟩) (by assumption) ?_
    rotate_left
    · intro w hSw; (try dsimp only at hSw); go_simp; try with_reducible rfl
    simp only [Act.put, List.setIfInBounds_toArray, List.set_cons_zero, List.set_cons_succ]
    refine wpAnyH_take (i := 2) (oi := { dst := some 7, op := _, type := _, pos := _, after := _, guard := _ }) (v := ?_) rfl (by kernel_rfl) (by kernel_rfl) (by kernel_rfl) (fun _ _ _ h => h) (Or.inl ⟨by rfl, ?_⟩) (by assumption) ?_
    rotate_left
    · intro w hSw; (try dsimp only at hSw); go_simp; try with_reducible rfl
    simp only [Act.put, List.setIfInBounds_toArray, List.set_cons_zero, List.set_cons_succ]
    refine wpAnyH_take (i := 3) (oi := { dst := some 8, op := _, type := _, pos := _, after := _, guard := _ }) (v := ?_) rfl (by kernel_rfl) (by kernel_rfl) (by kernel_rfl) (fun _ _ _ h => h) (Or.inl ⟨by rfl, ?_⟩) (by assumption) ?_
    rotate_left
    · intro w hSw; (try dsimp only at hSw); go_simp; try with_reducible rfl
    simp only [Act.put, List.setIfInBounds_toArray, List.set_cons_zero, List.set_cons_succ]
    refine wpAnyH_take (i := 4) (oi := { dst := some 9, op := _, type := _, pos := _, after := _, guard := _ }) (v := ?_) rfl (by kernel_rfl) (by kernel_rfl) (by kernel_rfl) (fun _ _ _ h => h) (Or.inl ⟨by rfl, ?_⟩) (by assumption) ?_
    rotate_left
    · intro w hSw; (try dsimp only at hSw); go_simp; try with_reducible rfl
    simp only [Act.put, List.setIfInBounds_toArray, List.set_cons_zero, List.set_cons_succ]
    refine wpAnyH_take (i := 5) (oi := { dst := some 10, op := _, type := _, pos := _, after := _, guard := _ }) (v := ?_) rfl (by kernel_rfl) (by kernel_rfl) (by kernel_rfl) (fun _ _ _ h => h) (Or.inl ⟨by rfl, ?_⟩) (by assumption) ?_
    rotate_left
    · intro w hSw; (try dsimp only at hSw); go_simp; try with_reducible rfl
    simp only [Act.put, List.setIfInBounds_toArray, List.set_cons_zero, List.set_cons_succ]
    refine wpAnyH_ready (rs := [6]) (by kernel_rfl) (by simp) ?_
    refine AllReadyH.cons (o := { dst := some 11, op := _, type := _, pos := _, after := _, guard := _ }) rfl (fun K hK => ?_) AllReadyH.nil
    go_simp
    (go_at_call 71; refine (mask_any _ _ _ ds _ HB.out _ (by exact R.drew)).mono ?_; rintro e w1 ⟨rfl, hb⟩; have p1 := p.drew.below hb p.lt; have q1 := q.drew.below hb q.lt; have e0 := p1.cell 0; have e1 := p1.cell 1; have e2 := q1.cell 0; have e3 := q1.cell 1)
    go_wp2_with fail
    refine hK.out _ _ ?_ (fun hHeld => ?_)
    · try dsimp only
      go_keep
    clear hK K
    refine wpAnyH_take (i := 7) (oi := { dst := some 12, op := _, type := _, pos := _, after := _, guard := _ }) (v := ?_) rfl (by kernel_rfl) (by kernel_rfl) (by kernel_rfl) (fun _ _ _ h => h) (Or.inl ⟨by rfl, ?_⟩) (by assumption) ?_
    rotate_left
    · intro w hSw; (try dsimp only at hSw); go_simp; try with_reducible rfl
    simp only [Act.put, List.setIfInBounds_toArray, List.set_cons_zero, List.set_cons_succ]
    refine wpAnyH_take (i := 8) (oi := { dst := some 13, op := _, type := _, pos := _, after := _, guard := _ }) (v := .bool false) rfl (by kernel_rfl) (by kernel_rfl) (by kernel_rfl) (fun _ _ _ h => h) (Or.inl ⟨by rfl, ?_⟩) (by assumption) ?_
    · intro w hSw; (try dsimp only at hSw); go_simp; skip
    simp only [Act.put, List.setIfInBounds_toArray, List.set_cons_zero, List.set_cons_succ]
    refine wpAnyH_take (i := 9) (oi := { dst := some 14, op := _, type := _, pos := _, after := _, guard := _ }) (v := ?_) rfl (by kernel_rfl) (by kernel_rfl) (by kernel_rfl) (fun _ _ _ h => h) (Or.inl ⟨by rfl, ?_⟩) (by assumption) ?_
    rotate_left
    · intro w hSw; (try dsimp only at hSw); go_simp; try with_reducible rfl
    simp only [Act.put, List.setIfInBounds_toArray, List.set_cons_zero, List.set_cons_succ]
    refine wpAnyH_take (i := 10) (oi := { dst := some 15, op := _, type := _, pos := _, after := _, guard := _ }) (v := undef) rfl (by kernel_rfl) (by kernel_rfl) (by kernel_rfl) (fun _ _ _ h => h) (Or.inr ⟨by rfl, rfl⟩) (by assumption) ?_
    simp only [Act.put, List.setIfInBounds_toArray, List.set_cons_zero, List.set_cons_succ]
    refine wpAnyH_take (i := 11) (oi := { dst := some 16, op := _, type := _, pos := _, after := _, guard := _ }) (v := undef) rfl (by kernel_rfl) (by kernel_rfl) (by kernel_rfl) (fun _ _ _ h => h) (Or.inr ⟨by rfl, rfl⟩) (by assumption) ?_
    simp only [Act.put, List.setIfInBounds_toArray, List.set_cons_zero, List.set_cons_succ]
    refine wpAnyH_take (i := 12) (oi := { dst := some 17, op := _, type := _, pos := _, after := _, guard := _ }) (v := undef) rfl (by kernel_rfl) (by kernel_rfl) (by kernel_rfl) (fun _ _ _ h => h) (Or.inr ⟨by rfl, rfl⟩) (by assumption) ?_
    simp only [Act.put, List.setIfInBounds_toArray, List.set_cons_zero, List.set_cons_succ]
    refine wpAnyH_take (i := 13) (oi := { dst := some 18, op := _, type := _, pos := _, after := _, guard := _ }) (v := undef) rfl (by kernel_rfl) (by kernel_rfl) (by kernel_rfl) (fun _ _ _ h => h) (Or.inr ⟨by rfl, rfl⟩) (by assumption) ?_
    simp only [Act.put, List.setIfInBounds_toArray, List.set_cons_zero, List.set_cons_succ]
    refine wpAnyH_take (i := 14) (oi := { dst := some 19, op := _, type := _, pos := _, after := _, guard := _ }) (v := undef) rfl (by kernel_rfl) (by kernel_rfl) (by kernel_rfl) (fun _ _ _ h => h) (Or.inr ⟨by rfl, rfl⟩) (by assumption) ?_
    simp only [Act.put, List.setIfInBounds_toArray, List.set_cons_zero, List.set_cons_succ]
    refine wpAnyH_take (i := 15) (oi := { dst := some 20, op := _, type := _, pos := _, after := _, guard := _ }) (v := undef) rfl (by kernel_rfl) (by kernel_rfl) (by kernel_rfl) (fun _ _ _ h => h) (Or.inr ⟨by rfl, rfl⟩) (by assumption) ?_
    simp only [Act.put, List.setIfInBounds_toArray, List.set_cons_zero, List.set_cons_succ]
    refine wpAnyH_take (i := 16) (oi := { dst := some 21, op := _, type := _, pos := _, after := _, guard := _ }) (v := ?_) rfl (by kernel_rfl) (by kernel_rfl) (by kernel_rfl) (fun _ _ _ h => h) (Or.inl ⟨by rfl, ?_⟩) (by assumption) ?_
    rotate_left
    · intro w hSw; (try dsimp only at hSw); go_simp; try with_reducible rfl
    simp only [Act.put, List.setIfInBounds_toArray, List.set_cons_zero, List.set_cons_succ]
    refine wpAnyH_take (i := 17) (oi := { dst := some 4, op := _, type := _, pos := _, after := _, guard := _ }) (v := ?_) rfl (by kernel_rfl) (by kernel_rfl) (by kernel_rfl) (fun _ _ _ h => h) (Or.inl ⟨by rfl, ?_⟩) (by assumption) ?_
    rotate_left
    · intro w hSw; (try dsimp only at hSw); go_simp; try with_reducible rfl
    simp only [Act.put, List.setIfInBounds_toArray, List.set_cons_zero, List.set_cons_succ]
    refine wpAnyH_done (by kernel_rfl) ?_ _
    refine NoPanic.normal ?_
    go_wp2
    go_ret
    exact ⟨ret_bool HF.out.symm, Below.on b.drew hb b.size⟩
  | true =>
    have HF := Lib.hid (okV_yes hi)
    have heq := hm.2 hi
    obtain ⟨⟨x0, x1⟩, ⟨y0, y1⟩, _, _⟩ := inMask_iff.1 hi
    have ea := bits_and (a := x) (b := y) x0 (by omega) y0 (by omega)
    clear hm hi
    go_enter Try.func88, Try.ntmps88
    go_wp2_with fail
    go_region_held3 (fun w' => w'.cell? ⟨w.heap.size, 0, none⟩ = some (.int .i64 x) ∧ w'.cell? ⟨w.heap.size, 1, none⟩ = some (.int .i64 y) ∧ w'.cell? ⟨w.heap.size + 1, 0, none⟩ = some (.slice A n c) ∧ w'.cell? ⟨w.heap.size + 1, 1, none⟩ = some (.int .i64 z)) (go_keep)
      (first
        | (go_at_call 71; refine (mask_any _ _ _ ds _ HB.out _ (by exact R.drew)).mono ?_; rintro e w1 ⟨rfl, hb⟩; have p1 := p.drew.below hb p.lt; have q1 := q.drew.below hb q.lt; have e0 := p1.cell 0; have e1 := p1.cell 1; have e2 := q1.cell 0; have e3 := q1.cell 1))
    go_wp2
    go_ret
    exact ⟨ret_bool (by rw [HF.out]), Below.on b.drew hb b.size⟩

/-! The reference takes the mask of whatever came in, ahead of asking whether the class is valid: these answer some number, always. -/
set_option maxHeartbeats 1000000 in
theorem both_some (a b : Int) (w : World) : Calls Try.prog 84 #[.int .i64 a, .int .i64 b] w fun e w' => (∃ m : Int, e = .returned (.int .i64 m)) ∧ w = w' := by
  go_enter Try.func84, Try.ntmps84
  go_wp2
  go_loop [5, 6] (fun o t => ∃ (k p : Nat) (q : Int), k ≤ 12 ∧ t = .int .i64 p ∧ o = .int .i64 q ∧ PowIs p k) (fun _ t => 4096 - (intOf t).toNat)
  case atStart => exact ⟨0, 1, 0, by omega, rfl, rfl, PowIs.zero⟩
  case round =>
    obtain ⟨k, p, q, hk, rfl, rfl, hp⟩ := hrel
    by_cases hk2 : k < 12
    · obtain ⟨hp1, hp2⟩ := hp.lt hk2
      have hs := hp.succ
      go_wp2
      all_goals (go_round)
      all_goals first
        | (case rel => exact ⟨k + 1, p * 2, _, by omega, by go_num, rfl, hs⟩)
        | (case measure => simp [intOf]; omega)
        | skip
    · have hk3 : k = 12 := by omega
      have hp3 : 4096 ≤ p := by rw [hp.last hk3]; exact Nat.le_refl _
      clear hk3
      go_wp2
      go_ret
      exact ⟨⟨_, rfl⟩, rfl⟩
theorem either_some (a b : Int) (w : World) : Calls Try.prog 77 #[.int .i64 a, .int .i64 b] w fun e w' => (∃ m : Int, e = .returned (.int .i64 m)) ∧ w = w' := by
  go_enter Try.func77, Try.ntmps77
  go_wp2_with (go_at_call 84; refine (both_some _ _ _).mono ?_; rintro e w' ⟨⟨m, rfl⟩, rfl⟩)
  go_ret
  exact ⟨⟨_, rfl⟩, rfl⟩
set_option maxHeartbeats 1000000 in
theorem smask_some (B : Nat) (A : Option Addr) (n c : Nat) (ds : List D) (w : World) (hr : Rd w B A n c ds) :
    Calls Try.prog 72 #[.slice A n c] w fun e w' => (∃ m : Int, e = .returned (.int .i64 m)) ∧ w = w' := by
  have HR := Lib.hid hr
  have hn := hr.2.1
  have hc := hr.2.2.1
  clear hr
  go_enter Try.func72, Try.ntmps72
  go_wp2
  go_loop [3, 4] (fun o i => ∃ (k : Nat) (m : Int), k ≤ n ∧ i = .int .i64 k ∧ o = .int .i64 m) (fun _ i => n - (intOf i).toNat)
  case atStart => exact ⟨0, 0, Nat.zero_le _, rfl, rfl⟩
  case round =>
    obtain ⟨k, m, hk, rfl, rfl⟩ := hrel
    by_cases hkn : k < n
    · obtain ⟨bl, off, rfl, hbl, hcell⟩ := HR.out.2.2.2.2 (by omega)
      obtain ⟨c0, c1⟩ := hcell k hkn
      clear hcell
      go_wp2_with (go_at_call 77; refine (either_some _ _ _).mono ?_; rintro e w' ⟨⟨m, rfl⟩, rfl⟩)
      go_round
      case rel => exact ⟨k + 1, _, by omega, by go_num, rfl⟩
      case measure => simp [intOf]; omega
    · go_wp2
      go_ret
      exact ⟨⟨_, rfl⟩, rfl⟩

set_option maxHeartbeats 1000000 in
theorem validArm_any (x y : Int) (hx : -9223372036854775808 ≤ x ∧ x ≤ 9223372036854775807) (hy : -9223372036854775808 ≤ y ∧ y ≤ 9223372036854775807) (A : Option Addr) (n c : Nat) (ds : List D) (z : Int) (w : World) (hr : Rd w w.heap.size A n c ds) :
    Calls Try.prog 56 #[.agg #[.slice A n c, .int .i64 z], .agg #[.int .i64 x, .int .i64 y]] w fun e w' => e = .returned (.bool (vArm ds z x y)) ∧ Below w.heap.size w w' := by
  have p := (blk1 w #[.slice A n c, .int .i64 z] 25).alloc (.cells #[.int .i64 x, .int .i64 y] 51)
  have q := blk2 w (.cells #[.slice A n c, .int .i64 z] 25) #[.int .i64 x, .int .i64 y] 51
  have b := below2 w (.cells #[.slice A n c, .int .i64 z] 25) (.cells #[.int .i64 x, .int .i64 y] 51)
  have R := hr.to b
  have c0 := p.cell 0
  have c1 := p.cell 1
  clear hr
  go_enter Try.func56, Try.ntmps56
  go_wp2_with fail
  refine (validFlag_any _ _ _ ds _ _ R).mono ?_
  rintro e w1 ⟨rfl, hb⟩
  replace b := Below.on b hb b.size
  replace p := p.below hb p.lt
  replace q := q.below hb q.lt
  replace R := R.to hb
  replace c0 := p.cell 0
  replace c1 := p.cell 1
  have c2 := q.cell 0
  have c3 := q.cell 1
  clear hb
  cases hv : vFlag ds z with
  | false =>
    have HF := Lib.hid (vArm_bad (x := x) (y := y) hv)
    go_wp2
    go_ret
    exact ⟨ret_bool HF.out.symm, b⟩
  | true =>
    have HF := Lib.hid (vArm_good (x := x) (y := y) hv)
    have hB := Bits_of (vFlag_defs hv)
    go_wp2_with fail
    refine (ok_any x y hx hy _ _ _ ds _ hB _ R).mono ?_
    rintro e w2 ⟨rfl, hb⟩
    go_wp2
    go_ret
    exact ⟨ret_bool HF.out.symm, Below.on b hb b.size⟩

set_option maxHeartbeats 2000000 in
theorem svalidArm_any (x y : Int) (A : Option Addr) (n c : Nat) (ds : List D) (z : Int) (w : World) (hr : Rd w w.heap.size A n c ds) :
    Calls Try.prog 89 #[.agg #[.slice A n c, .int .i64 z], .agg #[.int .i64 x, .int .i64 y]] w fun e w' => e = .returned (.bool (vArm ds z x y)) ∧ Below w.heap.size w w' := by
  have p := (blk1 w #[.slice A n c, .int .i64 z] 25).alloc (.cells #[.int .i64 x, .int .i64 y] 51)
  have q := blk2 w (.cells #[.slice A n c, .int .i64 z] 25) #[.int .i64 x, .int .i64 y] 51
  have b := below2 w (.cells #[.slice A n c, .int .i64 z] 25) (.cells #[.int .i64 x, .int .i64 y] 51)
  have R := hr.to b
  have c0 := p.cell 0
  have c1 := p.cell 1
  have c2 := q.cell 0
  have c3 := q.cell 1
  clear hr
  cases hv : vFlag ds z with
  | false =>
    have HF := Lib.hid (vArm_bad (x := x) (y := y) hv)
    go_enter Try.func89, Try.ntmps89
    go_wp2_with fail
    refine (smask_some _ _ _ _ ds _ R).mono ?_
    rintro e w1 ⟨⟨m, rfl⟩, rfl⟩
    go_wp2_with fail
    refine (svalidFlag_any _ _ _ ds _ _ R).mono ?_
    rintro e w1 ⟨rfl, hb⟩
    rw [hv]
    go_wp2
    go_ret
    exact ⟨ret_bool HF.out.symm, Below.on b hb b.size⟩
  | true =>
    have hB := Bits_of (vFlag_defs hv)
    obtain ⟨m0, m1⟩ := maskV_lt hB
    have HV := Lib.hid hv
    have HF := Lib.hid (show vArm ds z x y = (inR x 0 4095 && inR y 0 4095 && lessV x (maskV ds) == 0 && lessV y (maskV ds) == 0 && andV x y == 0) from by rw [vArm_good hv]; rfl)
    go_enter Try.func89, Try.ntmps89
    go_wp2_with fail
    refine (smask_any _ _ _ _ ds hB _ R).mono ?_
    rintro e w1 ⟨rfl, rfl⟩
    clear hv hB
    go_wp2_with fail
    refine (svalidFlag_any _ _ _ ds _ _ R).mono ?_
    rintro e w1 ⟨rfl, hb⟩
    rw [HV.out]
    replace b := Below.on b hb b.size
    replace q := q.below hb q.lt
    replace c2 := q.cell 0
    replace c3 := q.cell 1
    clear hb R c0 c1 p
    cases hx : inR x 0 4095 with
    | false =>
      rw [hx] at HF
      go_wp2_with (go_at_call 94; refine (inRange_any _ _ _ _).mono ?_; rintro e w' ⟨rfl, rfl⟩; rw [hx])
      go_ret
      exact ⟨ret_bool (by rw [HF.out]; rfl), b⟩
    | true =>
      cases hy : inR y 0 4095 with
      | false =>
        rw [hx, hy] at HF
        go_wp2_with (go_at_call 94; refine (inRange_any _ _ _ _).mono ?_; rintro e w' ⟨rfl, rfl⟩; (first | rw [hx] | rw [hy]))
        go_ret
        exact ⟨ret_bool (by rw [HF.out]; rfl), b⟩
      | true =>
        have hx' : 0 ≤ x ∧ x ≤ 4095 := by simpa [inR] using hx
        have hy' : 0 ≤ y ∧ y ≤ 4095 := by simpa [inR] using hy
        obtain ⟨x0, x1⟩ := hx'
        obtain ⟨y0, y1⟩ := hy'
        rw [hx, hy] at HF
        have l0 := lessV_le (b := maskV ds) x0
        have l1 := lessV_le (b := maskV ds) y0
        by_cases g1 : lessV x (maskV ds) = 0
        · by_cases g2 : lessV y (maskV ds) = 0
          · have HF2 := Lib.hid (show vArm ds z x y = (andV x y == 0) from by rw [HF.out, g1, g2]; rfl)
            go_wp2_with (first | (go_at_call 94; refine (inRange_any _ _ _ _).mono ?_; rintro e w' ⟨rfl, rfl⟩; (first | rw [hx] | rw [hy])) | (go_at_call 82; refine (less_any _ _ (by assumption) (by assumption) m0 m1 _).mono ?_; rintro e w' ⟨rfl, rfl⟩) | (go_at_call 84; refine (both_any _ _ x0 x1 y0 y1 _).mono ?_; rintro e w' ⟨rfl, rfl⟩))
            go_ret
            exact ⟨ret_bool HF2.out.symm, b⟩
          · have HF2 := Lib.hid (show vArm ds z x y = false from by rw [HF.out]; simp [g2])
            go_wp2_with (first | (go_at_call 94; refine (inRange_any _ _ _ _).mono ?_; rintro e w' ⟨rfl, rfl⟩; (first | rw [hx] | rw [hy])) | (go_at_call 82; refine (less_any _ _ (by assumption) (by assumption) m0 m1 _).mono ?_; rintro e w' ⟨rfl, rfl⟩) | (go_at_call 84; refine (both_any _ _ x0 x1 y0 y1 _).mono ?_; rintro e w' ⟨rfl, rfl⟩))
            go_ret
            exact ⟨ret_bool HF2.out.symm, b⟩
        · have HF2 := Lib.hid (show vArm ds z x y = false from by rw [HF.out]; simp [g1])
          go_wp2_with (first | (go_at_call 94; refine (inRange_any _ _ _ _).mono ?_; rintro e w' ⟨rfl, rfl⟩; (first | rw [hx] | rw [hy])) | (go_at_call 82; refine (less_any _ _ (by assumption) (by assumption) m0 m1 _).mono ?_; rintro e w' ⟨rfl, rfl⟩) | (go_at_call 84; refine (both_any _ _ x0 x1 y0 y1 _).mono ?_; rintro e w' ⟨rfl, rfl⟩))
          go_ret
          exact ⟨ret_bool HF2.out.symm, b⟩

set_option maxHeartbeats 400000 in
theorem sValidArm_any (x y : Int) (A : Option Addr) (n c : Nat) (ds : List D) (z : Int) (w : World) (hr : Rd w w.heap.size A n c ds) :
    Calls Try.prog 57 #[.agg #[.slice A n c, .int .i64 z], .agg #[.int .i64 x, .int .i64 y]] w fun e w' => e = .returned (.bool (vArm ds z x y)) ∧ Below w.heap.size w w' := by
  have p := (blk1 w #[.slice A n c, .int .i64 z] 25).alloc (.cells #[.int .i64 x, .int .i64 y] 51)
  have q := blk2 w (.cells #[.slice A n c, .int .i64 z] 25) #[.int .i64 x, .int .i64 y] 51
  have b := below2 w (.cells #[.slice A n c, .int .i64 z] 25) (.cells #[.int .i64 x, .int .i64 y] 51)
  have R := hr.to b
  have c0 := p.cell 0
  have c1 := p.cell 1
  have c2 := q.cell 0
  have c3 := q.cell 1
  clear hr
  go_enter Try.func57, Try.ntmps57
  go_wp2_with fail
  refine (svalidArm_any x y _ _ _ ds _ _ R).mono ?_
  rintro e w1 ⟨rfl, hb⟩
  go_wp2
  go_ret
  exact ⟨ret_bool rfl, Below.on b hb b.size⟩

end Go.Proofs.Ytofkbckpncpmkaa
