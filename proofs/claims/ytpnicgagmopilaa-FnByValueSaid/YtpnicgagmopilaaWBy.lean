/-
  The walks of ByName and ByValue, of the program's and of the reference's.
-/
import Derived.Test.YtpnicgagmopilaaWEnum
import Derived.Test.YtpnicgagmopilaaPlainB
namespace Go.Proofs.Ytpnicgagmopilaa
open Go.RowKit

set_option maxHeartbeats 1000000 in
theorem byName_any (A : Option Addr) (n c : Nat) (ds : List D) (A' : Option Addr) (n' c' : Nat) (ds' : List D) (s : ByteArray) (w : World) (hr : Rd w w.heap.size A n c ds) (hr' : Rd w w.heap.size A' n' c' ds') :
    Calls Try.prog 39 #[.agg #[.slice A n c], .agg #[.slice A' n' c'], .string s] w fun e w' => e = .returned (.tuple #[.string (byNameV ds ds' s), .bool (byNameH ds ds' s)]) ∧ Below w.heap.size w w' := by
  have q := (blk1 w #[.slice A n c] 28).alloc (.cells #[.slice A' n' c'] 28)
  have q' := blk2 w (.cells #[.slice A n c] 28) #[.slice A' n' c'] 28
  have b := below2 w (.cells #[.slice A n c] 28) (.cells #[.slice A' n' c'] 28)
  have R := hr.to b
  have R' := hr'.to b
  have c0 := q.cell 0
  have c1 := q'.cell 0
  clear hr hr'
  go_enter Try.func39, Try.ntmps39
  go_wp2_with fail
  refine (valueOf_any _ _ _ ds _ _ R).mono ?_
  rintro e w1 ⟨rfl, hb⟩
  replace b := Below.on b hb b.size
  replace q' := q'.below hb q'.lt
  replace R' := R'.to hb
  have c2 := q'.cell 0
  clear hb R q c0 c1
  go_wp2_with fail
  refine (valueOf_any _ _ _ ds' _ _ R').mono ?_
  rintro e w2 ⟨rfl, hb⟩
  replace b := Below.on b hb b.size
  replace q' := q'.below hb q'.lt
  replace R' := R'.to hb
  replace c2 := q'.cell 0
  clear hb
  cases h1 : hasName ds s with
  | false =>
    obtain ⟨g1, g2⟩ := byName_no1 (b := ds') h1
    go_wp2
    go_ret2
    rw [g1, g2]
    exact ⟨rfl, b⟩
  | true =>
    cases h2 : hasName ds' s with
    | false =>
      obtain ⟨g1, g2⟩ := byName_no2 (a := ds) h2
      go_wp2
      go_ret2
      rw [g1, g2]
      exact ⟨rfl, b⟩
    | true =>
      obtain ⟨g1, g2⟩ := byName_yes h1 h2
      have G2 := Lib.hid g2
      clear g2
      have g3 := hasVal_of h2
      go_wp2_with fail
      refine (nameOf_any _ _ _ ds' _ _ R').mono ?_
      rintro e w3 ⟨rfl, hb⟩
      go_wp2
      go_ret2
      rw [g1, G2.out]
      exact ⟨rfl, Below.on b hb b.size⟩

set_option maxHeartbeats 1000000 in
theorem byValue_any (A : Option Addr) (n c : Nat) (ds : List D) (A' : Option Addr) (n' c' : Nat) (ds' : List D) (s : ByteArray) (w : World) (hr : Rd w w.heap.size A n c ds) (hr' : Rd w w.heap.size A' n' c' ds') :
    Calls Try.prog 42 #[.agg #[.slice A n c], .agg #[.slice A' n' c'], .string s] w fun e w' => e = .returned (.tuple #[.string (byValueV ds ds' s), .bool (byValueH ds ds' s)]) ∧ Below w.heap.size w w' := by
  have q := (blk1 w #[.slice A n c] 28).alloc (.cells #[.slice A' n' c'] 28)
  have q' := blk2 w (.cells #[.slice A n c] 28) #[.slice A' n' c'] 28
  have b := below2 w (.cells #[.slice A n c] 28) (.cells #[.slice A' n' c'] 28)
  have R := hr.to b
  have R' := hr'.to b
  have c0 := q.cell 0
  have c1 := q'.cell 0
  clear hr hr'
  go_enter Try.func42, Try.ntmps42
  go_wp2_with fail
  refine (valueOf_any _ _ _ ds _ _ R).mono ?_
  rintro e w1 ⟨rfl, hb⟩
  replace b := Below.on b hb b.size
  replace q' := q'.below hb q'.lt
  replace R' := R'.to hb
  have c2 := q'.cell 0
  clear hb R q c0 c1
  cases h1 : hasName ds s with
  | false =>
    obtain ⟨g1, g2⟩ := byValue_no1 (b := ds') h1
    go_wp2
    go_ret2
    rw [g1, g2]
    exact ⟨rfl, b⟩
  | true =>
    obtain ⟨g1, g2⟩ := byValue_yes (b := ds') h1
    have G1 := Lib.hid g1
    have G2 := Lib.hid g2
    clear g1 g2
    go_wp2_with fail
    refine (nameOf_any _ _ _ ds' _ _ R').mono ?_
    rintro e w3 ⟨rfl, hb⟩
    go_wp2
    go_ret2
    rw [G1.out, G2.out]
    exact ⟨rfl, Below.on b hb b.size⟩

set_option maxHeartbeats 2000000 in
theorem sbyName_any (A : Option Addr) (n c : Nat) (ds : List D) (A' : Option Addr) (n' c' : Nat) (ds' : List D) (s : ByteArray) (w : World) (hr : Rd w w.heap.size A n c ds) (hr' : Rd w w.heap.size A' n' c' ds') :
    Calls Try.prog 40 #[.agg #[.slice A n c], .agg #[.slice A' n' c'], .string s] w fun e w' => e = .returned (.tuple #[.string (byNameV ds ds' s), .bool (byNameH ds ds' s)]) ∧ Below w.heap.size w w' := by
  have q := (blk1 w #[.slice A n c] 28).alloc (.cells #[.slice A' n' c'] 28)
  have q' := blk2 w (.cells #[.slice A n c] 28) #[.slice A' n' c'] 28
  have b := below2 w (.cells #[.slice A n c] 28) (.cells #[.slice A' n' c'] 28)
  have R := hr.to b
  have R' := hr'.to b
  have c0 := q.cell 0
  have c1 := q'.cell 0
  clear hr hr'
  go_enter Try.func40, Try.ntmps40
  go_wp2_with fail
  refine (indexOf_bel _ _ _ ds' _ _ R').mono ?_
  rintro e w1 ⟨rfl, hb⟩
  replace b := Below.on b hb b.size
  replace q := q.below hb q.lt
  replace q' := q'.below hb q'.lt
  replace R := R.to hb
  replace R' := R'.to hb
  replace c0 := q.cell 0
  replace c1 := q'.cell 0
  clear hb
  go_wp2_with fail
  refine (svalidEnum_any _ _ _ ds _ R).mono ?_
  rintro e w2 ⟨rfl, hb⟩
  replace b := Below.on b hb b.size
  replace q := q.below hb q.lt
  replace q' := q'.below hb q'.lt
  replace R := R.to hb
  replace R' := R'.to hb
  replace c0 := q.cell 0
  replace c1 := q'.cell 0
  clear hb
  cases h1 : vDefs ds (-1000) 1000 with
  | false =>
    obtain ⟨g1, g2⟩ := byName_no1 (b := ds') (hasName_bad s h1).1
    go_wp2
    go_ret2
    rw [g1, g2]
    exact ⟨rfl, b⟩
  | true =>
    go_wp2_with fail
    refine (svalidEnum_any _ _ _ ds' _ R').mono ?_
    rintro e w3 ⟨rfl, hb⟩
    replace b := Below.on b hb b.size
    replace q := q.below hb q.lt
    replace q' := q'.below hb q'.lt
    replace R := R.to hb
    replace R' := R'.to hb
    replace c0 := q.cell 0
    replace c1 := q'.cell 0
    clear hb
    cases h2 : vDefs ds' (-1000) 1000 with
    | false =>
      obtain ⟨g1, g2⟩ := byName_no2 (a := ds) (hasName_bad s h2).1
      go_wp2
      go_ret2
      rw [g1, g2]
      exact ⟨rfl, b⟩
    | true =>
      rcases ix_cases (nameIs s) ds' with ⟨h, _⟩ | ⟨k, hk, h, _, _⟩
      · obtain ⟨g1, g2⟩ := byName_no2 (a := ds) (hasName_no h).1
        go_wp2
        go_ret2
        rw [g1, g2]
        exact ⟨rfl, b⟩
      · rcases ix_cases (nameIs s) ds with ⟨h', _⟩ | ⟨k', hk', h', _, _⟩
        · obtain ⟨g1, g2⟩ := byName_no1 (b := ds') (hasName_no h').1
          go_wp2_with (go_at_call 65; refine (indexOf_any _ _ _ _ ds _ _ R).mono ?_; rintro e w4 ⟨rfl, rfl⟩)
          go_ret2
          rw [g1, g2]
          exact ⟨rfl, b⟩
        · have y := hasName_yes (show vEnum ds = true from h1) h'
          have y' := hasName_yes (show vEnum ds' = true from h2) h
          obtain ⟨g1, g2⟩ := byName_yes y.1 y'.1
          obtain ⟨j, hj, he, _⟩ := ix_self hk
          have G2 := Lib.hid (show byNameV ds ds' s = (nth ds' j).1 from by rw [g2, y'.2, (hasVal_yes h2 he).2])
          clear g2 y y'
          have RR := Lib.hid R'
          obtain ⟨hl, hn, hc, hg, ha⟩ := R'
          have hkn : k < n' := by omega
          have hjn : j < n' := by omega
          obtain ⟨bl, off, rfl, hbl, hcell⟩ := ha (by omega)
          obtain ⟨e0, e1⟩ := hcell k hkn
          obtain ⟨e2, e3⟩ := hcell j hjn
          clear hcell ha hg
          have i0 : (0 : Int) ≤ (k : Int) := by omega
          have i1 : (k : Int) < (n' : Int) := by omega
          have i2 : (0 : Int) ≤ (j : Int) := by omega
          have i3 : (j : Int) < (n' : Int) := by omega
          go_wp2_with (go_at_call 65; refine (indexOf_any _ _ _ _ ds _ _ R).mono ?_; rintro e w4 ⟨rfl, rfl⟩)
          go_quiet ((go_at_call 68; exact Calls.quiet_of_same ((valueAt_any _ _ _ _ ds' _ _ (by exact RR.out)).mono fun _ _ ⟨he, hw⟩ => ⟨he, hw.symm⟩)))
          go_wp2
          go_ret2
          rw [g1, G2.out]
          exact ⟨rfl, below_drewN b _⟩

set_option maxHeartbeats 2000000 in
theorem sbyValue_any (A : Option Addr) (n c : Nat) (ds : List D) (A' : Option Addr) (n' c' : Nat) (ds' : List D) (s : ByteArray) (w : World) (hr : Rd w w.heap.size A n c ds) (hr' : Rd w w.heap.size A' n' c' ds') :
    Calls Try.prog 43 #[.agg #[.slice A n c], .agg #[.slice A' n' c'], .string s] w fun e w' => e = .returned (.tuple #[.string (byValueV ds ds' s), .bool (byValueH ds ds' s)]) ∧ Below w.heap.size w w' := by
  have q := (blk1 w #[.slice A n c] 28).alloc (.cells #[.slice A' n' c'] 28)
  have q' := blk2 w (.cells #[.slice A n c] 28) #[.slice A' n' c'] 28
  have b := below2 w (.cells #[.slice A n c] 28) (.cells #[.slice A' n' c'] 28)
  have R := hr.to b
  have R' := hr'.to b
  have c0 := q.cell 0
  have c1 := q'.cell 0
  clear hr hr'
  go_enter Try.func43, Try.ntmps43
  go_wp2_with fail
  refine (indexOf_bel _ _ _ ds _ _ R).mono ?_
  rintro e w1 ⟨rfl, hb⟩
  replace b := Below.on b hb b.size
  replace q := q.below hb q.lt
  replace q' := q'.below hb q'.lt
  replace R := R.to hb
  replace R' := R'.to hb
  replace c0 := q.cell 0
  replace c1 := q'.cell 0
  clear hb
  go_wp2_with fail
  refine (svalidEnum_any _ _ _ ds _ R).mono ?_
  rintro e w2 ⟨rfl, hb⟩
  replace b := Below.on b hb b.size
  replace q := q.below hb q.lt
  replace q' := q'.below hb q'.lt
  replace R := R.to hb
  replace R' := R'.to hb
  replace c0 := q.cell 0
  replace c1 := q'.cell 0
  clear hb
  cases h1 : vDefs ds (-1000) 1000 with
  | false =>
    obtain ⟨g1, g2⟩ := byValue_no1 (b := ds') (hasName_bad s h1).1
    go_wp2
    go_ret2
    rw [g1, g2]
    exact ⟨rfl, b⟩
  | true =>
    go_wp2_with fail
    refine (svalidEnum_any _ _ _ ds' _ R').mono ?_
    rintro e w3 ⟨rfl, hb⟩
    replace b := Below.on b hb b.size
    replace q := q.below hb q.lt
    replace q' := q'.below hb q'.lt
    replace R := R.to hb
    replace R' := R'.to hb
    replace c0 := q.cell 0
    replace c1 := q'.cell 0
    clear hb
    cases h2 : vDefs ds' (-1000) 1000 with
    | false =>
      obtain ⟨g1, g2⟩ := byValue_no2 (a := ds) (s := s) (hasVal_bad _ h2).1
      go_wp2
      go_ret2
      rw [g1, g2]
      exact ⟨rfl, b⟩
    | true =>
      rcases ix_cases (nameIs s) ds with ⟨h, _⟩ | ⟨k, hk, h, _, _⟩
      · obtain ⟨g1, g2⟩ := byValue_no1 (b := ds') (hasName_no h).1
        go_wp2
        go_ret2
        rw [g1, g2]
        exact ⟨rfl, b⟩
      · have y := hasName_yes (show vEnum ds = true from h1) h
        obtain ⟨g1, g2⟩ := byValue_yes (b := ds') y.1
        rw [y.2] at g1 g2
        clear y
        obtain ⟨hl, hn, hc, hg, ha⟩ := R
        have hkn : k < n := by omega
        obtain ⟨bl, off, rfl, hbl, hcell⟩ := ha (by omega)
        obtain ⟨e0, e1⟩ := hcell k hkn
        clear hcell ha hg
        have i0 : (0 : Int) ≤ (k : Int) := by omega
        have i1 : (k : Int) < (n : Int) := by omega
        have RR := Lib.hid R'
        rcases ix_cases (valueIs (nth ds k).2) ds' with ⟨h', _⟩ | ⟨j, hj, h', _, _⟩
        · have x := hasVal_no h'
          rw [x.1] at g1
          rw [x.2] at g2
          clear x
          have G1 := Lib.hid g1
          have G2 := Lib.hid g2
          clear g1 g2
          go_wp2
          go_quiet ((go_at_call 68; exact Calls.quiet_of_same ((valueAt_any _ _ _ _ ds' _ _ (by exact RR.out)).mono fun _ _ ⟨he, hw⟩ => ⟨he, hw.symm⟩)))
          go_wp2
          go_ret2
          rw [G1.out, G2.out]
          exact ⟨rfl, below_drewN b _⟩
        · have x := hasVal_yes (show vEnum ds' = true from h2) h'
          rw [x.1] at g1
          rw [x.2] at g2
          clear x
          have G1 := Lib.hid g1
          have G2 := Lib.hid g2
          clear g1 g2
          obtain ⟨hl', hn', hc', hg', ha'⟩ := R'
          have hjn : j < n' := by omega
          obtain ⟨bl', off', rfl, hbl', hcell'⟩ := ha' (by omega)
          obtain ⟨e2, e3⟩ := hcell' j hjn
          clear hcell' ha' hg'
          go_wp2
          go_quiet ((go_at_call 68; exact Calls.quiet_of_same ((valueAt_any _ _ _ _ ds' _ _ (by exact RR.out)).mono fun _ _ ⟨he, hw⟩ => ⟨he, hw.symm⟩)))
          go_wp2
          go_ret2
          rw [G1.out, G2.out]
          exact ⟨rfl, below_drewN b _⟩

end Go.Proofs.Ytpnicgagmopilaa
