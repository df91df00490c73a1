/-
  The walks of ReadsOld, of the program's and of the reference's.
-/
import Derived.Test.YtnfedlhjekghoaaWEnum
import Derived.Test.YtnfedlhjekghoaaWMem
import Derived.Test.YtnfedlhjekghoaaPlainB
namespace Go.Proofs.Ytnfedlhjekghoaa
open Go.RowKit

/-- A call that leaves the world as it is, in a region behind another region: the draws add up. -/
theorem quiet_on {P : Program} {f : FuncId} {args : Array Value} {w : World} {a n : Nat} {v : Value} (h : Calls P f args (w.drewN (a + n)) fun e w' => e = .returned v ∧ w.drewN (a + n) = w') :
    Calls P f args (w.drewN (a + n)) fun e w'' => e = .returned v ∧ ∃ m, w'' = w.drewN (a + m) := h.mono fun _ _ ⟨he, hm⟩ => ⟨he, n, hm.symm⟩
theorem Rd.drewN {w : World} {B n c : Nat} {A : Option Addr} {ds : List D} (h : Rd w B A n c ds) (k : Nat) : Rd (w.drewN k) B A n c ds := h
theorem old1_no1 {a b : List D} {v : Int} (h : hasVal b v = false) : old1 a b v = false := by simp [old1, h]
theorem old1_no2 {a b : List D} {v : Int} (h : hasName a (nameV b v) = false) : old1 a b v = false := by simp [old1, h]
theorem old1_no3 {a b : List D} {v : Int} (h : ¬ valV a (nameV b v) = v) : old1 a b v = false := by simp [old1, h]
theorem old1_yes {a b : List D} {v : Int} (h1 : hasVal b v = true) (h2 : hasName a (nameV b v) = true) (h3 : valV a (nameV b v) = v) : old1 a b v = true := by simp [old1, h1, h2, h3]

set_option maxHeartbeats 2000000 in
theorem readsOld_any (A : Option Addr) (n c : Nat) (ds : List D) (A' : Option Addr) (n' c' : Nat) (ds' : List D) (w : World) (hr : Rd w w.heap.size A n c ds) (hr' : Rd w w.heap.size A' n' c' ds') :
    Calls Try.prog 37 #[.agg #[.slice A n c], .agg #[.slice A' n' c']] w fun e w' => e = .returned (.bool (readsOld ds ds')) ∧ Below w.heap.size w w' := by
  have q := (blk1 w #[.slice A n c] 31).alloc (.cells #[.slice A' n' c'] 31)
  have q' := blk2 w (.cells #[.slice A n c] 31) #[.slice A' n' c'] 31
  have b := below2 w (.cells #[.slice A n c] 31) (.cells #[.slice A' n' c'] 31)
  have R := hr.to b
  have R' := hr'.to b
  have c0 := q.cell 0
  have c1 := q'.cell 0
  clear hr hr'
  go_enter Try.func37, Try.ntmps37
  go_wp2_with fail
  refine (validEnum_any _ _ _ ds _ R).mono ?_
  rintro e w1 ⟨rfl, hb⟩
  replace b := Below.on b hb b.size
  replace q := q.below hb q.lt
  replace q' := q'.below hb q'.lt
  replace R := R.to hb
  replace R' := R'.to hb
  replace c0 := q.cell 0
  replace c1 := q'.cell 0
  clear hb
  cases h1 : vDefs ds (-1000) 1000 with
  | false =>
    have HF := Lib.hid (show readsOld ds ds' = false from by simp [readsOld, vEnum, h1])
    go_wp2
    go_ret
    exact ⟨ret_bool HF.out.symm, b⟩
  | true =>
    go_wp2_with fail
    refine (validEnum_any _ _ _ ds' _ R').mono ?_
    rintro e w2 ⟨rfl, hb⟩
    replace b := Below.on b hb b.size
    replace q := q.below hb q.lt
    replace q' := q'.below hb q'.lt
    replace R := R.to hb
    replace R' := R'.to hb
    replace c0 := q.cell 0
    replace c1 := q'.cell 0
    clear hb
    cases h2 : vDefs ds' (-1000) 1000 with
    | false =>
      have HF := Lib.hid (show readsOld ds ds' = false from by simp [readsOld, vEnum, h2])
      go_wp2
      go_ret
      exact ⟨ret_bool HF.out.symm, b⟩
    | true =>
      go_wp2_with fail
      refine (members_any _ _ _ ds _ R).mono ?_
      rintro e w3 ⟨A3, c3, rfl, R3, hb⟩
      replace b := Below.on b hb b.size
      replace q := q.below hb q.lt
      replace q' := q'.below hb q'.lt
      replace R := R.to hb
      replace R' := R'.to hb
      clear hb c0 c1
      have Rh := Lib.hid R
      have Rh' := Lib.hid R'
      have R3h := Lib.hid R3
      have hc3 := R3.2.2.1
      have hn3 := R3.2.1
      clear R R' R3
      go_wp2
      go_loopw [22] (fun i wr => ∃ k : Nat, k ≤ (mem ds).length ∧ i = .int .i64 k ∧ readsTo ds ds' k = true ∧ Below w3.heap.size w3 wr) (fun i _ => (mem ds).length - (intOf i).toNat)
      case atStart => exact ⟨0, Nat.zero_le _, rfl, rfl, Below.refl _ _⟩
      case round =>
        obtain ⟨k, hk, rfl, ht, hb⟩ := hrel
        have HT := Lib.hid ht
        clear ht
        have bw := Below.on b hb b.size
        by_cases hkn : k < (mem ds).length
        · obtain ⟨bl, off, rfl, hbl, hcell⟩ := (R3h.out.below hb).2.2.2.2 (by omega)
          obtain ⟨e0, e1⟩ := hcell k hkn
          clear hcell
          have p := (q.below hb q.lt).alloc (.cells #[.string (nth (mem ds) k).1, .int .i64 (nth (mem ds) k).2] 53)
          have p' := (q'.below hb q'.lt).alloc (.cells #[.string (nth (mem ds) k).1, .int .i64 (nth (mem ds) k).2] 53)
          have d := blk1 wr #[.string (nth (mem ds) k).1, .int .i64 (nth (mem ds) k).2] 53
          have S := (Rh.out.to hb).to (below1 wr (.cells #[.string (nth (mem ds) k).1, .int .i64 (nth (mem ds) k).2] 53))
          have S' := (Rh'.out.to hb).to (below1 wr (.cells #[.string (nth (mem ds) k).1, .int .i64 (nth (mem ds) k).2] 53))
          have bb := Below.on hb (below1 wr (.cells #[.string (nth (mem ds) k).1, .int .i64 (nth (mem ds) k).2] 53)) hb.size
          have f0 := p.cell 0
          have f1 := p'.cell 0
          go_wp2_with fail
          refine (nameOf_any _ _ _ ds' _ _ S').mono ?_
          rintro e w4 ⟨rfl, hb4⟩
          replace bb := Below.on bb hb4 bb.size
          replace p := p.below hb4 p.lt
          replace d := d.below hb4 d.lt
          replace S := S.to hb4
          replace f0 := p.cell 0
          have g1 := d.cell 1
          clear p' S' f1 hb4
          have hlt4 : wr.heap.size < w4.heap.size := d.lt
          go_wp2_with fail
          refine (valueOf_any _ _ _ ds _ _ S).mono ?_
          rintro e w5 ⟨rfl, hb5⟩
          replace bb := Below.on bb hb5 bb.size
          replace d := d.below hb5 d.lt
          replace g1 := d.cell 1
          have hlt5 : wr.heap.size < w5.heap.size := d.lt
          clear p S f0 hb5 hlt4
          cases u1 : hasVal ds' (nth (mem ds) k).2 with
          | false =>
            have HF := Lib.hid (readsOld_no hkn (old1_no1 (a := ds) u1))
            go_wp2
            go_ret
            exact ⟨ret_bool HF.out.symm, Below.on b bb b.size⟩
          | true =>
            cases u2 : hasName ds (nameV ds' (nth (mem ds) k).2) with
            | false =>
              have HF := Lib.hid (readsOld_no hkn (old1_no2 u2))
              go_wp2
              go_ret
              exact ⟨ret_bool HF.out.symm, Below.on b bb b.size⟩
            | true =>
              by_cases u3 : valV ds (nameV ds' (nth (mem ds) k).2) = (nth (mem ds) k).2
              · have HF := Lib.hid (readsTo_succ HT.out (old1_yes u1 u2 u3))
                go_wp2
                go_roundw
                case rel => exact ⟨k + 1, by omega, by go_num, HF.out, bb⟩
                case measure => simp [intOf]; omega
              · have HF := Lib.hid (readsOld_no hkn (old1_no3 u3))
                go_wp2
                go_ret
                exact ⟨ret_bool HF.out.symm, Below.on b bb b.size⟩
        · have HF := Lib.hid (readsOld_end (show vEnum ds = true from h1) (show vEnum ds' = true from h2) hkn hk HT.out)
          go_wp2
          go_ret
          exact ⟨ret_bool HF.out.symm, bw⟩

set_option maxHeartbeats 4000000 in
theorem sreadsOld_any (A : Option Addr) (n c : Nat) (ds : List D) (A' : Option Addr) (n' c' : Nat) (ds' : List D) (w : World) (hr : Rd w w.heap.size A n c ds) (hr' : Rd w w.heap.size A' n' c' ds') :
    Calls Try.prog 36 #[.agg #[.slice A n c], .agg #[.slice A' n' c']] w fun e w' => e = .returned (.bool (readsOld ds ds')) ∧ Below w.heap.size w w' := by
  have q := (blk1 w #[.slice A n c] 31).alloc (.cells #[.slice A' n' c'] 31)
  have q' := blk2 w (.cells #[.slice A n c] 31) #[.slice A' n' c'] 31
  have b := below2 w (.cells #[.slice A n c] 31) (.cells #[.slice A' n' c'] 31)
  have R := hr.to b
  have R' := hr'.to b
  have c0 := q.cell 0
  have c1 := q'.cell 0
  clear hr hr'
  go_enter Try.func36, Try.ntmps36
  go_wp2_with fail
  refine (svalidEnum_any _ _ _ ds _ R).mono ?_
  rintro e w1 ⟨rfl, hb⟩
  replace b := Below.on b hb b.size
  replace q := q.below hb q.lt
  replace q' := q'.below hb q'.lt
  replace R := R.to hb
  replace R' := R'.to hb
  replace c0 := q.cell 0
  replace c1 := q'.cell 0
  clear hb
  cases h1 : vDefs ds (-1000) 1000 with
  | false =>
    have HF := Lib.hid (show readsOld ds ds' = false from by simp [readsOld, vEnum, h1])
    go_wp2
    go_ret
    exact ⟨ret_bool HF.out.symm, b⟩
  | true =>
    go_wp2_with fail
    refine (svalidEnum_any _ _ _ ds' _ R').mono ?_
    rintro e w2 ⟨rfl, hb⟩
    replace b := Below.on b hb b.size
    replace q := q.below hb q.lt
    replace q' := q'.below hb q'.lt
    replace R := R.to hb
    replace R' := R'.to hb
    replace c0 := q.cell 0
    replace c1 := q'.cell 0
    clear hb
    cases h2 : vDefs ds' (-1000) 1000 with
    | false =>
      have HF := Lib.hid (show readsOld ds ds' = false from by simp [readsOld, vEnum, h2])
      go_wp2
      go_ret
      exact ⟨ret_bool HF.out.symm, b⟩
    | true =>
      go_wp2_with fail
      refine (smembers_any _ _ _ ds _ R).mono ?_
      rintro e w3 ⟨A3, c3, rfl, R3, hb⟩
      replace b := Below.on b hb b.size
      replace q := q.below hb q.lt
      replace q' := q'.below hb q'.lt
      replace R := R.to hb
      replace R' := R'.to hb
      clear hb c0 c1
      have Rh := Lib.hid R
      have Rh' := Lib.hid R'
      have R3h := Lib.hid R3
      have hc3 := R3.2.2.1
      have hn3 := R3.2.1
      have hn := R.2.1
      have hc := R.2.2.1
      have hn' := R'.2.1
      have hc' := R'.2.2.1
      clear R R' R3
      go_wp2
      go_loopw [6] (fun i wr => ∃ k : Nat, k ≤ (mem ds).length ∧ i = .int .i64 k ∧ readsTo ds ds' k = true ∧ Below w3.heap.size w3 wr) (fun i _ => (mem ds).length - (intOf i).toNat)
      case atStart => exact ⟨0, Nat.zero_le _, rfl, rfl, Below.refl _ _⟩
      case round =>
        obtain ⟨k, hk, rfl, ht, hb⟩ := hrel
        have HT := Lib.hid ht
        clear ht
        have bw := Below.on b hb b.size
        by_cases hkn : k < (mem ds).length
        · obtain ⟨bl, off, rfl, hbl, hcell⟩ := (R3h.out.below hb).2.2.2.2 (by omega)
          obtain ⟨e0, e1⟩ := hcell k hkn
          clear hcell
          have p := q.below hb q.lt
          have p' := q'.below hb q'.lt
          have S := Lib.hid (Rh.out.to hb)
          have S' := Lib.hid (Rh'.out.to hb)
          have f0 := p.cell 0
          have f1 := p'.cell 0
          have i0 : (0 : Int) ≤ (k : Int) := by omega
          have i1 : (k : Int) < ((mem ds).length : Int) := by omega
          rcases ix_cases (valueIs (nth (mem ds) k).2) ds' with ⟨h, _⟩ | ⟨j, hj, h, _, _⟩
          · have HF := Lib.hid (readsOld_no hkn (old1_no1 (a := ds) (hasVal_no h).1))
            go_wp2
            go_quiet ((go_at_call 49; exact Calls.quiet_of_same ((valueAt_any _ _ _ _ ds' _ _ (by exact S'.out)).mono fun _ _ ⟨he, hw⟩ => ⟨he, hw.symm⟩)))
            go_wp2
            go_ret
            exact ⟨ret_bool HF.out.symm, below_drewN bw _⟩
          · have x := hasVal_yes (show vEnum ds' = true from h2) h
            obtain ⟨_, _, _, _, ha'⟩ := S'.out
            have hjn : j < n' := by have := S'.out.1; omega
            obtain ⟨bl', off', rfl, hbl', hcell'⟩ := ha' (by omega)
            obtain ⟨e2, e3⟩ := hcell' j hjn
            clear hcell' ha'
            have i2 : (0 : Int) ≤ (j : Int) := by omega
            have i3 : (j : Int) < (n' : Int) := by omega
            rcases ix_cases (nameIs (nth ds' j).1) ds with ⟨g, _⟩ | ⟨m, hm, g, _, _⟩
            · have HF := Lib.hid (readsOld_no hkn (old1_no2 (v := (nth (mem ds) k).2) (by rw [x.2]; exact (hasName_no g).1)))
              clear x
              go_wp2
              go_quiet ((go_at_call 49; exact Calls.quiet_of_same ((valueAt_any _ _ _ _ ds' _ _ (by exact S'.out)).mono fun _ _ ⟨he, hw⟩ => ⟨he, hw.symm⟩)))
              go_wp2
              go_quiet ((go_at_call 47; exact quiet_on (indexOf_any _ _ _ _ ds _ _ (by exact S.out.drewN _))))
              go_wp2
              go_quiet (fail)
              go_wp2
              go_ret
              exact ⟨ret_bool HF.out.symm, below_drewN (below_drewN (below_drewN bw _) _) _⟩
            · have y := hasName_yes (show vEnum ds = true from h1) g
              obtain ⟨_, _, _, _, ha2⟩ := S.out
              have hmn : m < n := by have := S.out.1; omega
              obtain ⟨bl2, off2, rfl, hbl2, hcell2⟩ := ha2 (by omega)
              obtain ⟨e4, e5⟩ := hcell2 m hmn
              clear hcell2 ha2
              have i4 : (0 : Int) ≤ (m : Int) := by omega
              have i5 : (m : Int) < (n : Int) := by omega
              by_cases u3 : (nth ds m).2 = (nth (mem ds) k).2
              · have HF := Lib.hid (readsTo_succ (b := ds') HT.out (old1_yes x.1 (by rw [x.2]; exact y.1) (by rw [x.2, y.2]; exact u3)))
                clear x y
                go_wp2
                go_quiet ((go_at_call 49; exact Calls.quiet_of_same ((valueAt_any _ _ _ _ ds' _ _ (by exact S'.out)).mono fun _ _ ⟨he, hw⟩ => ⟨he, hw.symm⟩)))
                go_wp2
                go_quiet ((go_at_call 47; exact quiet_on (indexOf_any _ _ _ _ ds _ _ (by exact S.out.drewN _))))
                go_wp2
                go_quiet (fail)
                go_wp2
                go_roundw
                case rel => exact ⟨k + 1, by omega, by go_num, HF.out, below_drewN hb _⟩
                case measure => simp [intOf]; omega
              · have HF := Lib.hid (readsOld_no (b := ds') hkn (old1_no3 (by rw [x.2, y.2]; exact u3)))
                have u4 : ((nth ds m).2 == (nth (mem ds) k).2) = false := by simpa using u3
                have u5 : ((nth ds m).2 != (nth (mem ds) k).2) = true := by simpa using u3
                clear x y
                go_wp2
                go_quiet ((go_at_call 49; exact Calls.quiet_of_same ((valueAt_any _ _ _ _ ds' _ _ (by exact S'.out)).mono fun _ _ ⟨he, hw⟩ => ⟨he, hw.symm⟩)))
                go_wp2
                go_quiet ((go_at_call 47; exact quiet_on (indexOf_any _ _ _ _ ds _ _ (by exact S.out.drewN _))))
                go_wp2
                go_quiet (fail)
                go_wp2
                go_ret
                exact ⟨ret_bool HF.out.symm, below_drewN (below_drewN (below_drewN bw _) _) _⟩
        · have HF := Lib.hid (readsOld_end (show vEnum ds = true from h1) (show vEnum ds' = true from h2) hkn hk HT.out)
          go_wp2
          go_ret
          exact ⟨ret_bool HF.out.symm, bw⟩

end Go.Proofs.Ytnfedlhjekghoaa
