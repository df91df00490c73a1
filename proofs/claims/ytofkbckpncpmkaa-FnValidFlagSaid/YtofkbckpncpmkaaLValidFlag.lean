/-
  The walk of the law ValidFlag: whatever comes in, it answers true.
-/
import Derived.Test.YtofkbckpncpmkaaWDrawF
import Derived.Test.YtofkbckpncpmkaaWLawF
import Derived.Test.YtofkbckpncpmkaaWDrawF
import Derived.Test.YtofkbckpncpmkaaWBound
import Derived.Test.YtofkbckpncpmkaaPlainX
import Derived.Deep.RegionHeld3
import Derived.Deep.DrawnRows
namespace Go.Proofs.Ytofkbckpncpmkaa
open Go.RowKit

set_option maxRecDepth 100000 in
set_option maxHeartbeats 4000000 in
theorem validFlag_walk (A : Option Addr) (n c : Nat) (w : World) (hr : RdB w w.heap.size A n c) :
    Calls Try.prog 3 #[.slice A n c] w fun e w' => e = .returned (.bool true) ∧ Below w.heap.size w w' := by
  by_cases hlen : (1048576 : Int) < n
  · go_enter Try.func3, Try.ntmps3
    go_wp2_with fail
    go_ret
    exact ⟨rfl, Below.refl _ _⟩
  go_enter Try.func3, Try.ntmps3
  go_wp2_with fail
  refine (drawValidFlag_any A n c _ hr).mono ?_
  rintro e w1 ⟨A1, cc, ds, z, rfl, hz, hA, hf, R, b⟩
  have q := blk1 w1 #[.slice A1 ds.length cc, .int .i64 z] 25
  replace b := Below.on b (below1 w1 (.cells #[.slice A1 ds.length cc, .int .i64 z] 25)) b.size
  replace R := R.to (below1 w1 (.cells #[.slice A1 ds.length cc, .int .i64 z] 25))
  have c0 := q.cell 0
  have c1 := q.cell 1
  clear hr
  cases h : vFlag ds z with
  | false =>
    have F1 := Lib.hid h
    clear h
    go_wp2_with fail
    refine (validFlag_any _ _ _ ds _ _ R).mono ?_
    rintro e wn ⟨rfl, hb⟩
    replace b := Below.on b hb b.size
    replace q := q.below hb q.lt
    replace R := R.to hb
    replace c0 := q.cell 0
    replace c1 := q.cell 1
    rw [F1.out]
    clear hb
    go_wp2_with fail
    refine (sValidFlag_any _ _ _ ds _ _ R).mono ?_
    rintro e wn ⟨rfl, hb⟩
    replace b := Below.on b hb b.size
    replace q := q.below hb q.lt
    replace R := R.to hb
    replace c0 := q.cell 0
    replace c1 := q.cell 1
    rw [F1.out]
    clear hb
    go_wp2_with fail
    refine (sValidFlag_any _ _ _ ds _ _ R).mono ?_
    rintro e wn ⟨rfl, hb⟩
    replace b := Below.on b hb b.size
    replace q := q.below hb q.lt
    replace R := R.to hb
    replace c0 := q.cell 0
    replace c1 := q.cell 1
    rw [F1.out]
    clear hb
    go_wp2
    go_ret
    exact ⟨rfl, b⟩
  | true =>
    have F1 := Lib.hid h
    have hd := vFlag_defs h
    have hT := Lib.hid (vFlag_take h (ds.length - 1))
    clear h
    go_wp2_with fail
    refine (validFlag_any _ _ _ ds _ _ R).mono ?_
    rintro e wn ⟨rfl, hb⟩
    replace b := Below.on b hb b.size
    replace q := q.below hb q.lt
    replace R := R.to hb
    replace c0 := q.cell 0
    replace c1 := q.cell 1
    rw [F1.out]
    clear hb
    go_wp2_with fail
    refine (sValidFlag_any _ _ _ ds _ _ R).mono ?_
    rintro e wn ⟨rfl, hb⟩
    replace b := Below.on b hb b.size
    replace q := q.below hb q.lt
    replace R := R.to hb
    replace c0 := q.cell 0
    replace c1 := q.cell 1
    rw [F1.out]
    clear hb
    have HR := Lib.hid R
    have HQ := Lib.hid q
    have HB := Lib.hid b
    have hql := q.lt
    obtain ⟨w2, hw2⟩ : ∃ w2, w2 = wn := ⟨_, rfl⟩
    rw [← hw2] at HR HQ HB hql
    rw [← hw2]
    clear R q b c0 c1 hw2
    go_wp2
    go_loopw [5] (fun i wr => ∃ k : Nat, k ≤ 4 ∧ i = .int .i64 k ∧ Below w2.heap.size w2 wr) (fun i _ => 4 - (intOf i).toNat)
    case atStart => exact ⟨0, by omega, rfl, Below.refl _ _⟩
    case round =>
      obtain ⟨k, hk, rfl, hb⟩ := hrel
      have b := Below.on HB.out hb HB.out.size
      have b2 := hb
      have q := HQ.out.below hb hql
      have R := HR.out.to hb
      have c0 := q.cell 0
      have c1 := q.cell 1
      clear hb
      by_cases hk4 : (k : Int) ≤ 3
      · have hv : vFlag ds (k : Int) = true := by
          simp only [vFlag, Bool.and_eq_true]
          exact ⟨hd, inR_yes (by omega) hk4⟩
        have HV := Lib.hid hv
        go_wp2_with fail
        refine (withBound_yes _ _ _ ds z (k : Int) F1.out hv _ R hA).mono ?_
        rintro e w3 ⟨A5, c5, rfl, ho, hb⟩
        replace b2 := Below.on b2 hb b2.size
        obtain ⟨A6, c6, he, R6⟩ := ho.rd R.2.2.2.1
        simp only [Value.slice.injEq] at he
        obtain ⟨rfl, _, rfl⟩ := he
        have bs := below1 w3 (.cells #[.slice A5 ds.length c5, .int .i64 (k : Int)] 25)
        replace b2 := Below.on b2 bs b2.size
        replace R6 := R6.to bs
        clear hv hb bs R ho q b c0 c1
        go_wp2_with fail
        refine (validFlag_any _ _ _ ds _ _ R6).mono ?_
        rintro e w4 ⟨rfl, hb⟩
        rw [HV.out]
        replace b2 := Below.on b2 hb b2.size
        clear hb R6
        go_wp2_with fail
        go_roundw
        case rel => exact ⟨k + 1, by omega, by go_num, b2⟩
        case measure => simp [intOf]; omega
      · have hl13 : ds.length ≤ 13 := hf.1
        by_cases h0 : ds.length = 0
        · obtain rfl : ds = [] := List.eq_nil_of_length_eq_zero h0
          clear h0
          replace q : Blk wr w1.heap.size 25 #[.slice A1 0 cc, .int .i64 z] := q
          replace c0 := q.cell 0
          replace c1 := q.cell 1
          go_wp2_with fail
          go_quiet (fail)
          go_wp2
          go_ret
          exact ⟨rfl, below_drewN b _⟩
        · have h01 : (1 : Int) ≤ (ds.length : Int) := by omega
          have e1 : ((ds.length : Int) - 1).toNat = ds.length - 1 := by omega
          have h02 : (0 : Int) ≤ (ds.length : Int) - 1 := by omega
          have h03 : (ds.length : Int) - 1 ≤ (cc : Int) := by have := R.2.1; omega
          have hne0 : ((ds.length : Int) == 0) = false := by simpa using h0
          have e2 : IntKind.i64.wrap ((ds.length : Int) - 1) = (ds.length : Int) - 1 := by rw [IntKind.wrap_i64]; omega
          have RT := R.drew.take (k := ds.length - 1) (by omega)
          go_wp2_with fail
          replace b := b.drew
          replace q := q.drew
          replace R := R.drew
          go_region_held3 (fun w3 => w3.cell? ⟨w1.heap.size, 0, none⟩ = some (.slice A1 ds.length cc) ∧ w3.cell? ⟨w1.heap.size, 1, none⟩ = some (.int .i64 z)) (go_keep)
            (first
              | (go_at_call 18; refine (validFlag_any _ _ _ (ds.take (ds.length - 1)) _ _ RT).mono ?_; rintro e wn ⟨rfl, hb⟩; replace b := Below.on b hb b.size; replace q := q.below hb q.lt; replace c0 := q.cell 0; replace c1 := q.cell 1; clear hb; rw [hT.out]))
          go_wp2
          go_ret
          exact ⟨rfl, b⟩
end Go.Proofs.Ytofkbckpncpmkaa
