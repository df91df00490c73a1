/-
  The walk of the law ValidEnum: whatever comes in, it answers true.
-/
import Derived.Test.YtpnicgagmopilaaWDrawE
import Derived.Test.YtpnicgagmopilaaPlainN
import Derived.Test.YtpnicgagmopilaaWEnum
import Derived.Test.YtpnicgagmopilaaWMembers
namespace Go.Proofs.Ytpnicgagmopilaa
open Go.RowKit

set_option maxRecDepth 100000 in
set_option maxHeartbeats 4000000 in
theorem validEnum_walk (A : Option Addr) (n c : Nat) (w : World) (hr : RdB w w.heap.size A n c) :
    Calls Try.prog 4 #[.slice A n c] w fun e w' => e = .returned (.bool true) ∧ Below w.heap.size w w' := by
  by_cases hlen : (1048576 : Int) < n
  · go_enter Try.func4, Try.ntmps4
    go_wp2_with fail
    go_ret
    exact ⟨rfl, Below.refl _ _⟩
  go_enter Try.func4, Try.ntmps4
  go_wp2_with fail
  refine (drawValidEnum_any A n c _ hr).mono ?_
  rintro e w1 ⟨A1, cc, ds, rfl, hf, R, b⟩
  have q := blk1 w1 #[.slice A1 ds.length cc] 28
  replace b := Below.on b (below1 w1 (.cells #[.slice A1 ds.length cc] 28)) b.size
  replace R := R.to (below1 w1 (.cells #[.slice A1 ds.length cc] 28))
  have c0 := q.cell 0
  clear hr
  cases h : vDefs ds (-1000) 1000 with
  | false =>
    have H1 := Lib.hid h
    clear h
    go_wp2_with fail
    refine (validEnum_any _ _ _ ds _ R).mono ?_
    rintro e wn ⟨rfl, hb⟩
    replace b := Below.on b hb b.size
    replace q := q.below hb q.lt
    replace R := R.to hb
    replace c0 := q.cell 0
    clear hb
    rw [H1.out]
    go_wp2_with fail
    refine (sValidEnum_any _ _ _ ds _ R).mono ?_
    rintro e wn ⟨rfl, hb⟩
    replace b := Below.on b hb b.size
    replace q := q.below hb q.lt
    replace R := R.to hb
    replace c0 := q.cell 0
    clear hb
    rw [H1.out]
    go_wp2_with fail
    refine (sValidEnum_any _ _ _ ds _ R).mono ?_
    rintro e wn ⟨rfl, hb⟩
    replace b := Below.on b hb b.size
    replace q := q.below hb q.lt
    replace R := R.to hb
    replace c0 := q.cell 0
    clear hb
    rw [H1.out]
    go_wp2
    go_ret
    exact ⟨rfl, b⟩
  | true =>
    have H1 := Lib.hid h
    have hv : vEnum ds = true := h
    have HT := Lib.hid (vDefs_take h (ds.length - 1))
    have HL := Lib.hid (membersV_length hv)
    have HV := Lib.hid hv
    clear h hv
    go_wp2_with fail
    refine (validEnum_any _ _ _ ds _ R).mono ?_
    rintro e wn ⟨rfl, hb⟩
    replace b := Below.on b hb b.size
    replace q := q.below hb q.lt
    replace R := R.to hb
    replace c0 := q.cell 0
    clear hb
    rw [H1.out]
    go_wp2_with fail
    refine (sValidEnum_any _ _ _ ds _ R).mono ?_
    rintro e wn ⟨rfl, hb⟩
    replace b := Below.on b hb b.size
    replace q := q.below hb q.lt
    replace R := R.to hb
    replace c0 := q.cell 0
    clear hb
    rw [H1.out]
    go_wp2_with fail
    refine (membersOf_any _ _ _ ds _ R).mono ?_
    rintro e w2 ⟨A5, c5, rfl, S, hb⟩
    replace b := Below.on b hb b.size
    replace q := q.below hb q.lt
    replace R := R.to hb
    have hql : w1.heap.size < w2.heap.size := q.lt
    clear hb c0
    have hc5 := S.2.2.1
    have hn5 := S.2.1
    have HS := Lib.hid S
    have HR := Lib.hid R
    have HQ := Lib.hid q
    have HB := Lib.hid b
    have HG := Lib.hid R.2.2.2.1
    clear S R q b
    go_wp2
    go_loopw [6] (fun i wr => ∃ k : Nat, k ≤ (membersV ds).length ∧ i = .int .i64 k ∧ Below w2.heap.size w2 wr) (fun i _ => (membersV ds).length - (intOf i).toNat)
    case atStart => exact ⟨0, Nat.zero_le _, rfl, Below.refl _ _⟩
    case round =>
      obtain ⟨k, hk, rfl, hb⟩ := hrel
      have b := Below.on HB.out hb HB.out.size
      have q := HQ.out.below hb hql
      have R := HR.out.to hb
      have S := HS.out.to hb
      have c0 := q.cell 0
      have b2 := hb
      clear hb
      by_cases hkn : k < (membersV ds).length
      · have hkm : k < (mem ds).length := by rw [← HL.out]; exact hkn
        have hm := member_name HV.out hkm
        rw [← membersV_nth HV.out hkm] at hm
        obtain ⟨m1, m2, m3, m4⟩ := hm
        have HM1 := Lib.hid m1
        have HM2 := Lib.hid m2
        have HM3 := Lib.hid m3
        have HM4 := Lib.hid m4
        clear m1 m2 m3 m4
        obtain ⟨b5, o5, rfl, hbl5, hcell⟩ := S.2.2.2.2 (by omega)
        have d0 := hcell k hkn
        clear hcell
        have i0 : (0 : Int) ≤ (k : Int) := by omega
        have i1 : (k : Int) < ((membersV ds).length : Int) := by omega
        go_wp2_with fail
        replace b := b.drew
        replace b2 := b2.drew
        replace q := q.drew
        replace R := R.drew
        go_region_held3 (fun w3 => w3.cell? ⟨w1.heap.size, 0, none⟩ = some (.slice A1 ds.length cc) ∧ w3.cell? ⟨b5, o5 + k, none⟩ = some (.string (nthS (membersV ds) k))) (go_keep)
          (first | (go_at_call 21; refine (valueOf_any _ _ _ ds _ _ R).mono ?_; rintro e wn ⟨rfl, hb⟩; replace b := Below.on b hb b.size; replace b2 := Below.on b2 hb b2.size; replace q := q.below hb q.lt; replace R := R.to hb; replace c0 := q.cell 0; replace d0 := (hb.cell (p := ⟨b5, o5 + k, none⟩) hbl5).trans d0; replace hbl5 := Nat.lt_of_lt_of_le hbl5 hb.size; clear hb))
        rw [HM1.out, HM2.out]
        go_wp2_with fail
        refine (nameOf_any _ _ _ ds _ _ R).mono ?_
        rintro e wn ⟨rfl, hb⟩
        replace b := Below.on b hb b.size
        replace b2 := Below.on b2 hb b2.size
        replace d0 := (hb.cell (p := ⟨b5, o5 + k, none⟩) hbl5).trans d0
        rw [HM3.out, HM4.out]
        go_wp2_with fail
        go_roundw
        case rel => exact ⟨k + 1, by omega, by go_num, b2⟩
        case measure => simp [intOf]; omega
      · have hl25 : ds.length ≤ 25 := hf.1
        by_cases h0 : ds.length = 0
        · go_wp2
          go_ret
          exact ⟨rfl, b⟩
        · have h01 : (1 : Int) ≤ (ds.length : Int) := by omega
          have e1 : ((ds.length : Int) - 1).toNat = ds.length - 1 := by omega
          have h02 : (0 : Int) ≤ (ds.length : Int) - 1 := by omega
          have h03 : (ds.length : Int) - 1 ≤ (cc : Int) := by have := R.2.1; omega
          go_wp2_with fail
          refine (validEnum_any _ _ _ (ds.take (ds.length - 1)) _ (R.take (by omega))).mono ?_
          rintro e wn ⟨rfl, hb⟩
          rw [HT.out]
          go_wp2
          go_ret
          exact ⟨rfl, Below.on b hb b.size⟩
end Go.Proofs.Ytpnicgagmopilaa
