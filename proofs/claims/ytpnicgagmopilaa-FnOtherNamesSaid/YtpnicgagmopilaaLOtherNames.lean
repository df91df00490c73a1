/-
  The walk of the law OtherNames: whatever comes in, it answers true.
-/
import Derived.Test.YtpnicgagmopilaaWDrawE
import Derived.Test.YtpnicgagmopilaaWOther
namespace Go.Proofs.Ytpnicgagmopilaa
open Go.RowKit
attribute [local go_sem ↓] Go.wp_at_zero Go.wp_at_succ

set_option maxRecDepth 100000 in
set_option maxHeartbeats 8000000 in
theorem otherNames_walk (A : Option Addr) (n c : Nat) (w : World) (hr : RdB w w.heap.size A n c) :
    Calls Try.prog 9 #[.slice A n c] w fun e w' => e = .returned (.bool true) ∧ Below w.heap.size w w' := by
  by_cases hlen : (1048576 : Int) < n
  · go_enter Try.func9, Try.ntmps9
    go_wp2_with fail
    go_ret
    exact ⟨rfl, Below.refl _ _⟩
  go_enter Try.func9, Try.ntmps9
  go_wp2_with fail
  refine (drawOtherNames_any A n c _ hr).mono ?_
  rintro e w1 ⟨A1, cc, ds, s, rfl, hs, hf, R, b⟩
  have q := blk1 w1 #[.slice A1 ds.length cc] 28
  replace b := Below.on b (below1 w1 (.cells #[.slice A1 ds.length cc] 28)) b.size
  replace R := R.to (below1 w1 (.cells #[.slice A1 ds.length cc] 28))
  have c0 := q.cell 0
  obtain ⟨L, hL⟩ : ∃ L, othV ds s = L := ⟨_, rfl⟩
  have HL := Lib.hid hL
  clear hL
  clear hr
  go_wp2_with fail
  refine (otherNames_any _ _ _ ds s _ R).mono ?_
  rintro e w2 ⟨A2, c2, rfl, S, hb⟩
  rw [HL.out] at S
  rw [HL.out]
  replace b := Below.on b hb b.size
  replace q := q.below hb q.lt
  replace R := R.to hb
  replace c0 := q.cell 0
  clear hb
  go_wp2_with fail
  refine (sotherNames_any _ _ _ ds s _ R).mono ?_
  rintro e w3 ⟨A3, c3, rfl, S3, hb⟩
  rw [HL.out] at S3
  rw [HL.out]
  replace b := Below.on b hb b.size
  replace q := q.below hb q.lt
  replace R := R.to hb
  replace c0 := q.cell 0
  replace S := S.to hb
  clear hb
  go_wp2_with fail
  refine (equalTexts_same _ _ _ _ _ _ _ S S3).mono ?_
  rintro e w4 ⟨rfl, hb⟩
  replace b := Below.on b hb b.size
  replace q := q.below hb q.lt
  replace R := R.to hb
  replace c0 := q.cell 0
  replace S := S.to hb
  clear hb S3
  by_cases hz : L = []
  · subst hz
    replace S : RdS w4 w4.heap.size A2 0 c2 [] := S
    go_wp2_with fail
    refine (sotherNames_any _ _ _ ds s _ R).mono ?_
    rintro e w5 ⟨A5, c5, rfl, S5, hb⟩
    rw [HL.out] at S5
    rw [HL.out]
    replace S5 : RdS w5 w5.heap.size A5 0 c5 [] := S5
    replace b := Below.on b hb b.size
    replace q := q.below hb q.lt
    replace R := R.to hb
    replace c0 := q.cell 0
    replace S := S.to hb
    clear hb
    go_wp2_with fail
    refine (equalTexts_same _ _ _ _ _ _ _ S S5).mono ?_
    rintro e w6 ⟨rfl, hb⟩
    replace b := Below.on b hb b.size
    replace q := q.below hb q.lt
    replace R := R.to hb
    replace c0 := q.cell 0
    clear hb
    go_wp2
    go_ret
    exact ⟨rfl, b⟩
  · have hy : hasName ds s = true := by
      cases h : hasName ds s with
      | true => rfl
      | false => have := HL.out; rw [othV_no h] at this; exact absurd this.symm hz
    have hpos : 0 < L.length := by
      cases L with
      | nil => exact absurd rfl hz
      | cons _ _ => simp
    have hz0 : ¬ ((L.length : Int) = 0) := by omega
    have HE := Lib.hid (fun (i : Nat) (hi : i < L.length) => by have := othV_each hy (i := i) (by rw [HL.out]; exact hi); rw [HL.out] at this; exact this : ∀ i : Nat, i < L.length → hasName ds (nthS L i) = true ∧ valV ds (nthS L i) = valV ds s ∧ othV ds (nthS L i) = L)
    clear hz
    go_wp2_with fail
    refine (valueOf_any _ _ _ ds s _ R).mono ?_
    rintro e w5 ⟨rfl, hb⟩
    replace b := Below.on b hb b.size
    replace q := q.below hb q.lt
    replace R := R.to hb
    replace c0 := q.cell 0
    replace S := S.to hb
    clear hb
    have HR5 := Lib.hid R
    have HS5 := Lib.hid S
    have HQ5 := Lib.hid q
    have HB5 := Lib.hid b
    have hs5 := q.lt
    clear q b R S hy
    obtain ⟨x, hx⟩ : ∃ x, valV ds s = x := ⟨_, rfl⟩
    rw [hx] at HE
    rw [hx]
    clear hx
    go_wp2
    go_loopw [8] (fun i wr => ∃ m : Nat, m ≤ L.length ∧ i = .int .i64 m ∧ Hid (Rd wr wr.heap.size A1 ds.length cc ds) ∧ Hid (RdS wr wr.heap.size A2 L.length c2 L) ∧ Hid (Blk wr w1.heap.size 28 #[.slice A1 ds.length cc]) ∧ Below w.heap.size w wr) (fun i _ => L.length - (intOf i).toNat)
    case atStart => exact ⟨0, Nat.zero_le _, rfl, HR5, HS5, HQ5, HB5.out⟩
    case round =>
      obtain ⟨m, hm, rfl, HR, HS, HQ, hb⟩ := hrel
      have q := HQ.out
      have c0 := q.cell 0
      have hql := q.lt
      have hbs := hb.size
      by_cases hml : m < L.length
      · obtain ⟨k1, k2, k3⟩ := HE.out m hml
        have K1 := Lib.hid k1
        have K2 := Lib.hid k2
        have K3 := Lib.hid k3
        clear k1 k2 k3
        obtain ⟨bl, off, rfl, hbl, hcell⟩ := HS.out.2.2.2.2 hpos
        have e0 := hcell m hml
        have hLb := HS.out.2.2.2.1.1
        clear hcell
        have i0 : (0 : Int) ≤ (m : Int) := by omega
        have i1 : (m : Int) < (L.length : Int) := by omega
        go_wp2_with fail
        go_region_held3 (fun w' => w'.cell? ⟨w1.heap.size, 0, none⟩ = some (.slice A1 ds.length cc) ∧ w'.cell? ⟨bl, off + m, none⟩ = some (.string (nthS L m))) (go_keep)
          (first | (go_at_call 21; refine (valueOf_any _ _ _ ds _ _ (by exact HR.out.drew)).mono ?_; rintro e w6 ⟨rfl, hb6⟩; rw [K1.out, K2.out]; have e3 := (q.drew.below hb6 q.lt).cell 0; have e4 := (hb6.cell (p := ⟨bl, off + m, none⟩) hbl).trans e0))
        have R6 := HR.out.drew.to hb6
        have S6 := HS.out.drew.to hb6
        have q6 := q.drew.below hb6 q.lt
        have b6 := Below.on hb.drew hb6 hb.size
        have hql6 := q6.lt
        have hbl6 : bl < w6.heap.size := Nat.lt_of_lt_of_le hbl hb6.size
        clear c0 e0
        go_wp2_with fail
        go_region_held3 (fun w' => w'.cell? ⟨w1.heap.size, 0, none⟩ = some (.slice A1 ds.length cc) ∧ w'.cell? ⟨bl, off + m, none⟩ = some (.string (nthS L m))) (go_keep)
          (first
            | (go_at_call 35; refine (otherNames_any _ _ _ ds _ _ (by exact R6.drew)).mono ?_; rintro e w8 ⟨A8, c8, rfl, S8, hb8⟩; rw [K3.out] at S8; rw [K3.out]; have e5 := (q6.drew.below hb8 q6.lt).cell 0; have e6 := (hb8.cell (p := ⟨bl, off + m, none⟩) hbl6).trans e4)
            | (go_at_call 36; refine (equalTexts_same _ _ _ _ _ L _ S8 (by exact S6.drew.to hb8)).mono ?_; rintro e w9 ⟨rfl, hb9⟩; have e7 := ((q6.drew.below hb8 q6.lt).below hb9 (q6.drew.below hb8 q6.lt).lt).cell 0; have e8 := (hb9.cell (p := ⟨bl, off + m, none⟩) (Nat.lt_of_lt_of_le hbl6 hb8.size)).trans e6))
        go_wp2_with fail
        go_roundw
        case rel => exact ⟨m + 1, by omega, by go_num, (R6.drew.to hb8).to hb9, (S6.drew.to hb8).to hb9, (q6.drew.below hb8 q6.lt).below hb9 (q6.drew.below hb8 q6.lt).lt, Below.on (Below.on b6.drew hb8 b6.size) hb9 (Below.on b6.drew hb8 b6.size).size⟩
        case measure => simp [intOf]; omega
      · go_wp2
        go_ret
        exact ⟨rfl, hb⟩
end Go.Proofs.Ytpnicgagmopilaa
