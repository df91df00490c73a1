/-
  The walk of the law MaskOf: whatever comes in, it answers true.
-/
import Derived.Test.YtofkbckpncpmkaaWDrawF
import Derived.Test.YtofkbckpncpmkaaWLawF
import Derived.Test.YtofkbckpncpmkaaWDrawF
import Derived.Test.YtofkbckpncpmkaaWBound
import Derived.Test.YtofkbckpncpmkaaPlainK
import Derived.Deep.RegionHeld3
import Derived.Deep.DrawnRows
namespace Go.Proofs.Ytofkbckpncpmkaa
open Go.RowKit

set_option maxRecDepth 100000 in
set_option maxHeartbeats 4000000 in
theorem maskOf_walk (A : Option Addr) (n c : Nat) (w : World) (hr : RdB w w.heap.size A n c) :
    Calls Try.prog 6 #[.slice A n c] w fun e w' => e = .returned (.bool true) ∧ Below w.heap.size w w' := by
  by_cases hlen : (1048576 : Int) < n
  · go_enter Try.func6, Try.ntmps6
    go_wp2_with fail
    go_ret
    exact ⟨rfl, Below.refl _ _⟩
  go_enter Try.func6, Try.ntmps6
  go_wp2_with fail
  refine (drawMaskOf_any A n c _ hr).mono ?_
  rintro e w1 ⟨A1, cc, ds, z, rfl, hz, hA, hf, R, b⟩
  have q := blk1 w1 #[.slice A1 ds.length cc, .int .i64 z] 25
  replace b := Below.on b (below1 w1 (.cells #[.slice A1 ds.length cc, .int .i64 z] 25)) b.size
  replace R := R.to (below1 w1 (.cells #[.slice A1 ds.length cc, .int .i64 z] 25))
  have c0 := q.cell 0
  have c1 := q.cell 1
  clear hr
  cases h : vFlag ds z with
  | false =>
    have F1 := Lib.hid (show maskOf ds z = -1 from by unfold maskOf; rw [h]; rfl)
    clear h
    go_wp2_with fail
    refine (maskOf_any _ _ _ ds _ _ R).mono ?_
    rintro e wn ⟨rfl, hb⟩
    replace b := Below.on b hb b.size
    replace q := q.below hb q.lt
    replace R := R.to hb
    replace c0 := q.cell 0
    replace c1 := q.cell 1
    rw [F1.out]
    clear hb
    go_wp2_with fail
    refine (smaskOf_any _ _ _ ds _ _ R).mono ?_
    rintro e wn ⟨rfl, hb⟩
    replace b := Below.on b hb b.size
    replace q := q.below hb q.lt
    replace R := R.to hb
    replace c0 := q.cell 0
    replace c1 := q.cell 1
    rw [F1.out]
    clear hb
    go_wp2_with fail
    refine (smaskOf_any _ _ _ ds _ _ R).mono ?_
    rintro e wn ⟨rfl, hb⟩
    replace b := Below.on b hb b.size
    replace q := q.below hb q.lt
    replace R := R.to hb
    replace c0 := q.cell 0
    replace c1 := q.cell 1
    rw [F1.out]
    clear hb
    go_wp2
    go_ret
    exact ⟨rfl, b⟩
  | true =>
    have F2 := Lib.hid h
    have F1 := Lib.hid (show maskOf ds z = maskV ds from by unfold maskOf; rw [h]; rfl)
    have hB := Bits_of (vFlag_defs h)
    have hm := maskV_lt hB
    have hk3 : vFlag ds 3 = true := by
      simp only [vFlag, Bool.and_eq_true] at h ⊢
      exact ⟨h.1, by decide⟩
    obtain ⟨hN1, hN2⟩ := names_all h
    have F3 := Lib.hid hN1
    have F4 := Lib.hid hN2
    have F5 := Lib.hid (isVal_iff.2 (value_mask h))
    have F6 := Lib.hid hk3
    have hG := Lib.hid R.2.2.2.1
    have hl13 : ds.length ≤ 13 := hf.1
    clear h hN1 hN2 hk3 hB
    obtain ⟨m, hm0⟩ : ∃ m, maskV ds = m := ⟨_, rfl⟩
    have HM := Lib.hid hm0
    rw [hm0] at F1 F4 F5 hm
    obtain ⟨m0, m1⟩ := hm
    clear hm0
    go_wp2_with fail
    refine (maskOf_any _ _ _ ds _ _ R).mono ?_
    rintro e wn ⟨rfl, hb⟩
    replace b := Below.on b hb b.size
    replace q := q.below hb q.lt
    replace R := R.to hb
    replace c0 := q.cell 0
    replace c1 := q.cell 1
    rw [F1.out]
    clear hb
    go_wp2_with fail
    refine (smaskOf_any _ _ _ ds _ _ R).mono ?_
    rintro e wn ⟨rfl, hb⟩
    replace b := Below.on b hb b.size
    replace q := q.below hb q.lt
    replace R := R.to hb
    replace c0 := q.cell 0
    replace c1 := q.cell 1
    rw [F1.out]
    clear hb
    obtain ⟨i0, hi, hz0, hz1, hz2⟩ := info_parts Try.infoText
    have HI := Lib.hid hi
    have HZ0 := Lib.hid hz0
    have HZ1 := Lib.hid hz1
    have HZ2 := Lib.hid hz2
    clear hi hz0 hz1 hz2
    obtain ⟨w2, hw2⟩ : ∃ w2, w2 = wn := ⟨_, rfl⟩
    have HR := Lib.hid R
    have HQ := Lib.hid q
    have HB := Lib.hid b
    have hql := q.lt
    rw [← hw2] at HR HQ HB hql
    rw [← hw2]
    clear R q b c0 c1 hw2
    go_wp2
    go_loopw [5, 6] (fun v i wr => ∃ (k : Nat) (A5 : Option Addr) (c5 : Nat), k ≤ ds.length ∧ i = .int .i64 k ∧ v = .slice A5 (nmTo anyD ds k).length c5 ∧ Hid (wr.ownsRow w2.heap.size 9 1 (.slice A5 (nmTo anyD ds k).length c5) (nmTo anyD ds k).length (flatS (nmTo anyD ds k))) ∧ Below w2.heap.size w2 wr) (fun _ i _ => ds.length - (intOf i).toNat)
    case atStart => exact ⟨0, _, 0, Nat.zero_le _, rfl, rfl, World.ownsRow_lit (size := 1) w2 #[] 0 (Nat.le_refl _) (by unfold maxLen; omega) rfl, below1 _ _⟩
    case round =>
      obtain ⟨k, A5, c5, hk, rfl, rfl, ho, hb⟩ := hrel
      have b := Below.on HB.out hb HB.out.size
      have b2 := hb
      have q := HQ.out.below hb hql
      have R := HR.out.to hb
      have c0 := q.cell 0
      have c1 := q.cell 1
      clear hb
      by_cases hkn : k < ds.length
      · have hval := value_named F6.out hkn
        have vm : ValueIn ds 3 (maskV ds) := value_mask F6.out
        have FH := Lib.hid (has_yes vm hval.1 hval.2)
        rw [HM.out] at FH
        clear hval vm
        obtain ⟨bb, off, rfl, hbb, hcell⟩ := R.2.2.2.2 (by omega)
        obtain ⟨e0, e1⟩ := hcell k hkn
        clear hcell
        have i0' : (0 : Int) ≤ (k : Int) := by omega
        have i1' : (k : Int) < (ds.length : Int) := by omega
        have hlen := nmAny_length ds k
        have HL := Lib.hid hlen
        clear hlen
        go_wp2_with (at_builtin; refine wpList_append_own _ rfl _ _ 37 rfl w2.heap.size 9 i0 (.string ByteArray.empty) 1 16 Try.underlying37 HI.out HZ0.out HZ1.out HZ2.out rfl (by decide) _ _ _ rfl (ho.out.alloc _) ⟨wr.heap.size, 0, none⟩ 1 1 [.string (nth ds k).1] rfl rfl (cell_one_new _ _ _) (by simp [Value.oneCell']) (by unfold maxLen; rw [HL.out]; omega) (by rw [HL.out]; omega) (by have := b2.size; simp; omega) ?_; intro v' w3 hown3 hgrow _)
        have b3 := (b2.alloc b2.size (.cells #[.string (nth ds k).1] 9)).grown hgrow (by have := b2.size; simp; omega) (fun i hi => (ho.out.lt i hi).1)
        have ho3 : w3.ownsRow w2.heap.size 9 1 v' (nmTo anyD ds (k + 1)).length (flatS (nmTo anyD ds (k + 1))) := by
          rw [nmTo_yes (show anyD (nth ds k) = true from rfl), flatS_snoc, List.length_append]
          exact hown3
        obtain ⟨A6, c6, rfl⟩ := ownS_slice ho3
        have HO3 := Lib.hid ho3
        replace b := Below.on HB.out b3 HB.out.size
        replace q := HQ.out.below b3 hql
        replace R := HR.out.to b3
        replace c0 := q.cell 0
        replace c1 := q.cell 1
        have hbb3 : bb < w3.heap.size := Nat.lt_of_lt_of_le hbb (Nat.le_trans (by simp) hgrow.size)
        obtain ⟨bb', off', he, _, hcell⟩ := R.2.2.2.2 (by omega)
        simp only [Option.some.injEq, Addr.mk.injEq, and_true] at he
        obtain ⟨rfl, rfl⟩ := he
        replace e1 := (hcell k hkn).2
        clear hcell ho ho3 hown3 hgrow e0 b2
        go_wp2_with fail
        replace b := b.drew
        replace b3 := b3.drew
        replace q := q.drew
        replace R := R.drew
        replace HO3 := Lib.hid (show w3.drew.ownsRow w2.heap.size 9 1 (.slice A6 (nmTo anyD ds (k + 1)).length c6) (nmTo anyD ds (k + 1)).length (flatS (nmTo anyD ds (k + 1))) from HO3.out)
        go_region_held3 (fun w4 => (w4.cell? ⟨w1.heap.size, 0, none⟩ = some (.slice (some ⟨bb, off, none⟩) ds.length cc) ∧ w4.cell? ⟨w1.heap.size, 1, none⟩ = some (.int .i64 z)) ∧ w4.cell? ⟨bb, off + k * 2 + 1, none⟩ = some (.int .i64 (nth ds k).2)) (go_keep)
          (first
            | (go_at_call 32; refine (kept_any _ _ _ ds _ F2.out _ R hA).mono ?_; rintro e wn ⟨A7, c7, rfl, S, hb⟩; replace b := Below.on b hb b.size; replace b3 := Below.on b3 hb b3.size; replace q := q.below hb q.lt; replace R := R.to hb; replace HO3 := Lib.hid (ownS_kept HO3.out hb); replace c0 := q.cell 0; replace c1 := q.cell 1; replace e1 := (hb.cell (p := ⟨bb, off + k * 2 + 1, none⟩) hbb3).trans e1; replace hbb3 := Nat.lt_of_lt_of_le hbb3 hb.size; clear hb)
            | (go_at_call 31; refine (hasAll_any _ _ _ ds _ _ _ _ S).mono ?_; rintro e wn ⟨rfl, hb⟩; replace b := Below.on b hb b.size; replace b3 := Below.on b3 hb b3.size; replace q := q.below hb q.lt; replace HO3 := Lib.hid (ownS_kept HO3.out hb); replace c0 := q.cell 0; replace c1 := q.cell 1; replace e1 := (hb.cell (p := ⟨bb, off + k * 2 + 1, none⟩) hbb3).trans e1; clear hb; rw [FH.out]))
        go_wp2_with fail
        go_roundw
        case rel => exact ⟨k + 1, A6, c6, by omega, by go_num, rfl, HO3.out, b3⟩
        case measure => simp [intOf]; omega
      · obtain rfl : k = ds.length := by omega
        obtain ⟨A6, c6, he, S⟩ := own_rdS ho.out (nmTo_good hG.out (Nat.le_refl _))
        simp only [Value.slice.injEq] at he
        obtain ⟨rfl, _, rfl⟩ := he
        go_wp2_with fail
        refine (fromNames_any _ _ _ ds z _ _ _ _ _ R S).mono ?_
        rintro e wn ⟨rfl, hb⟩
        rw [F3.out, F4.out]
        replace b := Below.on b hb b.size
        replace q := q.below hb q.lt
        replace R := R.to hb
        replace c0 := q.cell 0
        replace c1 := q.cell 1
        clear hb S ho
        go_wp2_with fail
        refine (isValue_any _ _ _ ds _ _ _ R).mono ?_
        rintro e wn ⟨rfl, hb⟩
        replace b := Below.on b hb b.size
        replace q := q.below hb q.lt
        replace R := R.to hb
        replace c0 := q.cell 0
        replace c1 := q.cell 1
        rw [F5.out]
        clear hb
        go_wp2
        go_ret
        exact ⟨rfl, b⟩
end Go.Proofs.Ytofkbckpncpmkaa
