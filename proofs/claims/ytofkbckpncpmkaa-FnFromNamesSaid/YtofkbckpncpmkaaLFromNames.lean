/-
  The walk of the law FromNames: whatever comes in, it answers true.
-/
import Derived.Test.YtofkbckpncpmkaaWDrawN
import Derived.Test.YtofkbckpncpmkaaWLawF
import Derived.Test.YtofkbckpncpmkaaPlainS
import Derived.Deep.RegionHeld3
import Derived.Deep.DrawnRows
namespace Go.Proofs.Ytofkbckpncpmkaa
open Go.RowKit

theorem RdS.take {w : World} {B n c k : Nat} {A : Option Addr} {ss : List ByteArray} (h : RdS w B A n c ss) (hk : k ≤ n) : RdS w B A k c (ss.take k) := by
  obtain ⟨h1, h2, h3, h4, h5⟩ := h
  refine ⟨by rw [List.length_take]; omega, by omega, h3, ⟨by rw [List.length_take]; have := h4.1; omega, fun d hd => h4.2 d (List.mem_of_mem_take hd)⟩, fun hn => ?_⟩
  obtain ⟨b, off, e, hb, hc⟩ := h5 (by omega)
  refine ⟨b, off, e, hb, fun i hi => ?_⟩
  rw [nthS_take hi]
  exact hc i (by omega)
theorem RdS.drop {w : World} {B n c k b off : Nat} {ss : List ByteArray} (h : RdS w B (some ⟨b, off, none⟩) n c ss) (hk : k ≤ n) : RdS w B (some ⟨b, off + k, none⟩) (n - k) (c - k) (ss.drop k) := by
  obtain ⟨h1, h2, h3, h4, h5⟩ := h
  refine ⟨by rw [List.length_drop]; omega, by omega, by omega, ⟨by rw [List.length_drop]; have := h4.1; omega, fun d hd => h4.2 d (List.mem_of_mem_drop hd)⟩, fun hn => ?_⟩
  obtain ⟨b', off', e, hb, hc⟩ := h5 (by omega)
  simp only [Option.some.injEq, Addr.mk.injEq, and_true] at e
  obtain ⟨rfl, rfl⟩ := e
  refine ⟨b, off + k, rfl, hb, fun i hi => ?_⟩
  rw [nthS_drop, Nat.add_assoc]
  exact hc (k + i) (by omega)
theorem rdS_nil (w : World) (B : Nat) (A : Option Addr) (c : Nat) (hc : c ≤ 9223372036854775807) : RdS w B A 0 c [] := ⟨rfl, Nat.zero_le _, hc, ⟨by simp, by simp⟩, fun h => absurd h (by omega)⟩
set_option maxRecDepth 100000 in
set_option maxHeartbeats 4000000 in
theorem fromNames_walk (A : Option Addr) (n c : Nat) (w : World) (hr : RdB w w.heap.size A n c) :
    Calls Try.prog 8 #[.slice A n c] w fun e w' => e = .returned (.bool true) ∧ Below w.heap.size w w' := by
  by_cases hlen : (1048576 : Int) < n
  · go_enter Try.func8, Try.ntmps8
    go_wp2_with fail
    go_ret
    exact ⟨rfl, Below.refl _ _⟩
  go_enter Try.func8, Try.ntmps8
  go_wp2_with fail
  refine (drawFromNames_any A n c _ hr).mono ?_
  rintro e w1 ⟨A1, cc, ds, z, A5, c5, ss, rfl, hfs, hf, R, S, b⟩
  have q := blk1 w1 #[.slice A1 ds.length cc, .int .i64 z] 25
  have b0 := below1 w1 (.cells #[.slice A1 ds.length cc, .int .i64 z] 25)
  replace b := Below.on b b0 b.size
  replace R := R.to b0
  replace S := S.to b0
  have c0 := q.cell 0
  have c1 := q.cell 1
  have hss := hfs.1
  clear hr b0
  cases h : fromOk ds z ss with
  | false =>
    have F1 := Lib.hid h
    clear h
    go_wp2_with fail
    refine (fromNames_any _ _ _ ds z _ _ _ ss _ R S).mono ?_
    rintro e w2 ⟨rfl, hb⟩
    rw [F1.out]
    replace b := Below.on b hb b.size
    replace q := q.below hb q.lt
    replace R := R.to hb
    replace S := S.to hb
    replace c0 := q.cell 0
    replace c1 := q.cell 1
    clear hb
    go_wp2_with fail
    refine (sfromNames_any _ _ _ ds z _ _ _ ss _ R S).mono ?_
    rintro e w3 ⟨rfl, hb⟩
    rw [F1.out]
    replace b := Below.on b hb b.size
    clear hb R S q c0 c1
    go_wp2
    go_ret
    exact ⟨rfl, b⟩
  | true =>
    have F1 := Lib.hid h
    obtain ⟨f1, f2, v1, v2, e1, v3⟩ := from_both h (k := ss.length / 2) (Nat.div_le_self _ _)
    have G1 := Lib.hid f1
    have G2 := Lib.hid f2
    have G3 := Lib.hid ((joined orV v1 v2).trans e1)
    have G4 := Lib.hid (isVal_iff.2 v3)
    clear h f1 f2 v1 v2 e1 v3
    have k0 : ((ss.length : Int) / 2).toNat = ss.length / 2 := by omega
    have k1 : (0 : Int) ≤ (ss.length : Int) / 2 := by omega
    have k2 : (ss.length : Int) / 2 ≤ (ss.length : Int) := by omega
    have hn5 := S.2.1
    have hc5 := S.2.2.1
    have k3 : (ss.length : Int) / 2 ≤ (c5 : Int) := by omega
    go_wp2_with fail
    refine (fromNames_any _ _ _ ds z _ _ _ ss _ R S).mono ?_
    rintro e w2 ⟨rfl, hb⟩
    rw [F1.out]
    replace b := Below.on b hb b.size
    replace q := q.below hb q.lt
    replace R := R.to hb
    replace S := S.to hb
    replace c0 := q.cell 0
    replace c1 := q.cell 1
    clear hb
    go_wp2_with fail
    refine (sfromNames_any _ _ _ ds z _ _ _ ss _ R S).mono ?_
    rintro e w3 ⟨rfl, hb⟩
    rw [F1.out]
    replace b := Below.on b hb b.size
    replace q := q.below hb q.lt
    replace R := R.to hb
    replace S := S.to hb
    replace c0 := q.cell 0
    replace c1 := q.cell 1
    clear hb
    by_cases h0 : ss.length = 0
    · obtain rfl : ss = [] := List.eq_nil_of_length_eq_zero h0
      replace G1 : Hid (fromOk ds z [] = true) := G1
      replace G3 : Hid (joinV orV ds z (fromV ds z []) (fromV ds z []) = fromV ds z []) := G3
      clear S h0 k0 k1 k2 k3 hss
      go_wp2_with fail
      replace b := b.drew
      replace q := q.drew
      replace R := R.drew
      go_region_held3 (fun w4 => w4.cell? ⟨w1.heap.size, 0, none⟩ = some (.slice A1 ds.length cc) ∧ w4.cell? ⟨w1.heap.size, 1, none⟩ = some (.int .i64 z)) (go_keep)
        (first | (go_at_call 24; refine (fromNames_any _ _ _ ds z _ 0 _ [] _ R (rdS_nil _ _ _ _ (by omega))).mono ?_; rintro e wn ⟨rfl, hb⟩; rw [G1.out]; replace b := Below.on b hb b.size; replace q := q.below hb q.lt; replace R := R.to hb; replace c0 := q.cell 0; replace c1 := q.cell 1; clear hb))
      go_wp2_with fail
      replace b := b.drew
      replace q := q.drew
      replace R := R.drew
      go_region_held3 (fun w4 => w4.cell? ⟨w1.heap.size, 0, none⟩ = some (.slice A1 ds.length cc) ∧ w4.cell? ⟨w1.heap.size, 1, none⟩ = some (.int .i64 z)) (go_keep)
        (first | (go_at_call 24; refine (fromNames_any _ _ _ ds z _ 0 _ [] _ R (rdS_nil _ _ _ _ (by omega))).mono ?_; rintro e wn ⟨rfl, hb⟩; rw [G1.out]; replace b := Below.on b hb b.size; replace q := q.below hb q.lt; replace R := R.to hb; replace c0 := q.cell 0; replace c1 := q.cell 1; clear hb))
      go_wp2_with fail
      refine (orValues_any _ _ _ ds _ _ _ _ R).mono ?_
      rintro e wn ⟨rfl, hb⟩
      rw [G3.out]
      replace b := Below.on b hb b.size
      replace q := q.below hb q.lt
      replace R := R.to hb
      replace c0 := q.cell 0
      replace c1 := q.cell 1
      clear hb
      go_wp2_with fail
      refine (isValue_any _ _ _ ds _ _ _ R).mono ?_
      rintro e wn ⟨rfl, hb⟩
      rw [G4.out]
      replace b := Below.on b hb b.size
      clear hb R q
      go_wp2
      go_ret
      exact ⟨rfl, b⟩
    · obtain ⟨b5, o5, rfl, hb5, _⟩ := S.2.2.2.2 (by omega)
      have k4 : ss.length / 2 < c5 := by omega
      have k5 : (ss.length : Int) / 2 < (c5 : Int) := by omega
      have k6 : ¬ c5 = ss.length / 2 := by omega
      have S1 := S.take (k := ss.length / 2) (Nat.div_le_self _ _)
      have S2 := S.drop (k := ss.length / 2) (Nat.div_le_self _ _)
      clear hb5
      go_wp2_with fail
      replace b := b.drew
      replace q := q.drew
      replace R := R.drew
      replace S1 := S1.drew
      replace S2 := S2.drew
      go_region_held3 (fun w4 => w4.cell? ⟨w1.heap.size, 0, none⟩ = some (.slice A1 ds.length cc) ∧ w4.cell? ⟨w1.heap.size, 1, none⟩ = some (.int .i64 z)) (go_keep)
        (first | (go_at_call 24; refine (fromNames_any _ _ _ ds z _ _ _ _ _ R S1).mono ?_; rintro e wn ⟨rfl, hb⟩; rw [G1.out]; replace b := Below.on b hb b.size; replace q := q.below hb q.lt; replace R := R.to hb; replace S2 := S2.to hb; replace c0 := q.cell 0; replace c1 := q.cell 1; clear hb S1))
      go_wp2_with fail
      replace b := b.drew
      replace q := q.drew
      replace R := R.drew
      replace S2 := S2.drew
      go_region_held3 (fun w4 => w4.cell? ⟨w1.heap.size, 0, none⟩ = some (.slice A1 ds.length cc) ∧ w4.cell? ⟨w1.heap.size, 1, none⟩ = some (.int .i64 z)) (go_keep)
        (first | (go_at_call 24; refine (fromNames_any _ _ _ ds z _ _ _ _ _ R S2).mono ?_; rintro e wn ⟨rfl, hb⟩; rw [G2.out]; replace b := Below.on b hb b.size; replace q := q.below hb q.lt; replace R := R.to hb; replace c0 := q.cell 0; replace c1 := q.cell 1; clear hb S2))
      go_wp2_with fail
      refine (orValues_any _ _ _ ds _ _ _ _ R).mono ?_
      rintro e wn ⟨rfl, hb⟩
      rw [G3.out]
      replace b := Below.on b hb b.size
      replace q := q.below hb q.lt
      replace R := R.to hb
      replace c0 := q.cell 0
      replace c1 := q.cell 1
      clear hb
      go_wp2_with fail
      refine (isValue_any _ _ _ ds _ _ _ R).mono ?_
      rintro e wn ⟨rfl, hb⟩
      rw [G4.out]
      replace b := Below.on b hb b.size
      clear hb R q
      go_wp2
      go_ret
      exact ⟨rfl, b⟩
end Go.Proofs.Ytofkbckpncpmkaa
