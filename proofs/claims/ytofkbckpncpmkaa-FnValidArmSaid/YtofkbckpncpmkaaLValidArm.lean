/-
  The walk of the law ValidArm: whatever comes in, it answers true.
-/
import Derived.Test.YtofkbckpncpmkaaWDrawA
import Derived.Test.YtofkbckpncpmkaaWArmV
import Derived.Test.YtofkbckpncpmkaaPlainL
namespace Go.Proofs.Ytofkbckpncpmkaa
open Go.RowKit
attribute [local go_sem ↓] Go.wp_at_zero Go.wp_at_succ

theorem vArm_in {ds : List D} {z x y : Int} (h1 : vFlag ds z = true) (hx : 0 ≤ x ∧ x ≤ 4095) (hy : 0 ≤ y ∧ y ≤ 4095) (ha : andV x y = 0) (h2 : lessV x (maskV ds) = 0) (h3 : lessV y (maskV ds) = 0) : vArm ds z x y = true := by
  simp only [vArm, okV, Bool.and_eq_true, beq_iff_eq]
  exact ⟨h1, inMask_iff.2 ⟨hx, hy, h2, h3⟩, ha⟩
theorem andV_0 (x : Int) : andV x 0 = 0 := by unfold andV; simp
theorem andV_0' (x : Int) : andV 0 x = 0 := by unfold andV; simp
theorem lessV_0 (m : Int) : lessV 0 m = 0 := by unfold lessV; rw [andV_0']; rfl
/-- The halves of a valid arm are valid arms; and turned round it is one. -/
theorem vArm_parts {ds : List D} {z x y : Int} (h : vArm ds z x y = true) : vArm ds z 0 y = true ∧ vArm ds z x 0 = true ∧ vArm ds z y x = true := by
  obtain ⟨h1, ⟨hx, hy⟩, ha, h2, h3⟩ := vArm_out h
  exact ⟨vArm_in h1 (by omega) hy (andV_0' y) (lessV_0 _) h3, vArm_in h1 hx (by omega) (andV_0 x) h2 (lessV_0 _), vArm_in h1 hy hx (by rw [andV_comm]; exact ha) h3 h2⟩
set_option maxRecDepth 100000 in
set_option maxHeartbeats 8000000 in
theorem validArm_walk (A : Option Addr) (n c : Nat) (w : World) (hr : RdB w w.heap.size A n c) :
    Calls Try.prog 16 #[.slice A n c] w fun e w' => e = .returned (.bool true) ∧ Below w.heap.size w w' := by
  by_cases hlen : (1048576 : Int) < n
  · go_enter Try.func16, Try.ntmps16
    go_wp2_with fail
    go_ret
    exact ⟨rfl, Below.refl _ _⟩
  go_enter Try.func16, Try.ntmps16
  go_wp2_with fail
  refine (drawValidArm_any A n c _ hr).mono ?_
  rintro e w1 ⟨A1, cc, ds, z, x, y, rfl, hx, hy, hf, ho, b⟩
  obtain ⟨A2, c2, he, R⟩ := ho.rd hf (by omega)
  simp only [Value.slice.injEq] at he
  obtain ⟨rfl, _, rfl⟩ := he
  have q := (blk1 w1 #[.slice A1 ds.length cc, .int .i64 z] 25).alloc (.cells #[.int .i64 x, .int .i64 y] 51)
  have p := blk2 w1 (.cells #[.slice A1 ds.length cc, .int .i64 z] 25) #[.int .i64 x, .int .i64 y] 51
  have b2 := below2 w1 (.cells #[.slice A1 ds.length cc, .int .i64 z] 25) (.cells #[.int .i64 x, .int .i64 y] 51)
  replace b := Below.on b b2 b.size
  replace R := R.to b2
  have c0 := q.cell 0
  have c1 := q.cell 1
  have d0 := p.cell 0
  have d1 := p.cell 1
  have hx' : -9223372036854775808 ≤ x ∧ x ≤ 9223372036854775807 := by have := hx.1; have := hx.2; omega
  have hy' : -9223372036854775808 ≤ y ∧ y ≤ 9223372036854775807 := by have := hy.1; have := hy.2; omega
  have h00 : (-9223372036854775808 : Int) ≤ 0 ∧ (0 : Int) ≤ 9223372036854775807 := by omega
  clear hr ho b2 hx hy
  cases h : vArm ds z x y with
  | false =>
    have F1 := Lib.hid h
    clear h
    go_wp2_with fail
    refine (validArm_any x y hx' hy' _ _ _ ds z _ R).mono ?_
    rintro e wn ⟨rfl, hb⟩
    replace b := Below.on b hb b.size
    replace q := q.below hb q.lt
    replace p := p.below hb p.lt
    replace R := R.to hb
    replace c0 := q.cell 0
    replace c1 := q.cell 1
    replace d0 := p.cell 0
    replace d1 := p.cell 1
    rw [F1.out]
    clear hb
    go_wp2_with fail
    refine (sValidArm_any x y _ _ _ ds z _ R).mono ?_
    rintro e wn ⟨rfl, hb⟩
    replace b := Below.on b hb b.size
    replace q := q.below hb q.lt
    replace p := p.below hb p.lt
    replace R := R.to hb
    replace c0 := q.cell 0
    replace c1 := q.cell 1
    replace d0 := p.cell 0
    replace d1 := p.cell 1
    rw [F1.out]
    clear hb
    go_wp2_with fail
    refine (sValidArm_any x y _ _ _ ds z _ R).mono ?_
    rintro e wn ⟨rfl, hb⟩
    replace b := Below.on b hb b.size
    replace q := q.below hb q.lt
    replace p := p.below hb p.lt
    replace R := R.to hb
    replace c0 := q.cell 0
    replace c1 := q.cell 1
    replace d0 := p.cell 0
    replace d1 := p.cell 1
    rw [F1.out]
    clear hb
    go_wp2
    go_ret
    exact ⟨rfl, b⟩
  | true =>
    obtain ⟨k1, k2, k3⟩ := vArm_parts h
    have F1 := Lib.hid h
    have K1 := Lib.hid k1
    have K2 := Lib.hid k2
    have K3 := Lib.hid k3
    clear h k1 k2 k3
    go_wp2_with fail
    refine (validArm_any x y hx' hy' _ _ _ ds z _ R).mono ?_
    rintro e wn ⟨rfl, hb⟩
    replace b := Below.on b hb b.size
    replace q := q.below hb q.lt
    replace p := p.below hb p.lt
    replace R := R.to hb
    replace c0 := q.cell 0
    replace c1 := q.cell 1
    replace d0 := p.cell 0
    replace d1 := p.cell 1
    rw [F1.out]
    clear hb
    go_wp2_with fail
    refine (sValidArm_any x y _ _ _ ds z _ R).mono ?_
    rintro e wn ⟨rfl, hb⟩
    replace b := Below.on b hb b.size
    replace q := q.below hb q.lt
    replace p := p.below hb p.lt
    replace R := R.to hb
    replace c0 := q.cell 0
    replace c1 := q.cell 1
    replace d0 := p.cell 0
    replace d1 := p.cell 1
    rw [F1.out]
    clear hb
    go_wp2_with fail
    refine (validArm_any 0 y h00 hy' _ _ _ ds z _ R).mono ?_
    rintro e wn ⟨rfl, hb⟩
    replace b := Below.on b hb b.size
    replace q := q.below hb q.lt
    replace p := p.below hb p.lt
    replace R := R.to hb
    replace c0 := q.cell 0
    replace c1 := q.cell 1
    replace d0 := p.cell 0
    replace d1 := p.cell 1
    rw [K1.out]
    clear hb
    go_wp2_with fail
    refine (validArm_any x 0 hx' h00 _ _ _ ds z _ R).mono ?_
    rintro e wn ⟨rfl, hb⟩
    replace b := Below.on b hb b.size
    replace q := q.below hb q.lt
    replace p := p.below hb p.lt
    replace R := R.to hb
    replace c0 := q.cell 0
    replace c1 := q.cell 1
    replace d0 := p.cell 0
    replace d1 := p.cell 1
    rw [K2.out]
    clear hb
    go_wp2_with fail
    refine (validArm_any y x hy' hx' _ _ _ ds z _ R).mono ?_
    rintro e wn ⟨rfl, hb⟩
    replace b := Below.on b hb b.size
    replace q := q.below hb q.lt
    replace p := p.below hb p.lt
    replace R := R.to hb
    replace c0 := q.cell 0
    replace c1 := q.cell 1
    replace d0 := p.cell 0
    replace d1 := p.cell 1
    rw [K3.out]
    clear hb
    go_wp2
    go_ret
    exact ⟨rfl, b⟩
end Go.Proofs.Ytofkbckpncpmkaa
