/-
  The walk of the law WithBound: whatever comes in, it answers true.
-/
import Derived.Test.YtofkbckpncpmkaaWDrawF
import Derived.Test.YtofkbckpncpmkaaWLawF
import Derived.Test.YtofkbckpncpmkaaWDrawG
import Derived.Test.YtofkbckpncpmkaaWBound
import Derived.Deep.RegionHeld3
import Derived.Deep.DrawnRows
namespace Go.Proofs.Ytofkbckpncpmkaa
open Go.RowKit

set_option maxRecDepth 100000 in
set_option maxHeartbeats 4000000 in
theorem withBound_walk (A : Option Addr) (n c : Nat) (w : World) (hr : RdB w w.heap.size A n c) :
    Calls Try.prog 5 #[.slice A n c] w fun e w' => e = .returned (.bool true) ∧ Below w.heap.size w w' := by
  by_cases hlen : (1048576 : Int) < n
  · go_enter Try.func5, Try.ntmps5
    go_wp2_with fail
    go_ret
    exact ⟨rfl, Below.refl _ _⟩
  go_enter Try.func5, Try.ntmps5
  go_wp2_with fail
  refine (drawWithBound_any A n c _ hr).mono ?_
  rintro e w1 ⟨A1, cc, ds, z, x, rfl, hz, hx, hA, hf, R, b⟩
  have q := blk1 w1 #[.slice A1 ds.length cc, .int .i64 z] 25
  replace b := Below.on b (below1 w1 (.cells #[.slice A1 ds.length cc, .int .i64 z] 25)) b.size
  replace R := R.to (below1 w1 (.cells #[.slice A1 ds.length cc, .int .i64 z] 25))
  have c0 := q.cell 0
  have c1 := q.cell 1
  clear hr
  have c5 := 0
  clear c5
  cases hb2 : vFlag ds z && vFlag ds x with
  | false =>
    have hno : vFlag ds z = false ∨ vFlag ds x = false := by
      cases h1 : vFlag ds z with
      | false => exact .inl rfl
      | true => rw [h1] at hb2; exact .inr (by simpa using hb2)
    clear hb2
    go_wp2_with fail
    refine (withBound_no _ _ _ ds z x hno _ R hA).mono ?_
    rintro e w2 ⟨rfl, hb⟩
    replace b := Below.on b hb b.size
    replace q := q.below hb q.lt
    replace R := R.to hb
    have o := blk1 w2 #[.slice none 0 0, .int .i64 0] 25
    have bo := below1 w2 (.cells #[.slice none 0 0, .int .i64 0] 25)
    replace b := Below.on b bo b.size
    replace q := q.below bo q.lt
    replace R := R.to bo
    replace c0 := q.cell 0
    replace c1 := q.cell 1
    clear hb bo
    go_wp2_with fail
    refine (swithBound_no _ _ _ ds z x hno _ R hA).mono ?_
    rintro e w3 ⟨rfl, hb⟩
    replace b := Below.on b hb b.size
    replace o := o.below hb o.lt
    have t := blk1 w3 #[.slice none 0 0, .int .i64 0] 25
    have bo := below1 w3 (.cells #[.slice none 0 0, .int .i64 0] 25)
    replace b := Below.on b bo b.size
    replace o := o.below bo o.lt
    have o0 := o.cell 0
    have o1 := o.cell 1
    have t0 := t.cell 0
    have t1 := t.cell 1
    have N1 := rd_nil (w3.alloc (.cells #[.slice none 0 0, .int .i64 0] 25))
    have ho3 := o.lt
    clear hb bo q R c0 c1 hno
    go_wp2_with fail
    refine (equalFlag_same _ _ _ _ _ [] 0 _ N1 N1).mono ?_
    rintro e w4 ⟨rfl, hb⟩
    replace b := Below.on b hb b.size
    replace o := o.below hb o.lt
    replace t := t.below hb t.lt
    replace o0 := o.cell 0
    replace o1 := o.cell 1
    replace t0 := t.cell 0
    replace t1 := t.cell 1
    have N2 := rd_nil w4
    clear hb N1
    go_wp2_with fail
    refine (equalFlag_same _ _ _ _ _ [] 0 _ N2 N2).mono ?_
    rintro e w5 ⟨rfl, hb⟩
    replace b := Below.on b hb b.size
    clear hb N2
    go_wp2
    go_ret
    exact ⟨rfl, b⟩
  | true =>
    obtain ⟨hvz, hvx⟩ : vFlag ds z = true ∧ vFlag ds x = true := by rw [Bool.and_eq_true] at hb2; exact hb2
    have FZ := Lib.hid hvz
    have FX := Lib.hid hvx
    have M1 := Lib.hid (show maskOf ds z = maskV ds from by unfold maskOf; rw [hvz]; rfl)
    have M2 := Lib.hid (show maskOf ds x = maskV ds from by unfold maskOf; rw [hvx]; rfl)
    have HG := Lib.hid R.2.2.2.1
    clear hb2 hvz hvx
    go_wp2_with fail
    refine (withBound_yes _ _ _ ds z x FZ.out FX.out _ R hA).mono ?_
    rintro e w2 ⟨A5, c5, rfl, ho5, hb⟩
    replace b := Below.on b hb b.size
    replace q := q.below hb q.lt
    replace R := R.to hb
    obtain ⟨A5', c5', he, _, _, hA5⟩ := ho5.cap
    simp only [Value.slice.injEq] at he
    obtain ⟨rfl, _, rfl⟩ := he
    obtain ⟨A5', c5', he, R5⟩ := ho5.rd HG.out
    simp only [Value.slice.injEq] at he
    obtain ⟨rfl, _, rfl⟩ := he
    have o := blk1 w2 #[.slice A5 ds.length c5, .int .i64 x] 25
    have bo := below1 w2 (.cells #[.slice A5 ds.length c5, .int .i64 x] 25)
    replace b := Below.on b bo b.size
    replace q := q.below bo q.lt
    replace R := R.to bo
    replace R5 := R5.to bo
    replace c0 := q.cell 0
    replace c1 := q.cell 1
    clear hb bo ho5
    go_wp2_with fail
    refine (swithBound_yes _ _ _ ds z x FZ.out FX.out _ R hA).mono ?_
    rintro e w3 ⟨A6, c6, rfl, ho6, hb⟩
    replace b := Below.on b hb b.size
    replace q := q.below hb q.lt
    replace o := o.below hb o.lt
    replace R := R.to hb
    replace R5 := R5.to hb
    obtain ⟨A6', c6', he, R6⟩ := ho6.rd HG.out
    simp only [Value.slice.injEq] at he
    obtain ⟨rfl, _, rfl⟩ := he
    have t := blk1 w3 #[.slice A6 ds.length c6, .int .i64 x] 25
    have bo := below1 w3 (.cells #[.slice A6 ds.length c6, .int .i64 x] 25)
    replace b := Below.on b bo b.size
    replace q := q.below bo q.lt
    replace o := o.below bo o.lt
    replace R := R.to bo
    replace R5 := R5.to bo
    replace R6 := R6.to bo
    replace c0 := q.cell 0
    replace c1 := q.cell 1
    have o0 := o.cell 0
    have o1 := o.cell 1
    have t0 := t.cell 0
    have t1 := t.cell 1
    have ho3 := o.lt
    have hq3 := q.lt
    clear hb bo ho6
    go_wp2_with fail
    refine (equalFlag_same _ _ _ _ _ ds x _ R5 R6).mono ?_
    rintro e w4 ⟨rfl, hb⟩
    replace b := Below.on b hb b.size
    replace q := q.below hb q.lt
    replace o := o.below hb o.lt
    replace R := R.to hb
    replace R5 := R5.to hb
    replace c0 := q.cell 0
    replace c1 := q.cell 1
    replace o0 := o.cell 0
    replace o1 := o.cell 1
    clear hb t t0 t1 R6
    go_wp2_with fail
    refine (withBound_yes _ _ _ ds x z FX.out FZ.out _ R5 hA5).mono ?_
    rintro e w5 ⟨A7, c7, rfl, ho7, hb⟩
    replace b := Below.on b hb b.size
    replace q := q.below hb q.lt
    replace o := o.below hb o.lt
    replace R := R.to hb
    replace R5 := R5.to hb
    obtain ⟨A7', c7', he, R7⟩ := ho7.rd HG.out
    simp only [Value.slice.injEq] at he
    obtain ⟨rfl, _, rfl⟩ := he
    have u := blk1 w5 #[.slice A7 ds.length c7, .int .i64 z] 25
    have bo := below1 w5 (.cells #[.slice A7 ds.length c7, .int .i64 z] 25)
    have hq5 := q.lt
    have ho5 := o.lt
    replace b := Below.on b bo b.size
    replace q := q.below bo q.lt
    replace o := o.below bo o.lt
    replace R := R.to bo
    replace R5 := R5.to bo
    replace R7 := R7.to bo
    replace c0 := q.cell 0
    replace c1 := q.cell 1
    replace o0 := o.cell 0
    replace o1 := o.cell 1
    have u0 := u.cell 0
    have u1 := u.cell 1
    clear hb bo ho7 hA5
    go_wp2_with fail
    replace b := b.drew
    replace q := q.drew
    replace o := o.drew
    replace u := u.drew
    replace R := R.drew
    replace R5 := R5.drew
    replace R7 := R7.drew
    go_region_held3 (fun w6 => (w6.cell? ⟨w1.heap.size, 0, none⟩ = some (.slice A1 ds.length cc) ∧ w6.cell? ⟨w1.heap.size, 1, none⟩ = some (.int .i64 z)) ∧ (w6.cell? ⟨w2.heap.size, 0, none⟩ = some (.slice A5 ds.length c5) ∧ w6.cell? ⟨w2.heap.size, 1, none⟩ = some (.int .i64 x)) ∧ w6.cell? ⟨w5.heap.size, 0, none⟩ = some (.slice A7 ds.length c7) ∧ w6.cell? ⟨w5.heap.size, 1, none⟩ = some (.int .i64 z)) (first | exact ⟨⟨c0, c1⟩, ⟨o0, o1⟩, u0, u1⟩ | go_keep)
      (first
        | (go_at_call 27; refine (equalFlag_same _ _ _ _ _ ds _ _ R7 R).mono ?_; rintro e wn ⟨rfl, hb⟩; replace b := Below.on b hb b.size; replace q := q.below hb q.lt; replace o := o.below hb o.lt; replace u := u.below hb u.lt; replace R := R.to hb; replace R5 := R5.to hb; replace c0 := q.cell 0; replace c1 := q.cell 1; replace o0 := o.cell 0; replace o1 := o.cell 1; replace u0 := u.cell 0; replace u1 := u.cell 1; clear hb)
        | (go_at_call 28; refine (maskOf_any _ _ _ ds _ _ R5).mono ?_; rintro e wn ⟨rfl, hb⟩; rw [M2.out]; replace b := Below.on b hb b.size; replace q := q.below hb q.lt; replace o := o.below hb o.lt; replace u := u.below hb u.lt; replace R := R.to hb; replace c0 := q.cell 0; replace c1 := q.cell 1; replace o0 := o.cell 0; replace o1 := o.cell 1; replace u0 := u.cell 0; replace u1 := u.cell 1; clear hb R5)
        | (go_at_call 28; refine (maskOf_any _ _ _ ds _ _ R).mono ?_; rintro e wn ⟨rfl, hb⟩; rw [M1.out]; replace b := Below.on b hb b.size; replace q := q.below hb q.lt; replace o := o.below hb o.lt; replace u := u.below hb u.lt; replace c0 := q.cell 0; replace c1 := q.cell 1; replace o0 := o.cell 0; replace o1 := o.cell 1; replace u0 := u.cell 0; replace u1 := u.cell 1; clear hb))
    go_wp2
    go_ret
    exact ⟨rfl, b⟩
end Go.Proofs.Ytofkbckpncpmkaa
