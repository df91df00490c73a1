/-
  The walk of the law ExactName: whatever comes in, it answers true.
-/
import Derived.Test.YtofkbckpncpmkaaWDrawF
import Derived.Test.YtofkbckpncpmkaaWLawF
import Derived.Test.YtofkbckpncpmkaaWDrawG
import Derived.Test.YtofkbckpncpmkaaWExName
import Derived.Test.YtofkbckpncpmkaaWNames
import Derived.Test.YtofkbckpncpmkaaPlainX
import Derived.Deep.RegionHeld3
import Derived.Deep.DrawnRows
namespace Go.Proofs.Ytofkbckpncpmkaa
open Go.RowKit

set_option maxRecDepth 100000 in
set_option maxHeartbeats 4000000 in
theorem exactName_walk (A : Option Addr) (n c : Nat) (w : World) (hr : RdB w w.heap.size A n c) :
    Calls Try.prog 4 #[.slice A n c] w fun e w' => e = .returned (.bool true) ∧ Below w.heap.size w w' := by
  by_cases hlen : (1048576 : Int) < n
  · go_enter Try.func4, Try.ntmps4
    go_wp2_with fail
    go_ret
    exact ⟨rfl, Below.refl _ _⟩
  go_enter Try.func4, Try.ntmps4
  go_wp2_with fail
  refine (drawExactName_any A n c _ hr).mono ?_
  rintro e w1 ⟨A1, cc, ds, z, x, rfl, hz, hx, hA, hf, R, b⟩
  have q := blk1 w1 #[.slice A1 ds.length cc, .int .i64 z] 25
  replace b := Below.on b (below1 w1 (.cells #[.slice A1 ds.length cc, .int .i64 z] 25)) b.size
  replace R := R.to (below1 w1 (.cells #[.slice A1 ds.length cc, .int .i64 z] 25))
  have c0 := q.cell 0
  have c1 := q.cell 1
  clear hr
  clear hA
  cases h : hasFl ds z x with
  | false =>
    have F1 := Lib.hid h
    clear h
    go_wp2_with fail
    refine (exactName_any _ _ _ ds _ _ _ R).mono ?_
    rintro e wn ⟨rfl, hb⟩
    replace b := Below.on b hb b.size
    replace q := q.below hb q.lt
    replace R := R.to hb
    replace c0 := q.cell 0
    replace c1 := q.cell 1
    rw [F1.out]
    clear hb
    go_wp2_with fail
    refine (sexactName_any _ _ _ ds _ _ _ R).mono ?_
    rintro e wn ⟨rfl, hb⟩
    replace b := Below.on b hb b.size
    replace q := q.below hb q.lt
    replace R := R.to hb
    replace c0 := q.cell 0
    replace c1 := q.cell 1
    rw [F1.out]
    clear hb
    go_wp2
    go_ret
    exact ⟨rfl, b⟩
  | true =>
    have F1 := Lib.hid h
    obtain ⟨hF, hN⟩ := exact_back h
    have F2 := Lib.hid hF
    have F3 := Lib.hid hN
    clear h hF hN
    go_wp2_with fail
    refine (exactName_any _ _ _ ds _ _ _ R).mono ?_
    rintro e wn ⟨rfl, hb⟩
    replace b := Below.on b hb b.size
    replace q := q.below hb q.lt
    replace R := R.to hb
    replace c0 := q.cell 0
    replace c1 := q.cell 1
    rw [F1.out]
    clear hb
    go_wp2_with fail
    refine (sexactName_any _ _ _ ds _ _ _ R).mono ?_
    rintro e wn ⟨rfl, hb⟩
    replace b := Below.on b hb b.size
    replace q := q.below hb q.lt
    replace R := R.to hb
    replace c0 := q.cell 0
    replace c1 := q.cell 1
    rw [F1.out]
    clear hb
    obtain ⟨s, hs⟩ : ∃ s, exV ds z x = s := ⟨_, rfl⟩
    rw [hs] at F2 F3
    rw [hs]
    have hgs : GoodS [s] := ⟨by simp, fun t ht => by rw [List.mem_singleton.1 ht, ← hs]; exact exV_size R.2.2.2.1 z x⟩
    clear hs
    go_wp2_with fail
    have bs := below1 wn (.cells #[.string s] 9)
    have row : RowS (wn.alloc (.cells #[.string s] 9)) wn.heap.size 9 [s] := heap_alloc_new wn _
    have S := row.rd hgs
    replace b := Below.on b bs b.size
    replace R := R.to bs
    clear bs row
    refine (fromNames_any _ _ _ ds z _ _ _ [s] _ R S).mono ?_
    rintro e w5 ⟨rfl, hb⟩
    rw [F2.out, F3.out]
    replace b := Below.on b hb b.size
    clear hb S R q
    go_wp2
    go_ret
    exact ⟨rfl, b⟩
end Go.Proofs.Ytofkbckpncpmkaa
