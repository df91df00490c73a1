/-
  The walks of enumerations with another name: enumOf, checkedEnum, RenameDef of the program and of the reference; and equal enumerations.
-/
import Derived.Test.YtpnicgagmopilaaMemD
import Derived.Test.YtpnicgagmopilaaWCopy
import Derived.Test.YtpnicgagmopilaaWEqual
import Derived.Test.YtpnicgagmopilaaWClone
import Derived.Test.YtpnicgagmopilaaWEnum
namespace Go.Proofs.Ytpnicgagmopilaa
open Go.RowKit
attribute [local go_sem ↓] Go.wp_at_zero Go.wp_at_succ

/-- An enumeration has been made, or none. -/
def EnumMade (ds : List D) (ok : Bool) (w : World) (e : Ending) (w' : World) : Prop :=
  ∃ A c, e = .returned (.tuple #[.agg #[.slice A ds.length c], .bool ok]) ∧ OwnC w' w.heap.size 68 (.slice A ds.length c) ds ∧ Below w.heap.size w w'
set_option maxHeartbeats 1000000 in
theorem enumOf_yes (A : Option Addr) (n c : Nat) (ds : List D) (hv : vEnum ds = true) (w : World) (hr : Rd w w.heap.size A n c ds) (hA : A = none → c = 0) :
    Calls Try.prog 74 #[.slice A n c, .bool true] w (EnumMade ds true w) := by
  have HL := Lib.hid hr.1
  have r := blk1 w #[.slice none 0 0] 28
  have b := below1 w (.cells #[.slice none 0 0] 28)
  have R := hr.to b
  have HV := Lib.hid hv
  clear hr hv
  go_enter Try.func74, Try.ntmps74
  go_wp2_with fail
  refine (validEnum_any _ _ _ ds _ R).mono ?_
  rintro e w1 ⟨rfl, hb⟩
  replace b := Below.on b hb b.size
  replace r := r.below hb r.lt
  replace R := R.to hb
  clear hb
  rw [show vDefs ds (-1000) 1000 = true from HV.out]
  go_wp2_with fail
  refine (clone_any A n c ds _ R hA).mono ?_
  rintro e w2 ⟨A2, rfl, ho, hb⟩
  have hs1 := r.lt
  replace b := Below.on b hb b.size
  replace r := r.below hb r.lt
  clear hb R
  rw [← HL.out] at ho
  rw [← HL.out]
  have g0 := r.cell 0
  have f0 := r.frozen 0
  have r2 : Blk (w2.setCell ⟨w.heap.size, 0, none⟩ (.slice A2 ds.length ds.length)) w.heap.size 28 #[(.slice A2 ds.length ds.length)] := r.set_ 0 (.slice A2 ds.length ds.length)
  have d0 := r2.cell 0
  have hne := ho.ne (p := w.heap.size) (.inl (by omega))
  have HH := Lib.hid (And.intro ((ho.far hne (i := 0) (.slice A2 ds.length ds.length)).base (B' := w.heap.size) (by omega)) (b.setCell (p := ⟨w.heap.size, 0, none⟩) (by simp) (.slice A2 ds.length ds.length)))
  clear b r ho r2 hne
  go_wp2
  exact bodyPost_ret (v := .tuple #[.agg #[(.slice A2 ds.length ds.length)], .bool true]) (by simp [results, Try.results74, go_sem, d0]) rfl ⟨_, _, rfl, HH.out.1, HH.out.2⟩

set_option maxHeartbeats 1000000 in
theorem enumOf_no (A : Option Addr) (n c : Nat) (ds : List D) (ok : Bool) (hv : ok = false ∨ vEnum ds = false) (w : World) (hr : Rd w w.heap.size A n c ds) :
    Calls Try.prog 74 #[.slice A n c, .bool ok] w (EnumMade [] false w) := by
  have r := blk1 w #[.slice none 0 0] 28
  have b := below1 w (.cells #[.slice none 0 0] 28)
  have R := hr.to b
  have HV := Lib.hid hv
  clear hr hv
  cases ok with
  | false =>
    clear R HV
    go_enter Try.func74, Try.ntmps74
    go_wp2_with fail
    exact bodyPost_ret (v := .tuple #[.agg #[.slice none 0 0], .bool false]) (by simp [results, Try.results74, go_sem, r.cell 0]) rfl ⟨none, 0, rfl, .inl ⟨rfl, rfl⟩, by first | exact b | exact b.setCell (Nat.le_refl _) _⟩
  | true =>
    have hv : vEnum ds = false := HV.out.resolve_left (by simp)
    go_enter Try.func74, Try.ntmps74
    go_wp2_with fail
    refine (validEnum_any _ _ _ ds _ R).mono ?_
    rintro e w1 ⟨rfl, hb⟩
    replace b := Below.on b hb b.size
    replace r := r.below hb r.lt
    clear hb R HV
    rw [show vDefs ds (-1000) 1000 = false from hv]
    clear hv
    have g0 := r.cell 0
    have f0 := r.frozen 0
    have r2 : Blk (w1.setCell ⟨w.heap.size, 0, none⟩ (.slice none 0 0)) w.heap.size 28 #[.slice none 0 0] := r.set_ 0 (.slice none 0 0)
    have d0 := r2.cell 0
    have HH := Lib.hid (b.setCell (p := ⟨w.heap.size, 0, none⟩) (by simp) (.slice none 0 0))
    clear b r r2
    go_wp2
    exact bodyPost_ret (v := .tuple #[.agg #[.slice none 0 0], .bool false]) (by simp [results, Try.results74, go_sem, d0]) rfl ⟨none, 0, rfl, .inl ⟨rfl, rfl⟩, HH.out⟩
set_option maxHeartbeats 1000000 in
theorem checkedEnum_yes (A : Option Addr) (c : Nat) (ds : List D) (hv : vEnum ds = true) (w : World) (hr : Rd w w.heap.size A ds.length c ds) :
    Calls Try.prog 76 #[.slice A ds.length c] w fun e w' => e = .returned (.tuple #[.agg #[.slice A ds.length c], .bool true]) ∧ Below w.heap.size w w' := by
  have q := blk2 w (.cells #[.slice none 0 0] 28) #[.slice A ds.length c] 28
  have r := (blk1 w #[.slice none 0 0] 28).alloc (.cells #[.slice A ds.length c] 28)
  have b := below2 w (.cells #[.slice none 0 0] 28) (.cells #[.slice A ds.length c] 28)
  have R := hr.to b
  have c0 := q.cell 0
  have HV := Lib.hid hv
  clear hr hv
  go_enter Try.func76, Try.ntmps76
  go_wp2_with fail
  refine (svalidEnum_any _ _ _ ds _ R).mono ?_
  rintro e w1 ⟨rfl, hb⟩
  replace b := Below.on b hb b.size
  replace q := q.below hb q.lt
  replace r := r.below hb r.lt
  replace c0 := q.cell 0
  clear hb R
  rw [show vDefs ds (-1000) 1000 = true from HV.out]
  have hlw := q.lt
  have g0 := r.cell 0
  have f0 := r.frozen 0
  have r2 : Blk (w1.setCell ⟨w.heap.size, 0, none⟩ (.slice A ds.length c)) w.heap.size 28 #[.slice A ds.length c] := r.set_ 0 (.slice A ds.length c)
  have d0 := r2.cell 0
  have HH := Lib.hid (b.setCell (p := ⟨w.heap.size, 0, none⟩) (Nat.le_refl _) (.slice A ds.length c))
  clear b r r2 q
  go_wp2
  exact bodyPost_ret (v := .tuple #[.agg #[.slice A ds.length c], .bool true]) (by simp [results, Try.results76, go_sem, d0]) rfl ⟨rfl, HH.out⟩

set_option maxHeartbeats 1000000 in
theorem checkedEnum_no (A : Option Addr) (c : Nat) (ds : List D) (hv : vEnum ds = false) (w : World) (hr : Rd w w.heap.size A ds.length c ds) :
    Calls Try.prog 76 #[.slice A ds.length c] w fun e w' => e = .returned (.tuple #[.agg #[.slice none 0 0], .bool false]) ∧ Below w.heap.size w w' := by
  have q := blk2 w (.cells #[.slice none 0 0] 28) #[.slice A ds.length c] 28
  have r := (blk1 w #[.slice none 0 0] 28).alloc (.cells #[.slice A ds.length c] 28)
  have b := below2 w (.cells #[.slice none 0 0] 28) (.cells #[.slice A ds.length c] 28)
  have R := hr.to b
  have c0 := q.cell 0
  have HV := Lib.hid hv
  clear hr hv
  go_enter Try.func76, Try.ntmps76
  go_wp2_with fail
  refine (svalidEnum_any _ _ _ ds _ R).mono ?_
  rintro e w1 ⟨rfl, hb⟩
  replace b := Below.on b hb b.size
  replace q := q.below hb q.lt
  replace r := r.below hb r.lt
  replace c0 := q.cell 0
  clear hb R
  rw [show vDefs ds (-1000) 1000 = false from HV.out]
  have hlw := q.lt
  have g0 := r.cell 0
  have f0 := r.frozen 0
  have r2 : Blk (w1.setCell ⟨w.heap.size, 0, none⟩ (.slice none 0 0)) w.heap.size 28 #[.slice none 0 0] := r.set_ 0 (.slice none 0 0)
  have d0 := r2.cell 0
  have HH := Lib.hid (b.setCell (p := ⟨w.heap.size, 0, none⟩) (Nat.le_refl _) (.slice none 0 0))
  clear b r r2 q
  go_wp2
  exact bodyPost_ret (v := .tuple #[.agg #[.slice none 0 0], .bool false]) (by simp [results, Try.results76, go_sem, d0]) rfl ⟨rfl, HH.out⟩

set_option maxHeartbeats 1000000 in
theorem equalEnum_same (A A' : Option Addr) (n c c' : Nat) (ds : List D) (w : World) (hr : Rd w w.heap.size A n c ds) (hr' : Rd w w.heap.size A' n c' ds) :
    Calls Try.prog 47 #[.agg #[.slice A n c], .agg #[.slice A' n c']] w fun e w' => e = .returned (.bool true) ∧ Below w.heap.size w w' := by
  have b := below2 w (.cells #[.slice A n c] 28) (.cells #[.slice A' n c'] 28)
  have q := (blk1 w #[.slice A n c] 28).alloc (.cells #[.slice A' n c'] 28)
  have q' := blk2 w (.cells #[.slice A n c] 28) #[.slice A' n c'] 28
  have R := hr.to b
  have R' := hr'.to b
  have c0 := q.cell 0
  have d0 := q'.cell 0
  clear hr hr'
  go_enter Try.func47, Try.ntmps47
  go_wp2_with fail
  refine (equalDefs_same _ _ _ _ _ ds _ R R').mono ?_
  rintro e w2 ⟨rfl, hb⟩
  go_wp2
  go_ret
  exact ⟨rfl, Below.on b hb b.size⟩
end Go.Proofs.Ytpnicgagmopilaa
