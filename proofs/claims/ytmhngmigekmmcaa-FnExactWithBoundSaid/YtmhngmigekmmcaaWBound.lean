/-
  The walks of classes of flags with another bound: flagOf, WithBound of the program and of the reference, kept; and equal classes.
-/
import Derived.Test.YtmhngmigekmmcaaWClone
import Derived.Test.YtmhngmigekmmcaaWFlag
import Derived.Deep.RegionHeld3
import Derived.Deep.DrawnRows
namespace Go.Proofs.Ytmhngmigekmmcaa
open Go.RowKit
attribute [local go_sem ↓] Go.wp_at_zero Go.wp_at_succ

/-- A class has been made; none has been made. -/
def FlagYes (n : Nat) (k : Int) (ds : List D) (w : World) (e : Ending) (w' : World) : Prop :=
  ∃ A c, e = .returned (.tuple #[.agg #[.slice A n c, .int .i64 k], .bool true]) ∧ OwnC w' w.heap.size 48 (.slice A n c) ds ∧ Below w.heap.size w w'
def FlagNo (w : World) (e : Ending) (w' : World) : Prop :=
  e = .returned (.tuple #[.agg #[.slice none 0 0, .int .i64 0], .bool false]) ∧ Below w.heap.size w w'

set_option maxHeartbeats 1000000 in
theorem flagOf_yes (A : Option Addr) (n c : Nat) (ds : List D) (k : Int) (hk : vFlag ds k = true) (w : World) (hr : Rd w w.heap.size A n c ds) (hA : A = none → c = 0) :
    Calls Try.prog 41 #[.slice A n c, .int .i64 k, .bool true] w (FlagYes n k ds w) := by
  have HL := Lib.hid hr.1
  have HG := Lib.hid hr.2.2.2.1
  have r := blk1 w #[.slice none 0 0, .int .i64 0] 36
  have b := below1 w (.cells #[.slice none 0 0, .int .i64 0] 36)
  have R := hr.to b
  have HK := Lib.hid hk
  clear hr hk
  go_enter Try.func41, Try.ntmps41
  go_wp2_with fail
  refine (clone_any A n c ds _ R hA).mono ?_
  rintro e w1 ⟨A1, rfl, ho, hb⟩
  replace b := Below.on b hb b.size
  replace r := r.below hb r.lt
  replace ho := ho.base (B' := w.heap.size + 1) (by simp)
  have hw1 : w.heap.size < w1.heap.size := r.lt
  have q := blk1 w1 #[.slice A1 n n, .int .i64 k] 36
  replace b := Below.on b (below1 w1 (.cells #[.slice A1 n n, .int .i64 k] 36)) b.size
  replace r := r.alloc (.cells #[.slice A1 n n, .int .i64 k] 36)
  replace ho := ho.alloc (.cells #[.slice A1 n n, .int .i64 k] 36)
  obtain ⟨A2, c2, he, R2⟩ := ho.rd HG.out
  simp only [Value.slice.injEq] at he
  obtain ⟨rfl, hnl, rfl⟩ := he
  clear hb R hnl
  rw [HL.out] at R2
  go_wp2_with fail
  refine (validFlag_any _ _ _ ds _ _ R2).mono ?_
  rintro e w2 ⟨rfl, hb⟩
  replace b := Below.on b hb b.size
  replace q := q.below hb q.lt
  replace r := r.below hb r.lt
  replace ho := ho.below hb
  have c0 := q.cell 0
  have c1 := q.cell 1
  have g0 := r.cell 0
  have g1 := r.cell 1
  have f0 := r.frozen 0
  have f1 := r.frozen 1
  rw [HK.out]
  have r2 : Blk ((w2.setCell ⟨w.heap.size, 0, none⟩ (.slice A1 n n)).setCell ⟨w.heap.size, 1, none⟩ (.int .i64 k)) w.heap.size 36 #[.slice A1 n n, .int .i64 k] := (r.set_ 0 (.slice A1 n n)).set_ 1 (.int .i64 k)
  have d0 := r2.cell 0
  have d1 := r2.cell 1
  have hne := ho.ne (p := w.heap.size) (.inl (by omega))
  have HH := Lib.hid (And.intro (((ho.far hne (i := 0) (.slice A1 n n)).far hne (i := 1) (.int .i64 k)).base (B' := w.heap.size) (by omega)) ((b.setCell (p := ⟨w.heap.size, 0, none⟩) (Nat.le_refl _) (.slice A1 n n)).setCell (p := ⟨w.heap.size, 1, none⟩) (Nat.le_refl _) (.int .i64 k)))
  have hs2 := q.lt
  have hr2 := r.lt
  clear hb R2 b q r ho r2 hne
  go_wp2
  obtain ⟨ho, b⟩ := HH.out
  exact bodyPost_ret (v := .tuple #[.agg #[.slice A1 n n, .int .i64 k], .bool true]) (by simp [results, Try.results41, go_sem, d0, d1]) rfl ⟨A1, n, rfl, ho, b⟩

set_option maxHeartbeats 1000000 in
theorem flagOf_no (A : Option Addr) (n c : Nat) (ds : List D) (k : Int) (ok : Bool) (hk : ok = false ∨ vFlag ds k = false) (w : World) (hr : Rd w w.heap.size A n c ds) (hA : A = none → c = 0) :
    Calls Try.prog 41 #[.slice A n c, .int .i64 k, .bool ok] w (FlagNo w) := by
  have HL := Lib.hid hr.1
  have HG := Lib.hid hr.2.2.2.1
  have r := blk1 w #[.slice none 0 0, .int .i64 0] 36
  have b := below1 w (.cells #[.slice none 0 0, .int .i64 0] 36)
  have R := hr.to b
  have HK := Lib.hid hk
  clear hr hk
  go_enter Try.func41, Try.ntmps41
  go_wp2_with fail
  refine (clone_any A n c ds _ R hA).mono ?_
  rintro e w1 ⟨A1, rfl, ho, hb⟩
  replace b := Below.on b hb b.size
  replace r := r.below hb r.lt
  replace ho := ho.base (B' := w.heap.size + 1) (by simp)
  have hw1 : w.heap.size < w1.heap.size := r.lt
  have bw1 := b
  have q := blk1 w1 #[.slice A1 n n, .int .i64 k] 36
  replace b := Below.on b (below1 w1 (.cells #[.slice A1 n n, .int .i64 k] 36)) b.size
  have r' := r.alloc (.cells #[.slice A1 n n, .int .i64 k] 36)
  replace ho := ho.alloc (.cells #[.slice A1 n n, .int .i64 k] 36)
  obtain ⟨A2, c2, he, R2⟩ := ho.rd HG.out
  simp only [Value.slice.injEq] at he
  obtain ⟨rfl, hnl, rfl⟩ := he
  clear hb R hnl
  rw [HL.out] at R2
  cases ok with
  | false =>
    have g0 := r.cell 0
    have g1 := r.cell 1
    have f0 := r.frozen 0
    have f1 := r.frozen 1
    have r2 : Blk (((w1.setCell ⟨w.heap.size, 0, none⟩ (.slice none 0 0)).setCell ⟨w.heap.size, 1, none⟩ (.int .i64 0)).alloc (.cells #[.slice A1 n n, .int .i64 k] 36)) w.heap.size 36 #[.slice none 0 0, .int .i64 0] := ((r.set_ 0 (.slice none 0 0)).set_ 1 (.int .i64 0)).alloc _
    have d0 := r2.cell 0
    have d1 := r2.cell 1
    have HH := Lib.hid (((bw1.setCell (p := ⟨w.heap.size, 0, none⟩) (Nat.le_refl _) (.slice none 0 0)).setCell (p := ⟨w.heap.size, 1, none⟩) (Nat.le_refl _) (.int .i64 0)).alloc (by simp; omega) (.cells #[.slice A1 n n, .int .i64 k] 36))
    clear r r2 r' bw1 b q ho R2 HK
    go_wp2
    exact bodyPost_ret (v := .tuple #[.agg #[.slice none 0 0, .int .i64 0], .bool false]) (by simp [results, Try.results41, go_sem, d0, d1]) rfl ⟨rfl, HH.out⟩
  | true =>
    have hk : vFlag ds k = false := HK.out.resolve_left (by simp)
    go_wp2_with fail
    refine (validFlag_any _ _ _ ds _ _ R2).mono ?_
    rintro e w2 ⟨rfl, hb⟩
    rw [hk]
    replace b := Below.on b hb b.size
    replace r := r'.below hb r'.lt
    have g0 := r.cell 0
    have g1 := r.cell 1
    have f0 := r.frozen 0
    have f1 := r.frozen 1
    have r2 : Blk ((w2.setCell ⟨w.heap.size, 0, none⟩ (.slice none 0 0)).setCell ⟨w.heap.size, 1, none⟩ (.int .i64 0)) w.heap.size 36 #[.slice none 0 0, .int .i64 0] := (r.set_ 0 (.slice none 0 0)).set_ 1 (.int .i64 0)
    have d0 := r2.cell 0
    have d1 := r2.cell 1
    have HH := Lib.hid ((b.setCell (p := ⟨w.heap.size, 0, none⟩) (Nat.le_refl _) (.slice none 0 0)).setCell (p := ⟨w.heap.size, 1, none⟩) (Nat.le_refl _) (.int .i64 0))
    clear hk r r2 r' b q ho R2 HK hb bw1
    go_wp2
    exact bodyPost_ret (v := .tuple #[.agg #[.slice none 0 0, .int .i64 0], .bool false]) (by simp [results, Try.results41, go_sem, d0, d1]) rfl ⟨rfl, HH.out⟩
set_option maxHeartbeats 4000000 in
theorem withBound_yes (A : Option Addr) (n c : Nat) (ds : List D) (z k : Int) (hz : vFlag ds z = true) (hk : vFlag ds k = true) (w : World) (hr : Rd w w.heap.size A n c ds) (hA : A = none → c = 0) :
    Calls Try.prog 15 #[.agg #[.slice A n c, .int .i64 z], .int .i64 k] w (FlagYes n k ds w) := by
  have HL := Lib.hid hr.1
  have HG := Lib.hid hr.2.2.2.1
  have q := (blk1 w #[.slice A n c, .int .i64 z] 36).alloc (.cells #[.slice none 0 0, .int .i64 0] 36)
  have r := blk2 w (.cells #[.slice A n c, .int .i64 z] 36) #[.slice none 0 0, .int .i64 0] 36
  have b := below2 w (.cells #[.slice A n c, .int .i64 z] 36) (.cells #[.slice none 0 0, .int .i64 0] 36)
  have R := hr.to b
  have c0 := q.cell 0
  have c1 := q.cell 1
  clear hr
  have HZ := Lib.hid hz
  have HK := Lib.hid hk
  clear hz hk
  go_enter Try.func15, Try.ntmps15
  go_wp2_with fail
  replace b := b.drew
  replace q := q.drew
  replace r := r.drew
  replace R := R.drew
  go_region_held3 (fun w' => w'.cell? ⟨w.heap.size, 0, none⟩ = some (.slice A n c) ∧ w'.cell? ⟨w.heap.size, 1, none⟩ = some (.int .i64 z)) (go_keep)
    (first
      | (go_at_call 42; refine (validFlag_any _ _ _ ds _ _ R).mono ?_; rintro e wn ⟨rfl, hb⟩; replace b := Below.on b hb b.size; replace q := q.below hb q.lt; replace r := r.below hb r.lt; replace R := R.to hb; replace c0 := q.cell 0; replace c1 := q.cell 1; have hs1 := r.lt; rw [HZ.out]; clear hb)
      | (go_at_call 41; refine (flagOf_yes A n c ds k HK.out _ R hA).mono ?_; rintro e w2 ⟨A2, c2, rfl, ho, hb⟩; replace b := Below.on b hb b.size; replace q := q.below hb q.lt; replace r := r.below hb r.lt; replace c0 := q.cell 0; replace c1 := q.cell 1; have g0 := r.cell 0; have g1 := r.cell 1; have f0 := r.frozen 0; have f1 := r.frozen 1; clear hb))
  have r2 : Blk ((w2.setCell ⟨w.heap.size + 1, 0, none⟩ (.slice A2 n c2)).setCell ⟨w.heap.size + 1, 1, none⟩ (.int .i64 k)) (w.heap.size + 1) 36 #[.slice A2 n c2, .int .i64 k] := (r.set_ 0 (.slice A2 n c2)).set_ 1 (.int .i64 k)
  have d0 := r2.cell 0
  have d1 := r2.cell 1
  have hne := ho.ne (p := w.heap.size + 1) (.inl (by omega))
  have HH := Lib.hid (And.intro (((ho.far hne (i := 0) (.slice A2 n c2)).far hne (i := 1) (.int .i64 k)).base (B' := w.heap.size) (by omega)) ((b.setCell (p := ⟨w.heap.size + 1, 0, none⟩) (by simp) (.slice A2 n c2)).setCell (p := ⟨w.heap.size + 1, 1, none⟩) (by simp) (.int .i64 k)))
  clear b q r ho r2 hne R
  go_wp2
  obtain ⟨ho, b⟩ := HH.out
  exact bodyPost_ret (v := .tuple #[.agg #[.slice A2 n c2, .int .i64 k], .bool true]) (by simp [results, Try.results15, go_sem, d0, d1]) rfl ⟨A2, c2, rfl, ho, b⟩

set_option maxHeartbeats 4000000 in
theorem withBound_no (A : Option Addr) (n c : Nat) (ds : List D) (z k : Int) (hk : vFlag ds z = false ∨ vFlag ds k = false) (w : World) (hr : Rd w w.heap.size A n c ds) (hA : A = none → c = 0) :
    Calls Try.prog 15 #[.agg #[.slice A n c, .int .i64 z], .int .i64 k] w (FlagNo w) := by
  have HL := Lib.hid hr.1
  have HG := Lib.hid hr.2.2.2.1
  have q := (blk1 w #[.slice A n c, .int .i64 z] 36).alloc (.cells #[.slice none 0 0, .int .i64 0] 36)
  have r := blk2 w (.cells #[.slice A n c, .int .i64 z] 36) #[.slice none 0 0, .int .i64 0] 36
  have b := below2 w (.cells #[.slice A n c, .int .i64 z] 36) (.cells #[.slice none 0 0, .int .i64 0] 36)
  have R := hr.to b
  have c0 := q.cell 0
  have c1 := q.cell 1
  clear hr
  have HK := Lib.hid hk
  clear hk
  go_enter Try.func15, Try.ntmps15
  go_wp2_with fail
  replace b := b.drew
  replace q := q.drew
  replace r := r.drew
  replace R := R.drew
  go_region_held3 (fun w' => w'.cell? ⟨w.heap.size, 0, none⟩ = some (.slice A n c) ∧ w'.cell? ⟨w.heap.size, 1, none⟩ = some (.int .i64 z)) (go_keep)
    (first
      | (go_at_call 42; refine (validFlag_any _ _ _ ds _ _ R).mono ?_; rintro e wn ⟨rfl, hb⟩; replace b := Below.on b hb b.size; replace q := q.below hb q.lt; replace r := r.below hb r.lt; replace R := R.to hb; replace c0 := q.cell 0; replace c1 := q.cell 1; clear hb)
      | (go_at_call 41; refine (flagOf_no A n c ds k (vFlag ds z) HK.out _ R hA).mono ?_; rintro e w2 ⟨rfl, hb⟩; replace b := Below.on b hb b.size; replace q := q.below hb q.lt; replace r := r.below hb r.lt; replace c0 := q.cell 0; replace c1 := q.cell 1; have g0 := r.cell 0; have g1 := r.cell 1; have f0 := r.frozen 0; have f1 := r.frozen 1; clear hb))
  have r2 : Blk ((w2.setCell ⟨w.heap.size + 1, 0, none⟩ (.slice none 0 0)).setCell ⟨w.heap.size + 1, 1, none⟩ (.int .i64 0)) (w.heap.size + 1) 36 #[.slice none 0 0, .int .i64 0] := (r.set_ 0 (.slice none 0 0)).set_ 1 (.int .i64 0)
  have d0 := r2.cell 0
  have d1 := r2.cell 1
  have HH := Lib.hid ((b.setCell (p := ⟨w.heap.size + 1, 0, none⟩) (by simp) (.slice none 0 0)).setCell (p := ⟨w.heap.size + 1, 1, none⟩) (by simp) (.int .i64 0))
  clear b q r r2 R
  go_wp2
  exact bodyPost_ret (v := .tuple #[.agg #[.slice none 0 0, .int .i64 0], .bool false]) (by simp [results, Try.results15, go_sem, d0, d1]) rfl ⟨rfl, HH.out⟩
set_option maxHeartbeats 4000000 in
theorem swithBound_yes (A : Option Addr) (n c : Nat) (ds : List D) (z k : Int) (hz : vFlag ds z = true) (hk : vFlag ds k = true) (w : World) (hr : Rd w w.heap.size A n c ds) (hA : A = none → c = 0) :
    Calls Try.prog 13 #[.agg #[.slice A n c, .int .i64 z], .int .i64 k] w (FlagYes n k ds w) := by
  have HL := Lib.hid hr.1
  have HG := Lib.hid hr.2.2.2.1
  have q := (blk1 w #[.slice A n c, .int .i64 z] 36).alloc (.cells #[.slice none 0 0, .int .i64 0] 36)
  have r := blk2 w (.cells #[.slice A n c, .int .i64 z] 36) #[.slice none 0 0, .int .i64 0] 36
  have b := below2 w (.cells #[.slice A n c, .int .i64 z] 36) (.cells #[.slice none 0 0, .int .i64 0] 36)
  have R := hr.to b
  have c0 := q.cell 0
  have c1 := q.cell 1
  clear hr
  have HZ := Lib.hid hz
  have HK := Lib.hid hk
  clear hz hk
  go_enter Try.func13, Try.ntmps13
  go_wp2_with fail
  refine (copyDefs_any A n c ds _ R hA).mono ?_
  rintro e w2 ⟨v2, rfl, ho, hb⟩
  replace b := Below.on b hb b.size
  replace q := q.below hb q.lt
  replace r := r.below hb r.lt
  replace R := R.to hb
  replace ho := ho.base (B' := w.heap.size + 1 + 1) (by simp)
  have hs2 : w.heap.size + 1 < w2.heap.size := r.lt
  obtain ⟨A2, c2, rfl, _, _, _⟩ := ho.cap
  rw [HL.out] at ho
  rw [HL.out]
  have o := blk1 w2 #[.slice A2 n c2, .int .i64 k] 36
  have bo := below1 w2 (.cells #[.slice A2 n c2, .int .i64 k] 36)
  replace b := Below.on b bo b.size
  replace q := q.alloc (.cells #[.slice A2 n c2, .int .i64 k] 36)
  replace r := r.alloc (.cells #[.slice A2 n c2, .int .i64 k] 36)
  replace ho := ho.alloc (.cells #[.slice A2 n c2, .int .i64 k] 36)
  replace R := R.to bo
  replace c0 := q.cell 0
  replace c1 := q.cell 1
  have R2 : Rd (w2.alloc (.cells #[.slice A2 n c2, .int .i64 k] 36)) (w2.alloc (.cells #[.slice A2 n c2, .int .i64 k] 36)).heap.size A2 n c2 ds := by
    obtain ⟨A3, c3, he, R3⟩ := ho.rd HG.out
    simp only [Value.slice.injEq] at he
    obtain ⟨rfl, hl, rfl⟩ := he
    rw [← hl] at R3
    exact R3
  clear hb bo
  go_wp2_with fail
  refine (svalidFlag_any _ _ _ ds _ _ R).mono ?_
  rintro e w3 ⟨rfl, hb⟩
  replace b := Below.on b hb b.size
  replace q := q.below hb q.lt
  replace r := r.below hb r.lt
  replace o := o.below hb o.lt
  replace R := R.to hb
  replace R2 := R2.to hb
  replace ho := ho.below hb
  replace c0 := q.cell 0
  replace c1 := q.cell 1
  have d2 := o.cell 0
  have d3 := o.cell 1
  have hs3 := o.lt
  clear hb
  rw [HZ.out]
  go_wp2_with fail
  refine (svalidFlag_any _ _ _ ds _ _ R2).mono ?_
  rintro e w4 ⟨rfl, hb⟩
  replace b := Below.on b hb b.size
  replace q := q.below hb q.lt
  replace r := r.below hb r.lt
  replace o := o.below hb o.lt
  replace ho := ho.below hb
  have hs4 := o.lt
  clear hb d2 d3 c0 c1
  rw [HK.out]
  have g0 := r.cell 0
  have g1 := r.cell 1
  have f0 := r.frozen 0
  have f1 := r.frozen 1
  have e2 := o.cell 0
  have e3 := o.cell 1
  have r2 : Blk ((w4.setCell ⟨w.heap.size + 1, 0, none⟩ (.slice A2 n c2)).setCell ⟨w.heap.size + 1, 1, none⟩ (.int .i64 k)) (w.heap.size + 1) 36 #[.slice A2 n c2, .int .i64 k] := (r.set_ 0 (.slice A2 n c2)).set_ 1 (.int .i64 k)
  have d0 := r2.cell 0
  have d1 := r2.cell 1
  have hne := ho.ne (p := w.heap.size + 1) (.inl (by omega))
  have HH := Lib.hid (And.intro (((ho.far hne (i := 0) (.slice A2 n c2)).far hne (i := 1) (.int .i64 k)).base (B' := w.heap.size) (by omega)) ((b.setCell (p := ⟨w.heap.size + 1, 0, none⟩) (by simp) (.slice A2 n c2)).setCell (p := ⟨w.heap.size + 1, 1, none⟩) (by simp) (.int .i64 k)))
  clear b q r ho r2 hne R o R2
  go_wp2
  obtain ⟨ho, b⟩ := HH.out
  exact bodyPost_ret (v := .tuple #[.agg #[.slice A2 n c2, .int .i64 k], .bool true]) (by simp [results, Try.results13, go_sem, d0, d1]) rfl ⟨A2, c2, rfl, ho, b⟩

set_option maxHeartbeats 4000000 in
theorem swithBound_no (A : Option Addr) (n c : Nat) (ds : List D) (z k : Int) (hk : vFlag ds z = false ∨ vFlag ds k = false) (w : World) (hr : Rd w w.heap.size A n c ds) (hA : A = none → c = 0) :
    Calls Try.prog 13 #[.agg #[.slice A n c, .int .i64 z], .int .i64 k] w (FlagNo w) := by
  have HL := Lib.hid hr.1
  have HG := Lib.hid hr.2.2.2.1
  have q := (blk1 w #[.slice A n c, .int .i64 z] 36).alloc (.cells #[.slice none 0 0, .int .i64 0] 36)
  have r := blk2 w (.cells #[.slice A n c, .int .i64 z] 36) #[.slice none 0 0, .int .i64 0] 36
  have b := below2 w (.cells #[.slice A n c, .int .i64 z] 36) (.cells #[.slice none 0 0, .int .i64 0] 36)
  have R := hr.to b
  have c0 := q.cell 0
  have c1 := q.cell 1
  clear hr
  have HK := Lib.hid hk
  clear hk
  go_enter Try.func13, Try.ntmps13
  go_wp2_with fail
  refine (copyDefs_any A n c ds _ R hA).mono ?_
  rintro e w2 ⟨v2, rfl, ho, hb⟩
  replace b := Below.on b hb b.size
  replace q := q.below hb q.lt
  replace r := r.below hb r.lt
  replace R := R.to hb
  replace ho := ho.base (B' := w.heap.size + 1 + 1) (by simp)
  have hs2 : w.heap.size + 1 < w2.heap.size := r.lt
  obtain ⟨A2, c2, rfl, _, _, _⟩ := ho.cap
  rw [HL.out] at ho
  rw [HL.out]
  have o := blk1 w2 #[.slice A2 n c2, .int .i64 k] 36
  have bo := below1 w2 (.cells #[.slice A2 n c2, .int .i64 k] 36)
  replace b := Below.on b bo b.size
  replace q := q.alloc (.cells #[.slice A2 n c2, .int .i64 k] 36)
  replace r := r.alloc (.cells #[.slice A2 n c2, .int .i64 k] 36)
  replace ho := ho.alloc (.cells #[.slice A2 n c2, .int .i64 k] 36)
  replace R := R.to bo
  replace c0 := q.cell 0
  replace c1 := q.cell 1
  have R2 : Rd (w2.alloc (.cells #[.slice A2 n c2, .int .i64 k] 36)) (w2.alloc (.cells #[.slice A2 n c2, .int .i64 k] 36)).heap.size A2 n c2 ds := by
    obtain ⟨A3, c3, he, R3⟩ := ho.rd HG.out
    simp only [Value.slice.injEq] at he
    obtain ⟨rfl, hl, rfl⟩ := he
    rw [← hl] at R3
    exact R3
  clear hb bo
  go_wp2_with fail
  refine (svalidFlag_any _ _ _ ds _ _ R).mono ?_
  rintro e w3 ⟨rfl, hb⟩
  replace b := Below.on b hb b.size
  replace q := q.below hb q.lt
  replace r := r.below hb r.lt
  replace o := o.below hb o.lt
  replace R := R.to hb
  replace R2 := R2.to hb
  replace ho := ho.below hb
  replace c0 := q.cell 0
  replace c1 := q.cell 1
  have d2 := o.cell 0
  have d3 := o.cell 1
  have hs3 := o.lt
  clear hb
  cases hz : vFlag ds z with
  | false =>
    clear hz
    have g0 := r.cell 0
    have g1 := r.cell 1
    have f0 := r.frozen 0
    have f1 := r.frozen 1
    have r2 : Blk ((w3.setCell ⟨w.heap.size + 1, 0, none⟩ (.slice none 0 0)).setCell ⟨w.heap.size + 1, 1, none⟩ (.int .i64 0)) (w.heap.size + 1) 36 #[.slice none 0 0, .int .i64 0] := (r.set_ 0 (.slice none 0 0)).set_ 1 (.int .i64 0)
    have d0 := r2.cell 0
    have d1 := r2.cell 1
    have HH := Lib.hid ((b.setCell (p := ⟨w.heap.size + 1, 0, none⟩) (by simp) (.slice none 0 0)).setCell (p := ⟨w.heap.size + 1, 1, none⟩) (by simp) (.int .i64 0))
    clear b q r r2 R o R2 ho
    go_wp2
    exact bodyPost_ret (v := .tuple #[.agg #[.slice none 0 0, .int .i64 0], .bool false]) (by simp [results, Try.results13, go_sem, d0, d1]) rfl ⟨rfl, HH.out⟩
  | true =>
    have hk : vFlag ds k = false := HK.out.resolve_left (by rw [hz]; simp)
    clear hz
    go_wp2_with fail
    refine (svalidFlag_any _ _ _ ds _ _ R2).mono ?_
    rintro e w4 ⟨rfl, hb⟩
    replace b := Below.on b hb b.size
    replace q := q.below hb q.lt
    replace r := r.below hb r.lt
    replace o := o.below hb o.lt
    replace ho := ho.below hb
    have hs4 := o.lt
    clear hb d2 d3 c0 c1
    rw [hk]
    clear hk
    have g0 := r.cell 0
    have g1 := r.cell 1
    have f0 := r.frozen 0
    have f1 := r.frozen 1
    have r2 : Blk ((w4.setCell ⟨w.heap.size + 1, 0, none⟩ (.slice none 0 0)).setCell ⟨w.heap.size + 1, 1, none⟩ (.int .i64 0)) (w.heap.size + 1) 36 #[.slice none 0 0, .int .i64 0] := (r.set_ 0 (.slice none 0 0)).set_ 1 (.int .i64 0)
    have d0 := r2.cell 0
    have d1 := r2.cell 1
    have HH := Lib.hid ((b.setCell (p := ⟨w.heap.size + 1, 0, none⟩) (by simp) (.slice none 0 0)).setCell (p := ⟨w.heap.size + 1, 1, none⟩) (by simp) (.int .i64 0))
    clear b q r r2 R o R2 ho
    go_wp2
    exact bodyPost_ret (v := .tuple #[.agg #[.slice none 0 0, .int .i64 0], .bool false]) (by simp [results, Try.results13, go_sem, d0, d1]) rfl ⟨rfl, HH.out⟩
theorem rd_nil (w : World) : Rd w w.heap.size none 0 0 [] := ⟨rfl, Nat.le_refl _, by omega, ⟨by simp, by simp⟩, fun h => absurd h (by omega)⟩
end Go.Proofs.Ytmhngmigekmmcaa
