/-
  The walks of the draws of classes of flags and their values out of the code's bytes.
-/
import Derived.Test.YtofkbckpncpmkaaWVals
import Derived.Test.YtofkbckpncpmkaaMemC
namespace Go.Proofs.Ytofkbckpncpmkaa
open Go.RowKit

/-- A class of flags; with one value; with two values: they have come out. -/
def FlagOut (w : World) (e : Ending) (w' : World) : Prop :=
  ∃ A c ds z, e = .returned (.agg #[.slice A ds.length c, .int .i64 z]) ∧ Small z ∧ (A = none → c = 0) ∧ Fine 13 ds ∧ Rd w' w'.heap.size A ds.length c ds ∧ Below w.heap.size w w'
def ValOut (w : World) (e : Ending) (w' : World) : Prop :=
  ∃ A c ds z x, e = .returned (.tuple #[.agg #[.slice A ds.length c, .int .i64 z], .int .i64 x]) ∧ Small z ∧ Small x ∧ (A = none → c = 0) ∧ Fine 13 ds ∧ Rd w' w'.heap.size A ds.length c ds ∧ Below w.heap.size w w'
def ValsOut (w : World) (e : Ending) (w' : World) : Prop :=
  ∃ A c ds z x y, e = .returned (.tuple #[.agg #[.slice A ds.length c, .int .i64 z], .int .i64 x, .int .i64 y]) ∧ Small z ∧ Small x ∧ Small y ∧ Fine 13 ds ∧ Rd w' w'.heap.size A ds.length c ds ∧ Below w.heap.size w w'

set_option maxHeartbeats 1000000 in
theorem drawHasAll_any (A : Option Addr) (n c : Nat) (w : World) (hr : RdB w w.heap.size A n c) :
    Calls Try.prog 39 #[.slice A n c] w (ValsOut w) := by
  go_enter Try.func39, Try.ntmps39
  have b0 := below1 w (.cells #[.slice none 0 0, .int .i64 0] 25)
  have r := blk1 w #[.slice none 0 0, .int .i64 0] 25
  go_wp2_with fail
  refine (newReader_any A n c _ ((hr.below b0).more b0.size)).mono ?_
  rintro e w1 ⟨g, rfl, hr1, hb⟩
  replace r := r.below hb r.lt
  have hrl := r.lt
  have hg0 := hr1.1
  have hg1 := hr1.lt
  replace b0 := Below.on b0 hb b0.size
  clear hb hr
  go_wp2_with fail
  refine (valuesIn_any _ g 0 _ (hr1.less (by omega))).mono ?_
  rintro e w2 ⟨v, z, x, y, ds, rfl, hz, hx, hy, ho, hf, D⟩
  obtain ⟨A1, c1, rfl, _, _, hA⟩ := ho.toC.cap
  have hne := ho.ne (p := w.heap.size) (.inl hrl)
  replace r := r.grown D.gr (by simp at hg0; omega)
  replace b0 := b0.trans (grown_below (base := w.heap.size) D.gr (by simp at hg0; omega) (by omega))
  have g0 := r.cell 0
  have g1 := r.cell 1
  have f0 := r.frozen 0
  have f1 := r.frozen 1
  have hrl2 := r.lt
  have r2 : Blk ((w2.setCell ⟨w.heap.size, 0, none⟩ (.slice A1 ds.length c1)).setCell ⟨w.heap.size, 1, none⟩ (.int .i64 z)) w.heap.size 25 #[.slice A1 ds.length c1, .int .i64 z] := (r.set_ 0 (.slice A1 ds.length c1)).set_ 1 (.int .i64 z)
  have d0 := r2.cell 0
  have d1 := r2.cell 1
  have ho2 := (ho.far hne (i := 0) (.slice A1 ds.length c1)).far hne (i := 1) (.int .i64 z)
  obtain ⟨A2, c2, he, R⟩ := ho2.rd hf (by omega)
  simp only [Value.slice.injEq] at he
  obtain ⟨rfl, _, rfl⟩ := he
  have HH := Lib.hid (And.intro R ((b0.setCell (p := ⟨w.heap.size, 0, none⟩) (Nat.le_refl _) (.slice A1 ds.length c1)).setCell (p := ⟨w.heap.size, 1, none⟩) (Nat.le_refl _) (.int .i64 z)))
  clear r r2 ho ho2 R D hne b0
  go_wp2
  obtain ⟨R, b0⟩ := HH.out
  exact bodyPost_ret (v := .tuple #[.agg #[.slice A1 ds.length c1, .int .i64 z], .int .i64 x, .int .i64 y]) (by simp [results, Try.results39, go_sem, d0, d1]) rfl ⟨A1, c1, ds, z, x, y, rfl, hz, hx, hy, hf, R, b0⟩

set_option maxHeartbeats 1000000 in
theorem drawAndValues_any (A : Option Addr) (n c : Nat) (w : World) (hr : RdB w w.heap.size A n c) :
    Calls Try.prog 42 #[.slice A n c] w (ValsOut w) := by
  go_enter Try.func42, Try.ntmps42
  have b0 := below1 w (.cells #[.slice none 0 0, .int .i64 0] 25)
  have r := blk1 w #[.slice none 0 0, .int .i64 0] 25
  go_wp2_with fail
  refine (newReader_any A n c _ ((hr.below b0).more b0.size)).mono ?_
  rintro e w1 ⟨g, rfl, hr1, hb⟩
  replace r := r.below hb r.lt
  have hrl := r.lt
  have hg0 := hr1.1
  have hg1 := hr1.lt
  replace b0 := Below.on b0 hb b0.size
  clear hb hr
  go_wp2_with fail
  refine (valuesIn_any _ g 0 _ (hr1.less (by omega))).mono ?_
  rintro e w2 ⟨v, z, x, y, ds, rfl, hz, hx, hy, ho, hf, D⟩
  obtain ⟨A1, c1, rfl, _, _, hA⟩ := ho.toC.cap
  have hne := ho.ne (p := w.heap.size) (.inl hrl)
  replace r := r.grown D.gr (by simp at hg0; omega)
  replace b0 := b0.trans (grown_below (base := w.heap.size) D.gr (by simp at hg0; omega) (by omega))
  have g0 := r.cell 0
  have g1 := r.cell 1
  have f0 := r.frozen 0
  have f1 := r.frozen 1
  have hrl2 := r.lt
  have r2 : Blk ((w2.setCell ⟨w.heap.size, 0, none⟩ (.slice A1 ds.length c1)).setCell ⟨w.heap.size, 1, none⟩ (.int .i64 z)) w.heap.size 25 #[.slice A1 ds.length c1, .int .i64 z] := (r.set_ 0 (.slice A1 ds.length c1)).set_ 1 (.int .i64 z)
  have d0 := r2.cell 0
  have d1 := r2.cell 1
  have ho2 := (ho.far hne (i := 0) (.slice A1 ds.length c1)).far hne (i := 1) (.int .i64 z)
  obtain ⟨A2, c2, he, R⟩ := ho2.rd hf (by omega)
  simp only [Value.slice.injEq] at he
  obtain ⟨rfl, _, rfl⟩ := he
  have HH := Lib.hid (And.intro R ((b0.setCell (p := ⟨w.heap.size, 0, none⟩) (Nat.le_refl _) (.slice A1 ds.length c1)).setCell (p := ⟨w.heap.size, 1, none⟩) (Nat.le_refl _) (.int .i64 z)))
  clear r r2 ho ho2 R D hne b0
  go_wp2
  obtain ⟨R, b0⟩ := HH.out
  exact bodyPost_ret (v := .tuple #[.agg #[.slice A1 ds.length c1, .int .i64 z], .int .i64 x, .int .i64 y]) (by simp [results, Try.results42, go_sem, d0, d1]) rfl ⟨A1, c1, ds, z, x, y, rfl, hz, hx, hy, hf, R, b0⟩

set_option maxHeartbeats 1000000 in
theorem drawOrValues_any (A : Option Addr) (n c : Nat) (w : World) (hr : RdB w w.heap.size A n c) :
    Calls Try.prog 44 #[.slice A n c] w (ValsOut w) := by
  go_enter Try.func44, Try.ntmps44
  have b0 := below1 w (.cells #[.slice none 0 0, .int .i64 0] 25)
  have r := blk1 w #[.slice none 0 0, .int .i64 0] 25
  go_wp2_with fail
  refine (newReader_any A n c _ ((hr.below b0).more b0.size)).mono ?_
  rintro e w1 ⟨g, rfl, hr1, hb⟩
  replace r := r.below hb r.lt
  have hrl := r.lt
  have hg0 := hr1.1
  have hg1 := hr1.lt
  replace b0 := Below.on b0 hb b0.size
  clear hb hr
  go_wp2_with fail
  refine (valuesIn_any _ g 0 _ (hr1.less (by omega))).mono ?_
  rintro e w2 ⟨v, z, x, y, ds, rfl, hz, hx, hy, ho, hf, D⟩
  obtain ⟨A1, c1, rfl, _, _, hA⟩ := ho.toC.cap
  have hne := ho.ne (p := w.heap.size) (.inl hrl)
  replace r := r.grown D.gr (by simp at hg0; omega)
  replace b0 := b0.trans (grown_below (base := w.heap.size) D.gr (by simp at hg0; omega) (by omega))
  have g0 := r.cell 0
  have g1 := r.cell 1
  have f0 := r.frozen 0
  have f1 := r.frozen 1
  have hrl2 := r.lt
  have r2 : Blk ((w2.setCell ⟨w.heap.size, 0, none⟩ (.slice A1 ds.length c1)).setCell ⟨w.heap.size, 1, none⟩ (.int .i64 z)) w.heap.size 25 #[.slice A1 ds.length c1, .int .i64 z] := (r.set_ 0 (.slice A1 ds.length c1)).set_ 1 (.int .i64 z)
  have d0 := r2.cell 0
  have d1 := r2.cell 1
  have ho2 := (ho.far hne (i := 0) (.slice A1 ds.length c1)).far hne (i := 1) (.int .i64 z)
  obtain ⟨A2, c2, he, R⟩ := ho2.rd hf (by omega)
  simp only [Value.slice.injEq] at he
  obtain ⟨rfl, _, rfl⟩ := he
  have HH := Lib.hid (And.intro R ((b0.setCell (p := ⟨w.heap.size, 0, none⟩) (Nat.le_refl _) (.slice A1 ds.length c1)).setCell (p := ⟨w.heap.size, 1, none⟩) (Nat.le_refl _) (.int .i64 z)))
  clear r r2 ho ho2 R D hne b0
  go_wp2
  obtain ⟨R, b0⟩ := HH.out
  exact bodyPost_ret (v := .tuple #[.agg #[.slice A1 ds.length c1, .int .i64 z], .int .i64 x, .int .i64 y]) (by simp [results, Try.results44, go_sem, d0, d1]) rfl ⟨A1, c1, ds, z, x, y, rfl, hz, hx, hy, hf, R, b0⟩

set_option maxHeartbeats 1000000 in
theorem drawLessValues_any (A : Option Addr) (n c : Nat) (w : World) (hr : RdB w w.heap.size A n c) :
    Calls Try.prog 47 #[.slice A n c] w (ValsOut w) := by
  go_enter Try.func47, Try.ntmps47
  have b0 := below1 w (.cells #[.slice none 0 0, .int .i64 0] 25)
  have r := blk1 w #[.slice none 0 0, .int .i64 0] 25
  go_wp2_with fail
  refine (newReader_any A n c _ ((hr.below b0).more b0.size)).mono ?_
  rintro e w1 ⟨g, rfl, hr1, hb⟩
  replace r := r.below hb r.lt
  have hrl := r.lt
  have hg0 := hr1.1
  have hg1 := hr1.lt
  replace b0 := Below.on b0 hb b0.size
  clear hb hr
  go_wp2_with fail
  refine (valuesIn_any _ g 0 _ (hr1.less (by omega))).mono ?_
  rintro e w2 ⟨v, z, x, y, ds, rfl, hz, hx, hy, ho, hf, D⟩
  obtain ⟨A1, c1, rfl, _, _, hA⟩ := ho.toC.cap
  have hne := ho.ne (p := w.heap.size) (.inl hrl)
  replace r := r.grown D.gr (by simp at hg0; omega)
  replace b0 := b0.trans (grown_below (base := w.heap.size) D.gr (by simp at hg0; omega) (by omega))
  have g0 := r.cell 0
  have g1 := r.cell 1
  have f0 := r.frozen 0
  have f1 := r.frozen 1
  have hrl2 := r.lt
  have r2 : Blk ((w2.setCell ⟨w.heap.size, 0, none⟩ (.slice A1 ds.length c1)).setCell ⟨w.heap.size, 1, none⟩ (.int .i64 z)) w.heap.size 25 #[.slice A1 ds.length c1, .int .i64 z] := (r.set_ 0 (.slice A1 ds.length c1)).set_ 1 (.int .i64 z)
  have d0 := r2.cell 0
  have d1 := r2.cell 1
  have ho2 := (ho.far hne (i := 0) (.slice A1 ds.length c1)).far hne (i := 1) (.int .i64 z)
  obtain ⟨A2, c2, he, R⟩ := ho2.rd hf (by omega)
  simp only [Value.slice.injEq] at he
  obtain ⟨rfl, _, rfl⟩ := he
  have HH := Lib.hid (And.intro R ((b0.setCell (p := ⟨w.heap.size, 0, none⟩) (Nat.le_refl _) (.slice A1 ds.length c1)).setCell (p := ⟨w.heap.size, 1, none⟩) (Nat.le_refl _) (.int .i64 z)))
  clear r r2 ho ho2 R D hne b0
  go_wp2
  obtain ⟨R, b0⟩ := HH.out
  exact bodyPost_ret (v := .tuple #[.agg #[.slice A1 ds.length c1, .int .i64 z], .int .i64 x, .int .i64 y]) (by simp [results, Try.results47, go_sem, d0, d1]) rfl ⟨A1, c1, ds, z, x, y, rfl, hz, hx, hy, hf, R, b0⟩

set_option maxHeartbeats 1000000 in
theorem drawXorValues_any (A : Option Addr) (n c : Nat) (w : World) (hr : RdB w w.heap.size A n c) :
    Calls Try.prog 49 #[.slice A n c] w (ValsOut w) := by
  go_enter Try.func49, Try.ntmps49
  have b0 := below1 w (.cells #[.slice none 0 0, .int .i64 0] 25)
  have r := blk1 w #[.slice none 0 0, .int .i64 0] 25
  go_wp2_with fail
  refine (newReader_any A n c _ ((hr.below b0).more b0.size)).mono ?_
  rintro e w1 ⟨g, rfl, hr1, hb⟩
  replace r := r.below hb r.lt
  have hrl := r.lt
  have hg0 := hr1.1
  have hg1 := hr1.lt
  replace b0 := Below.on b0 hb b0.size
  clear hb hr
  go_wp2_with fail
  refine (valuesIn_any _ g 0 _ (hr1.less (by omega))).mono ?_
  rintro e w2 ⟨v, z, x, y, ds, rfl, hz, hx, hy, ho, hf, D⟩
  obtain ⟨A1, c1, rfl, _, _, hA⟩ := ho.toC.cap
  have hne := ho.ne (p := w.heap.size) (.inl hrl)
  replace r := r.grown D.gr (by simp at hg0; omega)
  replace b0 := b0.trans (grown_below (base := w.heap.size) D.gr (by simp at hg0; omega) (by omega))
  have g0 := r.cell 0
  have g1 := r.cell 1
  have f0 := r.frozen 0
  have f1 := r.frozen 1
  have hrl2 := r.lt
  have r2 : Blk ((w2.setCell ⟨w.heap.size, 0, none⟩ (.slice A1 ds.length c1)).setCell ⟨w.heap.size, 1, none⟩ (.int .i64 z)) w.heap.size 25 #[.slice A1 ds.length c1, .int .i64 z] := (r.set_ 0 (.slice A1 ds.length c1)).set_ 1 (.int .i64 z)
  have d0 := r2.cell 0
  have d1 := r2.cell 1
  have ho2 := (ho.far hne (i := 0) (.slice A1 ds.length c1)).far hne (i := 1) (.int .i64 z)
  obtain ⟨A2, c2, he, R⟩ := ho2.rd hf (by omega)
  simp only [Value.slice.injEq] at he
  obtain ⟨rfl, _, rfl⟩ := he
  have HH := Lib.hid (And.intro R ((b0.setCell (p := ⟨w.heap.size, 0, none⟩) (Nat.le_refl _) (.slice A1 ds.length c1)).setCell (p := ⟨w.heap.size, 1, none⟩) (Nat.le_refl _) (.int .i64 z)))
  clear r r2 ho ho2 R D hne b0
  go_wp2
  obtain ⟨R, b0⟩ := HH.out
  exact bodyPost_ret (v := .tuple #[.agg #[.slice A1 ds.length c1, .int .i64 z], .int .i64 x, .int .i64 y]) (by simp [results, Try.results49, go_sem, d0, d1]) rfl ⟨A1, c1, ds, z, x, y, rfl, hz, hx, hy, hf, R, b0⟩

set_option maxHeartbeats 1000000 in
theorem drawCompareValues_any (A : Option Addr) (n c : Nat) (w : World) (hr : RdB w w.heap.size A n c) :
    Calls Try.prog 52 #[.slice A n c] w (ValsOut w) := by
  go_enter Try.func52, Try.ntmps52
  have b0 := below1 w (.cells #[.slice none 0 0, .int .i64 0] 25)
  have r := blk1 w #[.slice none 0 0, .int .i64 0] 25
  go_wp2_with fail
  refine (newReader_any A n c _ ((hr.below b0).more b0.size)).mono ?_
  rintro e w1 ⟨g, rfl, hr1, hb⟩
  replace r := r.below hb r.lt
  have hrl := r.lt
  have hg0 := hr1.1
  have hg1 := hr1.lt
  replace b0 := Below.on b0 hb b0.size
  clear hb hr
  go_wp2_with fail
  refine (valuesIn_any _ g 0 _ (hr1.less (by omega))).mono ?_
  rintro e w2 ⟨v, z, x, y, ds, rfl, hz, hx, hy, ho, hf, D⟩
  obtain ⟨A1, c1, rfl, _, _, hA⟩ := ho.toC.cap
  have hne := ho.ne (p := w.heap.size) (.inl hrl)
  replace r := r.grown D.gr (by simp at hg0; omega)
  replace b0 := b0.trans (grown_below (base := w.heap.size) D.gr (by simp at hg0; omega) (by omega))
  have g0 := r.cell 0
  have g1 := r.cell 1
  have f0 := r.frozen 0
  have f1 := r.frozen 1
  have hrl2 := r.lt
  have r2 : Blk ((w2.setCell ⟨w.heap.size, 0, none⟩ (.slice A1 ds.length c1)).setCell ⟨w.heap.size, 1, none⟩ (.int .i64 z)) w.heap.size 25 #[.slice A1 ds.length c1, .int .i64 z] := (r.set_ 0 (.slice A1 ds.length c1)).set_ 1 (.int .i64 z)
  have d0 := r2.cell 0
  have d1 := r2.cell 1
  have ho2 := (ho.far hne (i := 0) (.slice A1 ds.length c1)).far hne (i := 1) (.int .i64 z)
  obtain ⟨A2, c2, he, R⟩ := ho2.rd hf (by omega)
  simp only [Value.slice.injEq] at he
  obtain ⟨rfl, _, rfl⟩ := he
  have HH := Lib.hid (And.intro R ((b0.setCell (p := ⟨w.heap.size, 0, none⟩) (Nat.le_refl _) (.slice A1 ds.length c1)).setCell (p := ⟨w.heap.size, 1, none⟩) (Nat.le_refl _) (.int .i64 z)))
  clear r r2 ho ho2 R D hne b0
  go_wp2
  obtain ⟨R, b0⟩ := HH.out
  exact bodyPost_ret (v := .tuple #[.agg #[.slice A1 ds.length c1, .int .i64 z], .int .i64 x, .int .i64 y]) (by simp [results, Try.results52, go_sem, d0, d1]) rfl ⟨A1, c1, ds, z, x, y, rfl, hz, hx, hy, hf, R, b0⟩

set_option maxHeartbeats 1000000 in
theorem drawMaskOf_any (A : Option Addr) (n c : Nat) (w : World) (hr : RdB w w.heap.size A n c) :
    Calls Try.prog 29 #[.slice A n c] w (FlagOut w) := by
  go_enter Try.func29, Try.ntmps29
  have b0 := below1 w (.cells #[.slice none 0 0, .int .i64 0] 25)
  have r := blk1 w #[.slice none 0 0, .int .i64 0] 25
  go_wp2_with fail
  refine (newReader_any A n c _ ((hr.below b0).more b0.size)).mono ?_
  rintro e w1 ⟨g, rfl, hr1, hb⟩
  replace r := r.below hb r.lt
  have hrl := r.lt
  have hg0 := hr1.1
  have hg1 := hr1.lt
  replace b0 := Below.on b0 hb b0.size
  clear hb hr
  go_wp2_with fail
  refine (someFlag_any _ g 0 _ (hr1.less (by omega))).mono ?_
  rintro e w2 ⟨v, z, ds, rfl, hz, ho, hf, D⟩
  obtain ⟨A1, c1, rfl, _, _, hA⟩ := ho.toC.cap
  have hne := ho.ne (p := w.heap.size) (.inl hrl)
  replace r := r.grown D.gr (by simp at hg0; omega)
  replace b0 := b0.trans (grown_below (base := w.heap.size) D.gr (by simp at hg0; omega) (by omega))
  have g0 := r.cell 0
  have g1 := r.cell 1
  have f0 := r.frozen 0
  have f1 := r.frozen 1
  have hrl2 := r.lt
  have r2 : Blk ((w2.setCell ⟨w.heap.size, 0, none⟩ (.slice A1 ds.length c1)).setCell ⟨w.heap.size, 1, none⟩ (.int .i64 z)) w.heap.size 25 #[.slice A1 ds.length c1, .int .i64 z] := (r.set_ 0 (.slice A1 ds.length c1)).set_ 1 (.int .i64 z)
  have d0 := r2.cell 0
  have d1 := r2.cell 1
  have ho2 := (ho.far hne (i := 0) (.slice A1 ds.length c1)).far hne (i := 1) (.int .i64 z)
  obtain ⟨A2, c2, he, R⟩ := ho2.rd hf (by omega)
  simp only [Value.slice.injEq] at he
  obtain ⟨rfl, _, rfl⟩ := he
  have HH := Lib.hid (And.intro R ((b0.setCell (p := ⟨w.heap.size, 0, none⟩) (Nat.le_refl _) (.slice A1 ds.length c1)).setCell (p := ⟨w.heap.size, 1, none⟩) (Nat.le_refl _) (.int .i64 z)))
  clear r r2 ho ho2 R D hne b0
  go_wp2
  obtain ⟨R, b0⟩ := HH.out
  exact bodyPost_ret (v := .agg #[.slice A1 ds.length c1, .int .i64 z]) (by simp [results, Try.results29, go_sem, d0, d1]) rfl ⟨A1, c1, ds, z, rfl, hz, hA, hf, R, b0⟩

set_option maxHeartbeats 1000000 in
theorem drawValidFlag_any (A : Option Addr) (n c : Nat) (w : World) (hr : RdB w w.heap.size A n c) :
    Calls Try.prog 17 #[.slice A n c] w (FlagOut w) := by
  go_enter Try.func17, Try.ntmps17
  have b0 := below1 w (.cells #[.slice none 0 0, .int .i64 0] 25)
  have r := blk1 w #[.slice none 0 0, .int .i64 0] 25
  go_wp2_with fail
  refine (newReader_any A n c _ ((hr.below b0).more b0.size)).mono ?_
  rintro e w1 ⟨g, rfl, hr1, hb⟩
  replace r := r.below hb r.lt
  have hrl := r.lt
  have hg0 := hr1.1
  have hg1 := hr1.lt
  replace b0 := Below.on b0 hb b0.size
  clear hb hr
  go_wp2_with fail
  refine (someFlag_any _ g 0 _ (hr1.less (by omega))).mono ?_
  rintro e w2 ⟨v, z, ds, rfl, hz, ho, hf, D⟩
  obtain ⟨A1, c1, rfl, _, _, hA⟩ := ho.toC.cap
  have hne := ho.ne (p := w.heap.size) (.inl hrl)
  replace r := r.grown D.gr (by simp at hg0; omega)
  replace b0 := b0.trans (grown_below (base := w.heap.size) D.gr (by simp at hg0; omega) (by omega))
  have g0 := r.cell 0
  have g1 := r.cell 1
  have f0 := r.frozen 0
  have f1 := r.frozen 1
  have hrl2 := r.lt
  have r2 : Blk ((w2.setCell ⟨w.heap.size, 0, none⟩ (.slice A1 ds.length c1)).setCell ⟨w.heap.size, 1, none⟩ (.int .i64 z)) w.heap.size 25 #[.slice A1 ds.length c1, .int .i64 z] := (r.set_ 0 (.slice A1 ds.length c1)).set_ 1 (.int .i64 z)
  have d0 := r2.cell 0
  have d1 := r2.cell 1
  have ho2 := (ho.far hne (i := 0) (.slice A1 ds.length c1)).far hne (i := 1) (.int .i64 z)
  obtain ⟨A2, c2, he, R⟩ := ho2.rd hf (by omega)
  simp only [Value.slice.injEq] at he
  obtain ⟨rfl, _, rfl⟩ := he
  have HH := Lib.hid (And.intro R ((b0.setCell (p := ⟨w.heap.size, 0, none⟩) (Nat.le_refl _) (.slice A1 ds.length c1)).setCell (p := ⟨w.heap.size, 1, none⟩) (Nat.le_refl _) (.int .i64 z)))
  clear r r2 ho ho2 R D hne b0
  go_wp2
  obtain ⟨R, b0⟩ := HH.out
  exact bodyPost_ret (v := .agg #[.slice A1 ds.length c1, .int .i64 z]) (by simp [results, Try.results17, go_sem, d0, d1]) rfl ⟨A1, c1, ds, z, rfl, hz, hA, hf, R, b0⟩

end Go.Proofs.Ytofkbckpncpmkaa
