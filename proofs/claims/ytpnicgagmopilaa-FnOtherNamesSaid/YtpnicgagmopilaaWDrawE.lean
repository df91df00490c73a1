/-
  The walks of the draws of enumerations and their names out of the code's bytes.
-/
import Derived.Test.YtpnicgagmopilaaWNameIn
namespace Go.Proofs.Ytpnicgagmopilaa
open Go.RowKit
attribute [local go_sem ↓] Go.wp_at_zero Go.wp_at_succ

/-- An enumeration; with a text; with a number: they have come out. -/
def EnumOut (w : World) (e : Ending) (w' : World) : Prop :=
  ∃ A c ds, e = .returned (.agg #[.slice A ds.length c]) ∧ Fine 25 ds ∧ Rd w' w'.heap.size A ds.length c ds ∧ Below w.heap.size w w'
def NameOut (w : World) (e : Ending) (w' : World) : Prop :=
  ∃ A c ds s, e = .returned (.tuple #[.agg #[.slice A ds.length c], .string s]) ∧ Short s ∧ Fine 25 ds ∧ Rd w' w'.heap.size A ds.length c ds ∧ Below w.heap.size w w'
def NumOut (w : World) (e : Ending) (w' : World) : Prop :=
  ∃ A c ds x, e = .returned (.tuple #[.agg #[.slice A ds.length c], .int .i64 x]) ∧ Small x ∧ Fine 25 ds ∧ Rd w' w'.heap.size A ds.length c ds ∧ Below w.heap.size w w'

set_option maxHeartbeats 1000000 in
theorem drawValidEnum_any (A : Option Addr) (n c : Nat) (w : World) (hr : RdB w w.heap.size A n c) :
    Calls Try.prog 17 #[.slice A n c] w (EnumOut w) := by
  go_enter Try.func17, Try.ntmps17
  have b0 := below1 w (.cells #[.slice none 0 0] 28)
  have r := blk1 w #[.slice none 0 0] 28
  go_wp2_with fail
  refine (newReader_any A n c _ ((hr.below b0).more b0.size)).mono ?_
  rintro e w1 ⟨g, rfl, hr1, hb⟩
  replace r := r.below hb r.lt
  have hrl := r.lt
  have hg0 := hr1.1
  have hg1 := hr1.lt
  replace b0 := Below.on b0 hb b0.size
  clear hb hr
  go_wp2_with fail
  refine (someEnum_any _ g 0 _ (hr1.less (by omega))).mono ?_
  rintro e w2 ⟨v, ds, rfl, ho, hf, D⟩
  obtain ⟨A1, c1, rfl⟩ := ho.form
  have hne := ho.ne (p := w.heap.size) (.inl hrl)
  replace r := r.grown D.gr (by simp at hg0; omega)
  replace b0 := b0.trans (grown_below (base := w.heap.size) D.gr (by simp at hg0; omega) (by omega))
  have g0 := r.cell 0
  have f0 := r.frozen 0
  have hrl2 := r.lt
  have r2 : Blk (w2.setCell ⟨w.heap.size, 0, none⟩ (.slice A1 ds.length c1)) w.heap.size 28 #[.slice A1 ds.length c1] := r.set_ 0 (.slice A1 ds.length c1)
  have d0 := r2.cell 0
  have ho2 := ho.far hne (i := 0) (.slice A1 ds.length c1)
  obtain ⟨A2, c2, he, R⟩ := ho2.rd hf (by omega)
  simp only [Value.slice.injEq] at he
  obtain ⟨rfl, _, rfl⟩ := he
  have HH := Lib.hid (And.intro R (b0.setCell (p := ⟨w.heap.size, 0, none⟩) (Nat.le_refl _) (.slice A1 ds.length c1)))
  clear r r2 ho ho2 R D hne b0
  go_wp2
  obtain ⟨R, b0⟩ := HH.out
  exact bodyPost_ret (v := .agg #[.slice A1 ds.length c1]) (by simp [results, Try.results17, go_sem, d0]) rfl ⟨A1, c1, ds, rfl, hf, R, b0⟩

set_option maxHeartbeats 1000000 in
theorem drawIsUnique_any (A : Option Addr) (n c : Nat) (w : World) (hr : RdB w w.heap.size A n c) :
    Calls Try.prog 28 #[.slice A n c] w (EnumOut w) := by
  go_enter Try.func28, Try.ntmps28
  have b0 := below1 w (.cells #[.slice none 0 0] 28)
  have r := blk1 w #[.slice none 0 0] 28
  go_wp2_with fail
  refine (newReader_any A n c _ ((hr.below b0).more b0.size)).mono ?_
  rintro e w1 ⟨g, rfl, hr1, hb⟩
  replace r := r.below hb r.lt
  have hrl := r.lt
  have hg0 := hr1.1
  have hg1 := hr1.lt
  replace b0 := Below.on b0 hb b0.size
  clear hb hr
  go_wp2_with fail
  refine (someEnum_any _ g 0 _ (hr1.less (by omega))).mono ?_
  rintro e w2 ⟨v, ds, rfl, ho, hf, D⟩
  obtain ⟨A1, c1, rfl⟩ := ho.form
  have hne := ho.ne (p := w.heap.size) (.inl hrl)
  replace r := r.grown D.gr (by simp at hg0; omega)
  replace b0 := b0.trans (grown_below (base := w.heap.size) D.gr (by simp at hg0; omega) (by omega))
  have g0 := r.cell 0
  have f0 := r.frozen 0
  have hrl2 := r.lt
  have r2 : Blk (w2.setCell ⟨w.heap.size, 0, none⟩ (.slice A1 ds.length c1)) w.heap.size 28 #[.slice A1 ds.length c1] := r.set_ 0 (.slice A1 ds.length c1)
  have d0 := r2.cell 0
  have ho2 := ho.far hne (i := 0) (.slice A1 ds.length c1)
  obtain ⟨A2, c2, he, R⟩ := ho2.rd hf (by omega)
  simp only [Value.slice.injEq] at he
  obtain ⟨rfl, _, rfl⟩ := he
  have HH := Lib.hid (And.intro R (b0.setCell (p := ⟨w.heap.size, 0, none⟩) (Nat.le_refl _) (.slice A1 ds.length c1)))
  clear r r2 ho ho2 R D hne b0
  go_wp2
  obtain ⟨R, b0⟩ := HH.out
  exact bodyPost_ret (v := .agg #[.slice A1 ds.length c1]) (by simp [results, Try.results28, go_sem, d0]) rfl ⟨A1, c1, ds, rfl, hf, R, b0⟩

set_option maxHeartbeats 1000000 in
theorem drawValueOf_any (A : Option Addr) (n c : Nat) (w : World) (hr : RdB w w.heap.size A n c) :
    Calls Try.prog 23 #[.slice A n c] w (NameOut w) := by
  go_enter Try.func23, Try.ntmps23
  have b0 := below1 w (.cells #[.slice none 0 0] 28)
  have r := blk1 w #[.slice none 0 0] 28
  go_wp2_with fail
  refine (newReader_any A n c _ ((hr.below b0).more b0.size)).mono ?_
  rintro e w1 ⟨g, rfl, hr1, hb⟩
  replace r := r.below hb r.lt
  have hrl := r.lt
  have hg0 := hr1.1
  have hg1 := hr1.lt
  replace b0 := Below.on b0 hb b0.size
  clear hb hr
  go_wp2_with fail
  refine (nameIn_any _ g 0 _ (hr1.less (by omega))).mono ?_
  rintro e w2 ⟨v, s, ds, rfl, hs, ho, hf, D⟩
  obtain ⟨A1, c1, rfl⟩ := ho.form
  have hne := ho.ne (p := w.heap.size) (.inl hrl)
  replace r := r.grown D.gr (by simp at hg0; omega)
  replace b0 := b0.trans (grown_below (base := w.heap.size) D.gr (by simp at hg0; omega) (by omega))
  have g0 := r.cell 0
  have f0 := r.frozen 0
  have hrl2 := r.lt
  have r2 : Blk (w2.setCell ⟨w.heap.size, 0, none⟩ (.slice A1 ds.length c1)) w.heap.size 28 #[.slice A1 ds.length c1] := r.set_ 0 (.slice A1 ds.length c1)
  have d0 := r2.cell 0
  have ho2 := ho.far hne (i := 0) (.slice A1 ds.length c1)
  obtain ⟨A2, c2, he, R⟩ := ho2.rd hf (by omega)
  simp only [Value.slice.injEq] at he
  obtain ⟨rfl, _, rfl⟩ := he
  have HH := Lib.hid (And.intro R (b0.setCell (p := ⟨w.heap.size, 0, none⟩) (Nat.le_refl _) (.slice A1 ds.length c1)))
  clear r r2 ho ho2 R D hne b0
  go_wp2
  obtain ⟨R, b0⟩ := HH.out
  exact bodyPost_ret (v := .tuple #[.agg #[.slice A1 ds.length c1], .string s]) (by simp [results, Try.results23, go_sem, d0]) rfl ⟨A1, c1, ds, s, rfl, hs, hf, R, b0⟩

set_option maxHeartbeats 1000000 in
theorem drawRankOf_any (A : Option Addr) (n c : Nat) (w : World) (hr : RdB w w.heap.size A n c) :
    Calls Try.prog 31 #[.slice A n c] w (NameOut w) := by
  go_enter Try.func31, Try.ntmps31
  have b0 := below1 w (.cells #[.slice none 0 0] 28)
  have r := blk1 w #[.slice none 0 0] 28
  go_wp2_with fail
  refine (newReader_any A n c _ ((hr.below b0).more b0.size)).mono ?_
  rintro e w1 ⟨g, rfl, hr1, hb⟩
  replace r := r.below hb r.lt
  have hrl := r.lt
  have hg0 := hr1.1
  have hg1 := hr1.lt
  replace b0 := Below.on b0 hb b0.size
  clear hb hr
  go_wp2_with fail
  refine (nameIn_any _ g 0 _ (hr1.less (by omega))).mono ?_
  rintro e w2 ⟨v, s, ds, rfl, hs, ho, hf, D⟩
  obtain ⟨A1, c1, rfl⟩ := ho.form
  have hne := ho.ne (p := w.heap.size) (.inl hrl)
  replace r := r.grown D.gr (by simp at hg0; omega)
  replace b0 := b0.trans (grown_below (base := w.heap.size) D.gr (by simp at hg0; omega) (by omega))
  have g0 := r.cell 0
  have f0 := r.frozen 0
  have hrl2 := r.lt
  have r2 : Blk (w2.setCell ⟨w.heap.size, 0, none⟩ (.slice A1 ds.length c1)) w.heap.size 28 #[.slice A1 ds.length c1] := r.set_ 0 (.slice A1 ds.length c1)
  have d0 := r2.cell 0
  have ho2 := ho.far hne (i := 0) (.slice A1 ds.length c1)
  obtain ⟨A2, c2, he, R⟩ := ho2.rd hf (by omega)
  simp only [Value.slice.injEq] at he
  obtain ⟨rfl, _, rfl⟩ := he
  have HH := Lib.hid (And.intro R (b0.setCell (p := ⟨w.heap.size, 0, none⟩) (Nat.le_refl _) (.slice A1 ds.length c1)))
  clear r r2 ho ho2 R D hne b0
  go_wp2
  obtain ⟨R, b0⟩ := HH.out
  exact bodyPost_ret (v := .tuple #[.agg #[.slice A1 ds.length c1], .string s]) (by simp [results, Try.results31, go_sem, d0]) rfl ⟨A1, c1, ds, s, rfl, hs, hf, R, b0⟩

set_option maxHeartbeats 1000000 in
theorem drawOtherNames_any (A : Option Addr) (n c : Nat) (w : World) (hr : RdB w w.heap.size A n c) :
    Calls Try.prog 34 #[.slice A n c] w (NameOut w) := by
  go_enter Try.func34, Try.ntmps34
  have b0 := below1 w (.cells #[.slice none 0 0] 28)
  have r := blk1 w #[.slice none 0 0] 28
  go_wp2_with fail
  refine (newReader_any A n c _ ((hr.below b0).more b0.size)).mono ?_
  rintro e w1 ⟨g, rfl, hr1, hb⟩
  replace r := r.below hb r.lt
  have hrl := r.lt
  have hg0 := hr1.1
  have hg1 := hr1.lt
  replace b0 := Below.on b0 hb b0.size
  clear hb hr
  go_wp2_with fail
  refine (nameIn_any _ g 0 _ (hr1.less (by omega))).mono ?_
  rintro e w2 ⟨v, s, ds, rfl, hs, ho, hf, D⟩
  obtain ⟨A1, c1, rfl⟩ := ho.form
  have hne := ho.ne (p := w.heap.size) (.inl hrl)
  replace r := r.grown D.gr (by simp at hg0; omega)
  replace b0 := b0.trans (grown_below (base := w.heap.size) D.gr (by simp at hg0; omega) (by omega))
  have g0 := r.cell 0
  have f0 := r.frozen 0
  have hrl2 := r.lt
  have r2 : Blk (w2.setCell ⟨w.heap.size, 0, none⟩ (.slice A1 ds.length c1)) w.heap.size 28 #[.slice A1 ds.length c1] := r.set_ 0 (.slice A1 ds.length c1)
  have d0 := r2.cell 0
  have ho2 := ho.far hne (i := 0) (.slice A1 ds.length c1)
  obtain ⟨A2, c2, he, R⟩ := ho2.rd hf (by omega)
  simp only [Value.slice.injEq] at he
  obtain ⟨rfl, _, rfl⟩ := he
  have HH := Lib.hid (And.intro R (b0.setCell (p := ⟨w.heap.size, 0, none⟩) (Nat.le_refl _) (.slice A1 ds.length c1)))
  clear r r2 ho ho2 R D hne b0
  go_wp2
  obtain ⟨R, b0⟩ := HH.out
  exact bodyPost_ret (v := .tuple #[.agg #[.slice A1 ds.length c1], .string s]) (by simp [results, Try.results34, go_sem, d0]) rfl ⟨A1, c1, ds, s, rfl, hs, hf, R, b0⟩

set_option maxRecDepth 100000 in
set_option maxHeartbeats 4000000 in
theorem drawNameOf_any (A : Option Addr) (n c : Nat) (w : World) (hr : RdB w w.heap.size A n c) :
    Calls Try.prog 25 #[.slice A n c] w (NumOut w) := by
  go_enter Try.func25, Try.ntmps25
  have b0 := below1 w (.cells #[.slice none 0 0] 28)
  have r := blk1 w #[.slice none 0 0] 28
  go_wp2_with fail
  refine (newReader_any A n c _ ((hr.below b0).more b0.size)).mono ?_
  rintro e w1 ⟨g, rfl, hr1, hb⟩
  replace r := r.below hb r.lt
  have hrl := r.lt
  have hg0 := hr1.1
  have hg1 := hr1.lt
  replace b0 := Below.on b0 hb b0.size
  clear hb hr
  go_wp2_with fail
  refine (someEnum_any _ g 2 _ (hr1.less (by omega))).mono ?_
  rintro e w2 ⟨v, ds, rfl, ho, hf, D⟩
  have hw2 := D.size
  have q := blk1 w2 #[v] 28
  replace ho := ho.alloc (.cells #[v] 28)
  replace D := D.alloc (.cells #[v] 28)
  have hgq : g < w2.heap.size := by omega
  have hne1 : ¬ w2.heap.size = w.heap.size := by omega
  have hne2 : ¬ w.heap.size = w2.heap.size := by omega
  by_cases hn : 0 < ds.length
  · obtain ⟨bb, c1, rfl, hb0, hb1, hcc0, hcc1⟩ := ho.some hn
    have c0 := q.cell 0
    go_wp2_with fail
    refine (pick_any _ g 1 _ _ D.rd).mono ?_
    rintro e w3 ⟨x, rfl, hx0, hx1, hr, hg⟩
    replace D := D.draw hr hg
    replace q := q.gr hg (by omega)
    replace ho := ho.draw hg (by omega)
    replace c0 := q.cell 0
    have hs3 := q.lt
    clear hr hg hx1
    by_cases hx : 0 < x
    · go_wp2_with fail
      replace D := D.drew
      replace q := q.drew
      replace ho := ho.drew
      have hall := own_all ho rfl
      go_region_held3 (fun w' => w'.cell? ⟨w2.heap.size, 0, none⟩ = some (.slice (some ⟨bb, 0, none⟩) ds.length c1) ∧ ∀ i : Nat, i < ds.length → w'.cell? ⟨bb, i * 2, none⟩ = some (.string (nth ds i).1) ∧ w'.cell? ⟨bb, i * 2 + 1, none⟩ = some (.int .i64 (nth ds i).2)) (first | exact ⟨c0, hall⟩ | exact ⟨cell_far c0 (by omega), fun i hi => ⟨cell_far (hall i hi).1 (by omega), cell_far (hall i hi).2 (by omega)⟩⟩)
        (first | (go_at_call 66; refine (pick_any _ g 0 _ _ D.rd).mono ?_; rintro e w4 ⟨kk, rfl, hk0, hk1, hr, hg⟩; replace hk1 := hk1 (by omega); obtain ⟨kk, rfl⟩ := Int.eq_ofNat_of_zero_le hk0; replace D := D.draw hr hg; replace q := q.gr hg (by omega); replace ho := ho.draw hg (by omega); replace c0 := q.cell 0; have hkl : kk < ds.length := (by omega); replace hall := own_all ho rfl; have g0 := (r.grown D.gr (by simp at hg0; omega)).cell 0; have f0 := (r.grown D.gr (by simp at hg0; omega)).frozen 0; clear hr hg))
      have hy : Small (nth ds kk).2 := (hf.nth hkl).2
      clear hall q c0 g0 f0
      obtain ⟨A1, hA1⟩ : ∃ A1 : Option Addr, A1 = some ⟨bb, 0, none⟩ := ⟨_, rfl⟩
      rw [← hA1] at ho
      rw [← hA1]
      clear hA1
      have hne := ho.ne (p := w.heap.size) (.inl hrl)
      replace r := r.grown D.gr (by simp at hg0; omega)
      replace b0 := b0.trans (grown_below (base := w.heap.size) D.gr (by simp at hg0; omega) (by omega))
      have g0 := r.cell 0
      have f0 := r.frozen 0
      have hrl2 := r.lt
      have r2 : Blk (w4.setCell ⟨w.heap.size, 0, none⟩ (.slice A1 ds.length c1)) w.heap.size 28 #[.slice A1 ds.length c1] := r.set_ 0 (.slice A1 ds.length c1)
      have d0 := r2.cell 0
      have ho2 := ho.far hne (i := 0) (.slice A1 ds.length c1)
      obtain ⟨A2, c2, he, R⟩ := ho2.rd hf (by omega)
      simp only [Value.slice.injEq] at he
      obtain ⟨rfl, _, rfl⟩ := he
      have HH := Lib.hid (And.intro R (b0.setCell (p := ⟨w.heap.size, 0, none⟩) (Nat.le_refl _) (.slice A1 ds.length c1)))
      clear r r2 ho ho2 R D hne b0
      go_wp2
      obtain ⟨R, b0⟩ := HH.out
      exact bodyPost_ret (v := .tuple #[.agg #[.slice A1 ds.length c1], .int .i64 (nth ds kk).2]) (by simp [results, Try.results25, go_sem, d0]) rfl ⟨A1, c1, ds, _, rfl, hy, hf, R, b0⟩
    · go_wp2_with fail
      replace D := D.drew
      replace q := q.drew
      replace ho := ho.drew
      go_region_held3 (fun w' => w'.cell? ⟨w2.heap.size, 0, none⟩ = some (.slice (some ⟨bb, 0, none⟩) ds.length c1)) (first | exact c0 | exact cell_far c0 (by omega) | exact (q.alloc _).cell 0)
        (first | (go_at_call 67; refine (one_any Small _ g 0 w3.heap.size 5 5 _ (by decide) (by decide) (by omega) (by exact cellsI (blk1 _ _ _) rfl (by rfl)) ((D.less (k' := 0 + 1) (by omega)).alloc _).rd).mono ?_; rintro e w4 ⟨y, rfl, hy, hr, hg⟩; replace D := ((D.less (k' := 0 + 1) (by omega)).alloc _).draw hr hg; replace q := (q.alloc _).gr hg (by omega); replace ho := (ho.alloc _).draw hg (by omega); replace c0 := q.cell 0; have g0 := (r.grown D.gr (by simp at hg0; omega)).cell 0; have f0 := (r.grown D.gr (by simp at hg0; omega)).frozen 0; clear hr hg))
      clear q c0 g0 f0
      obtain ⟨A1, hA1⟩ : ∃ A1 : Option Addr, A1 = some ⟨bb, 0, none⟩ := ⟨_, rfl⟩
      rw [← hA1] at ho
      rw [← hA1]
      clear hA1
      have hne := ho.ne (p := w.heap.size) (.inl hrl)
      replace r := r.grown D.gr (by simp at hg0; omega)
      replace b0 := b0.trans (grown_below (base := w.heap.size) D.gr (by simp at hg0; omega) (by omega))
      have g0 := r.cell 0
      have f0 := r.frozen 0
      have hrl2 := r.lt
      have r2 : Blk (w4.setCell ⟨w.heap.size, 0, none⟩ (.slice A1 ds.length c1)) w.heap.size 28 #[.slice A1 ds.length c1] := r.set_ 0 (.slice A1 ds.length c1)
      have d0 := r2.cell 0
      have ho2 := ho.far hne (i := 0) (.slice A1 ds.length c1)
      obtain ⟨A2, c2, he, R⟩ := ho2.rd hf (by omega)
      simp only [Value.slice.injEq] at he
      obtain ⟨rfl, _, rfl⟩ := he
      have HH := Lib.hid (And.intro R (b0.setCell (p := ⟨w.heap.size, 0, none⟩) (Nat.le_refl _) (.slice A1 ds.length c1)))
      clear r r2 ho ho2 R D hne b0
      go_wp2
      obtain ⟨R, b0⟩ := HH.out
      exact bodyPost_ret (v := .tuple #[.agg #[.slice A1 ds.length c1], .int .i64 y]) (by simp [results, Try.results25, go_sem, d0]) rfl ⟨A1, c1, ds, _, rfl, hy, hf, R, b0⟩
  · obtain ⟨A1, c1, rfl⟩ := ho.form
    obtain rfl : ds = [] := List.eq_nil_of_length_eq_zero (by omega)
    replace ho : Own (w2.alloc (.cells #[.slice A1 0 c1] 28)) w1.heap.size 68 (.slice A1 0 c1) [] := ho
    replace q : Blk (w2.alloc (.cells #[.slice A1 0 c1] 28)) w2.heap.size 28 #[.slice A1 0 c1] := q
    replace D : DS w1 (w.alloc (.cells #[.slice none 0 0] 28)).heap.size g 88 2 (w2.alloc (.cells #[.slice A1 0 c1] 28)) := D
    clear hn
    have c0 := q.cell 0
    go_wp2_with fail
    obtain ⟨w3, hw3⟩ : ∃ w3, w3 = w2.alloc (.cells #[.slice A1 0 c1] 28) := ⟨_, rfl⟩
    have hs3 := q.lt
    rw [← hw3] at D q ho c0 hs3
    rw [← hw3]
    clear hw3
    replace D := D.drew
    replace q := q.drew
    replace ho := ho.drew
    go_region_held3 (fun w' => w'.cell? ⟨w2.heap.size, 0, none⟩ = some (.slice A1 0 c1)) (first | exact c0 | exact cell_far c0 (by omega) | exact (q.alloc _).cell 0)
      (first | (go_at_call 67; refine (one_any Small _ g 0 w3.heap.size 5 5 _ (by decide) (by decide) (by omega) (by exact cellsI (blk1 _ _ _) rfl (by rfl)) ((D.less (k' := 0 + 1) (by omega)).alloc _).rd).mono ?_; rintro e w4 ⟨y, rfl, hy, hr, hg⟩; replace D := ((D.less (k' := 0 + 1) (by omega)).alloc _).draw hr hg; replace q := (q.alloc _).gr hg (by omega); replace ho := (ho.alloc _).draw hg (by omega); replace c0 := q.cell 0; have g0 := (r.grown D.gr (by simp at hg0; omega)).cell 0; have f0 := (r.grown D.gr (by simp at hg0; omega)).frozen 0; clear hr hg))
    clear q c0 g0 f0
    have hne := ho.ne (p := w.heap.size) (.inl hrl)
    replace r := r.grown D.gr (by simp at hg0; omega)
    replace b0 := b0.trans (grown_below (base := w.heap.size) D.gr (by simp at hg0; omega) (by omega))
    have g0 := r.cell 0
    have f0 := r.frozen 0
    have hrl2 := r.lt
    have r2 : Blk (w4.setCell ⟨w.heap.size, 0, none⟩ (.slice A1 0 c1)) w.heap.size 28 #[.slice A1 0 c1] := r.set_ 0 (.slice A1 0 c1)
    have d0 := r2.cell 0
    have ho2 := ho.far hne (i := 0) (.slice A1 0 c1)
    obtain ⟨A2, c2, he, R⟩ := ho2.rd hf (by omega)
    simp only [Value.slice.injEq] at he
    obtain ⟨rfl, _, rfl⟩ := he
    have HH := Lib.hid (And.intro R (b0.setCell (p := ⟨w.heap.size, 0, none⟩) (Nat.le_refl _) (.slice A1 0 c1)))
    clear r r2 ho ho2 R D hne b0
    go_wp2
    obtain ⟨R, b0⟩ := HH.out
    exact bodyPost_ret (v := .tuple #[.agg #[.slice A1 0 c1], .int .i64 y]) (by simp [results, Try.results25, go_sem, d0]) rfl ⟨A1, c1, [], _, rfl, hy, hf, R, b0⟩
end Go.Proofs.Ytpnicgagmopilaa
