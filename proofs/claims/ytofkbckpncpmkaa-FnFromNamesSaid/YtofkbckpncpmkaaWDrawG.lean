/-
  The walks of the draws of classes of flags with a bound, with a value, with the value of a name.
-/
import Derived.Test.YtofkbckpncpmkaaWDrawF
import Derived.Test.YtofkbckpncpmkaaMemE
import Derived.Deep.RegionHeld3
import Derived.Deep.DrawnRows
namespace Go.Proofs.Ytofkbckpncpmkaa
open Go.RowKit
attribute [local go_sem ↓] Go.wp_at_zero Go.wp_at_succ

theorem cell_far2 {w : World} {b o p i : Nat} {x : Option Value} {u : Value} (h : w.cell? ⟨b, o, none⟩ = x) (hne : b ≠ p) : (w.setCell ⟨p, i, none⟩ u).cell? ⟨b, o, none⟩ = x :=
  (World.cell?_of_block (w := w) (a := ⟨b, o, none⟩) (Below.heap_setCell w ⟨p, i, none⟩ u b hne)).trans h
set_option maxHeartbeats 1000000 in
theorem drawWithBound_any (A : Option Addr) (n c : Nat) (w : World) (hr : RdB w w.heap.size A n c) :
    Calls Try.prog 25 #[.slice A n c] w (ValOut w) := by
  go_enter Try.func25, Try.ntmps25
  have b0 := below1 w (.cells #[.slice none 0 0, .int .i64 0] 25)
  have r := blk1 w #[.slice none 0 0, .int .i64 0] 25
  go_wp2_with fail
  refine (newReader_any A n c _ ((hr.below b0).more b0.size)).mono ?_
  rintro e w1 ⟨g, rfl, hr1, hb⟩
  replace r := r.below hb r.lt
  have hrl := r.lt
  have hg0 := hr1.1
  have hg1 := hr1.lt
  replace b0 := Below.on b0 hb b0.size
  clear hb hr
  go_wp2_with fail
  refine (someFlag_any _ g 1 _ (hr1.less (by omega))).mono ?_
  rintro e w2 ⟨v, z, ds, rfl, hz, ho, hf, D⟩
  obtain ⟨A1, cc, rfl, _, _, hA⟩ := ho.toC.cap
  have hw2 := D.size
  go_wp2_with fail
  refine (one_any Small _ g 0 w2.heap.size 6 6 _ (by omega) (by omega) (by omega) (cellsI (blk1 w2 _ _) rfl (by rfl)) (D.alloc _).rd).mono ?_
  rintro e w3 ⟨x, rfl, hx, hr, hg⟩
  replace D := (D.alloc _).draw hr hg
  replace ho := (ho.alloc _).draw hg (by omega)
  clear hr hg
  have hne := ho.ne (p := w.heap.size) (.inl hrl)
  replace r := r.grown D.gr (by simp at hg0; omega)
  replace b0 := b0.trans (grown_below (base := w.heap.size) D.gr (by simp at hg0; omega) (by omega))
  have g0 := r.cell 0
  have g1 := r.cell 1
  have f0 := r.frozen 0
  have f1 := r.frozen 1
  have hrl2 := r.lt
  have r2 : Blk ((w3.setCell ⟨w.heap.size, 0, none⟩ (.slice A1 ds.length cc)).setCell ⟨w.heap.size, 1, none⟩ (.int .i64 z)) w.heap.size 25 #[.slice A1 ds.length cc, .int .i64 z] := (r.set_ 0 (.slice A1 ds.length cc)).set_ 1 (.int .i64 z)
  have d0 := r2.cell 0
  have d1 := r2.cell 1
  have ho2 := (ho.far hne (i := 0) (.slice A1 ds.length cc)).far hne (i := 1) (.int .i64 z)
  obtain ⟨A2, c2, he, R⟩ := ho2.rd hf (by omega)
  simp only [Value.slice.injEq] at he
  obtain ⟨rfl, _, rfl⟩ := he
  have HH := Lib.hid (And.intro R ((b0.setCell (p := ⟨w.heap.size, 0, none⟩) (Nat.le_refl _) (.slice A1 ds.length cc)).setCell (p := ⟨w.heap.size, 1, none⟩) (Nat.le_refl _) (.int .i64 z)))
  clear r r2 ho ho2 R D hne b0
  go_wp2
  obtain ⟨R, b0⟩ := HH.out
  exact bodyPost_ret (v := .tuple #[.agg #[.slice A1 ds.length cc, .int .i64 z], .int .i64 x]) (by simp [results, Try.results25, go_sem, d0, d1]) rfl ⟨A1, cc, ds, z, x, rfl, hz, hx, hA, hf, R, b0⟩
set_option maxHeartbeats 4000000 in
theorem valueIn_any (base g k : Nat) (w : World) (hr : Rdr w base g 78 (k + 75)) :
    Calls Try.prog 73 #[.pointer (some ⟨g, 0, none⟩)] w (ValDrawn w base g k 13) := by
  have D := (DS.start hr).alloc (.cells #[.slice none 0 0, .int .i64 0] 25)
  have r := blk1 w #[.slice none 0 0, .int .i64 0] 25
  have hgl := hr.lt
  clear hr
  go_enter Try.func73, Try.ntmps73
  go_wp2_with fail
  refine (someFlag_any base g (k + 5) _ D.rd).mono ?_
  rintro e w1 ⟨v, z, ds, rfl, hz, ho, hf, h1⟩
  replace D := D.trans h1
  replace r := r.gr h1.gr (by omega)
  replace ho := ho.base (B' := w.heap.size + 1) (by simp)
  obtain ⟨A, c, rfl⟩ := ho.form
  have q := blk1 w1 #[.slice A ds.length c, .int .i64 z] 25
  have hs1 := r.lt
  replace r := r.alloc (.cells #[.slice A ds.length c, .int .i64 z] 25)
  replace D := D.alloc (.cells #[.slice A ds.length c, .int .i64 z] 25)
  replace ho := ho.alloc (.cells #[.slice A ds.length c, .int .i64 z] 25)
  have c0 := q.cell 0
  have c1 := q.cell 1
  have HF := Lib.hid hf
  clear h1 hf
  go_wp2_with fail
  replace D := D.drew
  replace q := q.drew
  replace r := r.drew
  replace ho := ho.drew
  go_region_held3 (fun w' => w'.cell? ⟨w1.heap.size, 0, none⟩ = some (.slice A ds.length c) ∧ w'.cell? ⟨w1.heap.size, 1, none⟩ = some (.int .i64 z)) (first | exact ⟨c0, c1⟩ | exact ⟨cell_far2 (cell_far2 c0 (by omega)) (by omega), cell_far2 (cell_far2 c1 (by omega)) (by omega)⟩)
    (first | (go_at_call 99; refine (aValue_any (w.heap.size + 1) A c ds z base g k _ D.rd (by omega) ho HF.out).mono ?_; rintro e w2 ⟨x, rfl, hx, hr, hg⟩; replace D := D.draw hr hg; replace q := q.gr hg (by omega); replace r := r.gr hg (by omega); replace ho := ho.draw hg (by omega); replace c0 := q.cell 0; replace c1 := q.cell 1; have g0 := r.cell 0; have g1 := r.cell 1; have f0 := r.frozen 0; have f1 := r.frozen 1; clear hr hg))
  have r2 : Blk ((w2.setCell ⟨w.heap.size, 0, none⟩ (.slice A ds.length c)).setCell ⟨w.heap.size, 1, none⟩ (.int .i64 z)) w.heap.size 25 #[.slice A ds.length c, .int .i64 z] := (r.set_ 0 (.slice A ds.length c)).set_ 1 (.int .i64 z)
  have d0 := r2.cell 0
  have d1 := r2.cell 1
  have hne := ho.ne (p := w.heap.size) (.inl (by omega))
  have HH := Lib.hid (And.intro (((ho.far hne (i := 0) (.slice A ds.length c)).far hne (i := 1) (.int .i64 z)).base (B' := w.heap.size) (by omega)) ((D.set (i := 0) (Nat.le_refl _) (.slice A ds.length c)).set (i := 1) (Nat.le_refl _) (.int .i64 z)))
  clear q r r2 ho D hne
  go_wp2
  obtain ⟨ho, D⟩ := HH.out
  exact bodyPost_ret (v := .tuple #[.agg #[.slice A ds.length c, .int .i64 z], .int .i64 x]) (by simp [results, Try.results73, go_sem, d0, d1]) rfl ⟨_, z, x, ds, rfl, hz, hx, ho, HF.out, D⟩
set_option maxHeartbeats 1000000 in
theorem drawIsValue_any (A : Option Addr) (n c : Nat) (w : World) (hr : RdB w w.heap.size A n c) :
    Calls Try.prog 34 #[.slice A n c] w (ValOut w) := by
  go_enter Try.func34, Try.ntmps34
  have b0 := below1 w (.cells #[.slice none 0 0, .int .i64 0] 25)
  have r := blk1 w #[.slice none 0 0, .int .i64 0] 25
  go_wp2_with fail
  refine (newReader_any A n c _ ((hr.below b0).more b0.size)).mono ?_
  rintro e w1 ⟨g, rfl, hr1, hb⟩
  replace r := r.below hb r.lt
  have hrl := r.lt
  have hg0 := hr1.1
  have hg1 := hr1.lt
  replace b0 := Below.on b0 hb b0.size
  clear hb hr
  go_wp2_with fail
  refine (valueIn_any _ g 0 _ (hr1.less (by omega))).mono ?_
  rintro e w2 ⟨v, z, x, ds, rfl, hz, hx, ho, hf, D⟩
  obtain ⟨A1, cc, rfl, _, _, hA⟩ := ho.toC.cap
  have hne := ho.ne (p := w.heap.size) (.inl hrl)
  replace r := r.grown D.gr (by simp at hg0; omega)
  replace b0 := b0.trans (grown_below (base := w.heap.size) D.gr (by simp at hg0; omega) (by omega))
  have g0 := r.cell 0
  have g1 := r.cell 1
  have f0 := r.frozen 0
  have f1 := r.frozen 1
  have hrl2 := r.lt
  have r2 : Blk ((w2.setCell ⟨w.heap.size, 0, none⟩ (.slice A1 ds.length cc)).setCell ⟨w.heap.size, 1, none⟩ (.int .i64 z)) w.heap.size 25 #[.slice A1 ds.length cc, .int .i64 z] := (r.set_ 0 (.slice A1 ds.length cc)).set_ 1 (.int .i64 z)
  have d0 := r2.cell 0
  have d1 := r2.cell 1
  have ho2 := (ho.far hne (i := 0) (.slice A1 ds.length cc)).far hne (i := 1) (.int .i64 z)
  obtain ⟨A2, c2, he, R⟩ := ho2.rd hf (by omega)
  simp only [Value.slice.injEq] at he
  obtain ⟨rfl, _, rfl⟩ := he
  have HH := Lib.hid (And.intro R ((b0.setCell (p := ⟨w.heap.size, 0, none⟩) (Nat.le_refl _) (.slice A1 ds.length cc)).setCell (p := ⟨w.heap.size, 1, none⟩) (Nat.le_refl _) (.int .i64 z)))
  clear r r2 ho ho2 R D hne b0
  go_wp2
  obtain ⟨R, b0⟩ := HH.out
  exact bodyPost_ret (v := .tuple #[.agg #[.slice A1 ds.length cc, .int .i64 z], .int .i64 x]) (by simp [results, Try.results34, go_sem, d0, d1]) rfl ⟨A1, cc, ds, z, x, rfl, hz, hx, hA, hf, R, b0⟩
theorem own_all2 {w : World} {B b n c : Nat} {t : TypeId} {ds : List D} (h : Own w B t (.slice (some ⟨b, 0, none⟩) n c) ds) (hn : n = ds.length) : ∀ i : Nat, i < ds.length → w.cell? ⟨b, i * 2, none⟩ = some (.string (nth ds i).1) ∧ w.cell? ⟨b, i * 2 + 1, none⟩ = some (.int .i64 (nth ds i).2) := fun _ hi => h.cells hn hi
set_option maxRecDepth 100000 in
set_option maxHeartbeats 4000000 in
theorem drawExactName_any (A : Option Addr) (n c : Nat) (w : World) (hr : RdB w w.heap.size A n c) :
    Calls Try.prog 21 #[.slice A n c] w (ValOut w) := by
  go_enter Try.func21, Try.ntmps21
  have b0 := below1 w (.cells #[.slice none 0 0, .int .i64 0] 25)
  have r := blk1 w #[.slice none 0 0, .int .i64 0] 25
  go_wp2_with fail
  refine (newReader_any A n c _ ((hr.below b0).more b0.size)).mono ?_
  rintro e w1 ⟨g, rfl, hr1, hb⟩
  replace r := r.below hb r.lt
  have hrl := r.lt
  have hg0 := hr1.1
  have hg1 := hr1.lt
  replace b0 := Below.on b0 hb b0.size
  clear hb hr
  go_wp2_with fail
  refine (someFlag_any _ g 2 _ (hr1.less (by omega))).mono ?_
  rintro e w2 ⟨v, z, ds, rfl, hz, ho, hf, D⟩
  have hw2 := D.size
  have q := blk1 w2 #[v, .int .i64 z] 25
  replace ho := ho.alloc (.cells #[v, .int .i64 z] 25)
  replace D := D.alloc (.cells #[v, .int .i64 z] 25)
  have hgq : g < w2.heap.size := by omega
  have hne1 : ¬ w2.heap.size = w.heap.size := by omega
  have hne2 : ¬ w.heap.size = w2.heap.size := by omega
  by_cases hn : 0 < ds.length
  · obtain ⟨bb, cc, rfl, hb0, hb1, hcc0, hcc1⟩ := ho.some hn
    have c0 := q.cell 0
    have c1 := q.cell 1
    go_wp2_with fail
    refine (pick_any _ g 1 _ _ D.rd).mono ?_
    rintro e w3 ⟨x, rfl, hx0, hx1, hr, hg⟩
    replace D := D.draw hr hg
    replace q := q.gr hg (by omega)
    replace ho := ho.draw hg (by omega)
    replace c0 := q.cell 0
    replace c1 := q.cell 1
    have hs3 := q.lt
    clear hr hg hx1
    by_cases hx : 0 < x
    · go_wp2_with fail
      replace D := D.drew
      replace q := q.drew
      replace ho := ho.drew
      have hall := own_all2 ho rfl
      go_region_held3 (fun w' => (w'.cell? ⟨w2.heap.size, 0, none⟩ = some (.slice (some ⟨bb, 0, none⟩) ds.length cc) ∧ w'.cell? ⟨w2.heap.size, 1, none⟩ = some (.int .i64 z)) ∧ ∀ i : Nat, i < ds.length → w'.cell? ⟨bb, i * 2, none⟩ = some (.string (nth ds i).1) ∧ w'.cell? ⟨bb, i * 2 + 1, none⟩ = some (.int .i64 (nth ds i).2)) (first | exact ⟨⟨c0, c1⟩, hall⟩ | exact ⟨⟨cell_far2 (cell_far2 c0 (by omega)) (by omega), cell_far2 (cell_far2 c1 (by omega)) (by omega)⟩, fun i hi => ⟨cell_far2 (cell_far2 (hall i hi).1 (by omega)) (by omega), cell_far2 (cell_far2 (hall i hi).2 (by omega)) (by omega)⟩⟩)
        (first | (go_at_call 64; refine (pick_any _ g 0 _ _ D.rd).mono ?_; rintro e w4 ⟨kk, rfl, hk0, hk1, hr, hg⟩; replace hk1 := hk1 (by omega); obtain ⟨kk, rfl⟩ := Int.eq_ofNat_of_zero_le hk0; replace D := D.draw hr hg; replace q := q.gr hg (by omega); replace ho := ho.draw hg (by omega); replace c0 := q.cell 0; replace c1 := q.cell 1; have hkl : kk < ds.length := (by omega); replace hall := own_all2 ho rfl; have g0 := (r.grown D.gr (by simp at hg0; omega)).cell 0; have g1 := (r.grown D.gr (by simp at hg0; omega)).cell 1; have f0 := (r.grown D.gr (by simp at hg0; omega)).frozen 0; have f1 := (r.grown D.gr (by simp at hg0; omega)).frozen 1; clear hr hg))
      have hy : Small (nth ds kk).2 := (hf.nth hkl).2
      clear hall q c0 c1 g0 g1 f0 f1
      obtain ⟨A1, hA1⟩ : ∃ A1 : Option Addr, A1 = some ⟨bb, 0, none⟩ := ⟨_, rfl⟩
      rw [← hA1] at ho
      rw [← hA1]
      have hA : A1 = none → cc = 0 := fun h => by rw [h] at hA1; cases hA1
      clear hA1
      have hne := ho.ne (p := w.heap.size) (.inl hrl)
      replace r := r.grown D.gr (by simp at hg0; omega)
      replace b0 := b0.trans (grown_below (base := w.heap.size) D.gr (by simp at hg0; omega) (by omega))
      have g0 := r.cell 0
      have g1 := r.cell 1
      have f0 := r.frozen 0
      have f1 := r.frozen 1
      have hrl2 := r.lt
      have r2 : Blk ((w4.setCell ⟨w.heap.size, 0, none⟩ (.slice A1 ds.length cc)).setCell ⟨w.heap.size, 1, none⟩ (.int .i64 z)) w.heap.size 25 #[.slice A1 ds.length cc, .int .i64 z] := (r.set_ 0 (.slice A1 ds.length cc)).set_ 1 (.int .i64 z)
      have d0 := r2.cell 0
      have d1 := r2.cell 1
      have ho2 := (ho.far hne (i := 0) (.slice A1 ds.length cc)).far hne (i := 1) (.int .i64 z)
      obtain ⟨A2, c2, he, R⟩ := ho2.rd hf (by omega)
      simp only [Value.slice.injEq] at he
      obtain ⟨rfl, _, rfl⟩ := he
      have HH := Lib.hid (And.intro R ((b0.setCell (p := ⟨w.heap.size, 0, none⟩) (Nat.le_refl _) (.slice A1 ds.length cc)).setCell (p := ⟨w.heap.size, 1, none⟩) (Nat.le_refl _) (.int .i64 z)))
      clear r r2 ho ho2 R D hne b0
      go_wp2
      obtain ⟨R, b0⟩ := HH.out
      exact bodyPost_ret (v := .tuple #[.agg #[.slice A1 ds.length cc, .int .i64 z], .int .i64 (nth ds kk).2]) (by simp [results, Try.results21, go_sem, d0, d1]) rfl ⟨A1, cc, ds, z, _, rfl, hz, hy, hA, hf, R, b0⟩
    · go_wp2_with fail
      replace D := D.drew
      replace q := q.drew
      replace ho := ho.drew
      go_region_held3 (fun w' => w'.cell? ⟨w2.heap.size, 0, none⟩ = some (.slice (some ⟨bb, 0, none⟩) ds.length cc) ∧ w'.cell? ⟨w2.heap.size, 1, none⟩ = some (.int .i64 z)) (first | exact ⟨c0, c1⟩ | exact ⟨cell_far2 (cell_far2 c0 (by omega)) (by omega), cell_far2 (cell_far2 c1 (by omega)) (by omega)⟩ | exact ⟨(q.alloc _).cell 0, (q.alloc _).cell 1⟩)
        (first |
        (go_at_call 65; refine (one_any Small _ g 0 w3.heap.size 5 5 _ (by decide) (by decide) (by omega) (by exact cellsI (blk1 _ _ _) rfl (by rfl)) ((D.less (k' := 0 + 1) (by omega)).alloc _).rd).mono ?_; rintro e w4 ⟨y, rfl, hy, hr, hg⟩; replace D := ((D.less (k' := 0 + 1) (by omega)).alloc _).draw hr hg; replace q := (q.alloc _).gr hg (by omega); replace ho := (ho.alloc _).draw hg (by omega); replace c0 := q.cell 0; replace c1 := q.cell 1; have g0 := (r.grown D.gr (by simp at hg0; omega)).cell 0; have g1 := (r.grown D.gr (by simp at hg0; omega)).cell 1; have f0 := (r.grown D.gr (by simp at hg0; omega)).frozen 0; have f1 := (r.grown D.gr (by simp at hg0; omega)).frozen 1; clear hr hg)
        )
      clear q c0 c1 g0 g1 f0 f1
      obtain ⟨A1, hA1⟩ : ∃ A1 : Option Addr, A1 = some ⟨bb, 0, none⟩ := ⟨_, rfl⟩
      rw [← hA1] at ho
      rw [← hA1]
      have hA : A1 = none → cc = 0 := fun h => by rw [h] at hA1; cases hA1
      clear hA1
      have hne := ho.ne (p := w.heap.size) (.inl hrl)
      replace r := r.grown D.gr (by simp at hg0; omega)
      replace b0 := b0.trans (grown_below (base := w.heap.size) D.gr (by simp at hg0; omega) (by omega))
      have g0 := r.cell 0
      have g1 := r.cell 1
      have f0 := r.frozen 0
      have f1 := r.frozen 1
      have hrl2 := r.lt
      have r2 : Blk ((w4.setCell ⟨w.heap.size, 0, none⟩ (.slice A1 ds.length cc)).setCell ⟨w.heap.size, 1, none⟩ (.int .i64 z)) w.heap.size 25 #[.slice A1 ds.length cc, .int .i64 z] := (r.set_ 0 (.slice A1 ds.length cc)).set_ 1 (.int .i64 z)
      have d0 := r2.cell 0
      have d1 := r2.cell 1
      have ho2 := (ho.far hne (i := 0) (.slice A1 ds.length cc)).far hne (i := 1) (.int .i64 z)
      obtain ⟨A2, c2, he, R⟩ := ho2.rd hf (by omega)
      simp only [Value.slice.injEq] at he
      obtain ⟨rfl, _, rfl⟩ := he
      have HH := Lib.hid (And.intro R ((b0.setCell (p := ⟨w.heap.size, 0, none⟩) (Nat.le_refl _) (.slice A1 ds.length cc)).setCell (p := ⟨w.heap.size, 1, none⟩) (Nat.le_refl _) (.int .i64 z)))
      clear r r2 ho ho2 R D hne b0
      go_wp2
      obtain ⟨R, b0⟩ := HH.out
      exact bodyPost_ret (v := .tuple #[.agg #[.slice A1 ds.length cc, .int .i64 z], .int .i64 y]) (by simp [results, Try.results21, go_sem, d0, d1]) rfl ⟨A1, cc, ds, z, _, rfl, hz, hy, hA, hf, R, b0⟩
  · obtain ⟨A1, cc, rfl, _, _, hA⟩ := ho.toC.cap
    obtain rfl : ds = [] := List.eq_nil_of_length_eq_zero (by omega)
    replace ho : Own (w2.alloc (.cells #[.slice A1 0 cc, .int .i64 z] 25)) w1.heap.size 41 (.slice A1 0 cc) [] := ho
    replace q : Blk (w2.alloc (.cells #[.slice A1 0 cc, .int .i64 z] 25)) w2.heap.size 25 #[.slice A1 0 cc, .int .i64 z] := q
    replace D : DS w1 (w.alloc (.cells #[.slice none 0 0, .int .i64 0] 25)).heap.size g 78 2 (w2.alloc (.cells #[.slice A1 0 cc, .int .i64 z] 25)) := D
    clear hn
    have c0 := q.cell 0
    have c1 := q.cell 1
    go_wp2_with fail
    obtain ⟨w3, hw3⟩ : ∃ w3, w3 = w2.alloc (.cells #[.slice A1 0 cc, .int .i64 z] 25) := ⟨_, rfl⟩
    have hs3 := q.lt
    rw [← hw3] at D q ho c0 c1 hs3
    rw [← hw3]
    clear hw3
    replace D := D.drew
    replace q := q.drew
    replace ho := ho.drew
    go_region_held3 (fun w' => w'.cell? ⟨w2.heap.size, 0, none⟩ = some (.slice A1 0 cc) ∧ w'.cell? ⟨w2.heap.size, 1, none⟩ = some (.int .i64 z)) (first | exact ⟨c0, c1⟩ | exact ⟨cell_far2 (cell_far2 c0 (by omega)) (by omega), cell_far2 (cell_far2 c1 (by omega)) (by omega)⟩ | exact ⟨(q.alloc _).cell 0, (q.alloc _).cell 1⟩)
      (first |
      (go_at_call 65; refine (one_any Small _ g 0 w3.heap.size 5 5 _ (by decide) (by decide) (by omega) (by exact cellsI (blk1 _ _ _) rfl (by rfl)) ((D.less (k' := 0 + 1) (by omega)).alloc _).rd).mono ?_; rintro e w4 ⟨y, rfl, hy, hr, hg⟩; replace D := ((D.less (k' := 0 + 1) (by omega)).alloc _).draw hr hg; replace q := (q.alloc _).gr hg (by omega); replace ho := (ho.alloc _).draw hg (by omega); replace c0 := q.cell 0; replace c1 := q.cell 1; have g0 := (r.grown D.gr (by simp at hg0; omega)).cell 0; have g1 := (r.grown D.gr (by simp at hg0; omega)).cell 1; have f0 := (r.grown D.gr (by simp at hg0; omega)).frozen 0; have f1 := (r.grown D.gr (by simp at hg0; omega)).frozen 1; clear hr hg)
      )
    clear q c0 c1 g0 g1 f0 f1
    have hne := ho.ne (p := w.heap.size) (.inl hrl)
    replace r := r.grown D.gr (by simp at hg0; omega)
    replace b0 := b0.trans (grown_below (base := w.heap.size) D.gr (by simp at hg0; omega) (by omega))
    have g0 := r.cell 0
    have g1 := r.cell 1
    have f0 := r.frozen 0
    have f1 := r.frozen 1
    have hrl2 := r.lt
    have r2 : Blk ((w4.setCell ⟨w.heap.size, 0, none⟩ (.slice A1 0 cc)).setCell ⟨w.heap.size, 1, none⟩ (.int .i64 z)) w.heap.size 25 #[.slice A1 0 cc, .int .i64 z] := (r.set_ 0 (.slice A1 0 cc)).set_ 1 (.int .i64 z)
    have d0 := r2.cell 0
    have d1 := r2.cell 1
    have ho2 := (ho.far hne (i := 0) (.slice A1 0 cc)).far hne (i := 1) (.int .i64 z)
    obtain ⟨A2, c2, he, R⟩ := ho2.rd hf (by omega)
    simp only [Value.slice.injEq] at he
    obtain ⟨rfl, _, rfl⟩ := he
    have HH := Lib.hid (And.intro R ((b0.setCell (p := ⟨w.heap.size, 0, none⟩) (Nat.le_refl _) (.slice A1 0 cc)).setCell (p := ⟨w.heap.size, 1, none⟩) (Nat.le_refl _) (.int .i64 z)))
    clear r r2 ho ho2 R D hne b0
    go_wp2
    obtain ⟨R, b0⟩ := HH.out
    exact bodyPost_ret (v := .tuple #[.agg #[.slice A1 0 cc, .int .i64 z], .int .i64 y]) (by simp [results, Try.results21, go_sem, d0, d1]) rfl ⟨A1, cc, [], z, _, rfl, hz, hy, hA, hf, R, b0⟩
end Go.Proofs.Ytofkbckpncpmkaa
