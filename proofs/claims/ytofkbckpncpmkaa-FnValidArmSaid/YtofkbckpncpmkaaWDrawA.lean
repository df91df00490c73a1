/-
  The walks of a class of flags and an arm that are drawn: armIn, DrawValidArm.
-/
import Derived.Test.YtofkbckpncpmkaaWArms
import Derived.Deep.RegionHeld3
namespace Go.Proofs.Ytofkbckpncpmkaa
open Go.RowKit
attribute [local go_sem ↓] Go.wp_at_zero Go.wp_at_succ

theorem cell_farA {w : World} {b o p i : Nat} {x : Option Value} {u : Value} (h : w.cell? ⟨b, o, none⟩ = x) (hne : b ≠ p) : (w.setCell ⟨p, i, none⟩ u).cell? ⟨b, o, none⟩ = x :=
  (World.cell?_of_block (w := w) (a := ⟨b, o, none⟩) (Below.heap_setCell w ⟨p, i, none⟩ u b hne)).trans h
/-- A class and an arm have been drawn; have come out. -/
def FlagArm (w : World) (base g k : Nat) (e : Ending) (w' : World) : Prop :=
  ∃ A c ds, ∃ z x y : Int, e = .returned (.tuple #[.agg #[.slice A ds.length c, .int .i64 z], .agg #[.int .i64 x, .int .i64 y]]) ∧ Mid x ∧ Mid y ∧ Fine 13 ds ∧ Own w' w.heap.size 41 (.slice A ds.length c) ds ∧ DS w base g 78 k w'
def ArmOut (w : World) (e : Ending) (w' : World) : Prop :=
  ∃ A c ds, ∃ z x y : Int, e = .returned (.tuple #[.agg #[.slice A ds.length c, .int .i64 z], .agg #[.int .i64 x, .int .i64 y]]) ∧ Mid x ∧ Mid y ∧ Fine 13 ds ∧ Own w' w.heap.size 41 (.slice A ds.length c) ds ∧ Below w.heap.size w w'
set_option maxRecDepth 100000 in
set_option maxHeartbeats 8000000 in
theorem armIn_any (base g k : Nat) (w : World) (hr : Rdr w base g 78 (k + 84)) :
    Calls Try.prog 87 #[.pointer (some ⟨g, 0, none⟩)] w (FlagArm w base g k) := by
  have D := ((DS.start hr).alloc (.cells #[.slice none 0 0, .int .i64 0] 25)).alloc (.cells #[.int .i64 0, .int .i64 0] 51)
  have r1 := (blk1 w #[.slice none 0 0, .int .i64 0] 25).alloc (.cells #[.int .i64 0, .int .i64 0] 51)
  have r2 := blk2 w (.cells #[.slice none 0 0, .int .i64 0] 25) #[.int .i64 0, .int .i64 0] 51
  have hgl := hr.lt
  clear hr
  go_enter Try.func87, Try.ntmps87
  go_wp2_with fail
  refine (someFlag_any base g (k + 14) _ D.rd).mono ?_
  rintro e w1 ⟨v, z, ds, rfl, hz, ho, hf, h1⟩
  obtain ⟨A, c, rfl⟩ := ho.form
  have hs1 : w.heap.size + 1 < w1.heap.size := by have := h1.size; simp at this; omega
  have hgl1 : g < w1.heap.size := by omega
  obtain ⟨w2, hw2⟩ : ∃ w2, w2 = w1.alloc (.cells #[.slice A ds.length c, .int .i64 z] 25) := ⟨_, rfl⟩
  replace D : DS w base g 78 (k + 14) w2 := by rw [hw2]; exact (D.trans h1).alloc _
  replace r1 : Blk w2 w.heap.size 25 #[.slice none 0 0, .int .i64 0] := by rw [hw2]; exact (r1.gr h1.gr (by omega)).alloc _
  replace r2 : Blk w2 (w.heap.size + 1) 51 #[.int .i64 0, .int .i64 0] := by rw [hw2]; exact (r2.gr h1.gr (by omega)).alloc _
  have q : Blk w2 w1.heap.size 25 #[.slice A ds.length c, .int .i64 z] := by rw [hw2]; exact blk1 w1 _ _
  replace ho : Own w2 (w.heap.size + 2) 41 (.slice A ds.length c) ds := by rw [hw2]; exact (ho.base (B' := w.heap.size + 2) (by simp)).alloc _
  have HF := Lib.hid hf
  have hne1 : ¬ w1.heap.size = w.heap.size := by omega
  have hne2 : ¬ w1.heap.size = w.heap.size + 1 := by omega
  have c0 := q.cell 0
  have c1 := q.cell 1
  have hs2 := q.lt
  clear h1 hf
  go_wp2_with fail
  rw [← hw2]
  clear hw2
  replace D := D.drew
  replace r1 := r1.drew
  replace r2 := r2.drew
  replace q := q.drew
  replace ho := ho.drew
  go_region_held3 (fun w' => w'.cell? ⟨w1.heap.size, 0, none⟩ = some (.slice A ds.length c) ∧ w'.cell? ⟨w1.heap.size, 1, none⟩ = some (.int .i64 z)) (first | exact ⟨c0, c1⟩ | exact ⟨cell_farA (c0) (by omega), cell_farA (c1) (by omega)⟩ | exact ⟨cell_farA (cell_farA (c0) (by omega)) (by omega), cell_farA (cell_farA (c1) (by omega)) (by omega)⟩ | exact ⟨cell_farA (cell_farA (cell_farA (c0) (by omega)) (by omega)) (by omega), cell_farA (cell_farA (cell_farA (c1) (by omega)) (by omega)) (by omega)⟩ | exact ⟨cell_farA (cell_farA (cell_farA (cell_farA (c0) (by omega)) (by omega)) (by omega)) (by omega), cell_farA (cell_farA (cell_farA (cell_farA (c1) (by omega)) (by omega)) (by omega)) (by omega)⟩)
    (first | (go_at_call 100; refine (someArm_any _ A c ds z base g k _ D.rd ho HF.out).mono ?_; rintro e w3 ⟨x, y, rfl, hx, hy, D3⟩; replace r1 := r1.gr D3.gr (by omega); replace r2 := r2.gr D3.gr (by omega); replace q := q.gr D3.gr (by omega); replace ho := ho.draw D3.gr (by omega); replace D := D.trans D3; replace c0 := q.cell 0; replace c1 := q.cell 1; have hs4 := q.lt; have g0 := r1.cell 0; have g1 := r1.cell 1; have g2 := r2.cell 0; have g3 := r2.cell 1; have f0 := r1.frozen 0; have f1 := r1.frozen 1; have f2 := r2.frozen 0; have f3 := r2.frozen 1; clear D3))
  have g0 := r1.cell 0
  have g1 := r1.cell 1
  have g2 := r2.cell 0
  have g3 := r2.cell 1
  have f0 := r1.frozen 0
  have f1 := r1.frozen 1
  have f2 := r2.frozen 0
  have f3 := r2.frozen 1
  have ne1 := ho.ne (p := w.heap.size) (.inl (by omega))
  have ne2 := ho.ne (p := w.heap.size + 1) (.inl (by omega))
  have o4 := ((((ho.far ne1 (i := 0) (.slice A ds.length c)).far ne1 (i := 1) (.int .i64 z)).far ne2 (i := 0) (.int .i64 x)).far ne2 (i := 1) (.int .i64 y)).base (B' := w.heap.size) (by omega)
  have s1 : Blk ((w3.setCell ⟨w.heap.size, 0, none⟩ (.slice A ds.length c)).setCell ⟨w.heap.size, 1, none⟩ (.int .i64 z)) w.heap.size 25 #[.slice A ds.length c, .int .i64 z] := (r1.set_ 0 _).set_ 1 _
  have s2 : Blk ((((w3.setCell ⟨w.heap.size, 0, none⟩ (.slice A ds.length c)).setCell ⟨w.heap.size, 1, none⟩ (.int .i64 z)).setCell ⟨w.heap.size + 1, 0, none⟩ (.int .i64 x)).setCell ⟨w.heap.size + 1, 1, none⟩ (.int .i64 y)) (w.heap.size + 1) 51 #[.int .i64 x, .int .i64 y] := (((r2.far (by simp) _).far (by simp) _).set_ 0 _).set_ 1 _
  have s3 : Blk ((((w3.setCell ⟨w.heap.size, 0, none⟩ (.slice A ds.length c)).setCell ⟨w.heap.size, 1, none⟩ (.int .i64 z)).setCell ⟨w.heap.size + 1, 0, none⟩ (.int .i64 x)).setCell ⟨w.heap.size + 1, 1, none⟩ (.int .i64 y)) w.heap.size 25 #[.slice A ds.length c, .int .i64 z] := (s1.far (by simp) _).far (by simp) _
  have d0 := s3.cell 0
  have d1 := s3.cell 1
  have d2 := s2.cell 0
  have d3 := s2.cell 1
  have HH := Lib.hid (And.intro o4 ((((D.set (p := w.heap.size) (i := 0) (by omega) (.slice A ds.length c)).set (p := w.heap.size) (i := 1) (by omega) (.int .i64 z)).set (p := w.heap.size + 1) (i := 0) (by omega) (.int .i64 x)).set (p := w.heap.size + 1) (i := 1) (by omega) (.int .i64 y)))
  clear D r1 r2 q ho c0 c1 s1 s2 s3 o4 ne1 ne2
  go_wp2
  exact bodyPost_ret (v := .tuple #[.agg #[.slice A ds.length c, .int .i64 z], .agg #[.int .i64 x, .int .i64 y]]) (by simp [results, Try.results87, go_sem, d0, d1, d2, d3]) rfl ⟨A, c, ds, z, x, y, rfl, hx, hy, HF.out, HH.out.1, HH.out.2⟩
set_option maxRecDepth 100000 in
set_option maxHeartbeats 8000000 in
theorem drawValidArm_any (A : Option Addr) (n c : Nat) (w : World) (hr : RdB w w.heap.size A n c) :
    Calls Try.prog 55 #[.slice A n c] w (ArmOut w) := by
  go_enter Try.func55, Try.ntmps55
  have b0 := below2 w (.cells #[.slice none 0 0, .int .i64 0] 25) (.cells #[.int .i64 0, .int .i64 0] 51)
  have r1 := (blk1 w #[.slice none 0 0, .int .i64 0] 25).alloc (.cells #[.int .i64 0, .int .i64 0] 51)
  have r2 := blk2 w (.cells #[.slice none 0 0, .int .i64 0] 25) #[.int .i64 0, .int .i64 0] 51
  go_wp2_with fail
  refine (newReader_any A n c _ ((hr.below b0).more b0.size)).mono ?_
  rintro e w1 ⟨g, rfl, hr1, hb⟩
  replace r1 := r1.below hb r1.lt
  replace r2 := r2.below hb r2.lt
  have hrl := r2.lt
  have hg0 := hr1.1
  have hg2 : w.heap.size + 1 < g := by simp at hg0; omega
  replace b0 := Below.on b0 hb b0.size
  clear hb hr
  go_wp2_with fail
  refine (armIn_any _ g 0 _ (hr1.less (by omega))).mono ?_
  rintro e w2 ⟨A, c, ds, z, x, y, rfl, hx, hy, hf, ho, D⟩
  replace r1 := r1.grown D.gr (by omega)
  replace r2 := r2.grown D.gr (by omega)
  have HF := Lib.hid hf
  have b1 := b0.trans (grown_below (base := w.heap.size) D.gr (by simp at hg0; omega) (by omega))
  have g0 := r1.cell 0
  have g1 := r1.cell 1
  have g2 := r2.cell 0
  have g3 := r2.cell 1
  have f0 := r1.frozen 0
  have f1 := r1.frozen 1
  have f2 := r2.frozen 0
  have f3 := r2.frozen 1
  have ne1 := ho.ne (p := w.heap.size) (.inl (by omega))
  have ne2 := ho.ne (p := w.heap.size + 1) (.inl (by omega))
  have o4 := ((((ho.far ne1 (i := 0) (.slice A ds.length c)).far ne1 (i := 1) (.int .i64 z)).far ne2 (i := 0) (.int .i64 x)).far ne2 (i := 1) (.int .i64 y)).base (B' := w.heap.size) (by omega)
  have s1 : Blk ((w2.setCell ⟨w.heap.size, 0, none⟩ (.slice A ds.length c)).setCell ⟨w.heap.size, 1, none⟩ (.int .i64 z)) w.heap.size 25 #[.slice A ds.length c, .int .i64 z] := (r1.set_ 0 _).set_ 1 _
  have s2 : Blk ((((w2.setCell ⟨w.heap.size, 0, none⟩ (.slice A ds.length c)).setCell ⟨w.heap.size, 1, none⟩ (.int .i64 z)).setCell ⟨w.heap.size + 1, 0, none⟩ (.int .i64 x)).setCell ⟨w.heap.size + 1, 1, none⟩ (.int .i64 y)) (w.heap.size + 1) 51 #[.int .i64 x, .int .i64 y] := (((r2.far (by simp) _).far (by simp) _).set_ 0 _).set_ 1 _
  have s3 : Blk ((((w2.setCell ⟨w.heap.size, 0, none⟩ (.slice A ds.length c)).setCell ⟨w.heap.size, 1, none⟩ (.int .i64 z)).setCell ⟨w.heap.size + 1, 0, none⟩ (.int .i64 x)).setCell ⟨w.heap.size + 1, 1, none⟩ (.int .i64 y)) w.heap.size 25 #[.slice A ds.length c, .int .i64 z] := (s1.far (by simp) _).far (by simp) _
  have d0 := s3.cell 0
  have d1 := s3.cell 1
  have d2 := s2.cell 0
  have d3 := s2.cell 1
  have HH := Lib.hid (And.intro o4 ((((b1.setCell (p := ⟨w.heap.size, 0, none⟩) (Nat.le_refl _) (.slice A ds.length c)).setCell (p := ⟨w.heap.size, 1, none⟩) (Nat.le_refl _) (.int .i64 z)).setCell (p := ⟨w.heap.size + 1, 0, none⟩) (by simp) (.int .i64 x)).setCell (p := ⟨w.heap.size + 1, 1, none⟩) (by simp) (.int .i64 y)))
  clear D r1 r2 ho s1 s2 s3 o4 ne1 ne2 b0 b1 hf
  go_wp2
  exact bodyPost_ret (v := .tuple #[.agg #[.slice A ds.length c, .int .i64 z], .agg #[.int .i64 x, .int .i64 y]]) (by simp [results, Try.results55, go_sem, d0, d1, d2, d3]) rfl ⟨A, c, ds, z, x, y, rfl, hx, hy, HF.out, HH.out.1, HH.out.2⟩
end Go.Proofs.Ytofkbckpncpmkaa
