/-
  The walks of the draws of two enumerations and a name.
-/
import Derived.Test.YtpnicgagmopilaaWTwo
namespace Go.Proofs.Ytpnicgagmopilaa
open Go.RowKit
attribute [local go_sem ↓] Go.wp_at_zero Go.wp_at_succ

/-- Two enumerations and a text have come out. -/
def TwoOut (w : World) (e : Ending) (w' : World) : Prop :=
  ∃ A c ds A' c' ds' s, e = .returned (.tuple #[.agg #[.slice A ds.length c], .agg #[.slice A' ds'.length c'], .string s]) ∧ Short s ∧ Fine 28 ds ∧ Fine 28 ds' ∧ Own w' w.heap.size 68 (.slice A ds.length c) ds ∧ Own w' w.heap.size 68 (.slice A' ds'.length c') ds' ∧ Below w.heap.size w w'

set_option maxRecDepth 100000 in
set_option maxHeartbeats 8000000 in
theorem drawByName_any (A : Option Addr) (n c : Nat) (w : World) (hr : RdB w w.heap.size A n c) :
    Calls Try.prog 38 #[.slice A n c] w (TwoOut w) := by
  go_enter Try.func38, Try.ntmps38
  have b0 := below2 w (.cells #[.slice none 0 0] 28) (.cells #[.slice none 0 0] 28)
  have r1 := (blk1 w #[.slice none 0 0] 28).alloc (.cells #[.slice none 0 0] 28)
  have r2 := blk2 w (.cells #[.slice none 0 0] 28) #[.slice none 0 0] 28
  go_wp2_with fail
  refine (newReader_any A n c _ ((hr.below b0).more b0.size)).mono ?_
  rintro e w1 ⟨g, rfl, hr1, hb⟩
  replace r1 := r1.below hb r1.lt
  replace r2 := r2.below hb r2.lt
  have hrl := r2.lt
  have hg0 := hr1.1
  have hg1 := hr1.lt
  have hg2 : w.heap.size + 1 < g := by simp at hg0; omega
  replace b0 := Below.on b0 hb b0.size
  clear hb hr
  go_wp2_with fail
  refine (twoEnums_any _ g 3 _ (hr1.less (by omega))).mono ?_
  rintro e w2 ⟨va, vb, dsa, dsb, rfl, oa, ob, hfa, hfb, D⟩
  obtain ⟨Ab, cb, rfl⟩ := ob.form
  have hw2 := D.size
  replace r1 := r1.grown D.gr (by omega)
  replace r2 := r2.grown D.gr (by omega)
  have q1 := (blk1 w2 #[va] 28).alloc (.cells #[.slice Ab dsb.length cb] 28)
  have q2 := blk2 w2 (.cells #[va] 28) #[.slice Ab dsb.length cb] 28
  replace r1 := (r1.alloc (.cells #[va] 28)).alloc (.cells #[.slice Ab dsb.length cb] 28)
  replace r2 := (r2.alloc (.cells #[va] 28)).alloc (.cells #[.slice Ab dsb.length cb] 28)
  replace D := (D.alloc (.cells #[va] 28)).alloc (.cells #[.slice Ab dsb.length cb] 28)
  replace oa := (oa.alloc (.cells #[va] 28)).alloc (.cells #[.slice Ab dsb.length cb] 28)
  replace ob := (ob.alloc (.cells #[va] 28)).alloc (.cells #[.slice Ab dsb.length cb] 28)
  have hgq : g < w2.heap.size := by omega
  have hne1 : ¬ w2.heap.size = w.heap.size := by omega
  have hne2 : ¬ w2.heap.size + 1 = w.heap.size := by omega
  have hne3 : ¬ w2.heap.size = w.heap.size + 1 := by omega
  have HFA := Lib.hid hfa
  have HFB := Lib.hid hfb
  have hfl := hfa.1
  have hfl2 := hfb.1
  clear hfa hfb
  by_cases hn : 0 < dsa.length
  · obtain ⟨bb, ca, rfl, hb0, hb1, hcc0, hcc1⟩ := oa.some hn
    have c0 := q1.cell 0
    have c1 := q2.cell 0
    go_wp2_with fail
    refine (pick_any _ g 2 _ _ D.rd).mono ?_
    rintro e w3 ⟨x, rfl, hx0, hx1, hr, hg⟩
    replace D := D.draw hr hg
    replace q1 := q1.gr hg (by omega)
    replace q2 := q2.gr hg (by omega)
    replace r1 := r1.grown hg (by omega)
    replace r2 := r2.grown hg (by omega)
    replace oa := oa.draw hg (by omega)
    replace ob := ob.draw hg (by omega)
    replace c0 := q1.cell 0
    replace c1 := q2.cell 0
    clear hr hg
    have hs3 := q2.lt
    clear hx1
    by_cases hx : 0 < x
    · go_wp2_with fail
      replace D := D.drew
      replace q1 := q1.drew
      replace q2 := q2.drew
      replace r1 := r1.drew
      replace r2 := r2.drew
      replace oa := oa.drew
      replace ob := ob.drew
      have hall := own_all oa rfl
      go_region_held3 (fun w' => w'.cell? ⟨w2.heap.size, 0, none⟩ = some (.slice (some ⟨bb, 0, none⟩) dsa.length ca) ∧ w'.cell? ⟨w2.heap.size + 1, 0, none⟩ = some (.slice Ab dsb.length cb) ∧ ∀ i : Nat, i < dsa.length → w'.cell? ⟨bb, i * 2, none⟩ = some (.string (nth dsa i).1) ∧ w'.cell? ⟨bb, i * 2 + 1, none⟩ = some (.int .i64 (nth dsa i).2)) (first | exact ⟨c0, c1, hall⟩ | exact ⟨cell_far c0 (by omega), cell_far c1 (by omega), fun i hi => ⟨cell_far (hall i hi).1 (by omega), cell_far (hall i hi).2 (by omega)⟩⟩ | exact ⟨cell_far (cell_far c0 (by omega)) (by omega), cell_far (cell_far c1 (by omega)) (by omega), fun i hi => ⟨cell_far (cell_far (hall i hi).1 (by omega)) (by omega), cell_far (cell_far (hall i hi).2 (by omega)) (by omega)⟩⟩)
        (first | (go_at_call 66; refine (pick_any _ g 0 _ _ (D.less (k' := 0 + 1) (by omega)).rd).mono ?_; rintro e w4 ⟨kk, rfl, hk0, hk1, hr, hg⟩; replace hk1 := hk1 (by omega); obtain ⟨kk, rfl⟩ := Int.eq_ofNat_of_zero_le hk0; replace D := (D.less (k' := 0 + 1) (by omega)).draw hr hg; replace q1 := q1.gr hg (by omega); replace q2 := q2.gr hg (by omega); replace r1 := r1.grown hg (by omega); replace r2 := r2.grown hg (by omega); replace oa := oa.draw hg (by omega); replace ob := ob.draw hg (by omega); replace c0 := q1.cell 0; replace c1 := q2.cell 0; have hkl : kk < dsa.length := (by omega); replace hall := own_all oa rfl; have g0 := r1.cell 0; have g1 := r2.cell 0; have f0 := r1.frozen 0; have f1 := r2.frozen 0; clear hr hg))
      have hs := (HFA.out.nth hkl).1
      clear hall
      have na1 := oa.ne (p := w.heap.size) (.inl (by omega))
      have na2 := oa.ne (p := w.heap.size + 1) (.inl (by omega))
      have nb1 := ob.ne (p := w.heap.size) (.inl (by omega))
      have nb2 := ob.ne (p := w.heap.size + 1) (.inl (by omega))
      have oa' := (oa.far na1 (i := 0) (.slice (some ⟨bb, 0, none⟩) dsa.length ca)).far na2 (i := 0) (.slice Ab dsb.length cb)
      have ob' := (ob.far nb1 (i := 0) (.slice (some ⟨bb, 0, none⟩) dsa.length ca)).far nb2 (i := 0) (.slice Ab dsb.length cb)
      have RA := oa'.base (B' := w.heap.size) (by omega)
      have RB := ob'.base (B' := w.heap.size) (by omega)
      have r1' : Blk (w4.setCell ⟨w.heap.size, 0, none⟩ (.slice (some ⟨bb, 0, none⟩) dsa.length ca)) w.heap.size 28 #[(.slice (some ⟨bb, 0, none⟩) dsa.length ca)] := r1.set_ 0 (.slice (some ⟨bb, 0, none⟩) dsa.length ca)
      have r2' : Blk ((w4.setCell ⟨w.heap.size, 0, none⟩ (.slice (some ⟨bb, 0, none⟩) dsa.length ca)).setCell ⟨w.heap.size + 1, 0, none⟩ (.slice Ab dsb.length cb)) (w.heap.size + 1) 28 #[(.slice Ab dsb.length cb)] := (r2.far (by simp) _).set_ 0 (.slice Ab dsb.length cb)
      have d0 := r1'.cell 0
      have d1 := r2'.cell 0
      have b1 := b0.trans (grown_below (base := w.heap.size) D.gr (by simp at hg0; omega) (by omega))
      have HH := Lib.hid (And.intro RA (And.intro RB ((b1.setCell (p := ⟨w.heap.size, 0, none⟩) (Nat.le_refl _) (.slice (some ⟨bb, 0, none⟩) dsa.length ca)).setCell (p := ⟨w.heap.size + 1, 0, none⟩) (by simp) (.slice Ab dsb.length cb))))
      clear na1 na2 nb1 nb2 oa ob oa' ob' r1' r2' r1 r2 q1 q2 D RA RB b0 b1
      go_wp2
      exact bodyPost_ret (v := .tuple #[.agg #[(.slice (some ⟨bb, 0, none⟩) dsa.length ca)], .agg #[.slice Ab dsb.length cb], .string (nth dsa kk).1]) (by simp [results, Try.results38, go_sem, d0, d1]) rfl ⟨_, _, dsa, _, _, dsb, _, rfl, hs, HFA.out, HFB.out, HH.out.1, HH.out.2.1, HH.out.2.2⟩
    · go_wp2_with fail
      replace D := D.drew
      replace q1 := q1.drew
      replace q2 := q2.drew
      replace r1 := r1.drew
      replace r2 := r2.drew
      replace oa := oa.drew
      replace ob := ob.drew
      go_region_held3 (fun w' => w'.cell? ⟨w2.heap.size, 0, none⟩ = some (.slice (some ⟨bb, 0, none⟩) dsa.length ca) ∧ w'.cell? ⟨w2.heap.size + 1, 0, none⟩ = some (.slice Ab dsb.length cb)) (first | exact ⟨c0, c1⟩ | exact ⟨cell_far c0 (by omega), cell_far c1 (by omega)⟩ | exact ⟨cell_far (cell_far c0 (by omega)) (by omega), cell_far (cell_far c1 (by omega)) (by omega)⟩)
        (first | (go_at_call 52; refine (anyName_any _ g 0 _ D.rd).mono ?_; rintro e w4 ⟨s, rfl, hs, hr, hg⟩; replace D := D.draw hr hg; replace q1 := q1.gr hg (by omega); replace q2 := q2.gr hg (by omega); replace r1 := r1.grown hg (by omega); replace r2 := r2.grown hg (by omega); replace oa := oa.draw hg (by omega); replace ob := ob.draw hg (by omega); replace c0 := q1.cell 0; replace c1 := q2.cell 0; have g0 := r1.cell 0; have g1 := r2.cell 0; have f0 := r1.frozen 0; have f1 := r2.frozen 0; clear hr hg))
      have na1 := oa.ne (p := w.heap.size) (.inl (by omega))
      have na2 := oa.ne (p := w.heap.size + 1) (.inl (by omega))
      have nb1 := ob.ne (p := w.heap.size) (.inl (by omega))
      have nb2 := ob.ne (p := w.heap.size + 1) (.inl (by omega))
      have oa' := (oa.far na1 (i := 0) (.slice (some ⟨bb, 0, none⟩) dsa.length ca)).far na2 (i := 0) (.slice Ab dsb.length cb)
      have ob' := (ob.far nb1 (i := 0) (.slice (some ⟨bb, 0, none⟩) dsa.length ca)).far nb2 (i := 0) (.slice Ab dsb.length cb)
      have RA := oa'.base (B' := w.heap.size) (by omega)
      have RB := ob'.base (B' := w.heap.size) (by omega)
      have r1' : Blk (w4.setCell ⟨w.heap.size, 0, none⟩ (.slice (some ⟨bb, 0, none⟩) dsa.length ca)) w.heap.size 28 #[(.slice (some ⟨bb, 0, none⟩) dsa.length ca)] := r1.set_ 0 (.slice (some ⟨bb, 0, none⟩) dsa.length ca)
      have r2' : Blk ((w4.setCell ⟨w.heap.size, 0, none⟩ (.slice (some ⟨bb, 0, none⟩) dsa.length ca)).setCell ⟨w.heap.size + 1, 0, none⟩ (.slice Ab dsb.length cb)) (w.heap.size + 1) 28 #[(.slice Ab dsb.length cb)] := (r2.far (by simp) _).set_ 0 (.slice Ab dsb.length cb)
      have d0 := r1'.cell 0
      have d1 := r2'.cell 0
      have b1 := b0.trans (grown_below (base := w.heap.size) D.gr (by simp at hg0; omega) (by omega))
      have HH := Lib.hid (And.intro RA (And.intro RB ((b1.setCell (p := ⟨w.heap.size, 0, none⟩) (Nat.le_refl _) (.slice (some ⟨bb, 0, none⟩) dsa.length ca)).setCell (p := ⟨w.heap.size + 1, 0, none⟩) (by simp) (.slice Ab dsb.length cb))))
      clear na1 na2 nb1 nb2 oa ob oa' ob' r1' r2' r1 r2 q1 q2 D RA RB b0 b1
      go_wp2
      exact bodyPost_ret (v := .tuple #[.agg #[(.slice (some ⟨bb, 0, none⟩) dsa.length ca)], .agg #[.slice Ab dsb.length cb], .string s]) (by simp [results, Try.results38, go_sem, d0, d1]) rfl ⟨_, _, dsa, _, _, dsb, _, rfl, hs, HFA.out, HFB.out, HH.out.1, HH.out.2.1, HH.out.2.2⟩
  · obtain ⟨Aa, ca, rfl⟩ := oa.form
    obtain rfl : dsa = [] := List.eq_nil_of_length_eq_zero (by omega)
    obtain ⟨W, hW⟩ : ∃ W, W = (w2.alloc (.cells #[.slice Aa 0 ca] 28)).alloc (.cells #[.slice Ab dsb.length cb] 28) := ⟨_, rfl⟩
    replace oa : Own W w1.heap.size 68 (.slice Aa 0 ca) [] := by rw [hW]; exact oa
    replace ob : Own W w1.heap.size 68 (.slice Ab dsb.length cb) dsb := by rw [hW]; exact ob
    replace q1 : Blk W w2.heap.size 28 #[.slice Aa 0 ca] := by rw [hW]; exact q1
    replace q2 : Blk W (w2.heap.size + 1) 28 #[.slice Ab dsb.length cb] := by rw [hW]; exact q2
    replace r1 : Blk W w.heap.size 28 #[.slice none 0 0] := by rw [hW]; exact r1
    replace r2 : Blk W (w.heap.size + 1) 28 #[.slice none 0 0] := by rw [hW]; exact r2
    replace D : DS w1 ((w.alloc (.cells #[.slice none 0 0] 28)).alloc (.cells #[.slice none 0 0] 28)).heap.size g 88 2 W := by rw [hW]; exact D.less (by omega)
    clear hn hfl
    have c0 := q1.cell 0
    have c1 := q2.cell 0
    have hs3 := q2.lt
    have k0 := hW ▸ c0
    go_wp2_with fail
    rw [← hW]
    clear hW
    replace D := D.drew
    replace q1 := q1.drew
    replace q2 := q2.drew
    replace r1 := r1.drew
    replace r2 := r2.drew
    replace oa := oa.drew
    replace ob := ob.drew
    go_region_held3 (fun w' => w'.cell? ⟨w2.heap.size, 0, none⟩ = some (.slice Aa 0 ca) ∧ w'.cell? ⟨w2.heap.size + 1, 0, none⟩ = some (.slice Ab dsb.length cb)) (first | exact ⟨c0, c1⟩ | exact ⟨cell_far c0 (by omega), cell_far c1 (by omega)⟩ | exact ⟨cell_far (cell_far c0 (by omega)) (by omega), cell_far (cell_far c1 (by omega)) (by omega)⟩)
      (first | (go_at_call 52; refine (anyName_any _ g 0 _ D.rd).mono ?_; rintro e w4 ⟨s, rfl, hs, hr, hg⟩; replace D := D.draw hr hg; replace q1 := q1.gr hg (by omega); replace q2 := q2.gr hg (by omega); replace r1 := r1.grown hg (by omega); replace r2 := r2.grown hg (by omega); replace oa := oa.draw hg (by omega); replace ob := ob.draw hg (by omega); replace c0 := q1.cell 0; replace c1 := q2.cell 0; have g0 := r1.cell 0; have g1 := r2.cell 0; have f0 := r1.frozen 0; have f1 := r2.frozen 0; clear hr hg))
    have na1 := oa.ne (p := w.heap.size) (.inl (by omega))
    have na2 := oa.ne (p := w.heap.size + 1) (.inl (by omega))
    have nb1 := ob.ne (p := w.heap.size) (.inl (by omega))
    have nb2 := ob.ne (p := w.heap.size + 1) (.inl (by omega))
    have oa' := (oa.far na1 (i := 0) (.slice Aa 0 ca)).far na2 (i := 0) (.slice Ab dsb.length cb)
    have ob' := (ob.far nb1 (i := 0) (.slice Aa 0 ca)).far nb2 (i := 0) (.slice Ab dsb.length cb)
    have RA := oa'.base (B' := w.heap.size) (by omega)
    have RB := ob'.base (B' := w.heap.size) (by omega)
    have r1' : Blk (w4.setCell ⟨w.heap.size, 0, none⟩ (.slice Aa 0 ca)) w.heap.size 28 #[(.slice Aa 0 ca)] := r1.set_ 0 (.slice Aa 0 ca)
    have r2' : Blk ((w4.setCell ⟨w.heap.size, 0, none⟩ (.slice Aa 0 ca)).setCell ⟨w.heap.size + 1, 0, none⟩ (.slice Ab dsb.length cb)) (w.heap.size + 1) 28 #[(.slice Ab dsb.length cb)] := (r2.far (by simp) _).set_ 0 (.slice Ab dsb.length cb)
    have d0 := r1'.cell 0
    have d1 := r2'.cell 0
    have b1 := b0.trans (grown_below (base := w.heap.size) D.gr (by simp at hg0; omega) (by omega))
    have HH := Lib.hid (And.intro RA (And.intro RB ((b1.setCell (p := ⟨w.heap.size, 0, none⟩) (Nat.le_refl _) (.slice Aa 0 ca)).setCell (p := ⟨w.heap.size + 1, 0, none⟩) (by simp) (.slice Ab dsb.length cb))))
    clear na1 na2 nb1 nb2 oa ob oa' ob' r1' r2' r1 r2 q1 q2 D RA RB b0 b1
    go_wp2
    exact bodyPost_ret (v := .tuple #[.agg #[(.slice Aa 0 ca)], .agg #[.slice Ab dsb.length cb], .string s]) (by simp [results, Try.results38, go_sem, d0, d1]) rfl ⟨_, _, [], _, _, dsb, _, rfl, hs, Fine.nil _, HFB.out, HH.out.1, HH.out.2.1, HH.out.2.2⟩
set_option maxHeartbeats 4000000 in
theorem drawByValue_any (A : Option Addr) (n c : Nat) (w : World) (hr : RdB w w.heap.size A n c) :
    Calls Try.prog 41 #[.slice A n c] w (TwoOut w) := by
  go_enter Try.func41, Try.ntmps41
  have b0 := below2 w (.cells #[.slice none 0 0] 28) (.cells #[.slice none 0 0] 28)
  have r1 := (blk1 w #[.slice none 0 0] 28).alloc (.cells #[.slice none 0 0] 28)
  have r2 := blk2 w (.cells #[.slice none 0 0] 28) #[.slice none 0 0] 28
  go_wp2_with fail
  refine (drawByName_any A n c _ ((hr.below b0).more b0.size)).mono ?_
  rintro e w4 ⟨A1, c1, ds, Ab, cb, dsb, s, rfl, hs, hf, hf', oa, ob, hb⟩
  replace r1 := r1.below hb r1.lt
  replace r2 := r2.below hb r2.lt
  have b1 := Below.on b0 hb b0.size
  have na1 := oa.ne (p := w.heap.size) (.inl (by simp; omega))
  have na2 := oa.ne (p := w.heap.size + 1) (.inl (by simp))
  have nb1 := ob.ne (p := w.heap.size) (.inl (by simp; omega))
  have nb2 := ob.ne (p := w.heap.size + 1) (.inl (by simp))
  have RA := ((oa.far na1 (i := 0) (.slice A1 ds.length c1)).far na2 (i := 0) (.slice Ab dsb.length cb)).base (B' := w.heap.size) (by simp; omega)
  have RB := ((ob.far nb1 (i := 0) (.slice A1 ds.length c1)).far nb2 (i := 0) (.slice Ab dsb.length cb)).base (B' := w.heap.size) (by simp; omega)
  have r1' : Blk (w4.setCell ⟨w.heap.size, 0, none⟩ (.slice A1 ds.length c1)) w.heap.size 28 #[(.slice A1 ds.length c1)] := r1.set_ 0 (.slice A1 ds.length c1)
  have r2' : Blk ((w4.setCell ⟨w.heap.size, 0, none⟩ (.slice A1 ds.length c1)).setCell ⟨w.heap.size + 1, 0, none⟩ (.slice Ab dsb.length cb)) (w.heap.size + 1) 28 #[(.slice Ab dsb.length cb)] := (r2.far (by simp) _).set_ 0 (.slice Ab dsb.length cb)
  have d0 := r1'.cell 0
  have d1 := r2'.cell 0
  have g0 := r1.cell 0
  have g1 := r2.cell 0
  have f0 := r1.frozen 0
  have f1 := r2.frozen 0
  have HH := Lib.hid (And.intro RA (And.intro RB ((b1.setCell (p := ⟨w.heap.size, 0, none⟩) (Nat.le_refl _) (.slice A1 ds.length c1)).setCell (p := ⟨w.heap.size + 1, 0, none⟩) (by simp) (.slice Ab dsb.length cb))))
  clear na1 na2 nb1 nb2 oa ob r1' r2' r1 r2 RA RB b0 b1 hb hr
  go_wp2
  exact bodyPost_ret (v := .tuple #[.agg #[.slice A1 ds.length c1], .agg #[.slice Ab dsb.length cb], .string s]) (by simp [results, Try.results41, go_sem, d0, d1]) rfl ⟨_, _, ds, _, _, dsb, _, rfl, hs, hf, hf', HH.out.1, HH.out.2.1, HH.out.2.2⟩
end Go.Proofs.Ytpnicgagmopilaa
