/-
  The walks of the enumerations that are drawn: goodEnum, someEnum, nameIn.
-/
import Derived.Test.YtpnicgagmopilaaWGood
import Derived.Test.YtpnicgagmopilaaMemE
import Derived.Test.YtpnicgagmopilaaMemZ
import Derived.Deep.RegionLaw
import Derived.Deep.RegionHeld3
import Derived.Deep.DrawnRows
namespace Go.Proofs.Ytpnicgagmopilaa
open Go.RowKit
attribute [local go_sem ↓] Go.wp_at_zero Go.wp_at_succ

/-- An enumeration has been drawn. -/
def EnumDrawn (w : World) (base g k m : Nat) (e : Ending) (w' : World) : Prop :=
  ∃ v ds, e = .returned (.agg #[v]) ∧ Own w' w.heap.size 68 v ds ∧ Fine m ds ∧ DS w base g 88 k w'

set_option maxHeartbeats 1000000 in
theorem goodEnum_any (base g k : Nat) (w : World) (hr : Rdr w base g 88 (k + 61)) :
    Calls Try.prog 79 #[.pointer (some ⟨g, 0, none⟩)] w (EnumDrawn w base g k 12) := by
  have D := (DS.start hr).alloc (.cells #[.slice none 0 0] 28)
  have r := blk1 w #[.slice none 0 0] 28
  have hgl := hr.lt
  clear hr
  go_enter Try.func79, Try.ntmps79
  go_wp2_with fail
  refine (goodDefs_any base g k _ D.rd).mono ?_
  rintro e w1 ⟨v, ds, rfl, ho, hf, h1⟩
  replace D := D.trans h1
  replace r := r.gr h1.gr (by omega)
  replace ho := ho.base (B' := w.heap.size + 1) (by simp)
  obtain ⟨A, c, rfl⟩ := ho.form
  have HF := Lib.hid hf
  have q := r
  clear h1 hf
  have g0 := r.cell 0
  have f0 := r.frozen 0
  have c0 := q.cell 0
  have hrl := r.lt
  have r2 : Blk (w1.setCell ⟨w.heap.size, 0, none⟩ (.slice A ds.length c)) w.heap.size 28 #[(.slice A ds.length c)] := r.set_ 0 (.slice A ds.length c)
  have d0 := r2.cell 0
  have hne := ho.ne (p := w.heap.size) (.inl (by omega))
  have HH := Lib.hid (And.intro ((ho.far hne (i := 0) (.slice A ds.length c)).base (B' := w.heap.size) (by omega)) (D.set (i := 0) (Nat.le_refl _) (.slice A ds.length c)))
  clear q r r2 ho D hne
  go_wp2
  obtain ⟨ho, D⟩ := HH.out
  exact bodyPost_ret (v := .agg #[(.slice A ds.length c)]) (by simp [results, Try.results79, go_sem, d0]) rfl ⟨_, ds, rfl, ho, HF.out, D⟩

theorem Fine.zeros {m : Nat} {ds : List D} (h : Fine m ds) : Fine (m + 13) (ds ++ List.replicate 13 noD) := by
  refine ⟨by have := h.1; simp; omega, fun x hx => ?_⟩
  rcases List.mem_append.1 hx with hx | hx
  · exact h.2 x hx
  · rw [List.eq_of_mem_replicate hx]; exact ⟨by decide, by decide, by decide⟩
set_option maxRecDepth 100000 in
set_option maxHeartbeats 4000000 in
theorem someEnum_any (base g k : Nat) (w : World) (hr : Rdr w base g 88 (k + 64)) :
    Calls Try.prog 56 #[.pointer (some ⟨g, 0, none⟩)] w (EnumDrawn w base g k 25) := by
  have D := (DS.start hr).alloc (.cells #[.slice none 0 0] 28)
  have r := blk1 w #[.slice none 0 0] 28
  have hgl := hr.lt
  clear hr
  obtain ⟨i0, hi, hz0, hz1, hz2⟩ := info_parts Try.infoDef3
  have HI := Lib.hid hi
  have HZ0 := Lib.hid hz0
  have HZ1 := Lib.hid hz1
  have HZ2 := Lib.hid hz2
  clear hi hz0 hz1 hz2
  go_enter Try.func56, Try.ntmps56
  go_wp2_with fail
  refine (goodEnum_any base g (k + 3) _ D.rd).mono ?_
  rintro e w1 ⟨v, ds, rfl, ho, hf, h1⟩
  replace D := D.trans h1
  replace r := r.gr h1.gr (by omega)
  replace ho := ho.base (B' := w.heap.size + 1) (by simp)
  have hw1 : w.heap.size < w1.heap.size := r.lt
  have HNE := Lib.hid (ho.ne (p := w1.heap.size) (.inr (Nat.le_refl _)))
  have HNR := Lib.hid (ho.ne (p := w.heap.size) (.inl (by omega)))
  have q := blk1 w1 #[v] 28
  have H0 := Lib.hid (And.intro r (And.intro D ho))
  replace r := r.alloc (.cells #[v] 28)
  replace D := D.alloc (.cells #[v] 28)
  replace ho := ho.alloc (.cells #[v] 28)
  have HF := Lib.hid hf
  have hfl := hf.1
  clear h1 hf
  by_cases hn : 0 < ds.length
  · obtain ⟨bb, c, rfl, hb0, hb1, hc0, hc1⟩ := ho.some hn
    have hbne : bb ≠ w1.heap.size := fun e => HNE.out (by rw [e]; rfl)
    have hlc : ds.length ≤ 12 := hfl
    have c0 := q.cell 0
    go_wp2_with fail
    refine (pick_any base g (k + 2) _ _ D.rd).mono ?_
    rintro e w2 ⟨kk, rfl, hk0, hk1, hr, hg⟩
    replace hk1 := hk1 (by omega)
    obtain ⟨kk, rfl⟩ := Int.eq_ofNat_of_zero_le hk0
    replace D := D.draw hr hg
    replace q := q.gr hg (by omega)
    replace r := r.gr hg (by omega)
    replace ho := ho.draw hg (by omega)
    replace c0 := q.cell 0
    have hs2 := q.lt
    clear hr hg
    go_wp2_with fail
    refine (pick_any base g (k + 1) _ _ D.rd).mono ?_
    rintro e w3 ⟨x, rfl, hx0, hx1, hr, hg⟩
    replace D := D.draw hr hg
    replace q := q.gr hg (by omega)
    replace r := r.gr hg (by omega)
    replace ho := ho.draw hg (by omega)
    replace c0 := q.cell 0
    have hs3 := q.lt
    have hkl : kk < ds.length := by omega
    clear hr hg hx1
    by_cases h0 : x = 0
    · subst h0
      go_wp2_with fail
      replace D := D.drew
      replace q := q.drew
      replace r := r.drew
      replace ho := ho.drew
      have i0' : (0 : Int) ≤ (kk : Int) := by omega
      go_region_held3 (fun w' => w'.cell? ⟨w1.heap.size, 0, none⟩ = some (.slice (some ⟨bb, 0, none⟩) ds.length c)) (go_keep)
        (first | (go_at_call 72; refine (of_any Short base g k w3.heap.size 3 3 _ (by decide) (by decide) (by omega) (by exact cellsS (blk1 _ _ _) rfl (by rfl)) (D.alloc _).rd).mono ?_; rintro e w4 ⟨s, rfl, hs, hr, hg⟩; replace D := (D.alloc _).draw hr hg; replace q := (q.alloc _).gr hg (by omega); replace r := (r.alloc _).gr hg (by omega); replace ho := (ho.alloc _).draw hg (by omega); replace c0 := q.cell 0; have hcc := (ho.cells rfl hkl).1; have hff := ho.froz rfl (kk * 2); clear hr hg))
      obtain ⟨W, hW⟩ : ∃ W, W = w4.setCell ⟨bb, kk * 2, none⟩ (.string s) := ⟨_, rfl⟩
      have o2 : Own W (w.heap.size + 1) 68 (.slice (some ⟨bb, 0, none⟩) ds.length c) (ds.set kk (s, (nth ds kk).2)) := by rw [hW]; exact ho.name rfl hkl _
      have d2 : DS w base g 88 k W := by rw [hW]; exact D.set (by omega) _
      have q2 : Blk W w1.heap.size 28 #[.slice (some ⟨bb, 0, none⟩) ds.length c] := by rw [hW]; exact q.far (by simp; omega) _
      have r2 : Blk W w.heap.size 28 #[.slice none 0 0] := by rw [hW]; exact r.far (by simp; omega) _
      have hf2 := Lib.hid ((HF.out.set kk (d := (s, (nth ds kk).2)) hs (HF.out.nth hkl).2).more (m' := 25) (by omega))
      rw [← hW]
      clear hW ho D q r c0 hcc hff
      replace ho := o2
      replace D := d2
      replace q := q2
      replace r := r2
      clear o2 d2 q2 r2
      have g0 := r.cell 0
      have f0 := r.frozen 0
      have c0 := q.cell 0
      have hrl := r.lt
      have r2 : Blk (W.setCell ⟨w.heap.size, 0, none⟩ (.slice (some ⟨bb, 0, none⟩) ds.length c)) w.heap.size 28 #[(.slice (some ⟨bb, 0, none⟩) ds.length c)] := r.set_ 0 (.slice (some ⟨bb, 0, none⟩) ds.length c)
      have d0 := r2.cell 0
      have hne := ho.ne (p := w.heap.size) (.inl (by omega))
      have HH := Lib.hid (And.intro ((ho.far hne (i := 0) (.slice (some ⟨bb, 0, none⟩) ds.length c)).base (B' := w.heap.size) (by omega)) (D.set (i := 0) (Nat.le_refl _) (.slice (some ⟨bb, 0, none⟩) ds.length c)))
      clear q r r2 ho D hne
      go_wp2
      obtain ⟨ho, D⟩ := HH.out
      exact bodyPost_ret (v := .agg #[(.slice (some ⟨bb, 0, none⟩) ds.length c)]) (by simp [results, Try.results56, go_sem, d0]) rfl ⟨_, _, rfl, ho, hf2.out, D⟩
    · by_cases h1 : x = 1
      · subst h1
        go_wp2_with fail
        replace D := D.drew
        replace q := q.drew
        replace r := r.drew
        replace ho := ho.drew
        have i0' : (0 : Int) ≤ (kk : Int) := by omega
        go_region_held3 (fun w' => w'.cell? ⟨w1.heap.size, 0, none⟩ = some (.slice (some ⟨bb, 0, none⟩) ds.length c)) (go_keep)
          (first | (go_at_call 67; refine (one_any Small base g k w3.heap.size 2 2 _ (by decide) (by decide) (by omega) (by exact cellsI (blk1 _ _ _) rfl (by rfl)) (D.alloc _).rd).mono ?_; rintro e w4 ⟨y, rfl, hy, hr, hg⟩; replace D := (D.alloc _).draw hr hg; replace q := (q.alloc _).gr hg (by omega); replace r := (r.alloc _).gr hg (by omega); replace ho := (ho.alloc _).draw hg (by omega); replace c0 := q.cell 0; have hcc := (ho.cells rfl hkl).2; have hff := ho.froz rfl (kk * 2 + 1); clear hr hg))
        obtain ⟨W, hW⟩ : ∃ W, W = w4.setCell ⟨bb, kk * 2 + 1, none⟩ (.int .i64 y) := ⟨_, rfl⟩
        have o2 : Own W (w.heap.size + 1) 68 (.slice (some ⟨bb, 0, none⟩) ds.length c) (ds.set kk ((nth ds kk).1, y)) := by rw [hW]; exact ho.value rfl hkl _
        have d2 : DS w base g 88 k W := by rw [hW]; exact D.set (by omega) _
        have q2 : Blk W w1.heap.size 28 #[.slice (some ⟨bb, 0, none⟩) ds.length c] := by rw [hW]; exact q.far (by simp; omega) _
        have r2 : Blk W w.heap.size 28 #[.slice none 0 0] := by rw [hW]; exact r.far (by simp; omega) _
        have hf2 := Lib.hid ((HF.out.set kk (d := ((nth ds kk).1, y)) (HF.out.nth hkl).1 hy).more (m' := 25) (by omega))
        rw [← hW]
        clear hW ho D q r c0 hcc hff
        replace ho := o2
        replace D := d2
        replace q := q2
        replace r := r2
        clear o2 d2 q2 r2
        have g0 := r.cell 0
        have f0 := r.frozen 0
        have c0 := q.cell 0
        have hrl := r.lt
        have r2 : Blk (W.setCell ⟨w.heap.size, 0, none⟩ (.slice (some ⟨bb, 0, none⟩) ds.length c)) w.heap.size 28 #[(.slice (some ⟨bb, 0, none⟩) ds.length c)] := r.set_ 0 (.slice (some ⟨bb, 0, none⟩) ds.length c)
        have d0 := r2.cell 0
        have hne := ho.ne (p := w.heap.size) (.inl (by omega))
        have HH := Lib.hid (And.intro ((ho.far hne (i := 0) (.slice (some ⟨bb, 0, none⟩) ds.length c)).base (B' := w.heap.size) (by omega)) (D.set (i := 0) (Nat.le_refl _) (.slice (some ⟨bb, 0, none⟩) ds.length c)))
        clear q r r2 ho D hne
        go_wp2
        obtain ⟨ho, D⟩ := HH.out
        exact bodyPost_ret (v := .agg #[(.slice (some ⟨bb, 0, none⟩) ds.length c)]) (by simp [results, Try.results56, go_sem, d0]) rfl ⟨_, _, rfl, ho, hf2.out, D⟩
      · by_cases h2 : x = 2
        · subst h2
          have e0 := (ho.cells rfl hkl).1
          have e1 := (ho.cells rfl hkl).2
          have f0 := q.frozen 0
          have i0' : (0 : Int) ≤ (kk : Int) := by omega
          go_wp2_with fail
          replace D := D.drew
          replace q := q.drew
          replace r := r.drew
          replace ho := ho.drew
          go_region_law (first
            | (refine step_append_lies _ (by rfl) _ _ 26 (by rfl) (w.heap.size + 1) 68 i0 (.agg #[.string ByteArray.empty, .int .i64 0]) 2 24 Try.underlying26 HI.out HZ0.out HZ1.out HZ2.out rfl (by decide) (.slice (some ⟨bb, 0, none⟩) ds.length c) ds.length (flat ds) (by rfl) (ho.alloc _) ⟨w3.heap.size, 0, none⟩ 1 1 [.string (nth ds kk).1, .int .i64 (nth ds kk).2] (by rfl) rfl (newsD _ (nth ds kk) _) (by simp [Value.oneCell']) (by decide) (by unfold maxLen; omega) (by omega) (by simp; omega) (w3.heap.size + 1) (by simp) ?_; intro g' cap w5 hown hgrow hat _
               replace q := (q.alloc _).row hgrow HNE.out; replace r := (r.alloc _).row hgrow HNR.out; replace D := (D.alloc _).row hgrow (fun i hi => by have := (World.ownsRow.lt ho i hi).1; omega); replace c0 := q.cell 0; replace f0 := q.frozen 0))
          all_goals
            obtain ⟨W, hW⟩ : ∃ W, W = w5.setCell ⟨w1.heap.size, 0, none⟩ (.slice (some ⟨g', 0, none⟩) (ds.length + 1) cap) := ⟨_, rfl⟩
            have o5 : Own w5 (w.heap.size + 1) 68 (.slice (some ⟨g', 0, none⟩) (ds.length + 1) cap) (ds ++ [nth ds kk]) := by
              unfold Own
              rw [flat_snoc, List.length_append]
              exact hown
            have ne5 : (.slice (some ⟨g', 0, none⟩) (ds.length + 1) cap : Value).ownBlock ≠ some w1.heap.size := by
              intro e
              have e' : g' = w1.heap.size := by simpa [Value.ownBlock] using e
              rcases hat with h | h
              · exact HNE.out (by rw [h, e'])
              · omega
            have q2 : Blk W w1.heap.size 28 #[.slice (some ⟨g', 0, none⟩) (ds.length + 1) cap] := by rw [hW]; exact q.set_ 0 _
            have r2 : Blk W w.heap.size 28 #[.slice none 0 0] := by rw [hW]; exact r.far (by simp; omega) _
            have o2 : Own W (w.heap.size + 1) 68 (.slice (some ⟨g', 0, none⟩) (ds.length + 1) cap) (ds ++ [nth ds kk]) := by rw [hW]; exact o5.far ne5 _
            have d2 : DS w base g 88 k W := by rw [hW]; exact (D.less (k' := k) (by omega)).set (by omega) _
            have hf2 := Lib.hid ((HF.out.snoc (d := nth ds kk) (HF.out.nth hkl).1 (HF.out.nth hkl).2).more (m' := 25) (by omega))
            rw [← hW]
            clear hW o5 ne5 hown hgrow hat ho D q r c0 f0 e0 e1
            replace ho := o2
            replace D := d2
            replace q := q2
            replace r := r2
            clear o2 d2 q2 r2
            have g0 := r.cell 0
            have f0 := r.frozen 0
            have c0 := q.cell 0
            have hrl := r.lt
            have r2 : Blk (W.setCell ⟨w.heap.size, 0, none⟩ (.slice (some ⟨g', 0, none⟩) (ds.length + 1) cap)) w.heap.size 28 #[(.slice (some ⟨g', 0, none⟩) (ds.length + 1) cap)] := r.set_ 0 (.slice (some ⟨g', 0, none⟩) (ds.length + 1) cap)
            have d0 := r2.cell 0
            have hne := ho.ne (p := w.heap.size) (.inl (by omega))
            have HH := Lib.hid (And.intro ((ho.far hne (i := 0) (.slice (some ⟨g', 0, none⟩) (ds.length + 1) cap)).base (B' := w.heap.size) (by omega)) (D.set (i := 0) (Nat.le_refl _) (.slice (some ⟨g', 0, none⟩) (ds.length + 1) cap)))
            clear q r r2 ho D hne
            go_wp2
            obtain ⟨ho, D⟩ := HH.out
            exact bodyPost_ret (v := .agg #[(.slice (some ⟨g', 0, none⟩) (ds.length + 1) cap)]) (by simp [results, Try.results56, go_sem, d0]) rfl ⟨_, _, rfl, ho, hf2.out, D⟩
        · by_cases h3 : x = 3
          · subst h3
            obtain ⟨v5, w5, hrun, o5, hgrow, hat⟩ := run_zeros13 (P := Try.prog) (tn := 3) (ty := 26) Try.underlying26 Try.underlying3 HI.out HZ0.out HZ1.out HZ2.out ho HF.out (by omega) hn (by omega)
            replace D := (D.less (k' := k) (by omega)).row hgrow (fun i hi => by have := (World.ownsRow.lt ho i hi).1; omega)
            have hv5 : v5.ownBlock ≠ some w1.heap.size := by
              intro e
              rcases hat with h | h
              · exact HNE.out (by rw [← h, e])
              · rw [h] at e
                simp at e
                omega
            have q5 := q.row hgrow HNE.out
            have r5 := r.row hgrow HNR.out
            have c5 := q5.cell 0
            have f5 := q5.frozen 0
            have hf2 := Lib.hid HF.out.zeros
            obtain ⟨A5, cap5, rfl⟩ := o5.form
            have e13 : (ds ++ List.replicate 13 noD).length = ds.length + 13 := by simp
            rw [e13] at o5 hrun hv5
            clear e13 hat
            have q2 : Blk (w5.setCell ⟨w1.heap.size, 0, none⟩ (.slice A5 (ds.length + 13) cap5)) w1.heap.size 28 #[.slice A5 (ds.length + 13) cap5] := q5.set_ 0 _
            have r2 := r5.far (p := ⟨w1.heap.size, 0, none⟩) (by simp; omega) (.slice A5 (ds.length + 13) cap5)
            replace ho := o5.far hv5 (i := 0) (.slice A5 (ds.length + 13) cap5)
            replace D := D.set (p := w1.heap.size) (i := 0) (by omega) (.slice A5 (ds.length + 13) cap5)
            replace q := q2
            replace r := r2
            clear q5 r5 q2 r2 o5 hgrow
            have g0 := r.cell 0
            have f0 := r.frozen 0
            have c0 := q.cell 0
            have hrl := r.lt
            have r2 : Blk ((w5.setCell ⟨w1.heap.size, 0, none⟩ (.slice A5 (ds.length + 13) cap5)).setCell ⟨w.heap.size, 0, none⟩ (.slice A5 (ds.length + 13) cap5)) w.heap.size 28 #[(.slice A5 (ds.length + 13) cap5)] := r.set_ 0 (.slice A5 (ds.length + 13) cap5)
            have d0 := r2.cell 0
            have hne := ho.ne (p := w.heap.size) (.inl (by omega))
            have HH := Lib.hid (And.intro ((ho.far hne (i := 0) (.slice A5 (ds.length + 13) cap5)).base (B' := w.heap.size) (by omega)) (D.set (i := 0) (Nat.le_refl _) (.slice A5 (ds.length + 13) cap5)))
            clear q r r2 ho D hne
            go_wp2_with (at_builtin; refine Lib.wpList_append_run _ rfl _ _ _ _ rfl _ _ rfl rfl _ _ hrun ?_)
            obtain ⟨ho, D⟩ := HH.out
            exact bodyPost_ret (v := .agg #[(.slice A5 (ds.length + 13) cap5)]) (by simp [results, Try.results56, go_sem, d0]) rfl ⟨_, _, rfl, ho, hf2.out, D⟩
          · have hf2 := Lib.hid (HF.out.more (m' := 25) (by omega))
            replace D := D.less (k' := k) (by omega)
            have g0 := r.cell 0
            have f0 := r.frozen 0
            have c0 := q.cell 0
            have hrl := r.lt
            have r2 : Blk (w3.setCell ⟨w.heap.size, 0, none⟩ (.slice (some ⟨bb, 0, none⟩) ds.length c)) w.heap.size 28 #[(.slice (some ⟨bb, 0, none⟩) ds.length c)] := r.set_ 0 (.slice (some ⟨bb, 0, none⟩) ds.length c)
            have d0 := r2.cell 0
            have hne := ho.ne (p := w.heap.size) (.inl (by omega))
            have HH := Lib.hid (And.intro ((ho.far hne (i := 0) (.slice (some ⟨bb, 0, none⟩) ds.length c)).base (B' := w.heap.size) (by omega)) (D.set (i := 0) (Nat.le_refl _) (.slice (some ⟨bb, 0, none⟩) ds.length c)))
            clear q r r2 ho D hne
            go_wp2
            obtain ⟨ho, D⟩ := HH.out
            exact bodyPost_ret (v := .agg #[(.slice (some ⟨bb, 0, none⟩) ds.length c)]) (by simp [results, Try.results56, go_sem, d0]) rfl ⟨_, _, rfl, ho, hf2.out, D⟩
  · obtain ⟨A, c, rfl⟩ := ho.form
    obtain rfl : ds = [] := List.eq_nil_of_length_eq_zero (by omega)
    obtain ⟨r0, D0, ho0⟩ := H0.out
    replace ho0 : Own w1 (w.heap.size + 1) 68 (.slice A 0 c) [] := ho0
    replace q : Blk (w1.alloc (.cells #[.slice A 0 c] 28)) w1.heap.size 28 #[.slice A 0 c] := q
    replace r : Blk (w1.alloc (.cells #[.slice A 0 c] 28)) w.heap.size 28 #[.slice none 0 0] := r
    have hne : (.slice A 0 c : Value).ownBlock ≠ some w.heap.size := HNR.out
    have g0 := r.cell 0
    have f0 := r.frozen 0
    have c0 := q.cell 0
    have r2 : Blk ((w1.setCell ⟨w.heap.size, 0, none⟩ (.slice A 0 c)).alloc (.cells #[.slice A 0 c] 28)) w.heap.size 28 #[.slice A 0 c] := (r0.set_ 0 (.slice A 0 c)).alloc _
    have d0 := r2.cell 0
    have HH := Lib.hid (And.intro (((ho0.far hne (i := 0) (.slice A 0 c)).alloc (.cells #[.slice A 0 c] 28)).base (B' := w.heap.size) (by omega)) (((D0.less (k' := k) (by omega)).set (i := 0) (Nat.le_refl _) (.slice A 0 c)).alloc (.cells #[.slice A 0 c] 28)))
    clear hn hfl HF HNE HNR H0 r0 D0 ho0 q r r2 hne ho D
    go_wp2
    obtain ⟨ho, D⟩ := HH.out
    exact bodyPost_ret (v := .agg #[(.slice A 0 c)]) (by simp [results, Try.results56, go_sem, d0]) rfl ⟨_, _, rfl, ho, Fine.nil _, D⟩
end Go.Proofs.Ytpnicgagmopilaa
