/-
  The walks of the classes of flags that are drawn: goodFlag, someFlag.
-/
import Derived.Test.YtofkbckpncpmkaaWGood
import Derived.Deep.RegionLaw
import Derived.Deep.DrawnRows
namespace Go.Proofs.Ytofkbckpncpmkaa
open Go.RowKit
attribute [local go_sem ↓] Go.wp_at_zero Go.wp_at_succ

/-- A class of flags has been drawn. -/
def FlagDrawn (w : World) (base g k m : Nat) (e : Ending) (w' : World) : Prop :=
  ∃ v z ds, e = .returned (.agg #[v, .int .i64 z]) ∧ Small z ∧ Own w' w.heap.size 41 v ds ∧ Fine m ds ∧ DS w base g 78 k w'

set_option maxHeartbeats 1000000 in
theorem goodFlag_any (base g k : Nat) (w : World) (hr : Rdr w base g 78 (k + 62)) :
    Calls Try.prog 90 #[.pointer (some ⟨g, 0, none⟩)] w (FlagDrawn w base g k 12) := by
  have hd := (DS.start hr).alloc (.cells #[.slice none 0 0, .int .i64 0] 25)
  have q := blk1 w #[.slice none 0 0, .int .i64 0] 25
  have hgl := hr.lt
  clear hr
  go_enter Try.func90, Try.ntmps90
  go_wp2_with fail
  refine (goodDefs_any base g (k + 1) _ hd.rd).mono ?_
  rintro e w1 ⟨v, ds, rfl, ho, hf, h1⟩
  have b := hd.trans h1
  replace q := q.gr h1.gr (by omega)
  have c0 := q.cell 0
  have c1 := q.cell 1
  have f0 := q.frozen 0
  have f1 := q.frozen 1
  have hne := ho.ne (p := w.heap.size) (.inl (by simp))
  replace ho := ho.base (B' := w.heap.size) (by simp)
  go_wp2_with fail
  refine (pick_any base g k _ _ b.rd).mono ?_
  rintro e w2 ⟨z, rfl, hz0, hz1, hr, hg⟩
  replace hz1 := hz1 (by decide)
  replace b := b.draw hr hg
  replace ho := ho.draw hg hgl
  replace q := q.gr hg (by omega)
  replace c0 := q.cell 0
  replace c1 := q.cell 1
  replace f0 := q.frozen 0
  replace f1 := q.frozen 1
  have hql := q.lt
  obtain ⟨A, c, rfl⟩ := ho.form
  replace q : Blk ((w2.setCell ⟨w.heap.size, 0, none⟩ (.slice A ds.length c)).setCell ⟨w.heap.size, 1, none⟩ (.int .i64 z)) w.heap.size 25 #[.slice A ds.length c, .int .i64 z] := (q.set_ 0 (.slice A ds.length c)).set_ 1 (.int .i64 z)
  have d0 := q.cell 0
  have d1 := q.cell 1
  clear hr hg h1
  have HH := Lib.hid (And.intro ho (And.intro b hne))
  clear ho b hne q
  go_wp2
  obtain ⟨ho, b, hne⟩ := HH.out
  exact bodyPost_ret (v := .agg #[.slice A ds.length c, .int .i64 z]) (by simp [results, Try.results90, go_sem, d0, d1]) rfl ⟨_, z, ds, rfl, by unfold Small; omega, (ho.far hne (i := 0) _).far hne (i := 1) _, hf, (b.set (Nat.le_refl _) _).set (Nat.le_refl _) _⟩
set_option maxRecDepth 100000 in
set_option maxHeartbeats 4000000 in
theorem someFlag_any (base g k : Nat) (w : World) (hr : Rdr w base g 78 (k + 70)) :
    Calls Try.prog 58 #[.pointer (some ⟨g, 0, none⟩)] w (FlagDrawn w base g k 13) := by
  have hd := (DS.start hr).alloc (.cells #[.slice none 0 0, .int .i64 0] 25)
  have r := blk1 w #[.slice none 0 0, .int .i64 0] 25
  have hgl := hr.lt
  clear hr
  obtain ⟨i0, hi, hz0, hz1, hz2⟩ := info_parts Try.infoDef3
  have HI := Lib.hid hi
  have HZ0 := Lib.hid hz0
  have HZ1 := Lib.hid hz1
  have HZ2 := Lib.hid hz2
  clear hi hz0 hz1 hz2
  go_enter Try.func58, Try.ntmps58
  go_wp2_with fail
  refine (goodFlag_any base g (k + 4) _ (hd.less (k' := k + 4 + 62) (by omega)).rd).mono ?_
  rintro e w1 ⟨v, z, ds, rfl, hz, ho, hf, h1⟩
  replace hd := hd.trans h1
  replace r := r.gr h1.gr (by omega)
  replace ho := ho.base (B' := w.heap.size + 1) (by simp)
  have ho0 := ho.ne (p := w1.heap.size) (.inr (Nat.le_refl _))
  have q := blk1 w1 #[v, .int .i64 z] 25
  replace r := r.alloc (.cells #[v, .int .i64 z] 25)
  replace hd := hd.alloc (.cells #[v, .int .i64 z] 25)
  replace ho := ho.alloc (.cells #[v, .int .i64 z] 25)
  have hw1 : w.heap.size + 1 ≤ w1.heap.size := by have := r.lt; simp at this; have := h1.gr.size; simp at this; omega
  have HR := Lib.hid r
  have HD := Lib.hid hd
  have HO := Lib.hid ho
  have HQ := Lib.hid q
  have HNE := Lib.hid ho0
  have HNR := Lib.hid (ho.ne (p := w.heap.size) (.inl (by omega)))
  obtain ⟨A, c, rfl⟩ := ho.form
  clear ho0 h1 r hd ho q
  go_wp2_with fail
  refine (pick_any base g (k + 3) _ _ HD.out.rd).mono ?_
  rintro e w2 ⟨x, rfl, hx0, hx1, hr, hg⟩
  have hx := hx1 (by decide)
  replace HR := Lib.hid (HR.out.gr hg (by omega))
  replace HD := Lib.hid (HD.out.draw hr hg)
  replace HO := Lib.hid (HO.out.draw hg (by omega))
  replace HQ := Lib.hid (HQ.out.gr hg (by omega))
  clear hr hg hx1
  have hsz : w1.heap.size < w2.heap.size := HQ.out.lt
  by_cases hx0' : x = 0
  · subst hx0'
    have c1 := HQ.out.cell 1
    have f1 := HQ.out.frozen 1
    go_wp2_with fail
    refine (one_any Small base g k _ 2 2 _ (by decide) (by decide) (by omega) (cellsI (blk1 w2 _ _) rfl (by rfl)) (HD.out.less (k' := k + 1) (by omega) |>.alloc _).rd).mono ?_
    rintro e w3 ⟨y, rfl, hy, hr, hg⟩
    replace HR := Lib.hid ((HR.out.alloc _).gr hg (by omega))
    replace HD := Lib.hid ((HD.out.alloc _).draw hr hg)
    replace HO := Lib.hid ((HO.out.alloc _).draw hg (by omega))
    replace HQ := Lib.hid ((HQ.out.alloc _).gr hg (by omega))
    replace c1 := HQ.out.cell 1
    replace f1 := HQ.out.frozen 1
    clear hr hg
    have q : Blk (w3.setCell ⟨w1.heap.size, 1, none⟩ (.int .i64 y)) w1.heap.size 25 #[.slice A ds.length c, .int .i64 y] := HQ.out.set_ 1 _
    have r : Blk (w3.setCell ⟨w1.heap.size, 1, none⟩ (.int .i64 y)) w.heap.size 25 #[.slice none 0 0, .int .i64 0] := HR.out.far (by simp; omega) _
    have o : Own (w3.setCell ⟨w1.heap.size, 1, none⟩ (.int .i64 y)) (w.heap.size + 1) 41 (.slice A ds.length c) ds := HO.out.far HNE.out _
    have d : DS w base g 78 k (w3.setCell ⟨w1.heap.size, 1, none⟩ (.int .i64 y)) := HD.out.set (by omega) _
    have hf2 := Lib.hid (hf.more (m' := 13) (by omega))
    clear HQ HR HO HD
    have c0 := q.cell 0
    have c1 := q.cell 1
    have g0 := r.cell 0
    have g1 := r.cell 1
    have f0 := r.frozen 0
    have f1 := r.frozen 1
    have r2 : Blk (((w3.setCell ⟨w1.heap.size, 1, none⟩ (.int .i64 y)).setCell ⟨w.heap.size, 0, none⟩ (.slice A ds.length c)).setCell ⟨w.heap.size, 1, none⟩ (.int .i64 y)) w.heap.size 25 #[(.slice A ds.length c), .int .i64 y] := (r.set_ 0 (.slice A ds.length c)).set_ 1 (.int .i64 y)
    have d0 := r2.cell 0
    have d1 := r2.cell 1
    have hne := o.ne (p := w.heap.size) (.inl (by omega))
    have HH := Lib.hid (And.intro ((o.far hne (i := 0) (.slice A ds.length c)).far hne (i := 1) (.int .i64 y)) ((d.set (i := 0) (Nat.le_refl _) (.slice A ds.length c)).set (i := 1) (Nat.le_refl _) (.int .i64 y)))
    have hrl := r.lt
    have hql := q.lt
    clear q r r2 o d hne
    go_wp2
    obtain ⟨o, d⟩ := HH.out
    exact bodyPost_ret (v := .agg #[(.slice A ds.length c), .int .i64 y]) (by simp [results, Try.results58, go_sem, d0, d1]) rfl ⟨_, y, ds, rfl, hy, o.base (by omega), hf2.out, d⟩
  · by_cases hx1' : x = 1
    · subst hx1'
      replace HD := Lib.hid HD.out.drew
      replace HO := Lib.hid HO.out.drew
      replace HQ := Lib.hid HQ.out.drew
      replace HR := Lib.hid HR.out.drew
      have c0 := HQ.out.cell 0
      have f0 := HQ.out.frozen 0
      have hfl := hf.1
      have c2 : (w2.alloc (.cells #[.int .i64 (-1), .int .i64 4096, .int .i64 1] 3)).cell? ⟨w1.heap.size, 0, none⟩ = some (.slice A ds.length c) := (HQ.out.alloc _).cell 0
      go_wp2_with fail
      go_region_law (first
        | (go_simp; go_at_call 91; refine (anyName_any base g (k + 1) _ (by first | exact HD.out.rd | exact (HD.out.alloc _).rd)).mono ?_; rintro e w3 ⟨s, rfl, hs, hr, hg⟩
           replace HD := Lib.hid (by first | exact HD.out.draw hr hg | exact (HD.out.alloc _).draw hr hg); replace HO := Lib.hid (by first | exact HO.out.draw hg (by omega) | exact (HO.out.alloc _).draw hg (by omega)); replace HQ := Lib.hid (by first | exact HQ.out.gr hg (by omega) | exact (HQ.out.alloc _).gr hg (by omega)); replace HR := Lib.hid (by first | exact HR.out.gr hg (by omega) | exact (HR.out.alloc _).gr hg (by omega)); replace c0 := HQ.out.cell 0; replace f0 := HQ.out.frozen 0; have hs3 := HQ.out.lt; have c3 : (w3.alloc (.cells #[.int .i64 (-1), .int .i64 4096, .int .i64 1] 3)).cell? ⟨w1.heap.size, 0, none⟩ = some (.slice A ds.length c) := (HQ.out.alloc _).cell 0; try have HI2 := Lib.hid ((blk1 w2.drew #[.int .i64 (-1), .int .i64 4096, .int .i64 1] 3).gr hg (by simp; omega)))
        | (go_simp; go_at_call 65; refine (one_any Small base g k _ 3 3 _ (by decide) (by decide) (by omega) (by first | exact cellsI (blk1 _ _ _) rfl (by rfl) | exact cellsI HI2.out rfl (by rfl)) (by first | exact HD.out.rd | exact (HD.out.alloc _).rd)).mono ?_; rintro e w4 ⟨y, rfl, hy, hr, hg⟩
           replace HD := Lib.hid (by first | exact HD.out.draw hr hg | exact (HD.out.alloc _).draw hr hg); replace HO := Lib.hid (by first | exact HO.out.draw hg (by omega) | exact (HO.out.alloc _).draw hg (by omega)); replace HQ := Lib.hid (by first | exact HQ.out.gr hg (by omega) | exact (HQ.out.alloc _).gr hg (by omega)); replace HR := Lib.hid (by first | exact HR.out.gr hg (by omega) | exact (HR.out.alloc _).gr hg (by omega)); replace c0 := HQ.out.cell 0; replace f0 := HQ.out.frozen 0; have hs4 := HQ.out.lt; have c4 : (w4.alloc (.cells #[.string s, .int .i64 y] 41)).cell? ⟨w1.heap.size, 0, none⟩ = some (.slice A ds.length c) := (HQ.out.alloc _).cell 0)
        | (refine step_append_lies _ (by rfl) _ _ 23 (by rfl) (w.heap.size + 1) 41 i0 (.agg #[.string ByteArray.empty, .int .i64 0]) 2 24 Try.underlying23 HI.out HZ0.out HZ1.out HZ2.out rfl (by decide) (.slice A ds.length c) ds.length (flat ds) (by rfl) (HO.out.alloc _) ⟨w4.heap.size, 0, none⟩ 1 1 [.string s, .int .i64 y] (by rfl) rfl (newsD _ (s, y) _) (by simp [Value.oneCell']) (by decide) (by unfold maxLen; omega) (by omega) (by simp; omega) (w4.heap.size + 1) (by simp) ?_; intro g' cap w5 hown hgrow hat _
           replace HQ := Lib.hid ((HQ.out.alloc _).row hgrow HNE.out); replace HR := Lib.hid ((HR.out.alloc _).row hgrow HNR.out); replace HD := Lib.hid ((HD.out.alloc _).row hgrow (fun i hi => by have := (World.ownsRow.lt HO.out i hi).1; omega)); replace c0 := HQ.out.cell 0; replace f0 := HQ.out.frozen 0))
      all_goals
        obtain ⟨W, hW⟩ : ∃ W, W = w5.setCell ⟨w1.heap.size, 0, none⟩ (.slice (some ⟨g', 0, none⟩) (ds.length + 1) cap) := ⟨_, rfl⟩
        have o5 : Own w5 (w.heap.size + 1) 41 (.slice (some ⟨g', 0, none⟩) (ds.length + 1) cap) (ds ++ [(s, y)]) := by
          unfold Own
          rw [flat_snoc, List.length_append]
          exact hown
        have ne5 : (.slice (some ⟨g', 0, none⟩) (ds.length + 1) cap : Value).ownBlock ≠ some w1.heap.size := by
          intro e
          have e' : g' = w1.heap.size := by simpa [Value.ownBlock] using e
          rcases hat with h | h
          · exact HNE.out (by rw [h, e'])
          · omega
        have q : Blk W w1.heap.size 25 #[.slice (some ⟨g', 0, none⟩) (ds.length + 1) cap, .int .i64 z] := by rw [hW]; exact HQ.out.set_ 0 _
        have r : Blk W w.heap.size 25 #[.slice none 0 0, .int .i64 0] := by rw [hW]; exact HR.out.far (by simp; omega) _
        have o : Own W (w.heap.size + 1) 41 (.slice (some ⟨g', 0, none⟩) (ds.length + 1) cap) (ds ++ [(s, y)]) := by rw [hW]; exact o5.far ne5 _
        have d : DS w base g 78 k W := by rw [hW]; exact HD.out.set (by omega) _
        have hf2 := Lib.hid (hf.snoc (d := (s, y)) hs hy)
        rw [← hW]
        clear hW o5 ne5 hown hgrow hat hr hg HQ HR HO HD
        have c0 := q.cell 0
        have c1 := q.cell 1
        have g0 := r.cell 0
        have g1 := r.cell 1
        have f0 := r.frozen 0
        have f1 := r.frozen 1
        have r2 : Blk ((W.setCell ⟨w.heap.size, 0, none⟩ (.slice (some ⟨g', 0, none⟩) (ds.length + 1) cap)).setCell ⟨w.heap.size, 1, none⟩ (.int .i64 z)) w.heap.size 25 #[(.slice (some ⟨g', 0, none⟩) (ds.length + 1) cap), .int .i64 z] := (r.set_ 0 (.slice (some ⟨g', 0, none⟩) (ds.length + 1) cap)).set_ 1 (.int .i64 z)
        have d0 := r2.cell 0
        have d1 := r2.cell 1
        have hne := o.ne (p := w.heap.size) (.inl (by omega))
        have HH := Lib.hid (And.intro ((o.far hne (i := 0) (.slice (some ⟨g', 0, none⟩) (ds.length + 1) cap)).far hne (i := 1) (.int .i64 z)) ((d.set (i := 0) (Nat.le_refl _) (.slice (some ⟨g', 0, none⟩) (ds.length + 1) cap)).set (i := 1) (Nat.le_refl _) (.int .i64 z)))
        have hrl := r.lt
        have hql := q.lt
        clear q r r2 o d hne
        go_wp2
        obtain ⟨o, d⟩ := HH.out
        exact bodyPost_ret (v := .agg #[(.slice (some ⟨g', 0, none⟩) (ds.length + 1) cap), .int .i64 z]) (by simp [results, Try.results58, go_sem, d0, d1]) rfl ⟨_, z, ds ++ [(s, y)], rfl, hz, o.base (by omega), hf2.out, d.less (by omega)⟩
    · obtain ⟨W, hW⟩ : ∃ W, W = w2 := ⟨_, rfl⟩
      have q : Blk W w1.heap.size 25 #[.slice A ds.length c, .int .i64 z] := by rw [hW]; exact HQ.out
      have r : Blk W w.heap.size 25 #[.slice none 0 0, .int .i64 0] := by rw [hW]; exact HR.out
      have o : Own W (w.heap.size + 1) 41 (.slice A ds.length c) ds := by rw [hW]; exact HO.out
      have d : DS w base g 78 (k + 3) W := by rw [hW]; exact HD.out
      have hf2 := Lib.hid (hf.more (m' := 13) (by omega))
      rw [← hW]
      clear hW HQ HR HO HD
      have c0 := q.cell 0
      have c1 := q.cell 1
      have g0 := r.cell 0
      have g1 := r.cell 1
      have f0 := r.frozen 0
      have f1 := r.frozen 1
      have r2 : Blk ((W.setCell ⟨w.heap.size, 0, none⟩ (.slice A ds.length c)).setCell ⟨w.heap.size, 1, none⟩ (.int .i64 z)) w.heap.size 25 #[(.slice A ds.length c), .int .i64 z] := (r.set_ 0 (.slice A ds.length c)).set_ 1 (.int .i64 z)
      have d0 := r2.cell 0
      have d1 := r2.cell 1
      have hne := o.ne (p := w.heap.size) (.inl (by omega))
      have HH := Lib.hid (And.intro ((o.far hne (i := 0) (.slice A ds.length c)).far hne (i := 1) (.int .i64 z)) ((d.set (i := 0) (Nat.le_refl _) (.slice A ds.length c)).set (i := 1) (Nat.le_refl _) (.int .i64 z)))
      have hrl := r.lt
      have hql := q.lt
      clear q r r2 o d hne
      go_wp2
      obtain ⟨o, d⟩ := HH.out
      exact bodyPost_ret (v := .agg #[(.slice A ds.length c), .int .i64 z]) (by simp [results, Try.results58, go_sem, d0, d1]) rfl ⟨_, z, ds, rfl, hz, o.base (by omega), hf2.out, d.less (by omega)⟩
end Go.Proofs.Ytofkbckpncpmkaa
