/-
  The walks of the values that are drawn: aValue, valueIn, valuesIn.
-/
import Derived.Test.YtofkbckpncpmkaaWFlags
import Derived.Test.YtofkbckpncpmkaaWValue
namespace Go.Proofs.Ytofkbckpncpmkaa
open Go.RowKit

theorem vFlag_bits {ds : List D} {z : Int} (h : vFlag ds z = true) : Bits ds := Bits_of (vFlag_defs h)
set_option maxRecDepth 100000 in
set_option maxHeartbeats 4000000 in
theorem aValue_any (B : Nat) (A : Option Addr) (c : Nat) (ds : List D) (z : Int) (base g k : Nat) (w : World) (hr : Rdr w base g 78 (k + 5)) (hB : g < B) (ho : Own w B 41 (.slice A ds.length c) ds) (hf : Fine 13 ds) :
    Calls Try.prog 99 #[.pointer (some ⟨g, 0, none⟩), .agg #[.slice A ds.length c, .int .i64 z]] w (DrawnI Small w base g k) := by
  have D := (DS.start hr).alloc (.cells #[.slice A ds.length c, .int .i64 z] 25)
  have q := blk1 w #[.slice A ds.length c, .int .i64 z] 25
  have hgl := hr.lt
  replace ho := ho.alloc (.cells #[.slice A ds.length c, .int .i64 z] 25)
  have HF := Lib.hid hf
  clear hr hf
  go_enter Try.func99, Try.ntmps99
  go_wp2_with fail
  refine (pick_any base g (k + 4) _ _ D.rd).mono ?_
  rintro e w1 ⟨v, rfl, hv0, hv1, hr, hg⟩
  replace hv1 := hv1 (by decide)
  replace D := D.draw hr hg
  replace q := q.gr hg (by omega)
  replace ho := ho.draw hg hB
  have hs1 := q.lt
  clear hr hg
  go_wp2_with fail
  refine (one_any (fun v => 0 ≤ v ∧ v ≤ 4095) base g (k + 3) w1.heap.size 8 8 _ (by omega) (by omega) (by omega) ?_ (D.alloc _).rd).mono ?_
  · intro i hi
    rw [blk1 w1 #[.int .i64 v, .int .i64 1, .int .i64 3, .int .i64 7, .int .i64 0, .int .i64 63, .int .i64 5, .int .i64 2048] 3 |>.cell i]
    match i, hi with
    | 0, _ => exact ⟨v, rfl, by omega⟩
    | 1, _ => exact ⟨1, rfl, by decide⟩
    | 2, _ => exact ⟨3, rfl, by decide⟩
    | 3, _ => exact ⟨7, rfl, by decide⟩
    | 4, _ => exact ⟨0, rfl, by decide⟩
    | 5, _ => exact ⟨63, rfl, by decide⟩
    | 6, _ => exact ⟨5, rfl, by decide⟩
    | 7, _ => exact ⟨2048, rfl, by decide⟩
  rintro e w2 ⟨x, rfl, ⟨x0, x1⟩, hr, hg⟩
  replace D := (D.alloc _).draw hr hg
  replace q := (q.alloc _).gr hg (by omega)
  replace ho := (ho.alloc _).draw hg hB
  have c0 := q.cell 0
  have c1 := q.cell 1
  clear hr hg
  obtain ⟨A2, c2, he, R⟩ := ho.rd HF.out (by omega)
  simp only [Value.slice.injEq] at he
  obtain ⟨rfl, _, rfl⟩ := he
  go_wp2_with fail
  refine (svalidFlag_any _ _ _ ds _ _ R).mono ?_
  rintro e w3 ⟨rfl, hb⟩
  replace D := D.below hb
  replace q := q.below hb q.lt
  replace ho := ho.below hb
  replace R := R.to hb
  replace c0 := q.cell 0
  replace c1 := q.cell 1
  have hs3 := q.lt
  clear hb
  cases hv : vFlag ds z with
  | false =>
    go_wp2_with fail
    refine (one_any Small base g k w3.heap.size 4 4 _ (by omega) (by omega) (by omega) (cellsI (blk1 w3 _ _) rfl (by simp [okI]; omega)) ((D.less (k' := k + 1) (by omega)).alloc _).rd).mono ?_
    rintro e w4 ⟨y, rfl, hy, hr, hg⟩
    replace D := ((D.less (k' := k + 1) (by omega)).alloc _).draw hr hg
    go_wp2_with fail
    go_ret
    exact ⟨y, rfl, hy, D.rd, D.gr⟩
  | true =>
    have hBits := vFlag_bits hv
    have hm := maskV_lt hBits
    have HB := Lib.hid hBits
    clear hBits
    obtain ⟨m0, m1⟩ := hm
    have hand := andV_le (b := maskV ds) x0
    go_wp2_with fail
    refine (pick_any base g (k + 2) _ _ D.rd).mono ?_
    rintro e w4 ⟨y, rfl, hy0, hy1, hr, hg⟩
    replace D := D.draw hr hg
    replace q := q.gr hg (by omega)
    replace ho := ho.draw hg hB
    replace c0 := q.cell 0
    replace c1 := q.cell 1
    have hs4 := q.lt
    clear hr hg hy1
    by_cases hy : 0 < y
    · obtain ⟨A2, c2, he, R4⟩ := ho.rd HF.out (by omega)
      simp only [Value.slice.injEq] at he
      obtain ⟨rfl, _, rfl⟩ := he
      go_wp2_with fail
      refine (smask_any _ _ _ _ ds HB.out _ R4).mono ?_
      rintro e w' ⟨rfl, rfl⟩
      by_cases hz : z = 3
      · go_wp2_with fail
        refine (pick_any base g (k + 1) _ _ D.rd).mono ?_
        rintro e w5 ⟨t, rfl, ht0, ht1, hr, hg⟩
        replace D := D.draw hr hg
        clear hr hg ht1
        by_cases ht : t = 0
        · go_wp2_with fail
          go_ret
          exact ⟨x, rfl, by unfold Small; omega, (D.less (by omega)).rd, D.gr⟩
        · go_wp2_with (go_at_call 84; refine (both_any _ _ x0 x1 m0 m1 _).mono ?_; rintro e w' ⟨rfl, rfl⟩)
          refine (one_any Small base g k w5.heap.size 4 4 _ (by omega) (by omega) (by have := D.size; omega) (cellsI (blk1 w5 _ _) rfl (by simp [okI]; omega)) ((D.less (k' := k + 1) (by omega)).alloc _).rd).mono ?_
          rintro e w6 ⟨y, rfl, hy, hr, hg⟩
          replace D := ((D.less (k' := k + 1) (by omega)).alloc _).draw hr hg
          go_wp2_with fail
          go_ret
          exact ⟨y, rfl, hy, D.rd, D.gr⟩
      · go_wp2_with (go_at_call 84; refine (both_any _ _ x0 x1 m0 m1 _).mono ?_; rintro e w' ⟨rfl, rfl⟩)
        refine (one_any Small base g k w4.heap.size 4 4 _ (by omega) (by omega) (by have := D.size; omega) (cellsI (blk1 w4 _ _) rfl (by simp [okI]; omega)) ((D.less (k' := k + 1) (by omega)).alloc _).rd).mono ?_
        rintro e w6 ⟨y, rfl, hy, hr, hg⟩
        replace D := ((D.less (k' := k + 1) (by omega)).alloc _).draw hr hg
        go_wp2_with fail
        go_ret
        exact ⟨y, rfl, hy, D.rd, D.gr⟩
    · go_wp2_with fail
      refine (one_any Small base g k w4.heap.size 4 4 _ (by omega) (by omega) (by omega) (cellsI (blk1 w4 _ _) rfl (by simp [okI]; omega)) ((D.less (k' := k + 1) (by omega)).alloc _).rd).mono ?_
      rintro e w5 ⟨y, rfl, hy, hr, hg⟩
      replace D := ((D.less (k' := k + 1) (by omega)).alloc _).draw hr hg
      go_wp2_with fail
      go_ret
      exact ⟨y, rfl, hy, D.rd, D.gr⟩
/-- A class of flags and a value have been drawn. -/
def ValDrawn (w : World) (base g k m : Nat) (e : Ending) (w' : World) : Prop :=
  ∃ v z x ds, e = .returned (.tuple #[.agg #[v, .int .i64 z], .int .i64 x]) ∧ Small z ∧ Small x ∧ Own w' w.heap.size 41 v ds ∧ Fine m ds ∧ DS w base g 78 k w'
/-- A class of flags and two values have been drawn. -/
def ValsDrawn (w : World) (base g k m : Nat) (e : Ending) (w' : World) : Prop :=
  ∃ v z x y ds, e = .returned (.tuple #[.agg #[v, .int .i64 z], .int .i64 x, .int .i64 y]) ∧ Small z ∧ Small x ∧ Small y ∧ Own w' w.heap.size 41 v ds ∧ Fine m ds ∧ DS w base g 78 k w'
set_option maxRecDepth 100000 in
set_option maxHeartbeats 4000000 in
theorem valuesIn_any (base g k : Nat) (w : World) (hr : Rdr w base g 78 (k + 81)) :
    Calls Try.prog 80 #[.pointer (some ⟨g, 0, none⟩)] w (ValsDrawn w base g k 13) := by
  have D := (DS.start hr).alloc (.cells #[.slice none 0 0, .int .i64 0] 25)
  have r := blk1 w #[.slice none 0 0, .int .i64 0] 25
  have hgl := hr.lt
  clear hr
  go_enter Try.func80, Try.ntmps80
  go_wp2_with fail
  refine (someFlag_any base g (k + 11) _ D.rd).mono ?_
  rintro e w1 ⟨v, z, ds, rfl, hz, ho, hf, h1⟩
  replace D := D.trans h1
  replace r := r.gr h1.gr (by omega)
  replace ho := ho.base (B' := w.heap.size + 1) (by simp)
  obtain ⟨A, c, rfl⟩ := ho.form
  have q := blk1 w1 #[.slice A ds.length c, .int .i64 z] 25
  have hs1 := r.lt
  replace r := r.alloc (.cells #[.slice A ds.length c, .int .i64 z] 25)
  replace D := D.alloc (.cells #[.slice A ds.length c, .int .i64 z] 25)
  replace ho := ho.alloc (.cells #[.slice A ds.length c, .int .i64 z] 25)
  have HF := Lib.hid hf
  clear h1 hf
  go_wp2_with fail
  refine (aValue_any (w.heap.size + 1) A c ds z base g (k + 6) _ D.rd (by omega) ho HF.out).mono ?_
  rintro e w2 ⟨x, rfl, hx, hr, hg⟩
  replace D := D.draw hr hg
  replace q := q.gr hg (by omega)
  replace r := r.gr hg (by omega)
  replace ho := ho.draw hg (by omega)
  have c0 := q.cell 0
  have c1 := q.cell 1
  have hs2 := q.lt
  clear hr hg
  go_wp2_with fail
  refine (aValue_any (w.heap.size + 1) A c ds z base g (k + 1) _ D.rd (by omega) ho HF.out).mono ?_
  rintro e w3 ⟨y, rfl, hy, hr, hg⟩
  replace D := D.draw hr hg
  replace q := q.gr hg (by omega)
  replace r := r.gr hg (by omega)
  replace ho := ho.draw hg (by omega)
  replace c0 := q.cell 0
  replace c1 := q.cell 1
  have hs3 := q.lt
  clear hr hg
  go_wp2_with fail
  obtain ⟨A2, c2, he, R⟩ := ho.rd HF.out (by omega)
  simp only [Value.slice.injEq] at he
  obtain ⟨rfl, _, rfl⟩ := he
  refine (sisValue_any _ _ _ ds _ _ _ R).mono ?_
  rintro e w4 ⟨rfl, hb⟩
  replace D := D.below hb
  replace q := q.below hb q.lt
  replace r := r.below hb r.lt
  replace ho := ho.below hb
  replace c0 := q.cell 0
  replace c1 := q.cell 1
  replace R := R.to hb
  have hs4 := q.lt
  clear hb
  cases h1 : isVal ds z x with
  | false =>
    have g0 := r.cell 0
    have g1 := r.cell 1
    have f0 := r.frozen 0
    have f1 := r.frozen 1
    have hrl := r.lt
    have r2 : Blk ((w4.setCell ⟨w.heap.size, 0, none⟩ (.slice A ds.length c)).setCell ⟨w.heap.size, 1, none⟩ (.int .i64 z)) w.heap.size 25 #[(.slice A ds.length c), .int .i64 z] := (r.set_ 0 (.slice A ds.length c)).set_ 1 (.int .i64 z)
    have d0 := r2.cell 0
    have d1 := r2.cell 1
    have hne := ho.ne (p := w.heap.size) (.inl (by omega))
    have HH := Lib.hid (And.intro (((ho.far hne (i := 0) (.slice A ds.length c)).far hne (i := 1) (.int .i64 z)).base (B' := w.heap.size) (by omega)) (((D.less (k' := k) (by omega)).set (i := 0) (Nat.le_refl _) (.slice A ds.length c)).set (i := 1) (Nat.le_refl _) (.int .i64 z)))
    clear q r r2 ho D hne
    go_wp2
    obtain ⟨ho, D⟩ := HH.out
    exact bodyPost_ret (v := .tuple #[.agg #[(.slice A ds.length c), .int .i64 z], .int .i64 x, .int .i64 y]) (by simp [results, Try.results80, go_sem, d0, d1]) rfl ⟨_, z, x, y, ds, rfl, hz, hx, hy, ho, HF.out, D⟩
  | true =>
    go_wp2_with fail
    refine (sisValue_any _ _ _ ds _ _ _ R).mono ?_
    rintro e w5 ⟨rfl, hb⟩
    replace D := D.below hb
    replace q := q.below hb q.lt
    replace r := r.below hb r.lt
    replace ho := ho.below hb
    replace c0 := q.cell 0
    replace c1 := q.cell 1
    have hs5 := q.lt
    clear hb R
    cases h2 : isVal ds z y with
    | false =>
      have g0 := r.cell 0
      have g1 := r.cell 1
      have f0 := r.frozen 0
      have f1 := r.frozen 1
      have hrl := r.lt
      have r2 : Blk ((w5.setCell ⟨w.heap.size, 0, none⟩ (.slice A ds.length c)).setCell ⟨w.heap.size, 1, none⟩ (.int .i64 z)) w.heap.size 25 #[(.slice A ds.length c), .int .i64 z] := (r.set_ 0 (.slice A ds.length c)).set_ 1 (.int .i64 z)
      have d0 := r2.cell 0
      have d1 := r2.cell 1
      have hne := ho.ne (p := w.heap.size) (.inl (by omega))
      have HH := Lib.hid (And.intro (((ho.far hne (i := 0) (.slice A ds.length c)).far hne (i := 1) (.int .i64 z)).base (B' := w.heap.size) (by omega)) (((D.less (k' := k) (by omega)).set (i := 0) (Nat.le_refl _) (.slice A ds.length c)).set (i := 1) (Nat.le_refl _) (.int .i64 z)))
      clear q r r2 ho D hne
      go_wp2
      obtain ⟨ho, D⟩ := HH.out
      exact bodyPost_ret (v := .tuple #[.agg #[(.slice A ds.length c), .int .i64 z], .int .i64 x, .int .i64 y]) (by simp [results, Try.results80, go_sem, d0, d1]) rfl ⟨_, z, x, y, ds, rfl, hz, hx, hy, ho, HF.out, D⟩
    | true =>
      go_wp2_with fail
      refine (pick_any base g k _ _ D.rd).mono ?_
      rintro e w6 ⟨t, rfl, ht0, ht1, hr, hg⟩
      replace D := D.draw hr hg
      replace q := q.gr hg (by omega)
      replace r := r.gr hg (by omega)
      replace ho := ho.draw hg (by omega)
      replace c0 := q.cell 0
      replace c1 := q.cell 1
      have hs6 := q.lt
      clear hr hg ht1
      by_cases ht : t = 0
      · have hxl := (isVal_lt h1).2
        have hyl := (isVal_lt h2).2
        obtain ⟨x0, x1⟩ := hxl
        obtain ⟨y0, y1⟩ := hyl
        have hand := andV_le (b := y) x0
        have hxy : Small (andV x y) := by unfold Small; omega
        have g0 := r.cell 0
        have g1 := r.cell 1
        have f0 := r.frozen 0
        have f1 := r.frozen 1
        have hrl := r.lt
        have r2 : Blk ((w6.setCell ⟨w.heap.size, 0, none⟩ (.slice A ds.length c)).setCell ⟨w.heap.size, 1, none⟩ (.int .i64 z)) w.heap.size 25 #[.slice A ds.length c, .int .i64 z] := (r.set_ 0 (.slice A ds.length c)).set_ 1 (.int .i64 z)
        have d0 := r2.cell 0
        have d1 := r2.cell 1
        have hne := ho.ne (p := w.heap.size) (.inl (by omega))
        have HH := Lib.hid (And.intro (((ho.far hne (i := 0) (.slice A ds.length c)).far hne (i := 1) (.int .i64 z)).base (B' := w.heap.size) (by omega)) ((D.set (i := 0) (Nat.le_refl _) (.slice A ds.length c)).set (i := 1) (Nat.le_refl _) (.int .i64 z)))
        clear q r r2 ho D hne hand
        go_wp2_with (go_at_call 84; refine (both_any _ _ x0 x1 y0 y1 _).mono ?_; rintro e w' ⟨rfl, rfl⟩)
        obtain ⟨ho, D⟩ := HH.out
        exact bodyPost_ret (v := .tuple #[.agg #[(.slice A ds.length c), .int .i64 z], .int .i64 x, .int .i64 (andV x y)]) (by simp [results, Try.results80, go_sem, d0, d1]) rfl ⟨_, z, x, _, ds, rfl, hz, hx, hxy, ho, HF.out, D⟩
      · clear h1 h2
        have g0 := r.cell 0
        have g1 := r.cell 1
        have f0 := r.frozen 0
        have f1 := r.frozen 1
        have hrl := r.lt
        have r2 : Blk ((w6.setCell ⟨w.heap.size, 0, none⟩ (.slice A ds.length c)).setCell ⟨w.heap.size, 1, none⟩ (.int .i64 z)) w.heap.size 25 #[(.slice A ds.length c), .int .i64 z] := (r.set_ 0 (.slice A ds.length c)).set_ 1 (.int .i64 z)
        have d0 := r2.cell 0
        have d1 := r2.cell 1
        have hne := ho.ne (p := w.heap.size) (.inl (by omega))
        have HH := Lib.hid (And.intro (((ho.far hne (i := 0) (.slice A ds.length c)).far hne (i := 1) (.int .i64 z)).base (B' := w.heap.size) (by omega)) ((D.set (i := 0) (Nat.le_refl _) (.slice A ds.length c)).set (i := 1) (Nat.le_refl _) (.int .i64 z)))
        clear q r r2 ho D hne
        go_wp2
        obtain ⟨ho, D⟩ := HH.out
        exact bodyPost_ret (v := .tuple #[.agg #[(.slice A ds.length c), .int .i64 z], .int .i64 x, .int .i64 y]) (by simp [results, Try.results80, go_sem, d0, d1]) rfl ⟨_, z, x, y, ds, rfl, hz, hx, hy, ho, HF.out, D⟩
end Go.Proofs.Ytofkbckpncpmkaa
