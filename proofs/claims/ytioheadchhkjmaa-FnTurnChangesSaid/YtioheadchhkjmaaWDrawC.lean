/-
  The walks of the draws of changes: someChanges, DrawTurnChanges.
-/
import Derived.Test.YtioheadchhkjmaaWEnums
import Derived.Test.YtioheadchhkjmaaWDiffer
namespace Go.Proofs.Ytioheadchhkjmaa
open Go.RowKit
attribute [local go_sem ↓] Go.wp_at_zero Go.wp_at_succ

/-- Changes have been drawn. -/
def ChangesDrawn (w : World) (base g k : Nat) (e : Ending) (w' : World) : Prop :=
  ∃ A c cs, e = .returned (.slice A cs.length c) ∧ cs.length ≤ 1000 ∧ FitAll cs ∧ OwnA w' w.heap.size 55 (.slice A cs.length c) cs ∧ DS w base g 78 k w'
theorem diffLen_le (a b : List D) : diffLen a b ≤ a.length + a.length + b.length := by
  unfold diffLen
  have h1 := cnt_le (isNew b) a a.length
  have h2 := cnt_le (isTurn b) a a.length
  have h3 := cnt_le (isNew a) b b.length
  omega
theorem fitSmall {z : Int} (h : -5000 ≤ z ∧ z ≤ 5000) : Fits z := ⟨by omega, by omega⟩
set_option maxRecDepth 100000 in
set_option maxHeartbeats 8000000 in
theorem someChanges_any (base g k B0 : Nat) (A1 : Option Addr) (c1 : Nat) (ds : List D) (w : World) (hr : Rdr w base g 78 (k + 66)) (oa : Own w B0 46 (.slice A1 ds.length c1) ds) (hgB : g < B0) (hfd : Fine 25 ds) :
    Calls Try.prog 34 #[.pointer (some ⟨g, 0, none⟩), .agg #[.slice A1 ds.length c1]] w (ChangesDrawn w base g k) := by
  have D := (DS.start hr).alloc (.cells #[.slice A1 ds.length c1] 42)
  have q := blk1 w #[.slice A1 ds.length c1] 42
  replace oa := oa.alloc (.cells #[.slice A1 ds.length c1] 42)
  have hgl := hr.lt
  have HFD := Lib.hid hfd
  have hfl := hfd.1
  clear hr hfd
  obtain ⟨i0, hi, hz0, hz1, hz2⟩ := info_parts Try.infoCh4
  have HI := Lib.hid hi
  have HZ0 := Lib.hid hz0
  have HZ1 := Lib.hid hz1
  have HZ2 := Lib.hid hz2
  clear hi hz0 hz1 hz2
  go_enter Try.func34, Try.ntmps34
  go_wp2_with fail
  refine (goodEnum_any base g (k + 5) _ D.rd).mono ?_
  rintro e w1 ⟨v2, es, rfl, oe, hf, h1⟩
  replace D := D.trans h1
  replace q := q.gr h1.gr hgl
  replace oa := oa.draw h1.gr hgB
  obtain ⟨A2, c2, rfl⟩ := oe.form
  have HFE := Lib.hid hf
  have hel := hf.1
  have hgw : w.heap.size < w1.heap.size := q.lt
  replace D := (D.alloc (.cells #[.slice A2 es.length c2] 42)).alloc (.cells #[] 55)
  replace oa := (oa.alloc (.cells #[.slice A2 es.length c2] 42)).alloc (.cells #[] 55)
  replace oe := (oe.alloc (.cells #[.slice A2 es.length c2] 42)).alloc (.cells #[] 55)
  have p := (blk1 w1 #[.slice A2 es.length c2] 42).alloc (.cells #[] 55)
  replace q := (q.alloc (.cells #[.slice A2 es.length c2] 42)).alloc (.cells #[] 55)
  have O : OwnA ((w1.alloc (.cells #[.slice A2 es.length c2] 42)).alloc (.cells #[] 55)) w.heap.size 55 (.slice (some ⟨w1.heap.size + 1, 0, none⟩) 0 0) [] := by
    have h := (OwnA.empty (w1.alloc (.cells #[.slice A2 es.length c2] 42)) 55).base (B' := w.heap.size) (by simp; omega)
    rwa [World.size_alloc] at h
  have c0 := q.cell 0
  have d0 := p.cell 0
  clear h1 hf
  obtain ⟨Ax, cx, he, R1⟩ := oa.rd HFD.out (by omega)
  simp only [Value.slice.injEq] at he
  obtain ⟨rfl, _, rfl⟩ := he
  have HR1 := Lib.hid R1
  clear R1
  go_wp2_with fail
  refine (svalidEnum_any _ _ _ ds _ HR1.out).mono ?_
  rintro e w2 ⟨rfl, hb⟩
  replace D := D.below hb
  replace O := O.below hb
  replace oa := oa.below hb
  replace oe := oe.below hb
  replace p := p.below hb p.lt
  replace q := q.below hb q.lt
  replace c0 := q.cell 0
  replace d0 := p.cell 0
  clear hb HR1
  cases hv : vDefs ds (-1000) 1000 with
  | true =>
    clear hv
    obtain ⟨Ax, cx, he, R1⟩ := oa.rd HFD.out (by omega)
    simp only [Value.slice.injEq] at he
    obtain ⟨rfl, _, rfl⟩ := he
    obtain ⟨Ax, cx, he, R2⟩ := oe.rd HFE.out (by omega)
    simp only [Value.slice.injEq] at he
    obtain ⟨rfl, _, rfl⟩ := he
    have HR1 := Lib.hid R1
    have HR2 := Lib.hid R2
    clear R1 R2
    go_wp2_with fail
    refine (differ_any _ _ _ _ _ _ ds es _ HR1.out HR2.out (by omega) (by omega)).mono ?_
    rintro e w3 ⟨A3, c3, cs, rfl, hcl, hfa, o3, hb⟩
    have hdl := diffLen_le ds es
    replace D := D.below hb
    have hw2 : w.heap.size ≤ w2.heap.size := Nat.le_of_lt q.lt
    obtain ⟨m, hm⟩ : ∃ m, cs.length = m := ⟨_, rfl⟩
    have HCL := Lib.hid hm
    have hm1 : m ≤ 900 := by omega
    rw [hm] at o3 ⊢
    replace O := o3.base (B' := w.heap.size) hw2
    have HF := Lib.hid hfa
    clear o3 hm hcl hfa HR1 HR2 hb oa oe p q c0 d0 hdl
    go_wp2_with fail
    refine (pick_any base g (k + 4) 4 _ D.rd).mono ?_
    rintro e w5 ⟨v, rfl, hv0, hv1, hr, hg⟩
    replace D := D.draw hr hg
    replace O := O.draw hg hgl
    clear hr hg hv1
    by_cases hv : v = 0
    · go_wp2_with fail
      refine (one_any (fun v => -5000 ≤ v ∧ v ≤ 5000) base g (k + 3) w5.heap.size 4 4 _ (by omega) (by omega) (by have := D.rd.lt; omega) (cellsI (blk1 w5 #[.int .i64 0, .int .i64 1, .int .i64 2, .int .i64 3] 3) rfl (by simp [okI])) (D.alloc _).rd).mono ?_
      rintro e w6 ⟨x1, rfl, hx1, hr, hg⟩
      replace O := (O.alloc (.cells #[.int .i64 0, .int .i64 1, .int .i64 2, .int .i64 3] 3)).draw hg hgl
      replace D := (D.alloc (.cells #[.int .i64 0, .int .i64 1, .int .i64 2, .int .i64 3] 3)).draw hr hg
      clear hr hg
      go_wp2_with fail
      refine (aName_any base g (k + 2) _ D.rd).mono ?_
      rintro e w7 ⟨s, rfl, hs, hr, hg⟩
      replace O := O.draw hg hgl
      replace D := D.draw hr hg
      clear hr hg
      go_wp2_with fail
      refine (pick_any base g (k + 1) 3 _ D.rd).mono ?_
      rintro e w8 ⟨x2, rfl, hx20, hx21, hr, hg⟩
      replace hx21 := hx21 (by decide)
      replace O := O.draw hg hgl
      replace D := D.draw hr hg
      clear hr hg
      go_wp2_with fail
      refine (one_any (fun v => -5000 ≤ v ∧ v ≤ 5000) base g k w8.heap.size 3 3 _ (by omega) (by omega) (by have := D.rd.lt; omega) (cellsI (blk1 w8 #[.int .i64 0, .int .i64 1, .int .i64 1001] 3) rfl (by simp [okI])) (D.alloc _).rd).mono ?_
      rintro e w9 ⟨x3, rfl, hx3, hr, hg⟩
      replace O := (O.alloc (.cells #[.int .i64 0, .int .i64 1, .int .i64 1001] 3)).draw hg hgl
      replace D := (D.alloc (.cells #[.int .i64 0, .int .i64 1, .int .i64 1001] 3)).draw hr hg
      clear hr hg
      have hown : World.ownsRow w9 w.heap.size 55 4 (.slice A3 m c3) m (flatH cs) := by have h := O; unfold OwnA at h; rw [HCL.out] at h; exact h
      have HO := Lib.hid hown
      have HNW := Lib.hid (newsH w9 ⟨x1, s, x2, x3⟩ 55)
      have hw9 : w.heap.size ≤ w9.heap.size := D.size
      clear hown O
      go_wp2_with (at_builtin; refine wpList_append_own _ rfl _ _ 24 rfl w.heap.size 55 i0 (.agg #[.int .i64 0, .string ByteArray.empty, .int .i64 0, .int .i64 0]) 4 40 Try.underlying24 HI.out HZ0.out HZ1.out HZ2.out rfl (by decide) _ _ _ rfl (World.ownsRow.alloc HO.out _) ⟨w9.heap.size, 0, none⟩ 1 1 [.int .i64 x1, .string s, .int .i64 x2, .int .i64 x3] rfl rfl HNW.out (by simp [Value.oneCell']) (by unfold maxLen; omega) (by omega) (by simp; omega) ?_; intro v' w10 hown hgrow _)
      have D2 := Lib.hid ((D.alloc (.cells #[.int .i64 x1, .string s, .int .i64 x2, .int .i64 x3] 55)).row hgrow (fun i hi => (World.ownsRow.lt HO.out i hi).1))
      have l3 : (cs ++ [(⟨x1, s, x2, x3⟩ : Ch)]).length = m + 1 := by rw [List.length_append, HCL.out]; rfl
      obtain ⟨A4, c4, rfl⟩ := ownForm hown
      have O2 := Lib.hid (show OwnA w10 w.heap.size 55 (.slice A4 (m + 1) c4) (cs ++ [⟨x1, s, x2, x3⟩]) from by unfold OwnA; rw [flatH_snoc, l3]; exact hown)
      have F2 := Lib.hid (HF.out.snoc (c := ⟨x1, s, x2, x3⟩) (by show s.size ≤ _; unfold Short at hs; omega) (fitSmall hx1) (fitSmall (show -5000 ≤ x2 ∧ x2 ≤ 5000 from ⟨by omega, by omega⟩)) (fitSmall hx3))
      have L3 := Lib.hid l3
      clear l3 hown hgrow D hs
      go_wp2_with fail
      go_ret
      exact ⟨A4, c4, _, by rw [L3.out]; rfl, by rw [L3.out]; omega, F2.out, by rw [L3.out]; exact O2.out, D2.out⟩
    · have HO := Lib.hid (And.intro O D)
      clear O D
      go_wp2_with fail
      go_ret
      exact ⟨A3, c3, cs, by rw [HCL.out]; rfl, by rw [HCL.out]; omega, HF.out, by rw [HCL.out]; exact HO.out.1, HO.out.2.less (by omega)⟩
  | false =>
    clear hv
    generalize hV : (Value.slice (some ⟨w1.heap.size + 1, 0, none⟩) 0 0) = V at O ⊢
    obtain ⟨A3, m, c3, hm, hV3⟩ : ∃ A3 m c3, m = 0 ∧ V = .slice A3 m c3 := ⟨_, 0, 0, rfl, hV.symm⟩
    clear hV
    subst hV3
    obtain ⟨cs, hcs⟩ : ∃ cs : List Ch, cs = [] := ⟨_, rfl⟩
    rw [← hcs] at O
    have HCL := Lib.hid (show cs.length = m from by rw [hcs, hm]; rfl)
    have HF := Lib.hid (show FitAll cs from by rw [hcs]; exact FitAll.nil)
    have hm1 : m ≤ 900 := by omega
    clear hcs hm oa oe p q c0 d0
    go_wp2_with fail
    refine (pick_any base g (k + 4) 4 _ D.rd).mono ?_
    rintro e w5 ⟨v, rfl, hv0, hv1, hr, hg⟩
    replace D := D.draw hr hg
    replace O := O.draw hg hgl
    clear hr hg hv1
    by_cases hv : v = 0
    · go_wp2_with fail
      refine (one_any (fun v => -5000 ≤ v ∧ v ≤ 5000) base g (k + 3) w5.heap.size 4 4 _ (by omega) (by omega) (by have := D.rd.lt; omega) (cellsI (blk1 w5 #[.int .i64 0, .int .i64 1, .int .i64 2, .int .i64 3] 3) rfl (by simp [okI])) (D.alloc _).rd).mono ?_
      rintro e w6 ⟨x1, rfl, hx1, hr, hg⟩
      replace O := (O.alloc (.cells #[.int .i64 0, .int .i64 1, .int .i64 2, .int .i64 3] 3)).draw hg hgl
      replace D := (D.alloc (.cells #[.int .i64 0, .int .i64 1, .int .i64 2, .int .i64 3] 3)).draw hr hg
      clear hr hg
      go_wp2_with fail
      refine (aName_any base g (k + 2) _ D.rd).mono ?_
      rintro e w7 ⟨s, rfl, hs, hr, hg⟩
      replace O := O.draw hg hgl
      replace D := D.draw hr hg
      clear hr hg
      go_wp2_with fail
      refine (pick_any base g (k + 1) 3 _ D.rd).mono ?_
      rintro e w8 ⟨x2, rfl, hx20, hx21, hr, hg⟩
      replace hx21 := hx21 (by decide)
      replace O := O.draw hg hgl
      replace D := D.draw hr hg
      clear hr hg
      go_wp2_with fail
      refine (one_any (fun v => -5000 ≤ v ∧ v ≤ 5000) base g k w8.heap.size 3 3 _ (by omega) (by omega) (by have := D.rd.lt; omega) (cellsI (blk1 w8 #[.int .i64 0, .int .i64 1, .int .i64 1001] 3) rfl (by simp [okI])) (D.alloc _).rd).mono ?_
      rintro e w9 ⟨x3, rfl, hx3, hr, hg⟩
      replace O := (O.alloc (.cells #[.int .i64 0, .int .i64 1, .int .i64 1001] 3)).draw hg hgl
      replace D := (D.alloc (.cells #[.int .i64 0, .int .i64 1, .int .i64 1001] 3)).draw hr hg
      clear hr hg
      have hown : World.ownsRow w9 w.heap.size 55 4 (.slice A3 m c3) m (flatH cs) := by have h := O; unfold OwnA at h; rw [HCL.out] at h; exact h
      have HO := Lib.hid hown
      have HNW := Lib.hid (newsH w9 ⟨x1, s, x2, x3⟩ 55)
      have hw9 : w.heap.size ≤ w9.heap.size := D.size
      clear hown O
      go_wp2_with (at_builtin; refine wpList_append_own _ rfl _ _ 24 rfl w.heap.size 55 i0 (.agg #[.int .i64 0, .string ByteArray.empty, .int .i64 0, .int .i64 0]) 4 40 Try.underlying24 HI.out HZ0.out HZ1.out HZ2.out rfl (by decide) _ _ _ rfl (World.ownsRow.alloc HO.out _) ⟨w9.heap.size, 0, none⟩ 1 1 [.int .i64 x1, .string s, .int .i64 x2, .int .i64 x3] rfl rfl HNW.out (by simp [Value.oneCell']) (by unfold maxLen; omega) (by omega) (by simp; omega) ?_; intro v' w10 hown hgrow _)
      have D2 := Lib.hid ((D.alloc (.cells #[.int .i64 x1, .string s, .int .i64 x2, .int .i64 x3] 55)).row hgrow (fun i hi => (World.ownsRow.lt HO.out i hi).1))
      have l3 : (cs ++ [(⟨x1, s, x2, x3⟩ : Ch)]).length = m + 1 := by rw [List.length_append, HCL.out]; rfl
      obtain ⟨A4, c4, rfl⟩ := ownForm hown
      have O2 := Lib.hid (show OwnA w10 w.heap.size 55 (.slice A4 (m + 1) c4) (cs ++ [⟨x1, s, x2, x3⟩]) from by unfold OwnA; rw [flatH_snoc, l3]; exact hown)
      have F2 := Lib.hid (HF.out.snoc (c := ⟨x1, s, x2, x3⟩) (by show s.size ≤ _; unfold Short at hs; omega) (fitSmall hx1) (fitSmall (show -5000 ≤ x2 ∧ x2 ≤ 5000 from ⟨by omega, by omega⟩)) (fitSmall hx3))
      have L3 := Lib.hid l3
      clear l3 hown hgrow D hs
      go_wp2_with fail
      go_ret
      exact ⟨A4, c4, _, by rw [L3.out]; rfl, by rw [L3.out]; omega, F2.out, by rw [L3.out]; exact O2.out, D2.out⟩
    · have HO := Lib.hid (And.intro O D)
      clear O D
      go_wp2_with fail
      go_ret
      exact ⟨A3, c3, cs, by rw [HCL.out]; rfl, by rw [HCL.out]; omega, HF.out, by rw [HCL.out]; exact HO.out.1, HO.out.2.less (by omega)⟩
/-- Changes have come out. -/
def ChangesOut (w : World) (e : Ending) (w' : World) : Prop :=
  ∃ A c cs, e = .returned (.slice A cs.length c) ∧ GoodH cs ∧ RdH w' w'.heap.size A cs.length c cs ∧ Below w.heap.size w w'
set_option maxRecDepth 100000 in
set_option maxHeartbeats 4000000 in
theorem drawTurnChanges_any (A : Option Addr) (n c : Nat) (w : World) (hr : RdB w w.heap.size A n c) :
    Calls Try.prog 14 #[.slice A n c] w (ChangesOut w) := by
  go_enter Try.func14, Try.ntmps14
  go_wp2_with fail
  refine (newReader_any A n c _ hr).mono ?_
  rintro e w1 ⟨g, rfl, hr1, hb⟩
  have hg0 := hr1.1
  have hg1 := hr1.lt
  have b := hb
  clear hr hb
  go_wp2_with fail
  refine (goodEnum_any _ g 66 _ (hr1.less (by omega))).mono ?_
  rintro e w2 ⟨v, ds, rfl, ho, hf, D⟩
  obtain ⟨A1, c1, rfl⟩ := ho.form
  go_wp2_with fail
  refine (someChanges_any _ g 0 w1.heap.size A1 c1 ds _ D.rd ho hg1 (hf.more (by omega))).mono ?_
  rintro e w3 ⟨A3, c3, cs, rfl, hl, hfa, o, D2⟩
  have b2 := b.trans (grown_below (base := w.heap.size) (D.trans D2).gr hg0 b.size)
  have R := o.toH.rd2 (hfa.good (by omega)) rfl
  have HH := Lib.hid (And.intro (hfa.good (by omega)) (And.intro R b2))
  clear R b2 o D D2 hfa ho hf b hr1
  go_wp2
  go_ret
  exact ⟨A3, c3, cs, rfl, HH.out⟩
end Go.Proofs.Ytioheadchhkjmaa
