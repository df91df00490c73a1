/-
  The walk of two enumerations that are drawn: twoEnums.
-/
import Derived.Test.YtpnicgagmopilaaWDrawE
import Derived.Test.YtpnicgagmopilaaWCopy
namespace Go.Proofs.Ytpnicgagmopilaa
open Go.RowKit
attribute [local go_sem ↓] Go.wp_at_zero Go.wp_at_succ

/-- What stays while the second enumeration is made: the first one, and the places of the results. -/
structure TI (L M : Nat) (t tD : TypeId) (va : Value) (dsa : List D) (w : World) : Prop where
  le : L + 1 < M
  q : Blk w M t #[va]
  o : Own w (L + 2) tD va dsa
  lt : ∀ p, va.ownBlock = some p → p < M
  r1 : Blk w L t #[.slice none 0 0]
  r2 : Blk w (L + 1) t #[.slice none 0 0]
section
variable {L M : Nat} {t tD : TypeId} {va : Value} {dsa : List D} {w w' : World}
theorem TI.row {row : Option Nat} (h : TI L M t tD va dsa w) (hg : w.grownBy w' row) (hr : ∀ i, row = some i → M < i ∨ i < L) : TI L M t tD va dsa w' := by
  have hle := h.le
  refine ⟨h.le, h.q.row hg (fun e => by have := hr M e; omega), World.ownsRow.kept h.o hg ?_, h.lt, h.r1.row hg (fun e => by have := hr L e; omega), h.r2.row hg (fun e => by have := hr (L + 1) e; omega)⟩
  cases hv : va.ownBlock with
  | none => exact .inl rfl
  | some p =>
    refine .inr fun e => ?_
    have h1 := hr p e.symm
    have h2 := h.lt p hv
    have h3 := (World.ownsRow.lt h.o p hv).1
    omega
theorem TI.below (h : TI L M t tD va dsa w) (hb : Below w.heap.size w w') : TI L M t tD va dsa w' := h.row (row := none) ⟨hb.os, hb.tape, hb.output, hb.size, fun i hi _ => hb.block i hi⟩ (by simp)
theorem TI.alloc (h : TI L M t tD va dsa w) (o : Obj) : TI L M t tD va dsa (w.alloc o) := h.below (below1 w o)
theorem TI.drew (h : TI L M t tD va dsa w) : TI L M t tD va dsa w.drew := ⟨h.le, h.q, h.o, h.lt, h.r1, h.r2⟩
theorem TI.draw {g : Nat} (h : TI L M t tD va dsa w) (hg : w.grownBy w' (some g)) (hlt : g < L) : TI L M t tD va dsa w' := h.row hg (fun i hi => by simp at hi; omega)
theorem TI.set {p i : Nat} (h : TI L M t tD va dsa w) (hp : M < p) (u : Value) : TI L M t tD va dsa (w.setCell ⟨p, i, none⟩ u) :=
  h.row (grown_set (grown_refl w (some p)) u) (fun j hj => by simp at hj; omega)
end
theorem ownV_form {w : World} {B n : Nat} {t : TypeId} {v : Value} {xs : List Value} (h : w.ownsRow B t 2 v n xs) : ∃ A c, v = .slice A n c := by
  rcases h.2 with ⟨hv, h0⟩ | ⟨g, cap, _, hv, _⟩
  · exact ⟨none, 0, by rw [hv, h0]⟩
  · exact ⟨_, cap, hv⟩
theorem Fine.drop1 {m : Nat} {ds : List D} (h : Fine m ds) (k : Nat) : Fine m (ds.take k ++ ds.drop (k + 1)) := by
  refine ⟨by have := h.1; rw [List.length_append, List.length_take, List.length_drop]; omega, fun x hx => ?_⟩
  rcases List.mem_append.1 hx with hx | hx
  · exact h.2 x (List.mem_of_mem_take hx)
  · exact h.2 x (List.mem_of_mem_drop hx)
/-- Two enumerations have been drawn. -/
def TwoDrawn (w : World) (base g k : Nat) (e : Ending) (w' : World) : Prop :=
  ∃ va vb dsa dsb, e = .returned (.tuple #[.agg #[va], .agg #[vb]]) ∧ Own w' w.heap.size 68 va dsa ∧ Own w' w.heap.size 68 vb dsb ∧ Fine 28 dsa ∧ Fine 28 dsb ∧ DS w base g 88 k w'

set_option maxRecDepth 100000 in
set_option maxHeartbeats 8000000 in
theorem twoEnums_any (base g k : Nat) (w : World) (hr : Rdr w base g 88 (k + 142)) :
    Calls Try.prog 71 #[.pointer (some ⟨g, 0, none⟩)] w (TwoDrawn w base g k) := by
  have D := ((DS.start hr).alloc (.cells #[.slice none 0 0] 28)).alloc (.cells #[.slice none 0 0] 28)
  have r1 := (blk1 w #[.slice none 0 0] 28).alloc (.cells #[.slice none 0 0] 28)
  have r2 := blk2 w (.cells #[.slice none 0 0] 28) #[.slice none 0 0] 28
  have hgl := hr.lt
  clear hr
  go_enter Try.func71, Try.ntmps71
  go_wp2_with fail
  refine (someEnum_any base g (k + 78) _ D.rd).mono ?_
  rintro e w1 ⟨va, dsa, rfl, oa, hfa, h1⟩
  obtain ⟨Aa, ca, rfl⟩ := oa.form
  replace D := D.trans h1
  replace r1 := r1.gr h1.gr (by omega)
  replace r2 := r2.gr h1.gr (by omega)
  replace oa := oa.base (B' := w.heap.size + 2) (by simp)
  have hw1 : w.heap.size + 1 < w1.heap.size := r2.lt
  have hlta := fun p hp => (World.ownsRow.lt oa p hp).2
  have T0 : TI w.heap.size w1.heap.size 28 68 (.slice Aa dsa.length ca) dsa (w1.alloc (.cells #[.slice Aa dsa.length ca] 28)) := ⟨hw1, blk1 w1 _ _, oa.alloc _, hlta, r1.alloc _, r2.alloc _⟩
  replace D := D.alloc (.cells #[.slice Aa dsa.length ca] 28)
  clear h1 r1 r2 oa hlta
  go_wp2_with fail
  refine (goodEnum_any base g (k + 17) _ D.rd).mono ?_
  rintro e w2 ⟨vb, dsb, rfl, ob, hfb, h2⟩
  obtain ⟨Ab, cb, rfl⟩ := ob.form
  replace D := Lib.hid ((D.trans h2).alloc (.cells #[.slice Ab dsb.length cb] 28))
  have hs2 : w1.heap.size < w2.heap.size := by have := h2.gr.size; simp at this; omega
  have T := Lib.hid ((T0.draw h2.gr hgl).alloc (.cells #[.slice Ab dsb.length cb] 28))
  replace ob := ob.base (B' := w1.heap.size + 1) (by simp)
  have hnb := Lib.hid (ob.ne (p := w2.heap.size) (.inr (Nat.le_refl _)))
  have q := Lib.hid (blk1 w2 #[.slice Ab dsb.length cb] 28)
  have o := Lib.hid (ob.alloc (.cells #[.slice Ab dsb.length cb] 28))
  have HFA := Lib.hid hfa
  have HFB := Lib.hid hfb
  obtain ⟨Ra1, Ra2, he, Ra⟩ := T.out.o.rd hfa (by omega)
  simp only [Value.slice.injEq] at he
  obtain ⟨rfl, _, rfl⟩ := he
  have a0 := T.out.q.cell 0
  clear h2 T0 ob hfa hfb
  go_wp2_with fail
  refine (svalidEnum_any _ _ _ dsa _ Ra).mono ?_
  rintro e w3 ⟨rfl, hb⟩
  replace D := Lib.hid (D.out.below hb)
  replace T := Lib.hid (T.out.below hb)
  replace q := Lib.hid (q.out.below hb q.out.lt)
  replace o := Lib.hid (o.out.below hb)
  have hs3 := q.out.lt
  clear hb Ra a0
  cases hv : vDefs dsa (-1000) 1000 with
  | false =>
    have a0 := T.out.q.cell 0
    have b0 := q.out.cell 0
    have g1 := T.out.r1.cell 0
    have g2 := T.out.r2.cell 0
    have f1 := T.out.r1.frozen 0
    have f2 := T.out.r2.frozen 0
    go_wp2_with fail
    go_region_held3 (fun w' => w'.cell? ⟨w1.heap.size, 0, none⟩ = some (.slice Aa dsa.length ca) ∧ w'.cell? ⟨w2.heap.size, 0, none⟩ = some (.slice Ab dsb.length cb)) (first | exact ⟨a0, b0⟩ | exact ⟨cell_far a0 (by omega), cell_far b0 (by omega)⟩ | exact ⟨cell_far (cell_far a0 (by omega)) (by omega), cell_far (cell_far b0 (by omega)) (by omega)⟩) (fail)
    have na1 := T.out.o.ne (p := w.heap.size) (.inl (by omega))
    have na2 := T.out.o.ne (p := w.heap.size + 1) (.inl (by omega))
    have nb1 := o.out.ne (p := w.heap.size) (.inl (by omega))
    have nb2 := o.out.ne (p := w.heap.size + 1) (.inl (by omega))
    have oa := ((T.out.o.drew.far na1 (i := 0) (.slice Aa dsa.length ca)).far na2 (i := 0) (.slice Ab dsb.length cb)).base (B' := w.heap.size) (by omega)
    have ob := ((o.out.drew.far nb1 (i := 0) (.slice Aa dsa.length ca)).far nb2 (i := 0) (.slice Ab dsb.length cb)).base (B' := w.heap.size) (by omega)
    have DD := (((D.out.less (k' := k) (by omega)).drew.set (p := w.heap.size) (i := 0) (Nat.le_refl _) (.slice Aa dsa.length ca)).set (p := w.heap.size + 1) (i := 0) (by omega) (.slice Ab dsb.length cb))
    have r1' : Blk ((w3).setCell ⟨w.heap.size, 0, none⟩ (.slice Aa dsa.length ca)) w.heap.size 28 #[.slice Aa dsa.length ca] := T.out.r1.set_ 0 (.slice Aa dsa.length ca)
    have r2' : Blk (((w3).setCell ⟨w.heap.size, 0, none⟩ (.slice Aa dsa.length ca)).setCell ⟨w.heap.size + 1, 0, none⟩ (.slice Ab dsb.length cb)) (w.heap.size + 1) 28 #[(.slice Ab dsb.length cb)] := (T.out.r2.far (by simp) _).set_ 0 (.slice Ab dsb.length cb)
    have d0 := r1'.cell 0
    have d1 := r2'.cell 0
    have HH := Lib.hid (And.intro oa (And.intro ob DD))
    clear na1 na2 nb1 nb2 oa ob DD r1' r2' a0 b0 g1 g2 f1 f2
    go_wp2
    exact bodyPost_ret (v := .tuple #[.agg #[.slice Aa dsa.length ca], .agg #[(.slice Ab dsb.length cb)]]) (by simp [results, Try.results71, go_sem, d0, d1]) rfl ⟨_, _, dsa, dsb, rfl, HH.out.1, HH.out.2.1, HFA.out.more (by omega), HFB.out.more (by omega), HH.out.2.2⟩
  | true =>
    go_wp2_with fail
    refine (pick_any base g (k + 16) _ _ D.out.rd).mono ?_
    rintro e w4 ⟨x, rfl, hx0, hx1, hr, hg⟩
    replace hx1 := hx1 (by decide)
    replace D := Lib.hid (D.out.draw hr hg)
    replace T := Lib.hid (T.out.draw hg hgl)
    replace q := Lib.hid (q.out.gr hg (by omega))
    replace o := Lib.hid (o.out.draw hg (by omega))
    have c0 := q.out.cell 0
    clear hr hg
    have hs4 := q.out.lt
    by_cases hx : 0 < x
    · have a0 := T.out.q.cell 0
      obtain ⟨Ra1, Ra2, he, Ra⟩ := T.out.o.rd HFA.out (by omega)
      simp only [Value.slice.injEq] at he
      obtain ⟨rfl, _, rfl⟩ := he
      have hcapA : Aa = none → ca = 0 := by
        obtain ⟨Ax, cx, he, _, _, hh⟩ := T.out.o.toC.cap
        simp only [Value.slice.injEq] at he
        obtain ⟨rfl, _, rfl⟩ := he
        exact hh
      go_wp2_with fail
      refine (copyDefs_own Aa _ ca dsa _ Ra hcapA).mono ?_
      rintro e w5 ⟨v5, rfl, o5, hb⟩
      replace D := Lib.hid (D.out.below hb)
      replace T := Lib.hid (T.out.below hb)
      replace q := Lib.hid (q.out.below hb q.out.lt)
      have hs5 := q.out.lt
      obtain ⟨A5, c5, rfl⟩ := o5.form
      have hn5 := Lib.hid (o5.ne (p := w2.heap.size) (.inl hs4))
      have HN5 := Lib.hid hn5.out
      replace o5 := o5.base (B' := w1.heap.size + 1) (by omega)
      have q5 := q.out.cell 0
      have f5 := q.out.frozen 0
      obtain ⟨W, hW⟩ : ∃ W, W = w5.setCell ⟨w2.heap.size, 0, none⟩ (.slice A5 dsa.length c5) := ⟨_, rfl⟩
      have D5 := Lib.hid (show DS w base g 88 (k + 16) W from by rw [hW]; exact D.out.set (by omega) _)
      have T5 := Lib.hid (show TI w.heap.size w1.heap.size 28 68 (.slice Aa dsa.length ca) dsa W from by rw [hW]; exact T.out.set (by omega) _)
      have Q5 := Lib.hid (show Blk W w2.heap.size 28 #[.slice A5 dsa.length c5] from by rw [hW]; exact q.out.set_ 0 _)
      have O5 := Lib.hid (show Own W (w1.heap.size + 1) 68 (.slice A5 dsa.length c5) dsa from by rw [hW]; exact o5.far hn5.out _)
      clear D T q o o5 hb Ra a0 c0 hn5
      obtain ⟨i0, hi, hz0, hz1, hz2⟩ := info_parts Try.infoDef5
      have HI := Lib.hid hi
      have HZ0 := Lib.hid hz0
      have HZ1 := Lib.hid hz1
      have HZ2 := Lib.hid hz2
      clear hi hz0 hz1 hz2
      have hWs := D5.out.size
      have hQs := Q5.out.lt
      go_wp2_with fail
      rw [← hW]
      clear hW q5 f5
      refine (pick_any base g (k + 15) _ _ D5.out.rd).mono ?_
      rintro e w6 ⟨nn, rfl, hnn0, hnn1, hr, hg⟩
      replace hnn1 := hnn1 (by decide)
      obtain ⟨nn, rfl⟩ := Int.eq_ofNat_of_zero_le hnn0
      replace D5 := Lib.hid (D5.out.draw hr hg)
      replace T5 := Lib.hid (T5.out.draw hg hgl)
      replace Q5 := Lib.hid (Q5.out.gr hg (by omega))
      replace O5 := Lib.hid (O5.out.draw hg (by omega))
      clear hr hg hQs hWs
      have HF28 := Lib.hid (HFA.out.more (m' := 28 - nn) (by omega))
      go_wp2
      go_loopw [6] (fun i wr => ∃ (m : Nat) (A' : Option Addr) (c' : Nat) (dsb : List D), i = .int .i64 m ∧ m ≤ 3 ∧ Hid (Fine (28 - m) dsb) ∧ Hid (Own wr (w1.heap.size + 1) 68 (.slice A' dsb.length c') dsb) ∧ Hid ((.slice A' dsb.length c' : Value).ownBlock ≠ some w2.heap.size) ∧ Hid (Blk wr w2.heap.size 28 #[.slice A' dsb.length c']) ∧ Hid (TI w.heap.size w1.heap.size 28 68 (.slice Aa dsa.length ca) dsa wr) ∧ Hid (DS w base g 88 (k + 5 * m) wr)) (fun i _ => (intOf i).toNat)
      case atStart => exact ⟨nn, A5, c5, dsa, rfl, by omega, HF28.out, O5.out, HN5.out, Q5.out, T5.out, D5.out.less (by omega)⟩
      case round =>
        obtain ⟨m, A', c', dsb, rfl, hm3, hf, o, hn, q, T, D⟩ := hrel
        clear D5 T5 Q5 O5 HF28 HN5
        have hfl := hf.out.1
        have b0 := q.out.cell 0
        have hqs := q.out.lt
        have hwr := D.out.size
        by_cases hm0 : (0 : Int) < m
        · go_wp2_with fail
          refine (pick_any base g (k + 5 * (m - 1) + 4) _ _ (D.out.less (by omega)).rd).mono ?_
          rintro e w7 ⟨kk, rfl, hk0, hk1, hr, hg⟩
          replace hk1 := hk1 (by omega)
          obtain ⟨kk, rfl⟩ := Int.eq_ofNat_of_zero_le hk0
          replace D := Lib.hid (D.out.less (k' := k + 5 * (m - 1) + 4 + 1) (by omega))
          replace D := Lib.hid (D.out.draw hr hg)
          replace T := Lib.hid (T.out.draw hg hgl)
          replace q := Lib.hid (q.out.gr hg (by omega))
          replace o := Lib.hid (o.out.draw hg (by omega))
          have b0 := q.out.cell 0
          have hqs := q.out.lt
          clear hr hg
          go_wp2_with fail
          refine (aName_any base g (k + 5 * (m - 1) + 3) _ D.out.rd).mono ?_
          rintro e w8 ⟨s, rfl, hs, hr, hg⟩
          replace D := Lib.hid (D.out.draw hr hg)
          replace T := Lib.hid (T.out.draw hg hgl)
          replace q := Lib.hid (q.out.gr hg (by omega))
          replace o := Lib.hid (o.out.draw hg (by omega))
          have b0 := q.out.cell 0
          have hqs := q.out.lt
          clear hr hg
          go_wp2_with fail
          refine (one_any Small base g (k + 5 * (m - 1) + 2) w8.heap.size 5 5 _ (by omega) (by omega) (by omega) (by exact cellsI (blk1 w8 _ _) rfl (by rfl)) (D.out.alloc _).rd).mono ?_
          rintro e w9 ⟨x2, rfl, hx2, hr, hg⟩
          replace D := Lib.hid (D.out.alloc (.cells #[.int .i64 1, .int .i64 2, .int .i64 3, .int .i64 9, .int .i64 0] 3))
          replace T := Lib.hid (T.out.alloc (.cells #[.int .i64 1, .int .i64 2, .int .i64 3, .int .i64 9, .int .i64 0] 3))
          replace q := Lib.hid (q.out.alloc (.cells #[.int .i64 1, .int .i64 2, .int .i64 3, .int .i64 9, .int .i64 0] 3))
          replace o := Lib.hid (o.out.alloc (.cells #[.int .i64 1, .int .i64 2, .int .i64 3, .int .i64 9, .int .i64 0] 3))
          replace D := Lib.hid (D.out.draw hr hg)
          replace T := Lib.hid (T.out.draw hg hgl)
          replace q := Lib.hid (q.out.gr hg (by omega))
          replace o := Lib.hid (o.out.draw hg (by omega))
          have b0 := q.out.cell 0
          have hqs := q.out.lt
          clear hr hg
          have p := blk1 w9 #[.string s, .int .i64 x2] 68
          have hp9 : w2.heap.size < w9.heap.size := hqs
          have hw9 := D.out.size
          replace D := Lib.hid (D.out.alloc (.cells #[.string s, .int .i64 x2] 68))
          replace T := Lib.hid (T.out.alloc (.cells #[.string s, .int .i64 x2] 68))
          replace q := Lib.hid (q.out.alloc (.cells #[.string s, .int .i64 x2] 68))
          replace o := Lib.hid (o.out.alloc (.cells #[.string s, .int .i64 x2] 68))
          replace b0 := q.out.cell 0
          by_cases hkl : kk < dsb.length
          · go_wp2_with fail
            refine (pick_any base g (k + 5 * (m - 1) + 1) _ _ D.out.rd).mono ?_
            rintro e w10 ⟨y, rfl, hy0, hy1, hr, hg⟩
            replace p := p.gr hg (by omega)
            replace D := Lib.hid (D.out.draw hr hg)
            replace T := Lib.hid (T.out.draw hg hgl)
            replace q := Lib.hid (q.out.gr hg (by omega))
            replace o := Lib.hid (o.out.draw hg (by omega))
            have b0 := q.out.cell 0
            have hqs := q.out.lt
            clear hr hg
            clear hy1
            by_cases hy : y = 0
            · obtain ⟨bb, cb2, he, hbb, hbw, _, _⟩ := o.out.some (by omega)
              simp only [Value.slice.injEq] at he
              obtain ⟨rfl, _, rfl⟩ := he
              obtain ⟨Rb1, Rb2, he, Rb⟩ := o.out.rd hf.out (by omega)
              simp only [Value.slice.injEq] at he
              obtain ⟨rfl, _, rfl⟩ := he
              go_wp2_with fail
              refine (dropped_own bb 0 _ _ kk dsb hkl _ Rb).mono ?_
              rintro e w11 ⟨v11, rfl, o11, hb⟩
              replace D := Lib.hid (D.out.below hb)
              replace T := Lib.hid (T.out.below hb)
              replace q := Lib.hid (q.out.below hb q.out.lt)
              replace b0 := q.out.cell 0
              have f0 := q.out.frozen 0
              have el : (dsb.take kk ++ dsb.drop (kk + 1)).length = dsb.length - 1 := by rw [List.length_append, List.length_take, List.length_drop]; omega
              obtain ⟨A8, c8, rfl⟩ := o11.form
              rw [el] at o11
              have n11 := Lib.hid (o11.ne (p := w2.heap.size) (.inl hqs))
              have O11 := Lib.hid (o11.base (B' := w1.heap.size + 1) (by omega))
              have hf8 := Lib.hid (hf.out.drop1 kk)
              clear o11 o hn Rb hb
              rw [el]
              go_wp2_with fail
              go_roundw
              case rel => exact ⟨m - 1, A8, c8, dsb.take kk ++ dsb.drop (kk + 1), by go_num, by omega, hf8.out.more (by omega), by rw [el]; exact O11.out.far n11.out _, by rw [el]; exact n11.out, by rw [el]; exact q.out.set_ 0 _, T.out.set (by omega) _, (D.out.less (by omega)).set (by omega) _⟩
              case measure => simp [intOf]; omega
            · go_wp2_with fail
              refine (pick_any base g (k + 5 * (m - 1)) _ _ D.out.rd).mono ?_
              rintro e w11 ⟨y2, rfl, hy20, hy21, hr, hg⟩
              replace p := p.gr hg (by omega)
              replace D := Lib.hid (D.out.draw hr hg)
              replace T := Lib.hid (T.out.draw hg hgl)
              replace q := Lib.hid (q.out.gr hg (by omega))
              replace o := Lib.hid (o.out.draw hg (by omega))
              have b0 := q.out.cell 0
              have hqs := q.out.lt
              clear hr hg
              clear hy21
              by_cases hy2 : y2 = 0
              · obtain ⟨bb, cb2, he, hbb, hbw, _, _⟩ := o.out.some (by omega)
                simp only [Value.slice.injEq] at he
                obtain ⟨rfl, _, rfl⟩ := he
                have e1 := p.cell 1
                have hcc := (o.out.cells rfl hkl).2
                have hff := o.out.froz rfl (kk * 2 + 1)
                have hbq : w2.heap.size ≠ bb := fun e => hn.out (by rw [e]; rfl)
                have hf8 := Lib.hid (hf.out.set kk (d := ((nth dsb kk).1, x2)) (hf.out.nth hkl).1 hx2)
                go_wp2_with fail
                go_roundw
                case rel => exact ⟨m - 1, some ⟨bb, 0, none⟩, _, dsb.set kk ((nth dsb kk).1, x2), by go_num, by omega, hf8.out.more (by omega), by rw [List.length_set]; exact o.out.value rfl hkl x2, by rw [List.length_set]; exact hn.out, by rw [List.length_set]; exact q.out.far hbq _, T.out.set (by omega) _, (D.out.less (by omega)).set (by omega) _⟩
                case measure => simp [intOf]; omega
              · skip
                have e0 := p.cell 0
                have e1 := p.cell 1
                obtain ⟨Rb1, Rb2, he, Rb⟩ := o.out.rd hf.out (by omega)
                simp only [Value.slice.injEq] at he
                obtain ⟨rfl, _, rfl⟩ := he
                go_wp2_with fail
                refine (indexOf_bel _ _ _ dsb s _ Rb).mono ?_
                rintro e wi ⟨rfl, hb⟩
                replace D := Lib.hid (D.out.below hb)
                replace T := Lib.hid (T.out.below hb)
                replace q := Lib.hid (q.out.below hb q.out.lt)
                replace o := Lib.hid (o.out.below hb)
                replace p := p.below hb p.lt
                replace b0 := q.out.cell 0
                replace e0 := p.cell 0
                replace e1 := p.cell 1
                replace hqs := q.out.lt
                have f0 := q.out.frozen 0
                have hwi := D.out.size
                clear hb Rb
                by_cases hi : ix (nameIs s) dsb < 0
                · by_cases h12 : dsb.length < 12
                  · go_wp2_with (at_builtin; refine wpList_append_own_at _ rfl _ _ 26 rfl (w1.heap.size + 1) 68 i0 (.agg #[.string ByteArray.empty, .int .i64 0]) 2 24 Try.underlying26 HI.out HZ0.out HZ1.out HZ2.out rfl (by decide) (.slice A' dsb.length c') dsb.length (flat dsb) rfl (o.out.alloc _) ⟨wi.heap.size, 0, none⟩ 1 1 [.string s, .int .i64 x2] rfl rfl (newsD _ (s, x2) _) (by simp [Value.oneCell']) (by unfold maxLen; omega) (by omega) (by simp; omega) ?_; intro v8 w8 hown8 hgrow _ hat; obtain ⟨A8, c8, rfl⟩ : ∃ A8 c8, v8 = .slice A8 (dsb.length + 1) c8 := ownV_form hown8; have q8 := (q.out.alloc (.cells #[.string s, .int .i64 x2] 68)).row hgrow hn.out; have b8 := q8.cell 0; have f8 := q8.frozen 0)
                    have o8 : Own w8 (w1.heap.size + 1) 68 (.slice A8 (dsb.length + 1) c8) (dsb ++ [(s, x2)]) := by
                      unfold Own
                      rw [flat_snoc, List.length_append]
                      exact hown8
                    have n8 : (.slice A8 (dsb.length + 1) c8 : Value).ownBlock ≠ some w2.heap.size := by
                      intro e
                      rcases hat with h | h
                      · exact hn.out (by rw [← h, e])
                      · rw [h] at e
                        simp at e
                        omega
                    have T8 := (T.out.alloc (.cells #[.string s, .int .i64 x2] 68)).row hgrow (fun i hi => .inl (by have := (World.ownsRow.lt o.out i hi).1; omega))
                    have D8 := (D.out.alloc (.cells #[.string s, .int .i64 x2] 68)).row hgrow (fun i hi => by have := (World.ownsRow.lt o.out i hi).1; omega)
                    have hf8 := hf.out.snoc (d := (s, x2)) hs hx2
                    have el : (dsb ++ [(s, x2)]).length = dsb.length + 1 := by simp
                    go_roundw
                    case rel => exact ⟨m - 1, A8, c8, dsb ++ [(s, x2)], by go_num, by omega, hf8.more (by omega), by rw [el]; exact o8.far n8 _, by rw [el]; exact n8, by rw [el]; exact q8.set_ 0 _, T8.set (by omega) _, (D8.less (by omega)).set (by omega) _⟩
                    case measure => simp [intOf]; omega
                  · skip
                    go_wp2_with fail
                    go_roundw
                    case rel => exact ⟨m - 1, A', c', dsb, by go_num, by omega, hf.out.more (by omega), o.out, hn.out, q.out, T.out, D.out.less (by omega)⟩
                    case measure => simp [intOf]; omega
                · skip
                  go_wp2_with fail
                  go_roundw
                  case rel => exact ⟨m - 1, A', c', dsb, by go_num, by omega, hf.out.more (by omega), o.out, hn.out, q.out, T.out, D.out.less (by omega)⟩
                  case measure => simp [intOf]; omega
          · have hkl' : ¬ (kk : Int) < (dsb.length : Int) := by omega
            have e0 := p.cell 0
            have e1 := p.cell 1
            obtain ⟨Rb1, Rb2, he, Rb⟩ := o.out.rd hf.out (by omega)
            simp only [Value.slice.injEq] at he
            obtain ⟨rfl, _, rfl⟩ := he
            go_wp2_with fail
            refine (indexOf_bel _ _ _ dsb s _ Rb).mono ?_
            rintro e wi ⟨rfl, hb⟩
            replace D := Lib.hid (D.out.below hb)
            replace T := Lib.hid (T.out.below hb)
            replace q := Lib.hid (q.out.below hb q.out.lt)
            replace o := Lib.hid (o.out.below hb)
            replace p := p.below hb p.lt
            replace b0 := q.out.cell 0
            replace e0 := p.cell 0
            replace e1 := p.cell 1
            replace hqs := q.out.lt
            have f0 := q.out.frozen 0
            have hwi := D.out.size
            clear hb Rb
            by_cases hi : ix (nameIs s) dsb < 0
            · by_cases h12 : dsb.length < 12
              · go_wp2_with (at_builtin; refine wpList_append_own_at _ rfl _ _ 26 rfl (w1.heap.size + 1) 68 i0 (.agg #[.string ByteArray.empty, .int .i64 0]) 2 24 Try.underlying26 HI.out HZ0.out HZ1.out HZ2.out rfl (by decide) (.slice A' dsb.length c') dsb.length (flat dsb) rfl (o.out.alloc _) ⟨wi.heap.size, 0, none⟩ 1 1 [.string s, .int .i64 x2] rfl rfl (newsD _ (s, x2) _) (by simp [Value.oneCell']) (by unfold maxLen; omega) (by omega) (by simp; omega) ?_; intro v8 w8 hown8 hgrow _ hat; obtain ⟨A8, c8, rfl⟩ : ∃ A8 c8, v8 = .slice A8 (dsb.length + 1) c8 := ownV_form hown8; have q8 := (q.out.alloc (.cells #[.string s, .int .i64 x2] 68)).row hgrow hn.out; have b8 := q8.cell 0; have f8 := q8.frozen 0)
                have o8 : Own w8 (w1.heap.size + 1) 68 (.slice A8 (dsb.length + 1) c8) (dsb ++ [(s, x2)]) := by
                  unfold Own
                  rw [flat_snoc, List.length_append]
                  exact hown8
                have n8 : (.slice A8 (dsb.length + 1) c8 : Value).ownBlock ≠ some w2.heap.size := by
                  intro e
                  rcases hat with h | h
                  · exact hn.out (by rw [← h, e])
                  · rw [h] at e
                    simp at e
                    omega
                have T8 := (T.out.alloc (.cells #[.string s, .int .i64 x2] 68)).row hgrow (fun i hi => .inl (by have := (World.ownsRow.lt o.out i hi).1; omega))
                have D8 := (D.out.alloc (.cells #[.string s, .int .i64 x2] 68)).row hgrow (fun i hi => by have := (World.ownsRow.lt o.out i hi).1; omega)
                have hf8 := hf.out.snoc (d := (s, x2)) hs hx2
                have el : (dsb ++ [(s, x2)]).length = dsb.length + 1 := by simp
                go_roundw
                case rel => exact ⟨m - 1, A8, c8, dsb ++ [(s, x2)], by go_num, by omega, hf8.more (by omega), by rw [el]; exact o8.far n8 _, by rw [el]; exact n8, by rw [el]; exact q8.set_ 0 _, T8.set (by omega) _, (D8.less (by omega)).set (by omega) _⟩
                case measure => simp [intOf]; omega
              · skip
                go_wp2_with fail
                go_roundw
                case rel => exact ⟨m - 1, A', c', dsb, by go_num, by omega, hf.out.more (by omega), o.out, hn.out, q.out, T.out, D.out.less (by omega)⟩
                case measure => simp [intOf]; omega
            · skip
              go_wp2_with fail
              go_roundw
              case rel => exact ⟨m - 1, A', c', dsb, by go_num, by omega, hf.out.more (by omega), o.out, hn.out, q.out, T.out, D.out.less (by omega)⟩
              case measure => simp [intOf]; omega
        · have hm00 : m = 0 := by omega
          subst hm00
          have a0 := T.out.q.cell 0
          have b0 := q.out.cell 0
          have g1 := T.out.r1.cell 0
          have g2 := T.out.r2.cell 0
          have f1 := T.out.r1.frozen 0
          have f2 := T.out.r2.frozen 0
          go_wp2_with fail
          go_region_held3 (fun w' => w'.cell? ⟨w1.heap.size, 0, none⟩ = some (.slice Aa dsa.length ca) ∧ w'.cell? ⟨w2.heap.size, 0, none⟩ = some (.slice A' dsb.length c')) (first | exact ⟨a0, b0⟩ | exact ⟨cell_far a0 (by omega), cell_far b0 (by omega)⟩ | exact ⟨cell_far (cell_far a0 (by omega)) (by omega), cell_far (cell_far b0 (by omega)) (by omega)⟩) (fail)
          have na1 := T.out.o.ne (p := w.heap.size) (.inl (by omega))
          have na2 := T.out.o.ne (p := w.heap.size + 1) (.inl (by omega))
          have nb1 := o.out.ne (p := w.heap.size) (.inl (by omega))
          have nb2 := o.out.ne (p := w.heap.size + 1) (.inl (by omega))
          have oa := ((T.out.o.drew.far na1 (i := 0) (.slice Aa dsa.length ca)).far na2 (i := 0) (.slice A' dsb.length c')).base (B' := w.heap.size) (by omega)
          have ob := ((o.out.drew.far nb1 (i := 0) (.slice Aa dsa.length ca)).far nb2 (i := 0) (.slice A' dsb.length c')).base (B' := w.heap.size) (by omega)
          have DD := (((D.out.less (k' := k) (by omega)).drew.set (p := w.heap.size) (i := 0) (Nat.le_refl _) (.slice Aa dsa.length ca)).set (p := w.heap.size + 1) (i := 0) (by omega) (.slice A' dsb.length c'))
          have r1' : Blk ((wr).setCell ⟨w.heap.size, 0, none⟩ (.slice Aa dsa.length ca)) w.heap.size 28 #[.slice Aa dsa.length ca] := T.out.r1.set_ 0 (.slice Aa dsa.length ca)
          have r2' : Blk (((wr).setCell ⟨w.heap.size, 0, none⟩ (.slice Aa dsa.length ca)).setCell ⟨w.heap.size + 1, 0, none⟩ (.slice A' dsb.length c')) (w.heap.size + 1) 28 #[(.slice A' dsb.length c')] := (T.out.r2.far (by simp) _).set_ 0 (.slice A' dsb.length c')
          have d0 := r1'.cell 0
          have d1 := r2'.cell 0
          have HH := Lib.hid (And.intro oa (And.intro ob DD))
          clear na1 na2 nb1 nb2 oa ob DD r1' r2' a0 b0 g1 g2 f1 f2
          go_wp2
          exact bodyPost_ret (v := .tuple #[.agg #[.slice Aa dsa.length ca], .agg #[(.slice A' dsb.length c')]]) (by simp [results, Try.results71, go_sem, d0, d1]) rfl ⟨_, _, dsa, dsb, rfl, HH.out.1, HH.out.2.1, HFA.out.more (by omega), hf.out.more (by omega), HH.out.2.2⟩
    · skip
      have a0 := T.out.q.cell 0
      have b0 := q.out.cell 0
      have g1 := T.out.r1.cell 0
      have g2 := T.out.r2.cell 0
      have f1 := T.out.r1.frozen 0
      have f2 := T.out.r2.frozen 0
      go_wp2_with fail
      go_region_held3 (fun w' => w'.cell? ⟨w1.heap.size, 0, none⟩ = some (.slice Aa dsa.length ca) ∧ w'.cell? ⟨w2.heap.size, 0, none⟩ = some (.slice Ab dsb.length cb)) (first | exact ⟨a0, b0⟩ | exact ⟨cell_far a0 (by omega), cell_far b0 (by omega)⟩ | exact ⟨cell_far (cell_far a0 (by omega)) (by omega), cell_far (cell_far b0 (by omega)) (by omega)⟩) (fail)
      have na1 := T.out.o.ne (p := w.heap.size) (.inl (by omega))
      have na2 := T.out.o.ne (p := w.heap.size + 1) (.inl (by omega))
      have nb1 := o.out.ne (p := w.heap.size) (.inl (by omega))
      have nb2 := o.out.ne (p := w.heap.size + 1) (.inl (by omega))
      have oa := ((T.out.o.drew.far na1 (i := 0) (.slice Aa dsa.length ca)).far na2 (i := 0) (.slice Ab dsb.length cb)).base (B' := w.heap.size) (by omega)
      have ob := ((o.out.drew.far nb1 (i := 0) (.slice Aa dsa.length ca)).far nb2 (i := 0) (.slice Ab dsb.length cb)).base (B' := w.heap.size) (by omega)
      have DD := (((D.out.less (k' := k) (by omega)).drew.set (p := w.heap.size) (i := 0) (Nat.le_refl _) (.slice Aa dsa.length ca)).set (p := w.heap.size + 1) (i := 0) (by omega) (.slice Ab dsb.length cb))
      have r1' : Blk ((w4).setCell ⟨w.heap.size, 0, none⟩ (.slice Aa dsa.length ca)) w.heap.size 28 #[.slice Aa dsa.length ca] := T.out.r1.set_ 0 (.slice Aa dsa.length ca)
      have r2' : Blk (((w4).setCell ⟨w.heap.size, 0, none⟩ (.slice Aa dsa.length ca)).setCell ⟨w.heap.size + 1, 0, none⟩ (.slice Ab dsb.length cb)) (w.heap.size + 1) 28 #[(.slice Ab dsb.length cb)] := (T.out.r2.far (by simp) _).set_ 0 (.slice Ab dsb.length cb)
      have d0 := r1'.cell 0
      have d1 := r2'.cell 0
      have HH := Lib.hid (And.intro oa (And.intro ob DD))
      clear na1 na2 nb1 nb2 oa ob DD r1' r2' a0 b0 g1 g2 f1 f2
      go_wp2
      exact bodyPost_ret (v := .tuple #[.agg #[.slice Aa dsa.length ca], .agg #[(.slice Ab dsb.length cb)]]) (by simp [results, Try.results71, go_sem, d0, d1]) rfl ⟨_, _, dsa, dsb, rfl, HH.out.1, HH.out.2.1, HFA.out.more (by omega), HFB.out.more (by omega), HH.out.2.2⟩
end Go.Proofs.Ytpnicgagmopilaa
