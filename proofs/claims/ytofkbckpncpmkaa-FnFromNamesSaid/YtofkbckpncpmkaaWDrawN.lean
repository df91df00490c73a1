/-
  The walks of names that are drawn: someNames, and the draw of FromNames.
-/
import Derived.Test.YtofkbckpncpmkaaWDrawG
import Derived.Test.YtofkbckpncpmkaaWText
namespace Go.Proofs.Ytofkbckpncpmkaa
open Go.RowKit
attribute [local go_sem ↓] Go.wp_at_zero Go.wp_at_succ

/-- The call's own row of texts. -/
def OwnT (w : World) (B : Nat) (t : TypeId) (v : Value) (ss : List ByteArray) : Prop := w.ownsRow B t 1 v ss.length (flatS ss)
/-- The texts are few, and short. -/
def FineS (m : Nat) (ss : List ByteArray) : Prop := ss.length ≤ m ∧ ∀ s ∈ ss, s.size ≤ 10
theorem FineS.snoc {m : Nat} {ss : List ByteArray} (h : FineS m ss) {s : ByteArray} (hs : s.size ≤ 10) : FineS (m + 1) (ss ++ [s]) := by
  refine ⟨by have := h.1; simp; omega, fun x hx => ?_⟩
  rcases List.mem_append.1 hx with hx | hx
  · exact h.2 x hx
  · rw [List.mem_singleton.1 hx]; exact hs
theorem FineS.more {m m' : Nat} {ss : List ByteArray} (h : FineS m ss) (hm : m ≤ m') : FineS m' ss := ⟨by have := h.1; omega, h.2⟩
theorem FineS.good {m : Nat} {ss : List ByteArray} (h : FineS m ss) (hm : m ≤ 1000) : GoodS ss := ⟨by have := h.1; omega, fun s hs => by have := h.2 s hs; omega⟩
/-- Texts have been drawn. -/
def TextsDrawn (w : World) (base g k m : Nat) (e : Ending) (w' : World) : Prop :=
  ∃ v ss, e = .returned v ∧ OwnT w' w.heap.size 9 v ss ∧ FineS m ss ∧ DS w base g 78 k w'
set_option maxRecDepth 100000 in
set_option maxHeartbeats 4000000 in
theorem someNames_any (B : Nat) (A : Option Addr) (c : Nat) (ds : List D) (base g k : Nat) (w : World) (hr : Rdr w base g 78 (k + 10)) (hB : g < B) (ho : Own w B 41 (.slice A ds.length c) ds) (hf : Fine 13 ds) :
    Calls Try.prog 75 #[.pointer (some ⟨g, 0, none⟩), .slice A ds.length c] w (TextsDrawn w base g k 3) := by
  have q0 := DS.start hr
  have hgl := hr.lt
  have HO := Lib.hid ho
  have HF := Lib.hid hf
  clear hr ho hf
  obtain ⟨i0, hi, hz0, hz1, hz2⟩ := info_parts Try.infoText
  have HI := Lib.hid hi
  have HZ0 := Lib.hid hz0
  have HZ1 := Lib.hid hz1
  have HZ2 := Lib.hid hz2
  clear hi hz0 hz1 hz2
  go_enter Try.func75, Try.ntmps75
  go_wp2_with fail
  refine (pick_any base g (k + 9) _ _ (q0.alloc _).rd).mono ?_
  rintro e w1 ⟨n, rfl, hn0, hn1, hr, hg⟩
  replace hn1 := hn1 (by decide)
  obtain ⟨n, rfl⟩ := Int.eq_ofNat_of_zero_le hn0
  have D1 := Lib.hid ((q0.alloc (.cells #[] 9)).draw hr hg)
  have ot0 : OwnT (w.alloc (.cells #[] 9)) w.heap.size 9 (.slice (some ⟨w.heap.size, 0, none⟩) 0 0) [] := World.ownsRow_lit (size := 1) w #[] 0 (Nat.le_refl _) (by unfold maxLen; omega) rfl
  have OT1 := Lib.hid (own_grown ot0 hg hgl)
  clear hr hg q0 ot0
  go_wp2
  go_loopw [5, 6] (fun o i wr => ∃ (m : Nat) (A' : Option Addr) (c' : Nat) (ss : List ByteArray), i = .int .i64 m ∧ o = .slice A' ss.length c' ∧ Hid (FineS (3 - m) ss) ∧ m ≤ 3 ∧ Hid (OwnT wr w.heap.size 9 (.slice A' ss.length c') ss) ∧ Hid (DS w base g 78 (k + 3 * m) wr)) (fun _ i _ => (intOf i).toNat)
  case atStart => exact ⟨n, _, 0, [], rfl, rfl, ⟨Nat.zero_le _, by simp⟩, by omega, OT1.out, D1.out.less (by omega)⟩
  case round =>
    obtain ⟨m, A', c', ss, rfl, rfl, hfs, hm, ot, hd⟩ := hrel
    have hfl := hfs.out.1
    by_cases hm0 : (0 : Int) < m
    · have hwr := hd.out.size
      by_cases hlen : 0 < ds.length
      · obtain ⟨bb, c2, he, hbb, hbw, hcc0, hcc1⟩ := HO.out.some hlen
        simp only [Value.slice.injEq] at he
        obtain ⟨rfl, _, rfl⟩ := he
        go_wp2_with fail
        refine (pick_any base g (k + 3 * (m - 1) + 2) _ _ (hd.out.less (by omega)).rd).mono ?_
        rintro e w2 ⟨x, rfl, hx0, hx1, hr, hg⟩
        replace hd := Lib.hid ((hd.out.less (k' := k + 3 * (m - 1) + 2 + 1) (by omega)).draw hr hg)
        replace ot := Lib.hid (own_grown ot.out hg hgl)
        have hs2 := hd.out.size
        clear hr hg hx1
        by_cases hx : 0 < x
        · go_wp2_with fail
          refine (pick_any base g (k + 3 * (m - 1) + 1) _ _ hd.out.rd).mono ?_
          rintro e w3 ⟨kk, rfl, hk0, hk1, hr, hg⟩
          replace hk1 := hk1 (by omega)
          obtain ⟨kk, rfl⟩ := Int.eq_ofNat_of_zero_le hk0
          replace hd := Lib.hid (hd.out.draw hr hg)
          replace ot := Lib.hid (own_grown ot.out hg hgl)
          have hs3 := hd.out.size
          have hkl : kk < ds.length := (by omega)
          have e0 := ((HO.out.draw hd.out.gr hB).cells rfl hkl).1
          have hs : (nth ds kk).1.size ≤ 10 := (HF.out.nth hkl).1
          clear hr hg
          go_wp2_with (at_builtin; refine wpList_append_own _ rfl _ _ 37 rfl w.heap.size 9 i0 (.string ByteArray.empty) 1 16 Try.underlying37 HI.out HZ0.out HZ1.out HZ2.out rfl (by decide) _ _ _ rfl (ot.out.alloc _) ⟨w3.heap.size, 0, none⟩ 1 1 [.string (nth ds kk).1] rfl rfl (cell_one_new _ _ _) (by simp [Value.oneCell']) (by unfold maxLen; omega) (by omega) (by simp; omega) ?_; intro v' w8 hown8 hgrow _)
          have ot8 : OwnT w8 w.heap.size 9 v' (ss ++ [(nth ds kk).1]) := by
            unfold OwnT
            rw [flatS_snoc, List.length_append]
            exact hown8
          have hd8 := (hd.out.alloc (.cells #[.string (nth ds kk).1] 9)).row hgrow fun i hi => (World.ownsRow.lt ot.out i hi).1
          obtain ⟨A8, c8, rfl⟩ := ownS_slice ot8
          have hfs8 := hfs.out.snoc (s := (nth ds kk).1) hs
          go_roundw
          case rel => exact ⟨m - 1, A8, c8, ss ++ [(nth ds kk).1], by go_num, rfl, hfs8.more (by omega), by omega, ot8, hd8.less (by omega)⟩
          case measure => simp [intOf]; omega
        · go_wp2_with fail
          refine (anyName_any base g (k + 3 * (m - 1)) _ hd.out.rd).mono ?_
          rintro e w3 ⟨s, rfl, hs, hr, hg⟩
          replace hd := Lib.hid (hd.out.draw hr hg)
          replace ot := Lib.hid (own_grown ot.out hg hgl)
          have hs3 := hd.out.size
          clear hr hg
          go_wp2_with (at_builtin; refine wpList_append_own _ rfl _ _ 37 rfl w.heap.size 9 i0 (.string ByteArray.empty) 1 16 Try.underlying37 HI.out HZ0.out HZ1.out HZ2.out rfl (by decide) _ _ _ rfl (ot.out.alloc _) ⟨w3.heap.size, 0, none⟩ 1 1 [.string s] rfl rfl (cell_one_new _ _ _) (by simp [Value.oneCell']) (by unfold maxLen; omega) (by omega) (by simp; omega) ?_; intro v' w8 hown8 hgrow _)
          have ot8 : OwnT w8 w.heap.size 9 v' (ss ++ [s]) := by
            unfold OwnT
            rw [flatS_snoc, List.length_append]
            exact hown8
          have hd8 := (hd.out.alloc (.cells #[.string s] 9)).row hgrow fun i hi => (World.ownsRow.lt ot.out i hi).1
          obtain ⟨A8, c8, rfl⟩ := ownS_slice ot8
          have hfs8 := hfs.out.snoc (s := s) hs
          go_roundw
          case rel => exact ⟨m - 1, A8, c8, ss ++ [s], by go_num, rfl, hfs8.more (by omega), by omega, ot8, hd8.less (by omega)⟩
          case measure => simp [intOf]; omega
      · have hlen0 : ds.length = 0 := by omega
        go_wp2_with fail
        refine (anyName_any base g (k + 3 * (m - 1) + 1) _ (hd.out.less (by omega)).rd).mono ?_
        rintro e w3 ⟨s, rfl, hs, hr, hg⟩
        replace hd := Lib.hid ((hd.out.less (k' := k + 3 * (m - 1) + 1 + 2) (by omega)).draw hr hg)
        replace ot := Lib.hid (own_grown ot.out hg hgl)
        have hs3 := hd.out.size
        clear hr hg hlen0
        go_wp2_with (at_builtin; refine wpList_append_own _ rfl _ _ 37 rfl w.heap.size 9 i0 (.string ByteArray.empty) 1 16 Try.underlying37 HI.out HZ0.out HZ1.out HZ2.out rfl (by decide) _ _ _ rfl (ot.out.alloc _) ⟨w3.heap.size, 0, none⟩ 1 1 [.string s] rfl rfl (cell_one_new _ _ _) (by simp [Value.oneCell']) (by unfold maxLen; omega) (by omega) (by simp; omega) ?_; intro v' w8 hown8 hgrow _)
        have ot8 : OwnT w8 w.heap.size 9 v' (ss ++ [s]) := by
          unfold OwnT
          rw [flatS_snoc, List.length_append]
          exact hown8
        have hd8 := (hd.out.alloc (.cells #[.string s] 9)).row hgrow fun i hi => (World.ownsRow.lt ot.out i hi).1
        obtain ⟨A8, c8, rfl⟩ := ownS_slice ot8
        have hfs8 := hfs.out.snoc (s := s) hs
        go_roundw
        case rel => exact ⟨m - 1, A8, c8, ss ++ [s], by go_num, rfl, hfs8.more (by omega), by omega, ot8, hd8.less (by omega)⟩
        case measure => simp [intOf]; omega
    · go_wp2
      go_ret
      exact ⟨_, ss, rfl, ot.out, hfs.out.more (by omega), hd.out.less (by omega)⟩
/-- A class of flags and names have come out. -/
def NamesOut (w : World) (e : Ending) (w' : World) : Prop :=
  ∃ A c ds z A' c' ss, e = .returned (.tuple #[.agg #[.slice A ds.length c, .int .i64 z], .slice A' ss.length c']) ∧ FineS 3 ss ∧ Fine 13 ds ∧ Rd w' w'.heap.size A ds.length c ds ∧ RdS w' w'.heap.size A' ss.length c' ss ∧ Below w.heap.size w w'
set_option maxHeartbeats 4000000 in
theorem drawFromNames_any (A : Option Addr) (n c : Nat) (w : World) (hr : RdB w w.heap.size A n c) :
    Calls Try.prog 36 #[.slice A n c] w (NamesOut w) := by
  go_enter Try.func36, Try.ntmps36
  have b0 := below1 w (.cells #[.slice none 0 0, .int .i64 0] 25)
  have r := blk1 w #[.slice none 0 0, .int .i64 0] 25
  go_wp2_with fail
  refine (newReader_any A n c _ ((hr.below b0).more b0.size)).mono ?_
  rintro e w1 ⟨g, rfl, hr1, hb⟩
  replace r := r.below hb r.lt
  have hrl := r.lt
  have hg0 := hr1.1
  have hg1 := hr1.lt
  replace b0 := Below.on b0 hb b0.size
  clear hb hr
  go_wp2_with fail
  refine (someFlag_any _ g 10 _ (hr1.less (by omega))).mono ?_
  rintro e w2 ⟨v, z, ds, rfl, hz, ho, hf, D⟩
  obtain ⟨A1, cc, rfl⟩ := ho.form
  have hw2 := D.size
  have q := blk1 w2 #[.slice A1 ds.length cc, .int .i64 z] 25
  replace ho := ho.alloc (.cells #[.slice A1 ds.length cc, .int .i64 z] 25)
  replace D := D.alloc (.cells #[.slice A1 ds.length cc, .int .i64 z] 25)
  have c0 := q.cell 0
  have c1 := q.cell 1
  clear hz
  go_wp2_with fail
  replace D := D.drew
  replace q := q.drew
  replace ho := ho.drew
  have hs2 := q.lt
  go_region_held3 (fun w' => w'.cell? ⟨w2.heap.size, 0, none⟩ = some (.slice A1 ds.length cc) ∧ w'.cell? ⟨w2.heap.size, 1, none⟩ = some (.int .i64 z)) (first | exact ⟨c0, c1⟩ | exact ⟨cell_far2 (cell_far2 c0 (by omega)) (by omega), cell_far2 (cell_far2 c1 (by omega)) (by omega)⟩)
    (first | (go_at_call 75; refine (someNames_any w1.heap.size A1 cc ds _ g 0 _ D.rd hg1 ho hf).mono ?_; rintro e w4 ⟨v4, ss, rfl, ot, hfs, D4⟩; replace D := D.trans D4; replace q := q.gr D4.gr (by omega); replace ho := ho.draw D4.gr (by omega); replace c0 := q.cell 0; replace c1 := q.cell 1; have g0 := (r.grown D.gr (by simp at hg0; omega)).cell 0; have g1 := (r.grown D.gr (by simp at hg0; omega)).cell 1; have f0 := (r.grown D.gr (by simp at hg0; omega)).frozen 0; have f1 := (r.grown D.gr (by simp at hg0; omega)).frozen 1))
  obtain ⟨A4, c4, rfl⟩ := ownS_slice ot
  clear g0 g1 f0 f1 c0 c1 q D4
  have hne := ho.ne (p := w.heap.size) (.inl hrl)
  replace r := r.grown D.gr (by simp at hg0; omega)
  replace b0 := b0.trans (grown_below (base := w.heap.size) D.gr (by simp at hg0; omega) (by omega))
  have g0 := r.cell 0
  have g1 := r.cell 1
  have f0 := r.frozen 0
  have f1 := r.frozen 1
  have hrl2 := r.lt
  have r2 : Blk ((w4.setCell ⟨w.heap.size, 0, none⟩ (.slice A1 ds.length cc)).setCell ⟨w.heap.size, 1, none⟩ (.int .i64 z)) w.heap.size 25 #[.slice A1 ds.length cc, .int .i64 z] := (r.set_ 0 (.slice A1 ds.length cc)).set_ 1 (.int .i64 z)
  have d0 := r2.cell 0
  have d1 := r2.cell 1
  have ho2 := (ho.far hne (i := 0) (.slice A1 ds.length cc)).far hne (i := 1) (.int .i64 z)
  have ot2 := ownsRow_setCell_below (ownsRow_setCell_below ot (a := ⟨w.heap.size, 0, none⟩) (by simp; omega) (.slice A1 ds.length cc)) (a := ⟨w.heap.size, 1, none⟩) (by simp; omega) (.int .i64 z)
  obtain ⟨A2, c2, he, R⟩ := ho2.rd hf (by omega)
  simp only [Value.slice.injEq] at he
  obtain ⟨rfl, _, rfl⟩ := he
  obtain ⟨A5, c5, he, S⟩ := own_rdS ot2 (hfs.good (by omega))
  simp only [Value.slice.injEq] at he
  obtain ⟨rfl, _, rfl⟩ := he
  have HH := Lib.hid (And.intro R (And.intro S ((b0.setCell (p := ⟨w.heap.size, 0, none⟩) (Nat.le_refl _) (.slice A1 ds.length cc)).setCell (p := ⟨w.heap.size, 1, none⟩) (Nat.le_refl _) (.int .i64 z))))
  clear r r2 ho ho2 R D hne b0 ot ot2 S
  go_wp2
  obtain ⟨R, S, b0⟩ := HH.out
  exact bodyPost_ret (v := .tuple #[.agg #[.slice A1 ds.length cc, .int .i64 z], .slice A4 ss.length c4]) (by simp [results, Try.results36, go_sem, d0, d1]) rfl ⟨A1, cc, ds, z, A4, c4, ss, rfl, hfs, hf, R, S, b0⟩
end Go.Proofs.Ytofkbckpncpmkaa
