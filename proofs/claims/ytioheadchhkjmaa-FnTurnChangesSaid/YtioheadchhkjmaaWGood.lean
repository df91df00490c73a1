/-
  The walk of the definitions that are drawn: goodDefs.
-/
import Derived.Test.YtioheadchhkjmaaMemG
import Derived.Test.YtioheadchhkjmaaWName2
import Derived.Test.YtioheadchhkjmaaWSDefs
import Derived.Maps.AppendAt
namespace Go.Proofs.Ytioheadchhkjmaa
open Go.RowKit

theorem Try.infoDef3 : (Try.prog.info? 46).map (fun i => (i.zero, i.size, i.bytes)) = some (some (.agg #[.string ByteArray.empty, .int .i64 0]), 2, 24) := by kernel_rfl
/-- The new block that holds one definition. -/
theorem newsD (w : World) (d : D) (t : TypeId) : ∀ (j : Nat) (u : Value), [Value.string d.1, .int .i64 d.2][j]? = some u → (w.alloc (.cells #[.string d.1, .int .i64 d.2] t)).cell? ((⟨w.heap.size, 0, none⟩ : Addr).add j) = some u := by
  intro j u hj
  have h := (blk1 w #[.string d.1, .int .i64 d.2] t).cell
  match j, hj with
  | 0, hj => simp at hj; subst hj; exact h 0
  | 1, hj => simp at hj; subst hj; exact h 1
/-- Definitions have been drawn. -/
def DefsDrawn (w : World) (base g k m : Nat) (e : Ending) (w' : World) : Prop :=
  ∃ v ds, e = .returned v ∧ Own w' w.heap.size 46 v ds ∧ Fine m ds ∧ DS w base g 78 k w'

set_option maxRecDepth 100000 in
set_option maxHeartbeats 4000000 in
theorem goodDefs_any (base g k : Nat) (w : World) (hr : Rdr w base g 78 (k + 61)) :
    Calls Try.prog 53 #[.pointer (some ⟨g, 0, none⟩), .int .i64 1000] w (DefsDrawn w base g k 12) := by
  have q0 := DS.start hr
  have hgl := hr.lt
  clear hr
  obtain ⟨i0, hi, hz0, hz1, hz2⟩ := info_parts Try.infoDef3
  have HI := Lib.hid hi
  have HZ0 := Lib.hid hz0
  have HZ1 := Lib.hid hz1
  have HZ2 := Lib.hid hz2
  clear hi hz0 hz1 hz2
  go_enter Try.func53, Try.ntmps53
  go_wp2_with fail
  refine (one_any (fun v => 0 ≤ v ∧ v ≤ 12) base g (k + 60) (w.heap.size + 1) 8 8 _ (by omega) (by omega) (by omega) ?_ ((q0.alloc _).alloc _).rd).mono ?_
  · intro i hi
    rw [blk2 w (.cells #[] 46) #[.int .i64 4, .int .i64 3, .int .i64 5, .int .i64 2, .int .i64 6, .int .i64 1, .int .i64 0, .int .i64 12] 3 |>.cell i]
    match i, hi with
    | 0, _ => exact ⟨4, rfl, by decide⟩
    | 1, _ => exact ⟨3, rfl, by decide⟩
    | 2, _ => exact ⟨5, rfl, by decide⟩
    | 3, _ => exact ⟨2, rfl, by decide⟩
    | 4, _ => exact ⟨6, rfl, by decide⟩
    | 5, _ => exact ⟨1, rfl, by decide⟩
    | 6, _ => exact ⟨0, rfl, by decide⟩
    | 7, _ => exact ⟨12, rfl, by decide⟩
  rintro e w1 ⟨n, rfl, ⟨hn0, hn1⟩, hr, hg⟩
  have D1 := Lib.hid (((q0.alloc (.cells #[] 46)).alloc (.cells #[.int .i64 4, .int .i64 3, .int .i64 5, .int .i64 2, .int .i64 6, .int .i64 1, .int .i64 0, .int .i64 12] 3)).draw hr hg)
  have o0 : Own (w.alloc (.cells #[] 46)) w.heap.size 46 (.slice (some ⟨w.heap.size, 0, none⟩) 0 0) [] := World.ownsRow_lit (size := 2) w #[] 0 (Nat.le_refl _) (by unfold maxLen; omega) rfl
  have O1 := Lib.hid ((o0.alloc (.cells #[.int .i64 4, .int .i64 3, .int .i64 5, .int .i64 2, .int .i64 6, .int .i64 1, .int .i64 0, .int .i64 12] 3)).draw hg hgl)
  clear hr hg q0 o0
  obtain ⟨n, rfl⟩ := Int.eq_ofNat_of_zero_le hn0
  go_wp2
  go_loopw [5, 6] (fun o i wr => ∃ (m : Nat) (A : Option Addr) (c : Nat) (ds : List D), i = .int .i64 m ∧ o = .slice A ds.length c ∧ Hid (Fine (12 - m) ds) ∧ m ≤ 12 ∧ Hid (Own wr w.heap.size 46 (.slice A ds.length c) ds) ∧ Hid (DS w base g 78 (k + 5 * m) wr)) (fun _ i _ => (intOf i).toNat)
  case atStart => exact ⟨n, _, 0, [], rfl, rfl, Fine.nil _, by omega, O1.out, D1.out.less (by omega)⟩
  case round =>
    obtain ⟨m, A, c, ds, rfl, rfl, hf, hm, ho, hd⟩ := hrel
    by_cases hm0 : (0 : Int) < m
    · go_wp2_with fail
      refine (aName_any base g (k + 5 * (m - 1) + 4) _ (hd.out.less (by omega)).rd).mono ?_
      rintro e w2 ⟨s, rfl, hs, hr, hg⟩
      replace hd := Lib.hid (hd.out.draw hr hg)
      replace ho := Lib.hid (ho.out.draw hg hgl)
      clear hr hg
      go_wp2_with fail
      refine (pick_any base g (k + 5 * (m - 1) + 3) _ _ hd.out.rd).mono ?_
      rintro e w3 ⟨v, rfl, hv0, hv1, hr, hg⟩
      replace hv1 := hv1 (by decide)
      replace hd := Lib.hid (hd.out.draw hr hg)
      replace ho := Lib.hid (ho.out.draw hg hgl)
      clear hr hg
      go_wp2_with fail
      refine (one_any Small base g (k + 5 * (m - 1) + 2) w3.heap.size 12 12 _ (by omega) (by omega) (by have := hd.out.size; omega) (cellsI (blk1 w3 _ _) rfl (by simp [okI]; omega)) (hd.out.alloc _).rd).mono ?_
      rintro e w4 ⟨x, rfl, hx, hr, hg⟩
      replace ho := Lib.hid ((ho.out.alloc _).draw hg hgl)
      replace hd := Lib.hid ((hd.out.alloc _).draw hr hg)
      have q := blk1 w4 #[.string s, .int .i64 x] 46
      have hq : w.heap.size ≤ w4.heap.size := hd.out.size
      have hne : (.slice A ds.length c : Value).ownBlock ≠ some w4.heap.size := fun e => by have := (World.ownsRow.lt ho.out _ e).2; omega
      have HNE := Lib.hid hne
      clear hne
      replace hd := Lib.hid (hd.out.alloc (.cells #[.string s, .int .i64 x] 46))
      replace ho := Lib.hid (ho.out.alloc (.cells #[.string s, .int .i64 x] 46))
      clear hr hg
      have c0 := q.cell 0
      have c1 := q.cell 1
      obtain ⟨A2, c2, he, hrd⟩ := ho.out.rd hf.out (by omega)
      simp only [Value.slice.injEq] at he
      obtain ⟨rfl, _, rfl⟩ := he
      have HRD := Lib.hid hrd
      clear hrd
      go_wp2_with fail
      refine (indexOf_bel _ _ _ ds s _ HRD.out).mono ?_
      rintro e w7 ⟨rfl, hb⟩
      replace q := q.below hb q.lt
      replace hd := Lib.hid (hd.out.below hb)
      replace ho := Lib.hid (ho.out.below hb)
      replace c0 := q.cell 0
      replace c1 := q.cell 1
      clear hb HRD
      have hw7 := hd.out.size
      by_cases hlt : ix (nameIs s) ds < 0
      · by_cases hy0 : 0 ≤ x
        · have hfl := hf.out.1
          go_wp2_with (at_builtin; refine wpList_append_own _ rfl _ _ 40 rfl w.heap.size 46 i0 (.agg #[.string ByteArray.empty, .int .i64 0]) 2 24 Try.underlying40 HI.out HZ0.out HZ1.out HZ2.out rfl (by decide) _ _ _ rfl (ho.out.alloc _) ⟨w7.heap.size, 0, none⟩ 1 1 [.string s, .int .i64 x] rfl rfl (newsD _ (s, x) _) (by simp [Value.oneCell']) (by unfold maxLen; omega) (by omega) (by simp; omega) ?_; intro v' w8 hown8 hgrow _)
          have ho8 : Own w8 w.heap.size 46 v' (ds ++ [(s, x)]) := by
            unfold Own
            rw [flat_snoc, List.length_append]
            exact hown8
          have hd8 := (hd.out.alloc (.cells #[.string s, .int .i64 x] 46)).row hgrow fun i hi => (World.ownsRow.lt ho.out i hi).1
          obtain ⟨A3, c3, rfl⟩ := ho8.form
          have hf8 := hf.out.snoc (d := (s, x)) hs hx
          go_roundw
          case rel => exact ⟨m - 1, A3, c3, ds ++ [(s, x)], by go_num, rfl, hf8.more (by omega), by omega, ho8, hd8.less (by omega)⟩
          case measure => simp [intOf]; omega
        · have hfl := hf.out.1
          go_wp2_with (at_builtin; refine wpList_append_own _ rfl _ _ 40 rfl w.heap.size 46 i0 (.agg #[.string ByteArray.empty, .int .i64 0]) 2 24 Try.underlying40 HI.out HZ0.out HZ1.out HZ2.out rfl (by decide) _ _ _ rfl (ho.out.alloc _) ⟨w7.heap.size, 0, none⟩ 1 1 [.string s, .int .i64 x] rfl rfl (newsD _ (s, x) _) (by simp [Value.oneCell']) (by unfold maxLen; omega) (by omega) (by simp; omega) ?_; intro v' w8 hown8 hgrow _)
          have ho8 : Own w8 w.heap.size 46 v' (ds ++ [(s, x)]) := by
            unfold Own
            rw [flat_snoc, List.length_append]
            exact hown8
          have hd8 := (hd.out.alloc (.cells #[.string s, .int .i64 x] 46)).row hgrow fun i hi => (World.ownsRow.lt ho.out i hi).1
          obtain ⟨A3, c3, rfl⟩ := ho8.form
          have hf8 := hf.out.snoc (d := (s, x)) hs hx
          go_roundw
          case rel => exact ⟨m - 1, A3, c3, ds ++ [(s, x)], by go_num, rfl, hf8.more (by omega), by omega, ho8, hd8.less (by omega)⟩
          case measure => simp [intOf]; omega
      · go_wp2_with fail
        go_roundw
        case rel => exact ⟨m - 1, A, c, ds, by go_num, rfl, hf.out.more (by omega), by omega, ho.out, hd.out.less (by omega)⟩
        case measure => simp [intOf]; omega
    · go_wp2
      go_ret
      exact ⟨_, ds, rfl, ho.out, hf.out.more (by omega), hd.out.less (by omega)⟩
end Go.Proofs.Ytioheadchhkjmaa
