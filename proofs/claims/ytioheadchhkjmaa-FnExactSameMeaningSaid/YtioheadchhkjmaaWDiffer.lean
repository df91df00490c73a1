/-
  The walk of the reference's changes from definitions to others: differ.
-/
import Derived.Test.YtioheadchhkjmaaPlainD
import Derived.Test.YtioheadchhkjmaaWCopy
import Derived.BigRegion
namespace Go.Proofs.Ytioheadchhkjmaa
open Go.RowKit
attribute [local go_sem ↓] Go.wp_at_zero Go.wp_at_succ

theorem Try.infoCh4 : (Try.prog.info? 55).map (fun i => (i.zero, i.size, i.bytes)) = some (some (.agg #[.int .i64 0, .string ByteArray.empty, .int .i64 0, .int .i64 0]), 4, 40) := by kernel_rfl
/-- Changes have come out, so many of them. -/
def Differed (a b : List D) (w : World) (e : Ending) (w' : World) : Prop :=
  ∃ A c cs, e = .returned (.slice A cs.length c) ∧ cs.length = diffLen a b ∧ FitAll cs ∧ OwnA w' w.heap.size 55 (.slice A cs.length c) cs ∧ Below w.heap.size w w'
theorem cellFar {w W w' : World} {row : Option Nat} {b o : Nat} {v : Value} (hg : W.grownBy w' row) (hh : W.heap[b]? = w.heap[b]?) (h : w.cell? ⟨b, o, none⟩ = some v) (hlt : b < W.heap.size) (hne : row ≠ some b) : w'.cell? ⟨b, o, none⟩ = some v :=
  (hg.cell_far ⟨b, o, none⟩ hlt (fun e => hne e.symm)).trans ((World.cell?_of_block (a := ⟨b, o, none⟩) hh).trans h)
theorem ownForm {w : World} {B n size : Nat} {e : TypeId} {v : Value} {xs : List Value} (h : w.ownsRow B e size v n xs) : ∃ A c, v = .slice A n c := by
  rcases h.2 with ⟨hv, h0⟩ | ⟨g, cap, _, hv, _⟩
  · exact ⟨none, 0, by rw [hv, h0]⟩
  · exact ⟨_, cap, hv⟩
theorem belowGrown {n₀ : Nat} {w wr W w' : World} {o : Obj} {row : Option Nat} (hb : Below n₀ w wr) (hg : W.grownBy w' row) (e1 : W.os = wr.os) (e2 : W.tape = wr.tape) (e3 : W.output = wr.output) (e4 : W.heap = (wr.alloc o).heap) (hn : n₀ ≤ wr.heap.size) (hrow : ∀ i, row = some i → n₀ ≤ i) : Below n₀ w w' :=
  have h := hb.alloc hn o
  ⟨hg.os.trans (e1.trans hb.os), hg.tape.trans (e2.trans hb.tape), hg.output.trans (e3.trans hb.output), Nat.le_trans h.size (by rw [← e4]; exact hg.size), fun i hi => (hg.block i (by rw [e4]; exact Nat.lt_of_lt_of_le (Nat.lt_of_lt_of_le hi hn) (by simp)) (fun e => by have := hrow i e.symm; omega)).trans (by rw [e4]; exact h.block i hi)⟩
theorem fit0 : Fits 0 := ⟨by decide, by decide⟩
theorem fit1 : Fits 1 := ⟨by decide, by decide⟩
theorem fit2 : Fits 2 := ⟨by decide, by decide⟩
set_option maxRecDepth 100000 in
set_option maxHeartbeats 8000000 in
theorem differ_any (A A' : Option Addr) (n n' c c' : Nat) (xs ys : List D) (w : World) (hr : Rd w w.heap.size A n c xs) (hr' : Rd w w.heap.size A' n' c' ys) (hn1 : n ≤ 1000) (hn2 : n' ≤ 1000) :
    Calls Try.prog 47 #[.slice A n c, .slice A' n' c'] w (Differed xs ys w) := by
  have HR := Lib.hid hr
  have HR' := Lib.hid hr'
  obtain ⟨hl, hn, hc, hg, ha⟩ := hr
  obtain ⟨hl', hn', hc', hg', ha'⟩ := hr'
  have HA := Lib.hid ha
  have HA' := Lib.hid ha'
  have HG := Lib.hid hg
  have HG' := Lib.hid hg'
  have HL := Lib.hid hl
  have HL' := Lib.hid hl'
  clear ha hg hl ha' hg' hl'
  obtain ⟨i0, hi, hz0, hz1, hz2⟩ := info_parts Try.infoCh4
  have HI := Lib.hid hi
  have HZ0 := Lib.hid hz0
  have HZ1 := Lib.hid hz1
  have HZ2 := Lib.hid hz2
  clear hi hz0 hz1 hz2
  have O0 := Lib.hid (OwnA.empty w 55)
  have B0 := below1 w (.cells #[] 55)
  go_enter Try.func47, Try.ntmps47
  go_wp2
  go_loopw [5, 6] (fun o i wr => ∃ (k m : Nat) (A2 : Option Addr) (c2 : Nat) (cs : List Ch), i = .int .i64 k ∧ k ≤ n ∧ o = .slice A2 m c2 ∧ m ≤ k ∧ Hid (cs.length = m) ∧ Hid (m = cnt (isNew ys) xs k) ∧ Hid (FitAll cs) ∧ Hid (OwnA wr w.heap.size 55 (.slice A2 m c2) cs) ∧ Below w.heap.size w wr) (fun _ i _ => n - (intOf i).toNat)
  case atStart => exact ⟨0, 0, _, 0, [], rfl, Nat.zero_le _, rfl, Nat.le_refl _, rfl, (cnt_zero _ _).symm, FitAll.nil, O0, B0⟩
  case round =>
    obtain ⟨k, m, A2, c2, cs, rfl, hk, rfl, hmk, hcl, hcn, hf, ho, hb⟩ := hrel
    clear O0 B0
    by_cases hkn : k < n
    · skip
      obtain ⟨b, off, rfl, hbl, hcell⟩ := HA.out (by omega)
      have hd := hcell k hkn
      rw [← hb.cell (p := ⟨b, off + k * 2, none⟩) hbl, ← hb.cell (p := ⟨b, off + k * 2 + 1, none⟩) hbl] at hd
      obtain ⟨c0, c1⟩ := hd
      clear hcell
      have hbw : b < wr.heap.size := Nat.lt_of_lt_of_le hbl hb.size
      have hkx : k < (xs).length := by rw [HL.out]; exact hkn
      obtain ⟨hgs, hgv⟩ := HG.out.nth hkx
      have HKX := Lib.hid hkx
      clear hkx
      obtain ⟨x, hxk⟩ : ∃ x, nth xs k = x := ⟨_, rfl⟩
      rw [hxk] at c0 c1 hgs hgv
      have HXK := Lib.hid hxk
      clear hxk
      obtain ⟨s, z⟩ := x
      dsimp only at c0 c1 hgs hgv
      have HC0 := Lib.hid c0
      have HC1 := Lib.hid c1
      have i0' : (0 : Int) ≤ (k : Int) := by omega
      have i2 : (k : Int) < (n : Int) := by omega
      go_wp2_with fail
      refine (indexOf_any _ _ _ _ ys s _ (HR'.out.below hb)).mono ?_
      rintro e w1 ⟨rfl, rfl⟩
      by_cases hx : ix (nameIs s) ys < 0
      · have HX := Lib.hid (cnt_yes (p := isNew ys) HKX.out (by rw [HXK.out]; exact isNew_yes hx))
        have hown : World.ownsRow wr w.heap.size 55 4 (.slice A2 m c2) m (flatH cs) := by have h := ho.out; unfold OwnA at h; rw [hcl.out] at h; exact h
        have HO := Lib.hid hown
        have hne : (.slice A2 m c2 : Value).ownBlock ≠ some b := ho.out.ne (.inl hbl)
        have HNE := Lib.hid hne
        clear hown hne
        have hnw := newsH wr ⟨1, s, z, 0⟩ 55
        have HNW := Lib.hid hnw
        clear hnw
        go_wp2_with fail
        go_region_held3 (fun w' => w'.cell? ⟨b, off + k * 2, none⟩ = some (.string s) ∧ w'.cell? ⟨b, off + k * 2 + 1, none⟩ = some (.int .i64 z)) (go_keep)
          (first
            | (refine step_append_own (by rfl) _ _ 24 (by rfl) w.heap.size 55 i0 (.agg #[.int .i64 0, .string ByteArray.empty, .int .i64 0, .int .i64 0]) 4 40 Try.underlying24 HI.out HZ0.out HZ1.out HZ2.out rfl (by decide) (.slice A2 m c2) m (flatH cs) (by rfl) (World.ownsRow.alloc HO.out _) ⟨wr.heap.size, 0, none⟩ 1 1 [.int .i64 1, .string s, .int .i64 z, .int .i64 0] (by rfl) rfl HNW.out (by simp [Value.oneCell']) (by unfold maxLen; omega) (by omega) (by simp; have := hb.size; omega) ?_; intro v' w3 hown hgrow _; obtain ⟨A3, c3, rfl⟩ := ownForm hown; have e0 := cellFar hgrow (Below.heap_alloc wr _ b hbw) HC0.out (by simp; omega) HNE.out; have e1 := cellFar hgrow (Below.heap_alloc wr _ b hbw) HC1.out (by simp; omega) HNE.out))
        have b3 : Below w.heap.size w w3 := belowGrown (wr := wr) (o := .cells #[.int .i64 1, .string s, .int .i64 z, .int .i64 0] 55) hb hgrow rfl rfl rfl rfl hb.size (fun i hi => (World.ownsRow.lt HO.out i hi).1)
        have o3 := Lib.hid (show OwnA w3 w.heap.size 55 (.slice A3 (m + 1) c3) (cs ++ [⟨1, s, z, 0⟩]) from by unfold OwnA; rw [flatH_snoc, List.length_append, hcl.out]; exact hown)
        have f3 := Lib.hid (hf.out.snoc (c := ⟨1, s, z, 0⟩) hgs fit1 hgv fit0)
        have l3 := Lib.hid (show (cs ++ [(⟨1, s, z, 0⟩ : Ch)]).length = m + 1 from by rw [List.length_append, hcl.out]; rfl)
        have n3 := Lib.hid (show m + 1 = cnt (isNew ys) xs (k + 1) from by have h := HX.out; have h2 := hcn.out; omega)
        go_wp2_with fail
        go_roundw
        case rel => exact ⟨k + 1, m + 1, A3, c3, _, by go_num, by omega, rfl, by omega, l3, n3, f3, o3, b3⟩
        case measure => simp [intOf]; omega
      · have HX := Lib.hid (cnt_no (p := isNew ys) HKX.out (by rw [HXK.out]; exact isNew_no hx))
        have n3 := Lib.hid (show m = cnt (isNew ys) xs (k + 1) from by have h := HX.out; have h2 := hcn.out; omega)
        go_wp2_with fail
        go_roundw
        case rel => exact ⟨k + 1, m, A2, c2, cs, by go_num, by omega, rfl, by omega, hcl, n3, hf, ho, hb⟩
        case measure => simp [intOf]; omega
    · have hk1 : k = n := by omega
      have hcn1 := Lib.hid (show m = cnt (isNew ys) xs xs.length from by rw [HL.out, ← hk1]; exact hcn.out)
      clear hk1 hcn
      go_wp2_with fail
      go_loopw [5, 7] (fun o i wr => ∃ (k m : Nat) (A2 : Option Addr) (c2 : Nat) (cs : List Ch), i = .int .i64 k ∧ k ≤ n ∧ o = .slice A2 m c2 ∧ m ≤ n + k ∧ Hid (cs.length = m) ∧ Hid (m = cnt (isNew ys) xs xs.length + cnt (isTurn ys) xs k) ∧ Hid (FitAll cs) ∧ Hid (OwnA wr w.heap.size 55 (.slice A2 m c2) cs) ∧ Below w.heap.size w wr) (fun _ i _ => n - (intOf i).toNat)
      case atStart => exact ⟨0, m, A2, c2, cs, rfl, Nat.zero_le _, rfl, by omega, hcl, by rw [cnt_zero]; exact hcn1, hf, ho, hb⟩
      case round =>
        clear hcn1 hcl hf ho hb hmk hk hkn
        obtain ⟨k, m, A2, c2, cs, rfl, hk, rfl, hmk, hcl, hcn, hf, ho, hb⟩ := hrel
        by_cases hkn : k < n
        · skip
          obtain ⟨b, off, rfl, hbl, hcell⟩ := HA.out (by omega)
          have hd := hcell k hkn
          rw [← hb.cell (p := ⟨b, off + k * 2, none⟩) hbl, ← hb.cell (p := ⟨b, off + k * 2 + 1, none⟩) hbl] at hd
          obtain ⟨c0, c1⟩ := hd
          clear hcell
          have hbw : b < wr.heap.size := Nat.lt_of_lt_of_le hbl hb.size
          have hkx : k < (xs).length := by rw [HL.out]; exact hkn
          obtain ⟨hgs, hgv⟩ := HG.out.nth hkx
          have HKX := Lib.hid hkx
          clear hkx
          obtain ⟨x, hxk⟩ : ∃ x, nth xs k = x := ⟨_, rfl⟩
          rw [hxk] at c0 c1 hgs hgv
          have HXK := Lib.hid hxk
          clear hxk
          obtain ⟨s, z⟩ := x
          dsimp only at c0 c1 hgs hgv
          have HC0 := Lib.hid c0
          have HC1 := Lib.hid c1
          have i0' : (0 : Int) ≤ (k : Int) := by omega
          have i2 : (k : Int) < (n : Int) := by omega
          go_wp2_with fail
          refine (indexOf_any _ _ _ _ ys s _ (HR'.out.below hb)).mono ?_
          rintro e w1 ⟨rfl, rfl⟩
          rcases ix_cases (nameIs s) ys with ⟨hx, _⟩ | ⟨j, hj, hx, _, _⟩
          · rw [hx]
            have HX := Lib.hid (cnt_no (p := isTurn ys) HKX.out (by rw [HXK.out]; exact isTurn_neg (by rw [hx]; decide)))
            clear hx
            go_wp2_with fail
            go_quiet (fail)
            have n3 := Lib.hid (show m = cnt (isNew ys) xs xs.length + cnt (isTurn ys) xs (k + 1) from by have h := HX.out; have h2 := hcn.out; omega)
            go_wp2_with fail
            go_roundw
            case rel => exact ⟨k + 1, m, A2, c2, cs, by go_num, by omega, rfl, by omega, hcl, n3, hf, ho.out, below_drewN hb _⟩
            case measure => simp [intOf]; omega
          · obtain ⟨b', off', rfl, hbl', hcell'⟩ := HA'.out (by have := HL'.out; omega)
            have hjn : j < n' := by rw [← HL'.out]; exact hj
            have d1 := (hcell' j hjn).2
            rw [← hb.cell (p := ⟨b', off' + j * 2 + 1, none⟩) hbl'] at d1
            clear hcell'
            have hbw' : b' < wr.heap.size := Nat.lt_of_lt_of_le hbl' hb.size
            have hjv := Lib.hid (HG'.out.nth hj).2
            obtain ⟨y, hyj⟩ : ∃ y, (nth ys j).2 = y := ⟨_, rfl⟩
            rw [hyj] at d1 hjv
            have HT := Lib.hid (show isTurn ys (nth xs k) = !(y == z) from by rw [HXK.out, isTurn_at hx, hyj])
            rw [hx]
            clear hyj hx hj
            have HD1 := Lib.hid d1
            have j0 : (0 : Int) ≤ (j : Int) := by omega
            have j2 : (j : Int) < (n' : Int) := by omega
            by_cases hyz : y = z
            · have HX := Lib.hid (cnt_no (p := isTurn ys) HKX.out (by rw [HT.out]; simp [hyz]))
              have q1 : (y == z) = true := by simp [hyz]
              have q2 : (y != z) = false := by simp [hyz]
              have HYZ := Lib.hid hyz
              clear hyz
              go_wp2_with fail
              go_quiet (fail)
              clear q1 q2
              have n3 := Lib.hid (show m = cnt (isNew ys) xs xs.length + cnt (isTurn ys) xs (k + 1) from by have h := HX.out; have h2 := hcn.out; omega)
              go_wp2_with fail
              go_roundw
              case rel => exact ⟨k + 1, m, A2, c2, cs, by go_num, by omega, rfl, by omega, hcl, n3, hf, ho.out, below_drewN hb _⟩
              case measure => simp [intOf]; omega
            · have q1 : (y == z) = false := by simp [hyz]
              have q2 : (y != z) = true := by simp [hyz]
              have HX := Lib.hid (cnt_yes (p := isTurn ys) HKX.out (by rw [HT.out, q1]; rfl))
              go_wp2_with fail
              go_quiet (fail)
              clear q1 q2 hyz
              have hown : World.ownsRow wr w.heap.size 55 4 (.slice A2 m c2) m (flatH cs) := by have h := ho.out; unfold OwnA at h; rw [hcl.out] at h; exact h
              have HO := Lib.hid hown
              have hne : (.slice A2 m c2 : Value).ownBlock ≠ some b := ho.out.ne (.inl hbl)
              have HNE := Lib.hid hne
              clear hown hne
              have hnw := newsH wr ⟨2, s, z, y⟩ 55
              have HNW := Lib.hid hnw
              clear hnw
              have hne' : (.slice A2 m c2 : Value).ownBlock ≠ some b' := ho.out.ne (.inl hbl')
              have HNE' := Lib.hid hne'
              clear hne'
              go_wp2_with fail
              go_region_held3 (fun w' => w'.cell? ⟨b, off + k * 2, none⟩ = some (.string s) ∧ w'.cell? ⟨b, off + k * 2 + 1, none⟩ = some (.int .i64 z) ∧ w'.cell? ⟨b', off' + j * 2 + 1, none⟩ = some (.int .i64 y)) (go_keep)
                (first
                  | (refine step_append_own (by rfl) _ _ 24 (by rfl) w.heap.size 55 i0 (.agg #[.int .i64 0, .string ByteArray.empty, .int .i64 0, .int .i64 0]) 4 40 Try.underlying24 HI.out HZ0.out HZ1.out HZ2.out rfl (by decide) (.slice A2 m c2) m (flatH cs) (by rfl) (World.ownsRow.alloc HO.out _) ⟨wr.heap.size, 0, none⟩ 1 1 [.int .i64 2, .string s, .int .i64 z, .int .i64 y] (by rfl) rfl HNW.out (by simp [Value.oneCell']) (by unfold maxLen; omega) (by omega) (by simp; have := hb.size; omega) ?_; intro v' w3 hown hgrow _; obtain ⟨A3, c3, rfl⟩ := ownForm hown; have e0 := cellFar hgrow (Below.heap_alloc wr _ b hbw) HC0.out (by simp; omega) HNE.out; have e1 := cellFar hgrow (Below.heap_alloc wr _ b hbw) HC1.out (by simp; omega) HNE.out; have e2 := cellFar hgrow (Below.heap_alloc wr _ b' hbw') HD1.out (by simp; omega) HNE'.out))
              have b3 : Below w.heap.size w w3 := belowGrown (wr := wr) (o := .cells #[.int .i64 2, .string s, .int .i64 z, .int .i64 y] 55) hb hgrow rfl rfl rfl rfl hb.size (fun i hi => (World.ownsRow.lt HO.out i hi).1)
              have o3 := Lib.hid (show OwnA w3 w.heap.size 55 (.slice A3 (m + 1) c3) (cs ++ [⟨2, s, z, y⟩]) from by unfold OwnA; rw [flatH_snoc, List.length_append, hcl.out]; exact hown)
              have f3 := Lib.hid (hf.out.snoc (c := ⟨2, s, z, y⟩) hgs fit2 hgv hjv.out)
              have l3 := Lib.hid (show (cs ++ [(⟨2, s, z, y⟩ : Ch)]).length = m + 1 from by rw [List.length_append, hcl.out]; rfl)
              have n3 := Lib.hid (show m + 1 = cnt (isNew ys) xs xs.length + cnt (isTurn ys) xs (k + 1) from by have h := HX.out; have h2 := hcn.out; omega)
              go_wp2_with fail
              go_roundw
              case rel => exact ⟨k + 1, m + 1, A3, c3, _, by go_num, by omega, rfl, by omega, l3, n3, f3, o3, b3⟩
              case measure => simp [intOf]; omega
        · have hk1 : k = n := by omega
          have hcn1 := Lib.hid (show m = cnt (isNew ys) xs xs.length + cnt (isTurn ys) xs xs.length from by have h := hcn.out; rw [hk1, ← HL.out] at h; exact h)
          clear hk1 hcn
          go_wp2_with fail
          go_loopw [5, 9] (fun o i wr => ∃ (k m : Nat) (A2 : Option Addr) (c2 : Nat) (cs : List Ch), i = .int .i64 k ∧ k ≤ n' ∧ o = .slice A2 m c2 ∧ m ≤ n + n + k ∧ Hid (cs.length = m) ∧ Hid (m = cnt (isNew ys) xs xs.length + cnt (isTurn ys) xs xs.length + cnt (isNew xs) ys k) ∧ Hid (FitAll cs) ∧ Hid (OwnA wr w.heap.size 55 (.slice A2 m c2) cs) ∧ Below w.heap.size w wr) (fun _ i _ => n' - (intOf i).toNat)
          case atStart => exact ⟨0, m, A2, c2, cs, rfl, Nat.zero_le _, rfl, by omega, hcl, by rw [cnt_zero]; exact hcn1, hf, ho, hb⟩
          case round =>
            clear hcn1 hcl hf ho hb hmk hk hkn
            obtain ⟨k, m, A2, c2, cs, rfl, hk, rfl, hmk, hcl, hcn, hf, ho, hb⟩ := hrel
            by_cases hkn : k < n'
            · skip
              obtain ⟨b, off, rfl, hbl, hcell⟩ := HA'.out (by omega)
              have hd := hcell k hkn
              rw [← hb.cell (p := ⟨b, off + k * 2, none⟩) hbl, ← hb.cell (p := ⟨b, off + k * 2 + 1, none⟩) hbl] at hd
              obtain ⟨c0, c1⟩ := hd
              clear hcell
              have hbw : b < wr.heap.size := Nat.lt_of_lt_of_le hbl hb.size
              have hkx : k < (ys).length := by rw [HL'.out]; exact hkn
              obtain ⟨hgs, hgv⟩ := HG'.out.nth hkx
              have HKX := Lib.hid hkx
              clear hkx
              obtain ⟨x, hxk⟩ : ∃ x, nth ys k = x := ⟨_, rfl⟩
              rw [hxk] at c0 c1 hgs hgv
              have HXK := Lib.hid hxk
              clear hxk
              obtain ⟨s, z⟩ := x
              dsimp only at c0 c1 hgs hgv
              have HC0 := Lib.hid c0
              have HC1 := Lib.hid c1
              have i0' : (0 : Int) ≤ (k : Int) := by omega
              have i2 : (k : Int) < (n' : Int) := by omega
              go_wp2_with fail
              refine (indexOf_any _ _ _ _ xs s _ (HR.out.below hb)).mono ?_
              rintro e w1 ⟨rfl, rfl⟩
              by_cases hx : ix (nameIs s) xs < 0
              · have HX := Lib.hid (cnt_yes (p := isNew xs) HKX.out (by rw [HXK.out]; exact isNew_yes hx))
                have hown : World.ownsRow wr w.heap.size 55 4 (.slice A2 m c2) m (flatH cs) := by have h := ho.out; unfold OwnA at h; rw [hcl.out] at h; exact h
                have HO := Lib.hid hown
                have hne : (.slice A2 m c2 : Value).ownBlock ≠ some b := ho.out.ne (.inl hbl)
                have HNE := Lib.hid hne
                clear hown hne
                have hnw := newsH wr ⟨0, s, 0, z⟩ 55
                have HNW := Lib.hid hnw
                clear hnw
                go_wp2_with fail
                go_region_held3 (fun w' => w'.cell? ⟨b, off + k * 2, none⟩ = some (.string s) ∧ w'.cell? ⟨b, off + k * 2 + 1, none⟩ = some (.int .i64 z)) (go_keep)
                  (first
                    | (refine step_append_own (by rfl) _ _ 24 (by rfl) w.heap.size 55 i0 (.agg #[.int .i64 0, .string ByteArray.empty, .int .i64 0, .int .i64 0]) 4 40 Try.underlying24 HI.out HZ0.out HZ1.out HZ2.out rfl (by decide) (.slice A2 m c2) m (flatH cs) (by rfl) (World.ownsRow.alloc HO.out _) ⟨wr.heap.size, 0, none⟩ 1 1 [.int .i64 0, .string s, .int .i64 0, .int .i64 z] (by rfl) rfl HNW.out (by simp [Value.oneCell']) (by unfold maxLen; omega) (by omega) (by simp; have := hb.size; omega) ?_; intro v' w3 hown hgrow _; obtain ⟨A3, c3, rfl⟩ := ownForm hown; have e0 := cellFar hgrow (Below.heap_alloc wr _ b hbw) HC0.out (by simp; omega) HNE.out; have e1 := cellFar hgrow (Below.heap_alloc wr _ b hbw) HC1.out (by simp; omega) HNE.out))
                have b3 : Below w.heap.size w w3 := belowGrown (wr := wr) (o := .cells #[.int .i64 0, .string s, .int .i64 0, .int .i64 z] 55) hb hgrow rfl rfl rfl rfl hb.size (fun i hi => (World.ownsRow.lt HO.out i hi).1)
                have o3 := Lib.hid (show OwnA w3 w.heap.size 55 (.slice A3 (m + 1) c3) (cs ++ [⟨0, s, 0, z⟩]) from by unfold OwnA; rw [flatH_snoc, List.length_append, hcl.out]; exact hown)
                have f3 := Lib.hid (hf.out.snoc (c := ⟨0, s, 0, z⟩) hgs fit0 fit0 hgv)
                have l3 := Lib.hid (show (cs ++ [(⟨0, s, 0, z⟩ : Ch)]).length = m + 1 from by rw [List.length_append, hcl.out]; rfl)
                have n3 := Lib.hid (show m + 1 = cnt (isNew ys) xs xs.length + cnt (isTurn ys) xs xs.length + cnt (isNew xs) ys (k + 1) from by have h := HX.out; have h2 := hcn.out; omega)
                go_wp2_with fail
                go_roundw
                case rel => exact ⟨k + 1, m + 1, A3, c3, _, by go_num, by omega, rfl, by omega, l3, n3, f3, o3, b3⟩
                case measure => simp [intOf]; omega
              · have HX := Lib.hid (cnt_no (p := isNew xs) HKX.out (by rw [HXK.out]; exact isNew_no hx))
                have n3 := Lib.hid (show m = cnt (isNew ys) xs xs.length + cnt (isTurn ys) xs xs.length + cnt (isNew xs) ys (k + 1) from by have h := HX.out; have h2 := hcn.out; omega)
                go_wp2_with fail
                go_roundw
                case rel => exact ⟨k + 1, m, A2, c2, cs, by go_num, by omega, rfl, by omega, hcl, n3, hf, ho, hb⟩
                case measure => simp [intOf]; omega
            · have hk1 : k = n' := by omega
              have hcn1 := hcn.out
              rw [hk1, ← HL'.out] at hcn1
              have HC := Lib.hid (show cs.length = diffLen xs ys from hcl.out.trans hcn1)
              have HO := ho
              have HCL := hcl
              clear hcn1 hcn hcl hk1 ho
              go_wp2
              go_ret
              refine ⟨A2, c2, cs, by rw [HCL.out]; rfl, HC.out, hf.out, by rw [HCL.out]; exact HO.out, hb⟩
end Go.Proofs.Ytioheadchhkjmaa
