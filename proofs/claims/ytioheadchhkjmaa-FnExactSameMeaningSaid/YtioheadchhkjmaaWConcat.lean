/-
  The walks of slices.Grow, slices.Concat and slices.Clip over changes: how many come out.
-/
import Derived.Test.YtioheadchhkjmaaPlainD
import Derived.Test.YtioheadchhkjmaaWCopy
import Derived.Lib.AppendZeros
namespace Go.Proofs.Ytioheadchhkjmaa
open Go.RowKit
attribute [local go_sem ↓] Go.wp_at_zero Go.wp_at_succ

theorem Try.infoCh5 : (Try.prog.info? 55).map (fun i => (i.zero, i.size, i.bytes)) = some (some (.agg #[.int .i64 0, .string ByteArray.empty, .int .i64 0, .int .i64 0]), 4, 40) := by kernel_rfl
set_option maxHeartbeats 400000 in
theorem clipC_any (A : Option Addr) (n c : Nat) (w : World) (hn : n ≤ c) (_hc : c ≤ 9223372036854775807) :
    Calls Try.prog 30 #[.slice A n c] w fun e w' => e = .returned (.slice A n n) ∧ w = w' := by
  go_enter Try.func30, Try.ntmps30
  go_wp2
  go_ret
  exact ⟨rfl, rfl⟩
/-- Room has been made. -/
def Grown (w : World) (e : Ending) (w' : World) : Prop :=
  ∃ v, e = .returned v ∧ OwnA w' w.heap.size 55 v [] ∧ Below w.heap.size w w'
set_option maxRecDepth 100000 in
set_option maxHeartbeats 4000000 in
theorem growC_any (n : Nat) (hn : n ≤ 100000) (w : World) :
    Calls Try.prog 69 #[.slice none 0 0, .int .i64 (n : Int)] w (Grown w) := by
  obtain ⟨i0, hi, hz0, hz1, hz2⟩ := info_parts Try.infoCh5
  by_cases h0 : 0 < n
  · have hr := Lib.run_append_nil_zeros (P := Try.prog) w 24 3 24 55 i0 _ .i64 .i64 Try.underlying24 Try.underlying3 hi hz0 n h0 (by rw [hz1]; omega) (by omega) (by rw [hz2]; omega)
    have hge := grownCap_ge w n 0 55
    have hle := grownCap_le_maxLen w n 0 55 (by unfold maxLen; omega)
    obtain ⟨cap, hcap⟩ : ∃ cap, grownCap w n 0 55 = cap := ⟨_, rfl⟩
    rw [hcap] at hr hge hle
    have hle2 : cap ≤ 9223372036854775807 := by unfold maxLen at hle; omega
    obtain ⟨cur, hcur⟩ : ∃ cur, Builtin.zeroCells (Value.cells (.agg #[.int .i64 0, .string ByteArray.empty, .int .i64 0, .int .i64 0])) n ++ Builtin.zeroCells (Value.cells (.agg #[.int .i64 0, .string ByteArray.empty, .int .i64 0, .int .i64 0])) (cap - n) = cur := ⟨_, rfl⟩
    rw [hcur] at hr
    have hcs : cur.size = cap * 4 := by
      rw [← hcur, Array.size_append, size_zeroCells, size_zeroCells]
      show n * 4 + (cap - n) * 4 = cap * 4
      omega
    have HR := Lib.hid hr
    have HH := Lib.hid (show OwnA (w.drew.alloc (.cells cur 55)) w.heap.size 55 (.slice (some ⟨w.heap.size, 0, none⟩) 0 cap) [] from ⟨rfl, .inr ⟨w.heap.size, cap, cur, rfl, Nat.le_refl _, heap_alloc_new w.drew _, Nat.zero_le _, hle, hcs, rfl⟩⟩)
    have i1 : (0 : Int) < (n : Int) := by omega
    have b := ((Below.refl w.heap.size w).drew).alloc (Nat.le_refl _) (.cells cur 55)
    clear hr hcur hcap hcs hi hz0 hz1 hz2
    go_enter Try.func69, Try.ntmps69
    go_wp2_with (at_builtin; refine Lib.wpList_append_run _ rfl _ _ _ _ rfl _ _ rfl rfl _ _ HR.out ?_)
    go_wp2
    go_ret
    exact ⟨_, rfl, HH.out, b⟩
  · obtain rfl : n = 0 := by omega
    clear hi hz0 hz1 hz2
    go_enter Try.func69, Try.ntmps69
    go_wp2
    go_ret
    exact ⟨_, rfl, OwnA.nil _ _ _, Below.refl _ _⟩
theorem rdH_news {w : World} {B n c : Nat} {a : Addr} {cs : List Ch} (h : RdH w B (some a) n c cs) : ∀ (j : Nat) (u : Value), (flatH cs)[j]? = some u → w.cell? (a.add j) = some u := by
  intro j u hj
  have hlt : j < cs.length * 4 := by
    have := (List.getElem?_eq_some_iff.1 hj).1
    rwa [flatH_len] at this
  obtain ⟨hl, _, _, _, hc⟩ := h
  obtain ⟨b, off, he, _, hcell⟩ := hc (by omega)
  simp only [Option.some.injEq] at he
  subst he
  have f := flatH_at cs (j / 4) (by omega)
  have g := hcell (j / 4) (by omega)
  rw [add_addr]
  have hm : j % 4 = 0 ∨ j % 4 = 1 ∨ j % 4 = 2 ∨ j % 4 = 3 := by omega
  rcases hm with h | h | h | h
  · rw [show j / 4 * 4 = j from by omega] at f g
    rw [f.1] at hj; rw [g.1]; exact hj
  · have e : j / 4 * 4 + 1 = j := by omega
    rw [e] at f
    rw [show off + j / 4 * 4 + 1 = off + j from by omega] at g
    rw [f.2.1] at hj; rw [g.2.1]; exact hj
  · have e : j / 4 * 4 + 2 = j := by omega
    rw [e] at f
    rw [show off + j / 4 * 4 + 2 = off + j from by omega] at g
    rw [f.2.2.1] at hj; rw [g.2.2.1]; exact hj
  · have e : j / 4 * 4 + 3 = j := by omega
    rw [e] at f
    rw [show off + j / 4 * 4 + 3 = off + j from by omega] at g
    rw [f.2.2.2] at hj; rw [g.2.2.2]; exact hj
/-- The sum of the first k. -/
def tot (f : Nat → Nat) (k : Nat) : Nat := ((List.range k).map f).sum
theorem tot_zero (f : Nat → Nat) : tot f 0 = 0 := rfl
theorem tot_succ (f : Nat → Nat) (k : Nat) : tot f (k + 1) = tot f k + f k := by unfold tot; rw [List.range_succ]; simp
theorem tot_le {f : Nat → Nat} {k m : Nat} (h : ∀ i, i < k → f i ≤ m) : tot f k ≤ k * m := by
  induction k with
  | zero => simp [tot]
  | succ k ih =>
    rw [tot_succ, Nat.add_mul]
    have h1 := ih (fun i hi => h i (by omega))
    have h2 := h k (by omega)
    omega
/-- So many have come out. -/
def Joined (n : Nat) (w : World) (e : Ending) (w' : World) : Prop :=
  ∃ A c, e = .returned (.slice A n c) ∧ n ≤ c ∧ c ≤ 9223372036854775807 ∧ Below w.heap.size w w'
set_option maxRecDepth 100000 in
set_option maxHeartbeats 4000000 in
theorem concatC_any (g : Nat) (sA : Nat → Option Addr) (sn sc : Nat → Nat) (scs : Nat → List Ch) (w : World) (hgl : g < w.heap.size)
    (hcell : ∀ i, i < 3 → w.cell? ⟨g, i, none⟩ = some (.slice (sA i) (sn i) (sc i))) (hrd : ∀ i, i < 3 → RdH w w.heap.size (sA i) (sn i) (sc i) (scs i)) (hnil : ∀ i, i < 3 → sA i = none → sc i = 0) (hbnd : ∀ i, i < 3 → sn i ≤ 2000) :
    Calls Try.prog 61 #[.slice (some ⟨g, 0, none⟩) 3 3] w (Joined (tot sn 3) w) := by
  have HC := Lib.hid hcell
  have HR := Lib.hid hrd
  have HN := Lib.hid hnil
  have HB := Lib.hid hbnd
  clear hcell hrd hnil hbnd
  obtain ⟨i0, hi, hz0, hz1, hz2⟩ := info_parts Try.infoCh5
  have HI := Lib.hid hi
  have HZ0 := Lib.hid hz0
  have HZ1 := Lib.hid hz1
  have HZ2 := Lib.hid hz2
  clear hi hz0 hz1 hz2
  go_enter Try.func61, Try.ntmps61
  go_wp2
  go_loop [3, 11] (fun z i => ∃ k m : Nat, k ≤ 3 ∧ i = .int .i64 k ∧ z = .int .i64 m ∧ Hid (m = tot sn k) ∧ m ≤ 10000) (fun _ i => 3 - (intOf i).toNat)
  case atStart => exact ⟨0, 0, by omega, rfl, rfl, rfl, by omega⟩
  case round =>
    obtain ⟨k, m, hk, rfl, rfl, hm, hm1⟩ := hrel
    by_cases hk3 : k < 3
    · have c0 := HC.out k hk3
      have hs := HB.out k hk3
      have ht := Lib.hid (tot_succ sn k)
      have hle := tot_le (f := sn) (k := k + 1) (m := 2000) (fun i hi => HB.out i (by omega))
      have hmn : m + sn k ≤ 10000 := by have := hm.out; have := ht.out; omega
      have j0 : (0 : Int) ≤ (k : Int) := by omega
      have j1 : (k : Int) < 3 := by omega
      clear hle
      obtain ⟨a, ha⟩ : ∃ a, sn k = a := ⟨_, rfl⟩
      rw [ha] at c0 hs hmn
      have HA := Lib.hid ha
      clear ha
      go_wp2
      go_round
      case rel => exact ⟨k + 1, m + a, by omega, by go_num, by go_num, by show _ = _; rw [ht.out, HA.out, ← hm.out], hmn⟩
      case measure => simp [intOf]; omega
    · obtain rfl : k = 3 := by omega
      go_wp2_with fail
      refine (growC_any m (by omega) _).mono ?_
      rintro e w1 ⟨v, rfl, ho, hb⟩
      obtain ⟨A1, c1, rfl⟩ := ho.form
      have HO := Lib.hid (show World.ownsRow w1 w.heap.size 55 4 (.slice A1 0 c1) 0 [] from ho)
      clear ho
      go_wp2_with fail
      go_loopw [6, 27] (fun v i wr => ∃ (k p : Nat) (A2 : Option Addr) (c2 : Nat) (xs : List Value), k ≤ 3 ∧ i = .int .i64 k ∧ v = .slice A2 p c2 ∧ Hid (p = tot sn k) ∧ p ≤ 10000 ∧ Hid (World.ownsRow wr w.heap.size 55 4 (.slice A2 p c2) p xs) ∧ Below w.heap.size w wr) (fun _ i _ => 3 - (intOf i).toNat)
      case atStart => exact ⟨0, 0, A1, c1, [], by omega, rfl, rfl, rfl, by omega, HO, hb⟩
      case round =>
        clear HO hb
        obtain ⟨k, p, A2, c2, xs, hk2, rfl, rfl, hp, hp1, ho, hb⟩ := hrel
        by_cases hk3 : k < 3
        · have c0 := (hb.cell (p := ⟨g, k, none⟩) hgl).trans (HC.out k hk3)
          have hs := HB.out k hk3
          have ht := Lib.hid (tot_succ sn k)
          have hle := tot_le (f := sn) (k := k + 1) (m := 2000) (fun i hi => HB.out i (by omega))
          have hmn : p + sn k ≤ 10000 := by have := hp.out; have := ht.out; omega
          have j0 : (0 : Int) ≤ (k : Int) := by omega
          have j1 : (k : Int) < 3 := by omega
          have hrk := (HR.out k hk3).below hb
          have hnk := HN.out k hk3
          clear hle
          obtain ⟨a, ha⟩ : ∃ a, sn k = a := ⟨_, rfl⟩
          obtain ⟨ca, hca⟩ : ∃ ca, sc k = ca := ⟨_, rfl⟩
          obtain ⟨SA, hSA⟩ : ∃ SA, sA k = SA := ⟨_, rfl⟩
          rw [ha, hca, hSA] at c0 hrk
          rw [ha] at hs hmn
          rw [hca, hSA] at hnk
          have HA := Lib.hid ha
          clear ha hca hSA
          cases SA with
          | none =>
            obtain rfl := hnk rfl
            have ha0 : a = 0 := by have := hrk.2.1; omega
            subst ha0
            clear hrk
            go_wp2_with (at_builtin; refine wpList_append_own_none rfl _ _ 24 rfl w.heap.size 55 i0 4 Try.underlying24 HI.out _ _ _ rfl ho.out rfl ?_)
            go_roundw
            case rel => exact ⟨k + 1, p, A2, c2, xs, by omega, by go_num, rfl, by show _ = _; rw [ht.out, HA.out, ← hp.out]; rfl, hp1, ho, hb⟩
            case measure => simp [intOf]; omega
          | some ad =>
            have HNW := Lib.hid (rdH_news hrk)
            have HLN := Lib.hid (show (flatH (scs k)).length = a * 4 from by rw [flatH_len, hrk.1])
            have hbs := hb.size
            clear hrk hnk
            go_wp2_with (at_builtin; refine wpList_append_own _ rfl _ _ 24 rfl w.heap.size 55 i0 (.agg #[.int .i64 0, .string ByteArray.empty, .int .i64 0, .int .i64 0]) 4 40 Try.underlying24 HI.out HZ0.out HZ1.out HZ2.out rfl (by decide) _ _ _ rfl ho.out ad a ca (flatH (scs k)) rfl HLN.out HNW.out (onesH _) (by unfold maxLen; omega) (by omega) (by omega) ?_; intro v' w3 hown hgrow _)
            have b3 := hb.grown hgrow hbs (fun i hi => (World.ownsRow.lt ho.out i hi).1)
            have hf : ∃ A3 c3, v' = .slice A3 (p + a) c3 := by
              rcases hown.2 with ⟨hv, h0⟩ | ⟨g3, cap3, _, hv, _⟩
              · exact ⟨none, 0, by rw [hv, h0]⟩
              · exact ⟨_, cap3, hv⟩
            obtain ⟨A3, c3, rfl⟩ := hf
            go_roundw
            case rel => exact ⟨k + 1, p + a, A3, c3, _, by omega, by go_num, rfl, by show _ = _; rw [ht.out, HA.out, ← hp.out], hmn, hown, b3⟩
            case measure => simp [intOf]; omega
        · have hk4 : k = 3 := by omega
          have hp3 := hp.out
          rw [hk4] at hp3
          have HP := Lib.hid hp3
          have hcap : p ≤ c2 ∧ c2 ≤ 9223372036854775807 := by
            rcases ho.out.2 with ⟨hv, h0⟩ | ⟨g3, cap3, cur3, hv, _, _, hn3, hc3, _⟩
            · simp only [Value.slice.injEq] at hv
              omega
            · simp only [Value.slice.injEq] at hv
              unfold maxLen at hc3
              omega
          clear hp hp3 hk4
          go_wp2
          go_ret
          exact ⟨A2, c2, by rw [← HP.out]; rfl, by rw [← HP.out]; exact hcap.1, hcap.2, hb⟩
end Go.Proofs.Ytioheadchhkjmaa
