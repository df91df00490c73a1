/-
  The walks of the arms that are drawn: singles, anArm.
-/
import Derived.Test.YtofkbckpncpmkaaWVals
import Derived.Test.YtofkbckpncpmkaaWFlags
import Derived.Test.YtofkbckpncpmkaaMemE
namespace Go.Proofs.Ytofkbckpncpmkaa
open Go.RowKit
attribute [local go_sem ↓] Go.wp_at_zero Go.wp_at_succ

/-- Definitions whose values are bits. -/
def BitsOnly (ls : List D) : Prop := ls.length ≤ 12 ∧ ∀ d ∈ ls, d.1.size ≤ 9223372036854775807 ∧ 0 ≤ d.2 ∧ d.2 ≤ 4095
theorem BitsOnly.good {ls : List D} (h : BitsOnly ls) : Good ls := ⟨by have := h.1; omega, fun d hd => by have := h.2 d hd; omega⟩
theorem pow_le {a m : Nat} (h : 2 ^ a ≤ m) (hm : m ≤ 8190) : a ≤ 12 := by
  rcases Nat.lt_or_ge a 13 with h1 | h1
  · omega
  · have := Nat.pow_le_pow_right (n := 2) (by omega) h1
    omega
set_option maxRecDepth 100000 in
set_option maxHeartbeats 4000000 in
theorem singles_any (A : Option Addr) (n c : Nat) (ds : List D) (w : World) (hr : Rd w w.heap.size A n c ds) :
    Calls Try.prog 108 #[.slice A n c] w fun e w' => ∃ A' c' ls, e = .returned (.slice A' ls.length c') ∧ BitsOnly ls ∧ Own w' w.heap.size 41 (.slice A' ls.length c') ls ∧ Below w.heap.size w w' := by
  have HG := Lib.hid hr.2.2.2.1
  have HL := Lib.hid hr.1
  have HR := Lib.hid hr
  have hn := hr.2.1
  have hc := hr.2.2.1
  clear hr
  obtain ⟨i0, hi, hz0, hz1, hz2⟩ := info_parts Try.infoDef3
  have HI := Lib.hid hi
  have HZ0 := Lib.hid hz0
  have HZ1 := Lib.hid hz1
  have HZ2 := Lib.hid hz2
  clear hi hz0 hz1 hz2
  go_enter Try.func108, Try.ntmps108
  go_wp2
  go_loopw [3, 4] (fun v i wr => ∃ (m : Nat) (A' : Option Addr) (c' : Nat) (ls : List D), 1 ≤ m ∧ m ≤ 8190 ∧ Hid (2 ^ ls.length ≤ m) ∧ i = .int .i64 m ∧ v = .slice A' ls.length c' ∧ Hid (BitsOnly ls) ∧ Hid (Own wr w.heap.size 41 (.slice A' ls.length c') ls) ∧ Below w.heap.size w wr) (fun _ i _ => 8192 - (intOf i).toNat)
  case atStart => exact ⟨1, some ⟨w.heap.size, 0, none⟩, 0, [], by omega, by omega, Nat.le_refl _, rfl, rfl, ⟨by simp, by simp⟩, World.ownsRow_lit (size := 2) w #[] 0 (Nat.le_refl _) (by unfold maxLen; omega) rfl, below1 _ _⟩
  case round =>
    obtain ⟨m, A', c', ls, hm1, hm2, hp, rfl, rfl, hB, hown, hb⟩ := hrel
    have hls := hB.out.1
    by_cases hm : (m : Int) ≤ 4095
    · have HB := Lib.hid (HR.out.to hb)
      rcases ix_cases (valueIs m) ds with ⟨h, _⟩ | ⟨k, hk, h, _, hv⟩
      · go_wp2_with (go_at_call 67; refine (valueAt_any _ _ _ _ ds _ _ HB.out).mono ?_; rintro e w2 ⟨rfl, rfl⟩)
        go_roundw
        case rel => exact ⟨m * 2, A', c', ls, by omega, by omega, by have := hp.out; exact (show 2 ^ ls.length ≤ m * 2 by omega), by go_num, rfl, hB, hown, hb⟩
        case measure => simp [intOf]; omega
      · have hkn : k < n := by rw [← HL.out]; exact hk
        obtain ⟨b, off, rfl, hbl, hcell⟩ := (HR.out.below hb).2.2.2.2 (by omega)
        obtain ⟨c0, c1⟩ := hcell k hkn
        have hval : (nth ds k).2 = (m : Int) := by simpa [valueIs] using hv
        have HX := Lib.hid (show BitsOnly (ls ++ [nth ds k]) ∧ 2 ^ (ls ++ [nth ds k]).length ≤ m * 2 from by
          have hp := hp.out
          have h2 : 2 ^ (ls ++ [nth ds k]).length ≤ m * 2 := by
            rw [List.length_append, List.length_singleton, Nat.pow_succ]; omega
          refine ⟨⟨pow_le h2 (by omega), fun d hd => ?_⟩, h2⟩
          rcases List.mem_append.1 hd with hd | hd
          · exact hB.out.2 d hd
          · have hd' : d = nth ds k := by simpa using hd
            have := (HG.out.nth hk).1
            rw [hd']
            omega)
        clear hcell hval hv
        have i1 : (0 : Int) ≤ (k : Int) := by omega
        have i2 : (k : Int) < (n : Int) := by omega
        go_wp2_with (first | (go_at_call 67; refine (valueAt_any _ _ _ _ ds _ _ HB.out).mono ?_; rintro e w2 ⟨rfl, rfl⟩; rw [h]) | (at_builtin; refine wpList_append_own _ rfl _ _ 23 rfl w.heap.size 41 i0 (.agg #[.string ByteArray.empty, .int .i64 0]) 2 24 Try.underlying23 HI.out HZ0.out HZ1.out HZ2.out rfl (by decide) _ _ _ rfl (hown.out.alloc _) ⟨wr.heap.size, 0, none⟩ 1 1 [.string (nth ds k).1, .int .i64 (nth ds k).2] rfl rfl (newsD _ (nth ds k) _) (by simp [Value.oneCell']) (by unfold maxLen; omega) (by omega) (by have := hb.size; simp; omega) ?_; intro v' w3 hown3 hgrow _))
        have b3 := (hb.alloc hb.size (.cells #[.string (nth ds k).1, .int .i64 (nth ds k).2] 41)).grown hgrow (by have := hb.size; simp; omega) (fun i hi => (World.ownsRow.lt hown.out i hi).1)
        have ho3 : Own w3 w.heap.size 41 v' (ls ++ [nth ds k]) := by
          unfold Own
          rw [flat_snoc, List.length_append]
          exact hown3
        obtain ⟨A3, c3, hv3⟩ := ho3.form
        go_roundw
        case rel => exact ⟨m * 2, A3, c3, ls ++ [nth ds k], by omega, by omega, HX.out.2, by go_num, hv3, HX.out.1, by rw [← hv3]; exact ho3, b3⟩
        case measure => simp [intOf]; omega
    · have HH := Lib.hid (And.intro hB.out (And.intro hown.out hb))
      go_wp2
      go_ret
      exact ⟨A', c', ls, rfl, HH.out⟩
theorem wrap_id {x : Int} (h : -9223372036854775808 ≤ x) (h' : x ≤ 9223372036854775807) : IntKind.i64.wrap x = x := by rw [IntKind.wrap_i64]; omega
/-- An arm has been drawn. -/
def ArmDrawn (w : World) (base g k : Nat) (e : Ending) (w' : World) : Prop :=
  ∃ x y : Int, e = .returned (.agg #[.int .i64 x, .int .i64 y]) ∧ (-50000 ≤ x ∧ x ≤ 50000) ∧ (-50000 ≤ y ∧ y ≤ 50000) ∧ DS w base g 78 k w'
set_option maxRecDepth 100000 in
set_option maxHeartbeats 8000000 in
theorem anArm_any (B : Nat) (A : Option Addr) (c : Nat) (ds : List D) (z : Int) (base g k : Nat) (w : World) (hr : Rdr w base g 78 (k + 12)) (ho : Own w B 41 (.slice A ds.length c) ds) (hf : Fine 13 ds) :
    Calls Try.prog 107 #[.pointer (some ⟨g, 0, none⟩), .agg #[.slice A ds.length c, .int .i64 z]] w (ArmDrawn w base g k) := by
  have D := (((DS.start hr).alloc (.cells #[.slice A ds.length c, .int .i64 z] 25)).alloc (.cells #[.int .i64 0, .int .i64 0] 51)).alloc (.cells #[.int .i64 0, .int .i64 0] 51)
  have q := ((blk1 w #[.slice A ds.length c, .int .i64 z] 25).alloc (.cells #[.int .i64 0, .int .i64 0] 51)).alloc (.cells #[.int .i64 0, .int .i64 0] 51)
  have r := (blk2 w (.cells #[.slice A ds.length c, .int .i64 z] 25) #[.int .i64 0, .int .i64 0] 51).alloc (.cells #[.int .i64 0, .int .i64 0] 51)
  have p := blk3 w (.cells #[.slice A ds.length c, .int .i64 z] 25) (.cells #[.int .i64 0, .int .i64 0] 51) #[.int .i64 0, .int .i64 0] 51
  have hgl := hr.lt
  replace ho := ((ho.alloc (.cells #[.slice A ds.length c, .int .i64 z] 25)).alloc (.cells #[.int .i64 0, .int .i64 0] 51)).alloc (.cells #[.int .i64 0, .int .i64 0] 51)
  obtain ⟨A2, c2, he, R⟩ := ho.rd hf (by omega)
  simp only [Value.slice.injEq] at he
  obtain ⟨rfl, _, rfl⟩ := he
  have c0 := q.cell 0
  clear hr hf ho
  go_enter Try.func107, Try.ntmps107
  go_wp2_with fail
  refine (singles_any _ _ _ ds _ R).mono ?_
  rintro e w1 ⟨A1, c1, ls, rfl, hls, o, hb⟩
  replace D := Lib.hid (D.below hb)
  replace p := Lib.hid (p.below hb p.lt)
  replace r := Lib.hid (r.below hb r.lt)
  replace o := Lib.hid (o.base (B' := w.heap.size + 3) (by simp))
  have HLS := Lib.hid hls
  have hll := hls.1
  clear hb R q c0 hls
  go_wp2
  go_loopw [7] (fun iv wr => ∃ (i : Nat) (x y : Int), i ≤ ls.length ∧ iv = .int .i64 i ∧ Hid (0 ≤ x ∧ x ≤ 4095 * i ∧ 0 ≤ y ∧ y ≤ 4095 * i) ∧ Hid (Blk wr (w.heap.size + 1 + 1) 51 #[.int .i64 x, .int .i64 y]) ∧ Hid (Blk wr (w.heap.size + 1) 51 #[.int .i64 0, .int .i64 0]) ∧ Hid (Own wr (w.heap.size + 3) 41 (.slice A1 ls.length c1) ls) ∧ Hid (DS w base g 78 (k + (12 - i)) wr)) (fun iv _ => ls.length - (intOf iv).toNat)
  case atStart => exact ⟨0, 0, 0, Nat.zero_le _, rfl, by exact ⟨by omega, by omega, by omega, by omega⟩, p, r, o, D⟩
  case round =>
    obtain ⟨i, x, y, hi, rfl, hxy, p, r, o, D⟩ := hrel
    have hpl := p.out.lt
    by_cases hil : i < ls.length
    · obtain ⟨bb, c3, he, hbb, hbw, _, _⟩ := Own.some o.out (by omega)
      simp only [Value.slice.injEq] at he
      obtain ⟨rfl, _, rfl⟩ := he
      go_wp2_with fail
      refine (pick_any base g (k + (12 - (i + 1))) _ _ (D.out.less (by omega)).rd).mono ?_
      rintro e w2 ⟨t, rfl, ht0, ht1, hr, hg⟩
      replace D := Lib.hid (D.out.less (k' := k + (12 - (i + 1)) + 1) (by omega))
      replace D := Lib.hid (D.out.draw hr hg)
      replace p := Lib.hid (p.out.gr hg (by omega))
      replace r := Lib.hid (r.out.gr hg (by omega))
      replace o := Lib.hid (o.out.draw hg (by omega))
      clear hr hg
      have hxl := hxy.out
      have hv := HLS.out.2 _ (nth_mem hil)
      have a0 := p.out.cell 0
      have a1 := p.out.cell 1
      have f0 := p.out.frozen 0
      have f1 := p.out.frozen 1
      have hcc := (o.out.cells rfl hil).2
      have i1 : (0 : Int) ≤ (i : Int) := by omega
      have i2 : (i : Int) < (ls.length : Int) := by omega
      have hne1 : ¬ w.heap.size + 1 + 1 = bb := by omega
      have hne2 : ¬ bb = w.heap.size + 1 + 1 := by omega
      have hno := o.out.ne (p := w.heap.size + 1 + 1) (.inl (by omega))
      by_cases ht : t = 0
      · subst ht
        go_wp2_with fail
        go_region_law (fail)
        all_goals
          have hw : IntKind.i64.wrap (x + (nth ls i).2) = x + (nth ls i).2 := wrap_id (by omega) (by omega)
          rw [hw]
          obtain ⟨W, hW⟩ : ∃ W, W = w2.setCell ⟨w.heap.size + 1 + 1, 0, none⟩ (.int .i64 (x + (nth ls i).2)) := ⟨_, rfl⟩
          have p3 := Lib.hid (show Blk W (w.heap.size + 1 + 1) 51 #[.int .i64 (x + (nth ls i).2), .int .i64 y] from by rw [hW]; exact p.out.set_ 0 _)
          have r3 := Lib.hid (show Blk W (w.heap.size + 1) 51 #[.int .i64 0, .int .i64 0] from by rw [hW]; exact Blk.far r.out (by simp) _)
          have o3 := Lib.hid (show Own W (w.heap.size + 3) 41 (.slice (some ⟨bb, 0, none⟩) ls.length c1) ls from by rw [hW]; exact o.out.far hno _)
          have D3 := Lib.hid (show DS w base g 78 (k + (12 - (i + 1))) W from by rw [hW]; exact D.out.set (by omega) _)
          rw [← hW]
          clear hW hw a0 a1 f0 f1 p r o D hcc
          go_wp2_with fail
          go_roundw
          case rel => exact ⟨i + 1, x + (nth ls i).2, y, by omega, by go_num, by exact ⟨by omega, by omega, by omega, by omega⟩, p3, r3, o3, D3.out.drew⟩
          case measure => simp [intOf]; omega
      · by_cases ht1 : t = 1
        · subst ht1
          go_wp2_with fail
          go_region_law (fail)
          all_goals
            have hw : IntKind.i64.wrap (y + (nth ls i).2) = y + (nth ls i).2 := wrap_id (by omega) (by omega)
            rw [hw]
            obtain ⟨W, hW⟩ : ∃ W, W = w2.setCell ⟨w.heap.size + 1 + 1, 1, none⟩ (.int .i64 (y + (nth ls i).2)) := ⟨_, rfl⟩
            have p3 := Lib.hid (show Blk W (w.heap.size + 1 + 1) 51 #[.int .i64 x, .int .i64 (y + (nth ls i).2)] from by rw [hW]; exact p.out.set_ 1 _)
            have r3 := Lib.hid (show Blk W (w.heap.size + 1) 51 #[.int .i64 0, .int .i64 0] from by rw [hW]; exact Blk.far r.out (by simp) _)
            have o3 := Lib.hid (show Own W (w.heap.size + 3) 41 (.slice (some ⟨bb, 0, none⟩) ls.length c1) ls from by rw [hW]; exact o.out.far hno _)
            have D3 := Lib.hid (show DS w base g 78 (k + (12 - (i + 1))) W from by rw [hW]; exact D.out.set (by omega) _)
            rw [← hW]
            clear hW hw a0 a1 f0 f1 p r o D hcc
            go_wp2_with fail
            go_roundw
            case rel => exact ⟨i + 1, x, y + (nth ls i).2, by omega, by go_num, by exact ⟨by omega, by omega, by omega, by omega⟩, p3, r3, o3, D3.out.drew⟩
            case measure => simp [intOf]; omega
        · go_wp2_with fail
          go_roundw
          case rel => exact ⟨i + 1, x, y, by omega, by go_num, by exact ⟨by omega, by omega, by omega, by omega⟩, p, r, o, D⟩
          case measure => simp [intOf]; omega
    · have hxl := hxy.out
      have a0 := p.out.cell 0
      have a1 := p.out.cell 1
      have g0 := r.out.cell 0
      have g1 := r.out.cell 1
      have f0 := r.out.frozen 0
      have f1 := r.out.frozen 1
      have r2 : Blk ((wr.setCell ⟨w.heap.size + 1, 0, none⟩ (.int .i64 x)).setCell ⟨w.heap.size + 1, 1, none⟩ (.int .i64 y)) (w.heap.size + 1) 51 #[.int .i64 x, .int .i64 y] := (r.out.set_ 0 (.int .i64 x)).set_ 1 (.int .i64 y)
      have d0 := r2.cell 0
      have d1 := r2.cell 1
      have HH := Lib.hid (((D.out.less (k' := k) (by omega)).set (p := w.heap.size + 1) (i := 0) (by omega) (.int .i64 x)).set (p := w.heap.size + 1) (i := 1) (by omega) (.int .i64 y))
      clear r2
      go_wp2
      exact bodyPost_ret (v := .agg #[.int .i64 x, .int .i64 y]) (by simp [results, Try.results107, go_sem, d0, d1]) rfl ⟨x, y, rfl, by omega, by omega, HH.out⟩
/-- A number of a list that is drawn. -/
def Mid (v : Int) : Prop := -50000 ≤ v ∧ v ≤ 50000
set_option maxRecDepth 100000 in
set_option maxHeartbeats 8000000 in
theorem someArm_any (B : Nat) (A : Option Addr) (c : Nat) (ds : List D) (z : Int) (base g k : Nat) (w : World) (hr : Rdr w base g 78 (k + 14)) (ho : Own w B 41 (.slice A ds.length c) ds) (hf : Fine 13 ds) :
    Calls Try.prog 100 #[.pointer (some ⟨g, 0, none⟩), .agg #[.slice A ds.length c, .int .i64 z]] w (ArmDrawn w base g k) := by
  have D := ((DS.start hr).alloc (.cells #[.slice A ds.length c, .int .i64 z] 25)).alloc (.cells #[.int .i64 0, .int .i64 0] 51)
  have q := (blk1 w #[.slice A ds.length c, .int .i64 z] 25).alloc (.cells #[.int .i64 0, .int .i64 0] 51)
  have r := blk2 w (.cells #[.slice A ds.length c, .int .i64 z] 25) #[.int .i64 0, .int .i64 0] 51
  have hgl := hr.lt
  replace ho := (ho.alloc (.cells #[.slice A ds.length c, .int .i64 z] 25)).alloc (.cells #[.int .i64 0, .int .i64 0] 51)
  have c0 := q.cell 0
  have c1 := q.cell 1
  clear hr
  go_enter Try.func100, Try.ntmps100
  go_wp2_with fail
  refine (anArm_any B A c ds z base g (k + 2) _ D.rd ho hf).mono ?_
  rintro e w1 ⟨x, y, rfl, hx, hy, D1⟩
  have hs1 := D1.size
  replace D := Lib.hid ((D.trans D1).alloc (.cells #[.int .i64 x, .int .i64 y] 51))
  replace r := Lib.hid ((r.gr D1.gr (by omega)).alloc (.cells #[.int .i64 x, .int .i64 y] 51))
  have p := Lib.hid (blk1 w1 #[.int .i64 x, .int .i64 y] 51)
  have hs2 : w.heap.size + 1 < w1.heap.size := by simp at hs1; omega
  clear q c0 c1 D1 ho hf hs1
  go_wp2_with fail
  refine (pick_any base g (k + 1) _ _ D.out.rd).mono ?_
  rintro e w2 ⟨t, rfl, ht0, ht1, hr, hg⟩
  replace D := Lib.hid (D.out.draw hr hg)
  replace p := Lib.hid (p.out.gr hg (by omega))
  replace r := Lib.hid (r.out.gr hg (by omega))
  have hs3 := p.out.lt
  clear hr hg
  by_cases ht : t = 0
  · subst ht
    have a0 := p.out.cell 0
    go_wp2_with fail
    refine (one_any Small base g k w2.heap.size 4 4 _ (by omega) (by omega) (by omega) (by exact cellsI (blk1 w2 _ _) rfl (by rfl)) (D.out.alloc _).rd).mono ?_
    rintro e w3 ⟨x', rfl, hx', hr, hg⟩
    have hx3 : -50000 ≤ x' ∧ x' ≤ 50000 := by have := hx'.1; have := hx'.2; omega
    replace D := Lib.hid ((D.out.alloc _).draw hr hg)
    replace p := Lib.hid ((p.out.alloc _).gr hg (by omega))
    replace r := Lib.hid ((r.out.alloc _).gr hg (by omega))
    have hs4 := p.out.lt
    clear hr hg hx'
    obtain ⟨W, hW⟩ : ∃ W, W = w3.setCell ⟨w1.heap.size, 0, none⟩ (.int .i64 x') := ⟨_, rfl⟩
    replace a0 := p.out.cell 0
    have f0 := p.out.frozen 0
    have p3 := Lib.hid (show Blk W w1.heap.size 51 #[.int .i64 x', .int .i64 y] from by rw [hW]; exact p.out.set_ 0 _)
    have r3 := Lib.hid (show Blk W (w.heap.size + 1) 51 #[.int .i64 0, .int .i64 0] from by rw [hW]; exact Blk.far r.out (by simp; omega) _)
    have D3 := Lib.hid (show DS w base g 78 k W from by rw [hW]; exact D.out.set (by omega) _)
    have a5 : (w3.setCell ⟨w1.heap.size, 0, none⟩ (.int .i64 x')).cell? ⟨w1.heap.size, 0, none⟩ = some (.int .i64 x') := (p.out.set_ 0 _).cell 0
    have a6 : (w3.setCell ⟨w1.heap.size, 0, none⟩ (.int .i64 x')).cell? ⟨w1.heap.size, 1, none⟩ = some (.int .i64 y) := (p.out.set_ 0 _).cell 1
    have a7 : (w3.setCell ⟨w1.heap.size, 0, none⟩ (.int .i64 x')).cell? ⟨w.heap.size + 1, 0, none⟩ = some (.int .i64 0) := by rw [← hW]; exact r3.out.cell 0
    have a8 : (w3.setCell ⟨w1.heap.size, 0, none⟩ (.int .i64 x')).cell? ⟨w.heap.size + 1, 1, none⟩ = some (.int .i64 0) := by rw [← hW]; exact r3.out.cell 1
    have b7 : (w3.setCell ⟨w1.heap.size, 0, none⟩ (.int .i64 x')).frozen? ⟨w.heap.size + 1, 0, none⟩ = false := by rw [← hW]; exact r3.out.frozen 0
    have b8 : (w3.setCell ⟨w1.heap.size, 0, none⟩ (.int .i64 x')).frozen? ⟨w.heap.size + 1, 1, none⟩ = false := by rw [← hW]; exact r3.out.frozen 1
    have r2 : Blk ((W.setCell ⟨w.heap.size + 1, 0, none⟩ (.int .i64 x')).setCell ⟨w.heap.size + 1, 1, none⟩ (.int .i64 y)) (w.heap.size + 1) 51 #[.int .i64 x', .int .i64 y] := (r3.out.set_ 0 (.int .i64 x')).set_ 1 (.int .i64 y)
    rw [hW] at r2
    have d0 := r2.cell 0
    have d1 := r2.cell 1
    have HH0 := (D3.out.set (p := w.heap.size + 1) (i := 0) (by omega) (.int .i64 x')).set (p := w.heap.size + 1) (i := 1) (by omega) (.int .i64 y)
    rw [hW] at HH0
    have HH := Lib.hid HH0
    clear r2 HH0 hW p3 r3 D3 D p r
    go_wp2
    exact bodyPost_ret (v := .agg #[.int .i64 x', .int .i64 y]) (by simp [results, Try.results100, go_sem, d0, d1]) rfl ⟨x', y, rfl, hx3, hy, HH.out⟩
  · by_cases ht1 : t = 1
    · subst ht1
      have a0 := p.out.cell 0
      go_wp2_with fail
      refine (one_any Mid base g k w2.heap.size 4 4 _ (by omega) (by omega) (by omega) ?_ (D.out.alloc _).rd).mono ?_
      · intro i hi
        rw [blk1 w2 #[.int .i64 (-1), .int .i64 4096, .int .i64 32, .int .i64 x] 3 |>.cell i]
        match i, hi with
        | 0, _ => exact ⟨-1, rfl, by unfold Mid; omega⟩
        | 1, _ => exact ⟨4096, rfl, by unfold Mid; omega⟩
        | 2, _ => exact ⟨32, rfl, by unfold Mid; omega⟩
        | 3, _ => exact ⟨x, rfl, hx⟩
      rintro e w3 ⟨y', rfl, hy', hr, hg⟩
      replace D := Lib.hid ((D.out.alloc _).draw hr hg)
      replace p := Lib.hid ((p.out.alloc _).gr hg (by omega))
      replace r := Lib.hid ((r.out.alloc _).gr hg (by omega))
      have hs4 := p.out.lt
      clear hr hg
      obtain ⟨W, hW⟩ : ∃ W, W = w3.setCell ⟨w1.heap.size, 1, none⟩ (.int .i64 y') := ⟨_, rfl⟩
      replace a0 := p.out.cell 0
      have a1 := p.out.cell 1
      have f0 := p.out.frozen 1
      have p3 := Lib.hid (show Blk W w1.heap.size 51 #[.int .i64 x, .int .i64 y'] from by rw [hW]; exact p.out.set_ 1 _)
      have r3 := Lib.hid (show Blk W (w.heap.size + 1) 51 #[.int .i64 0, .int .i64 0] from by rw [hW]; exact Blk.far r.out (by simp; omega) _)
      have D3 := Lib.hid (show DS w base g 78 k W from by rw [hW]; exact D.out.set (by omega) _)
      have a5 : (w3.setCell ⟨w1.heap.size, 1, none⟩ (.int .i64 y')).cell? ⟨w1.heap.size, 0, none⟩ = some (.int .i64 x) := (p.out.set_ 1 _).cell 0
      have a6 : (w3.setCell ⟨w1.heap.size, 1, none⟩ (.int .i64 y')).cell? ⟨w1.heap.size, 1, none⟩ = some (.int .i64 y') := (p.out.set_ 1 _).cell 1
      have a7 : (w3.setCell ⟨w1.heap.size, 1, none⟩ (.int .i64 y')).cell? ⟨w.heap.size + 1, 0, none⟩ = some (.int .i64 0) := by rw [← hW]; exact r3.out.cell 0
      have a8 : (w3.setCell ⟨w1.heap.size, 1, none⟩ (.int .i64 y')).cell? ⟨w.heap.size + 1, 1, none⟩ = some (.int .i64 0) := by rw [← hW]; exact r3.out.cell 1
      have b7 : (w3.setCell ⟨w1.heap.size, 1, none⟩ (.int .i64 y')).frozen? ⟨w.heap.size + 1, 0, none⟩ = false := by rw [← hW]; exact r3.out.frozen 0
      have b8 : (w3.setCell ⟨w1.heap.size, 1, none⟩ (.int .i64 y')).frozen? ⟨w.heap.size + 1, 1, none⟩ = false := by rw [← hW]; exact r3.out.frozen 1
      have r2 : Blk ((W.setCell ⟨w.heap.size + 1, 0, none⟩ (.int .i64 x)).setCell ⟨w.heap.size + 1, 1, none⟩ (.int .i64 y')) (w.heap.size + 1) 51 #[.int .i64 x, .int .i64 y'] := (r3.out.set_ 0 (.int .i64 x)).set_ 1 (.int .i64 y')
      rw [hW] at r2
      have d0 := r2.cell 0
      have d1 := r2.cell 1
      have HH0 := (D3.out.set (p := w.heap.size + 1) (i := 0) (by omega) (.int .i64 x)).set (p := w.heap.size + 1) (i := 1) (by omega) (.int .i64 y')
      rw [hW] at HH0
      have HH := Lib.hid HH0
      clear r2 HH0 hW p3 r3 D3 D p r
      go_wp2
      exact bodyPost_ret (v := .agg #[.int .i64 x, .int .i64 y']) (by simp [results, Try.results100, go_sem, d0, d1]) rfl ⟨x, y', rfl, hx, hy', HH.out⟩
    · skip
      have a0 := p.out.cell 0
      have a1 := p.out.cell 1
      have g0 := r.out.cell 0
      have g1 := r.out.cell 1
      have f0 := r.out.frozen 0
      have f1 := r.out.frozen 1
      have hpl := p.out.lt
      have r2 : Blk ((w2.setCell ⟨w.heap.size + 1, 0, none⟩ (.int .i64 x)).setCell ⟨w.heap.size + 1, 1, none⟩ (.int .i64 y)) (w.heap.size + 1) 51 #[.int .i64 x, .int .i64 y] := (r.out.set_ 0 (.int .i64 x)).set_ 1 (.int .i64 y)
      have d0 := r2.cell 0
      have d1 := r2.cell 1
      have HH := Lib.hid (((D.out.less (k' := k) (by omega)).set (p := w.heap.size + 1) (i := 0) (by omega) (.int .i64 x)).set (p := w.heap.size + 1) (i := 1) (by omega) (.int .i64 y))
      clear r2
      go_wp2
      exact bodyPost_ret (v := .agg #[.int .i64 x, .int .i64 y]) (by simp [results, Try.results100, go_sem, d0, d1]) rfl ⟨x, y, rfl, by omega, by omega, HH.out⟩
end Go.Proofs.Ytofkbckpncpmkaa
