/-
  The walks of members, of the program's and of the reference's: a row is made by append.
-/
import Derived.Test.YtpnicgagmopilaaWSDefs
import Derived.Test.YtpnicgagmopilaaPlainE
import Derived.Maps.AppendAt
namespace Go.Proofs.Ytpnicgagmopilaa
open Go.RowKit

theorem Try.infoDef2 : (Try.prog.info? 68).map (fun i => (i.zero, i.size, i.bytes)) = some (some (.agg #[.string ByteArray.empty, .int .i64 0]), 2, 24) := by kernel_rfl

/-- The new block that holds one definition. -/
theorem news_def (w : World) (d : D) (t : TypeId) : ∀ (j : Nat) (u : Value), [Value.string d.1, .int .i64 d.2][j]? = some u → (w.alloc (.cells #[.string d.1, .int .i64 d.2] t)).cell? ((⟨w.heap.size, 0, none⟩ : Addr).add j) = some u := by
  intro j u hj
  have h := (blk1 w #[.string d.1, .int .i64 d.2] t).cell
  match j, hj with
  | 0, hj => simp at hj; subst hj; exact h 0
  | 1, hj => simp at hj; subst hj; exact h 1

theorem ret_slice {A : Option Addr} {n m c : Nat} (h : n = m) : Ending.returned (.slice A n c) = .returned (.slice A m c) := by rw [h]
theorem own_slice {w : World} {base n : Nat} {t : TypeId} {v : Value} {xs : List Value} (h : w.ownsRow base t 2 v n xs) : ∃ A c, v = .slice A n c := by
  rcases h.2 with ⟨hv, h0⟩ | ⟨g, cap, _, hv, _⟩
  · exact ⟨none, 0, by rw [hv, h0]⟩
  · exact ⟨_, cap, hv⟩
theorem own_more {w : World} {base k : Nat} {t : TypeId} {v : Value} {ds : List D} {d : D} (h : w.ownsRow base t 2 v (ds.length + 1) (flat ds ++ [.string d.1, .int .i64 d.2])) (hk : k = (ds ++ [d]).length) : w.ownsRow base t 2 v k (flat (ds ++ [d])) := by
  subst hk
  rw [flat_snoc, List.length_append]
  exact h
theorem own_kept {w w' : World} {base n : Nat} {t : TypeId} {v : Value} {xs : List Value} (h : w.ownsRow base t 2 v n xs) (hb : Below w.heap.size w w') : w'.ownsRow base t 2 v n xs :=
  h.kept ⟨hb.os, hb.tape, hb.output, hb.size, fun i hi _ => hb.block i hi⟩ (row := none) (by cases hv : v.ownBlock <;> simp)

set_option maxHeartbeats 1000000 in
theorem members_any (A : Option Addr) (n c : Nat) (ds : List D) (w : World) (hr : Rd w w.heap.size A n c ds) :
    Calls Try.prog 60 #[.agg #[.slice A n c]] w fun e w' => ∃ A' c', e = .returned (.slice A' (mem ds).length c') ∧ Rd w' w'.heap.size A' (mem ds).length c' (mem ds) ∧ Below w.heap.size w w' := by
  have HG := Lib.hid hr.2.2.2.1
  have HL := Lib.hid hr.1
  have b0 := below1 w (.cells #[.slice A n c] 28)
  have HR := Lib.hid hr
  have hn := hr.2.1
  have hc := hr.2.2.1
  clear hr
  obtain ⟨i0, hi, hz0, hz1, hz2⟩ := info_parts Try.infoDef2
  have HI := Lib.hid hi
  have HZ0 := Lib.hid hz0
  have HZ1 := Lib.hid hz1
  have HZ2 := Lib.hid hz2
  clear hi hz0 hz1 hz2
  go_enter Try.func60, Try.ntmps60
  go_wp2
  go_loopw [3, 9] (fun v i wr => ∃ k A' c', k ≤ n ∧ i = .int .i64 (k : Nat) ∧ v = .slice A' (memTo ds k).length c' ∧ wr.ownsRow w.heap.size 68 2 (.slice A' (memTo ds k).length c') (memTo ds k).length (flat (memTo ds k)) ∧ Below w.heap.size w wr) (fun _ i _ => n - (intOf i).toNat)
  case atStart => exact ⟨0, none, 0, Nat.zero_le _, rfl, rfl, World.ownsRow_nil _ _ _ _, b0⟩
  case round =>
    obtain ⟨k, A', c', hk, rfl, rfl, hown, hb⟩ := hrel
    have hr := HR.out.below hb
    have HO := Lib.hid hown
    clear hown
    by_cases hkn : k < n
    · obtain ⟨b, off, rfl, hbl, hcell⟩ := hr.2.2.2.2 (by omega)
      obtain ⟨c0, c1⟩ := hcell k hkn
      clear hcell
      clear hr
      have q := blk1 wr #[.string (nth ds k).1, .int .i64 (nth ds k).2] 68
      have b1 := hb.alloc hb.size (.cells #[.string (nth ds k).1, .int .i64 (nth ds k).2] 68)
      have ho1 := HO.out.alloc (.cells #[.string (nth ds k).1, .int .i64 (nth ds k).2] 68)
      have HO1 := Lib.hid ho1
      have hgk := memTo_good (k := k) HG.out (by rw [HL.out]; omega)
      obtain ⟨A2, c2, he, hrd⟩ := own_rd ho1 hgk
      simp only [Value.slice.injEq] at he
      obtain ⟨rfl, _, rfl⟩ := he
      have HRD := Lib.hid hrd
      have hlen := memTo_length ds k
      have hgl := HG.out.1
      rw [HL.out] at hgl
      clear ho1 hrd hgk
      go_wp2_with fail
      refine (valued_any _ _ _ (memTo ds k) _ _ HRD.out).mono ?_
      rintro e w2 ⟨rfl, hb2⟩
      have q2 := q.below hb2 q.lt
      have d0 := q2.cell 0
      have d1 := q2.cell 1
      have b2 := Below.on b1 hb2 b1.size
      have hsz2 : wr.heap.size < w2.heap.size := q2.lt
      have HO2 := Lib.hid (own_kept HO1.out hb2)
      by_cases hlt : ix (valueIs (nth ds k).2) (memTo ds k) < 0
      · have HM := Lib.hid (memTo_yes hlt)
        go_wp2_with (at_builtin; refine wpList_append_own _ rfl _ _ 26 rfl w.heap.size 68 i0 (.agg #[.string ByteArray.empty, .int .i64 0]) 2 24 Try.underlying26 HI.out HZ0.out HZ1.out HZ2.out rfl (by decide) _ _ _ rfl (HO2.out.alloc _) ⟨w2.heap.size, 0, none⟩ 1 1 [.string (nth ds k).1, .int .i64 (nth ds k).2] rfl rfl (news_def _ _ _) (by simp [Value.oneCell']) (by unfold maxLen; omega) (by omega) (by have := b2.size; simp; omega) ?_; intro v' w3 hown3 hgrow _)
        have b3 := (b2.alloc b2.size (.cells #[.string (nth ds k).1, .int .i64 (nth ds k).2] 68)).grown hgrow (by have := b2.size; simp; omega) (fun i hi => (HO2.out.lt i hi).1)
        have ho3 := own_more hown3 (k := (memTo ds (k + 1)).length) (by rw [HM.out])
        rw [← HM.out] at ho3
        obtain ⟨A3, c3, rfl⟩ := own_slice ho3
        go_roundw
        case rel => exact ⟨k + 1, A3, c3, by omega, by go_num, rfl, ho3, b3⟩
        case measure => simp [intOf]; omega
      · have HM := Lib.hid (memTo_no hlt)
        go_wp2_with fail
        go_roundw
        case rel => exact ⟨k + 1, A', c', by omega, by go_num, by rw [HM.out], by rw [HM.out]; exact HO2.out, b2⟩
        case measure => simp [intOf]; omega
    · have HK := Lib.hid (show (memTo ds k).length = (mem ds).length from by rw [show k = ds.length from by rw [HL.out]; omega]; rfl)
      have hk2 : k = ds.length := by rw [HL.out]; omega
      have ho : wr.ownsRow w.heap.size 68 2 (.slice A' (mem ds).length c') (mem ds).length (flat (mem ds)) := by unfold mem; rw [← hk2]; exact HO.out
      obtain ⟨A2, c2, he, hrd⟩ := own_rd ho (memTo_good HG.out (Nat.le_refl _))
      simp only [Value.slice.injEq] at he
      obtain ⟨rfl, _, rfl⟩ := he
      have HRD := Lib.hid hrd
      clear hrd ho hk2
      go_wp2_with fail
      go_ret
      exact ⟨A', c', ret_slice HK.out, HRD.out, hb⟩

set_option maxHeartbeats 1000000 in
theorem smembers_any (A : Option Addr) (n c : Nat) (ds : List D) (w : World) (hr : Rd w w.heap.size A n c ds) :
    Calls Try.prog 69 #[.slice A n c] w fun e w' => ∃ A' c', e = .returned (.slice A' (mem ds).length c') ∧ Rd w' w'.heap.size A' (mem ds).length c' (mem ds) ∧ Below w.heap.size w w' := by
  have HG := Lib.hid hr.2.2.2.1
  have HL := Lib.hid hr.1
  have HR := Lib.hid hr
  have hn := hr.2.1
  have hc := hr.2.2.1
  clear hr
  obtain ⟨i0, hi, hz0, hz1, hz2⟩ := info_parts Try.infoDef2
  have HI := Lib.hid hi
  have HZ0 := Lib.hid hz0
  have HZ1 := Lib.hid hz1
  have HZ2 := Lib.hid hz2
  clear hi hz0 hz1 hz2
  go_enter Try.func69, Try.ntmps69
  go_wp2
  go_loopw [3, 4] (fun v i wr => ∃ k A' c', k ≤ n ∧ i = .int .i64 (k : Nat) ∧ v = .slice A' (memTo ds k).length c' ∧ wr.ownsRow w.heap.size 68 2 (.slice A' (memTo ds k).length c') (memTo ds k).length (flat (memTo ds k)) ∧ Below w.heap.size w wr) (fun _ i _ => n - (intOf i).toNat)
  case atStart => exact ⟨0, some ⟨w.heap.size, 0, none⟩, 0, Nat.zero_le _, rfl, rfl, World.ownsRow_lit (size := 2) w #[] 0 (Nat.le_refl _) (by unfold maxLen; omega) rfl, below1 _ _⟩
  case round =>
    obtain ⟨k, A', c', hk, rfl, rfl, hown, hb⟩ := hrel
    have HO := Lib.hid hown
    clear hown
    by_cases hkn : k < n
    · obtain ⟨b, off, rfl, hbl, hcell⟩ := (HR.out.below hb).2.2.2.2 (by omega)
      obtain ⟨c0, c1⟩ := hcell k hkn
      clear hcell
      have HB := Lib.hid (HR.out.to hb)
      have hlen := memTo_length ds k
      have hgl := HG.out.1
      rw [HL.out] at hgl
      by_cases hlt : ix (valueIs (nth ds k).2) (memTo ds k) < 0
      · have HM := Lib.hid (memTo_yes hlt)
        have hf := first_yes (by rw [HL.out]; exact hkn) hlt
        clear hlt
        go_wp2_with (first | (go_at_call 68; refine (valueAt_any _ _ _ _ ds _ _ HB.out).mono ?_; rintro e w2 ⟨rfl, rfl⟩) | (at_builtin; refine wpList_append_own _ rfl _ _ 26 rfl w.heap.size 68 i0 (.agg #[.string ByteArray.empty, .int .i64 0]) 2 24 Try.underlying26 HI.out HZ0.out HZ1.out HZ2.out rfl (by decide) _ _ _ rfl (HO.out.alloc _) ⟨wr.heap.size, 0, none⟩ 1 1 [.string (nth ds k).1, .int .i64 (nth ds k).2] rfl rfl (news_def _ _ _) (by simp [Value.oneCell']) (by unfold maxLen; omega) (by omega) (by have := hb.size; simp; omega) ?_; intro v' w3 hown3 hgrow _))
        have b3 := (hb.alloc hb.size (.cells #[.string (nth ds k).1, .int .i64 (nth ds k).2] 68)).grown hgrow (by have := hb.size; simp; omega) (fun i hi => (HO.out.lt i hi).1)
        have ho3 := own_more hown3 (k := (memTo ds (k + 1)).length) (by rw [HM.out])
        rw [← HM.out] at ho3
        obtain ⟨A3, c3, rfl⟩ := own_slice ho3
        go_roundw
        case rel => exact ⟨k + 1, A3, c3, by omega, by go_num, rfl, ho3, b3⟩
        case measure => simp [intOf]; omega
      · have HM := Lib.hid (memTo_no hlt)
        obtain ⟨j, hj, hf⟩ := first_no (by rw [HL.out]; exact hkn) hlt
        clear hlt
        go_wp2_with (go_at_call 68; refine (valueAt_any _ _ _ _ ds _ _ HB.out).mono ?_; rintro e w2 ⟨rfl, rfl⟩)
        go_roundw
        case rel => exact ⟨k + 1, A', c', by omega, by go_num, by rw [HM.out], by rw [HM.out]; exact HO.out, hb⟩
        case measure => simp [intOf]; omega
    · have HK := Lib.hid (show (memTo ds k).length = (mem ds).length from by rw [show k = ds.length from by rw [HL.out]; omega]; rfl)
      have hk2 : k = ds.length := by rw [HL.out]; omega
      have ho : wr.ownsRow w.heap.size 68 2 (.slice A' (mem ds).length c') (mem ds).length (flat (mem ds)) := by unfold mem; rw [← hk2]; exact HO.out
      obtain ⟨A2, c2, he, hrd⟩ := own_rd ho (memTo_good HG.out (Nat.le_refl _))
      simp only [Value.slice.injEq] at he
      obtain ⟨rfl, _, rfl⟩ := he
      have HRD := Lib.hid hrd
      clear hrd ho hk2
      go_wp2_with fail
      go_ret
      exact ⟨A', c', ret_slice HK.out, HRD.out, hb⟩

end Go.Proofs.Ytpnicgagmopilaa
