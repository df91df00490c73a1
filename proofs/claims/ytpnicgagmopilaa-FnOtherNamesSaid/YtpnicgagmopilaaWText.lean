/-
  The walks of names that are listed: names, MembersOf.
-/
import Derived.Test.YtpnicgagmopilaaWMem
import Derived.Test.YtpnicgagmopilaaMemS
import Derived.Maps.AppendAt
namespace Go.Proofs.Ytpnicgagmopilaa
open Go.RowKit

theorem Try.infoText : (Try.prog.info? 9).map (fun i => (i.zero, i.size, i.bytes)) = some (some (.string ByteArray.empty), 1, 16) := by kernel_rfl
/-- The names of those of the first k definitions for which p holds. -/
def nmTo (p : D → Bool) (ds : List D) : Nat → List ByteArray
  | 0 => []
  | k + 1 => if p (nth ds k) then nmTo p ds k ++ [(nth ds k).1] else nmTo p ds k
theorem nmTo_yes {p : D → Bool} {ds : List D} {k : Nat} (h : p (nth ds k) = true) : nmTo p ds (k + 1) = nmTo p ds k ++ [(nth ds k).1] := by rw [nmTo, if_pos h]
theorem nmTo_no {p : D → Bool} {ds : List D} {k : Nat} (h : p (nth ds k) = false) : nmTo p ds (k + 1) = nmTo p ds k := by rw [nmTo, h]; rfl
theorem nmTo_length (p : D → Bool) (ds : List D) (k : Nat) : (nmTo p ds k).length ≤ k := by
  induction k with
  | zero => exact Nat.le_refl _
  | succ k ih =>
    unfold nmTo
    split
    · simp; omega
    · omega
theorem nmTo_in {p : D → Bool} {ds : List D} {k : Nat} {s : ByteArray} (h : s ∈ nmTo p ds k) : ∃ j, j < k ∧ s = (nth ds j).1 := by
  induction k with
  | zero => simp [nmTo] at h
  | succ k ih =>
    unfold nmTo at h
    split at h
    · rcases List.mem_append.1 h with h | h
      · obtain ⟨j, hj, e⟩ := ih h; exact ⟨j, by omega, e⟩
      · exact ⟨k, by omega, by simpa using h⟩
    · obtain ⟨j, hj, e⟩ := ih h; exact ⟨j, by omega, e⟩
theorem nmTo_good {p : D → Bool} {ds : List D} {k : Nat} (hg : Good ds) (hk : k ≤ ds.length) : GoodS (nmTo p ds k) := by
  refine ⟨by have := nmTo_length p ds k; have := hg.1; omega, fun s hs => ?_⟩
  obtain ⟨j, hj, rfl⟩ := nmTo_in hs
  exact (hg.nth (by omega)).1
/-- All definitions. -/
def anyD (_ : D) : Bool := true
/-- Texts have come out. -/
def TextsOut (ss : List ByteArray) (w : World) (e : Ending) (w' : World) : Prop :=
  ∃ A c, e = .returned (.slice A ss.length c) ∧ RdS w' w'.heap.size A ss.length c ss ∧ Below w.heap.size w w'
theorem ownS_slice {w : World} {base n : Nat} {t : TypeId} {v : Value} {xs : List Value} (h : w.ownsRow base t 1 v n xs) : ∃ A c, v = .slice A n c := by
  rcases h.2 with ⟨hv, h0⟩ | ⟨g, cap, _, hv, _⟩
  · exact ⟨none, 0, by rw [hv, h0]⟩
  · exact ⟨_, cap, hv⟩
theorem ownS_kept {w w' : World} {base n : Nat} {t : TypeId} {v : Value} {xs : List Value} (h : w.ownsRow base t 1 v n xs) (hb : Below w.heap.size w w') : w'.ownsRow base t 1 v n xs :=
  h.kept (row := none) ⟨hb.os, hb.tape, hb.output, hb.size, fun i hi _ => hb.block i hi⟩ (by cases hv : v.ownBlock <;> simp)

theorem RdS.clip {w : World} {B n c : Nat} {A : Option Addr} {ss : List ByteArray} (h : RdS w B A n c ss) : RdS w B A n n ss := ⟨h.1, Nat.le_refl _, Nat.le_trans h.2.1 h.2.2.1, h.2.2.2⟩
set_option maxHeartbeats 400000 in
theorem clipS_any (B : Nat) (A : Option Addr) (n c : Nat) (ss : List ByteArray) (w : World) (hr : RdS w B A n c ss) :
    Calls Try.prog 85 #[.slice A n c] w fun e w' => e = .returned (.slice A n n) ∧ w = w' := by
  have hn := hr.2.1
  have hc := hr.2.2.1
  clear hr
  go_enter Try.func85, Try.ntmps85
  go_wp2
  go_ret
  exact ⟨rfl, rfl⟩
theorem anyDef_any (d : D) (w : World) :
    Calls Try.prog 61 #[.agg #[.string d.1, .int .i64 d.2]] w fun e w' => e = .returned (.bool (anyD d)) ∧ Below w.heap.size w w' := by
  go_enter Try.func61, Try.ntmps61
  go_wp2
  go_ret
  exact ⟨rfl, below1 _ _⟩
/-- The other names of a value: not the member. -/
def othP (x : Int) (m : ByteArray) (d : D) : Bool := d.2 == x && !eqS d.1 m
set_option maxHeartbeats 400000 in
theorem othP_any (x : Int) (m : ByteArray) (p1 p2 : Nat) (d : D) (w : World) (h1 : w.cell? ⟨p1, 0, none⟩ = some (.int .i64 x)) (h2 : w.cell? ⟨p2, 0, none⟩ = some (.string m)) (hl1 : p1 < w.heap.size) (hl2 : p2 < w.heap.size) :
    Calls Try.prog 70 #[.agg #[.string d.1, .int .i64 d.2], .pointer (some ⟨p1, 0, none⟩), .pointer (some ⟨p2, 0, none⟩)] w fun e w' => e = .returned (.bool (othP x m d)) ∧ Below w.heap.size w w' := by
  cases hq : d.2 == x with
  | false =>
    have HS := Lib.hid (show othP x m d = false from by simp [othP, hq])
    go_enter Try.func70, Try.ntmps70
    go_wp2
    go_ret
    exact ⟨ret_bool HS.out.symm, below1 _ _⟩
  | true =>
    have HS := Lib.hid (show othP x m d = !eqS d.1 m from by simp [othP, hq])
    go_enter Try.func70, Try.ntmps70
    go_wp2
    go_ret
    exact ⟨ret_bool HS.out.symm, below1 _ _⟩
set_option maxHeartbeats 1000000 in
theorem namesAny_any (A : Option Addr) (n c : Nat) (ds : List D) (w : World) (hr : Rd w w.heap.size A n c ds) :
    Calls Try.prog 59 #[.slice A n c, .func (.func 61) #[] #[]] w (TextsOut (nmTo anyD ds n) w) := by
  have HG := Lib.hid hr.2.2.2.1
  have HL := Lib.hid hr.1
  have HR := Lib.hid hr
  have hn := hr.2.1
  have hc := hr.2.2.1
  have hn1 : n ≤ 5864062014805 := by have := hr.2.2.2.1.1; rw [hr.1] at this; exact this
  clear hr
  have K0 := trivial
  obtain ⟨i0, hi, hz0, hz1, hz2⟩ := info_parts Try.infoText
  have HI := Lib.hid hi
  have HZ0 := Lib.hid hz0
  have HZ1 := Lib.hid hz1
  have HZ2 := Lib.hid hz2
  clear hi hz0 hz1 hz2
  go_enter Try.func59, Try.ntmps59
  go_wp2
  go_loopw [5, 10] (fun v i wr => ∃ (k : Nat) (A' : Option Addr) (c' : Nat), k ≤ n ∧ i = .int .i64 (k : Nat) ∧ v = .slice A' (nmTo anyD ds k).length c' ∧ Hid (wr.ownsRow w.heap.size 9 1 (.slice A' (nmTo anyD ds k).length c') (nmTo anyD ds k).length (flatS (nmTo anyD ds k))) ∧ Below w.heap.size w wr) (fun _ i _ => n - (intOf i).toNat)
  case atStart => exact ⟨0, none, 0, Nat.zero_le _, rfl, rfl, World.ownsRow_nil _ _ _ _, Below.refl _ _⟩
  case round =>
    obtain ⟨k, A', c', hk, rfl, rfl, ho, hb⟩ := hrel
    by_cases hkn : k < n
    · obtain ⟨b, off, rfl, hbl, hcell⟩ := (HR.out.below hb).2.2.2.2 (by omega)
      obtain ⟨c0, c1⟩ := hcell k hkn
      clear hcell
      have q := blk1 wr #[.string (nth ds k).1, .int .i64 (nth ds k).2] 68
      have hb1 := hb.alloc hb.size (.cells #[.string (nth ds k).1, .int .i64 (nth ds k).2] 68)
      have ho1 := Lib.hid (ho.out.alloc (.cells #[.string (nth ds k).1, .int .i64 (nth ds k).2] 68))
      go_wp2_with fail
      refine (anyDef_any (nth ds k) _).mono ?_
      rintro e w2 ⟨rfl, hb2⟩
      have q2 := q.below hb2 q.lt
      have d0 := q2.cell 0
      have hs2 := q2.lt
      have hbb := Below.on hb1 hb2 hb1.size
      have ho2 := Lib.hid (ownS_kept ho1.out hb2)
      have hlen := nmTo_length anyD ds k
      clear hb2
      cases hp : anyD (nth ds k) with
      | true =>
        have HM := Lib.hid (nmTo_yes hp)
        go_wp2_with (at_builtin; refine wpList_append_own _ rfl _ _ 31 rfl w.heap.size 9 i0 (.string ByteArray.empty) 1 16 Try.underlying31 HI.out HZ0.out HZ1.out HZ2.out rfl (by decide) _ _ _ rfl (ho2.out.alloc _) ⟨w2.heap.size, 0, none⟩ 1 1 [.string (nth ds k).1] rfl rfl (cell_one_new _ _ _) (by simp [Value.oneCell']) (by unfold maxLen; omega) (by omega) (by have := hbb.size; simp; omega) ?_; intro v' w3 hown3 hgrow _)
        have b3 := (hbb.alloc hbb.size (.cells #[.string (nth ds k).1] 9)).grown hgrow (by have := hbb.size; simp; omega) (fun i hi => (ho2.out.lt i hi).1)
        have ho3 : w3.ownsRow w.heap.size 9 1 v' (nmTo anyD ds (k + 1)).length (flatS (nmTo anyD ds (k + 1))) := by
          rw [HM.out, flatS_snoc, List.length_append]
          exact hown3
        obtain ⟨A3, c3, rfl⟩ := ownS_slice ho3
        go_roundw
        case rel => exact ⟨k + 1, A3, c3, by omega, by go_num, rfl, ho3, b3⟩
        case measure => simp [intOf]; omega
      | false =>
        have HM := Lib.hid (nmTo_no hp)
        go_wp2_with fail
        go_roundw
        case rel => exact ⟨k + 1, A', c', by omega, by go_num, by rw [HM.out], by rw [HM.out]; exact ho2.out, hbb⟩
        case measure => simp [intOf]; omega
    · obtain rfl : k = n := by omega
      obtain ⟨A2, c2, he, S⟩ := own_rdS ho.out (nmTo_good HG.out (by rw [HL.out]; exact hk))
      simp only [Value.slice.injEq] at he
      obtain ⟨rfl, _, rfl⟩ := he
      have HS := Lib.hid S
      clear S
      go_wp2_with fail
      refine (clipS_any _ _ _ _ _ _ HS.out).mono ?_
      rintro e w2 ⟨rfl, rfl⟩
      go_wp2
      go_ret
      exact ⟨A', _, rfl, HS.out.clip, hb⟩

set_option maxHeartbeats 1000000 in
theorem namesOth_any (A : Option Addr) (n c : Nat) (ds : List D)(x : Int) (m : ByteArray) (p1 p2 : Nat) (w : World) (hr : Rd w w.heap.size A n c ds)(h1 : w.cell? ⟨p1, 0, none⟩ = some (.int .i64 x)) (h2 : w.cell? ⟨p2, 0, none⟩ = some (.string m)) (hl1 : p1 < w.heap.size) (hl2 : p2 < w.heap.size) :
    Calls Try.prog 59 #[.slice A n c, .func (.func 70) #[] #[.pointer (some ⟨p1, 0, none⟩), .pointer (some ⟨p2, 0, none⟩)]] w (TextsOut (nmTo (othP x m) ds n) w) := by
  have HG := Lib.hid hr.2.2.2.1
  have HL := Lib.hid hr.1
  have HR := Lib.hid hr
  have hn := hr.2.1
  have hc := hr.2.2.1
  have hn1 : n ≤ 5864062014805 := by have := hr.2.2.2.1.1; rw [hr.1] at this; exact this
  clear hr
  obtain ⟨K1, K2⟩ : Hid _ ∧ Hid _ := ⟨Lib.hid h1, Lib.hid h2⟩
  obtain ⟨i0, hi, hz0, hz1, hz2⟩ := info_parts Try.infoText
  have HI := Lib.hid hi
  have HZ0 := Lib.hid hz0
  have HZ1 := Lib.hid hz1
  have HZ2 := Lib.hid hz2
  clear hi hz0 hz1 hz2
  go_enter Try.func59, Try.ntmps59
  go_wp2
  go_loopw [5, 10] (fun v i wr => ∃ (k : Nat) (A' : Option Addr) (c' : Nat), k ≤ n ∧ i = .int .i64 (k : Nat) ∧ v = .slice A' (nmTo (othP x m) ds k).length c' ∧ Hid (wr.ownsRow w.heap.size 9 1 (.slice A' (nmTo (othP x m) ds k).length c') (nmTo (othP x m) ds k).length (flatS (nmTo (othP x m) ds k))) ∧ Below w.heap.size w wr) (fun _ i _ => n - (intOf i).toNat)
  case atStart => exact ⟨0, none, 0, Nat.zero_le _, rfl, rfl, World.ownsRow_nil _ _ _ _, Below.refl _ _⟩
  case round =>
    obtain ⟨k, A', c', hk, rfl, rfl, ho, hb⟩ := hrel
    by_cases hkn : k < n
    · obtain ⟨b, off, rfl, hbl, hcell⟩ := (HR.out.below hb).2.2.2.2 (by omega)
      obtain ⟨c0, c1⟩ := hcell k hkn
      clear hcell
      have q := blk1 wr #[.string (nth ds k).1, .int .i64 (nth ds k).2] 68
      have hb1 := hb.alloc hb.size (.cells #[.string (nth ds k).1, .int .i64 (nth ds k).2] 68)
      have ho1 := Lib.hid (ho.out.alloc (.cells #[.string (nth ds k).1, .int .i64 (nth ds k).2] 68))
      go_wp2_with fail
      refine (othP_any x m p1 p2 (nth ds k) _ ((hb1.cell (p := ⟨p1, 0, none⟩) hl1).trans K1.out) ((hb1.cell (p := ⟨p2, 0, none⟩) hl2).trans K2.out) (Nat.lt_of_lt_of_le hl1 hb1.size) (Nat.lt_of_lt_of_le hl2 hb1.size)).mono ?_
      rintro e w2 ⟨rfl, hb2⟩
      have q2 := q.below hb2 q.lt
      have d0 := q2.cell 0
      have hs2 := q2.lt
      have hbb := Below.on hb1 hb2 hb1.size
      have ho2 := Lib.hid (ownS_kept ho1.out hb2)
      have hlen := nmTo_length (othP x m) ds k
      clear hb2
      cases hp : (othP x m) (nth ds k) with
      | true =>
        have HM := Lib.hid (nmTo_yes hp)
        go_wp2_with (at_builtin; refine wpList_append_own _ rfl _ _ 31 rfl w.heap.size 9 i0 (.string ByteArray.empty) 1 16 Try.underlying31 HI.out HZ0.out HZ1.out HZ2.out rfl (by decide) _ _ _ rfl (ho2.out.alloc _) ⟨w2.heap.size, 0, none⟩ 1 1 [.string (nth ds k).1] rfl rfl (cell_one_new _ _ _) (by simp [Value.oneCell']) (by unfold maxLen; omega) (by omega) (by have := hbb.size; simp; omega) ?_; intro v' w3 hown3 hgrow _)
        have b3 := (hbb.alloc hbb.size (.cells #[.string (nth ds k).1] 9)).grown hgrow (by have := hbb.size; simp; omega) (fun i hi => (ho2.out.lt i hi).1)
        have ho3 : w3.ownsRow w.heap.size 9 1 v' (nmTo (othP x m) ds (k + 1)).length (flatS (nmTo (othP x m) ds (k + 1))) := by
          rw [HM.out, flatS_snoc, List.length_append]
          exact hown3
        obtain ⟨A3, c3, rfl⟩ := ownS_slice ho3
        go_roundw
        case rel => exact ⟨k + 1, A3, c3, by omega, by go_num, rfl, ho3, b3⟩
        case measure => simp [intOf]; omega
      | false =>
        have HM := Lib.hid (nmTo_no hp)
        go_wp2_with fail
        go_roundw
        case rel => exact ⟨k + 1, A', c', by omega, by go_num, by rw [HM.out], by rw [HM.out]; exact ho2.out, hbb⟩
        case measure => simp [intOf]; omega
    · obtain rfl : k = n := by omega
      obtain ⟨A2, c2, he, S⟩ := own_rdS ho.out (nmTo_good HG.out (by rw [HL.out]; exact hk))
      simp only [Value.slice.injEq] at he
      obtain ⟨rfl, _, rfl⟩ := he
      have HS := Lib.hid S
      clear S
      go_wp2_with fail
      refine (clipS_any _ _ _ _ _ _ HS.out).mono ?_
      rintro e w2 ⟨rfl, rfl⟩
      go_wp2
      go_ret
      exact ⟨A', _, rfl, HS.out.clip, hb⟩

/-- The names of the members of a valid enumeration. -/
def membersV (ds : List D) : List ByteArray := if vEnum ds then nmTo anyD (mem ds) (mem ds).length else []
theorem membersV_no {ds : List D} (h : vEnum ds = false) : membersV ds = [] := by unfold membersV; rw [h]; rfl
theorem membersV_yes {ds : List D} (h : vEnum ds = true) : membersV ds = nmTo anyD (mem ds) (mem ds).length := by unfold membersV; rw [h]; rfl
theorem RdS.nil (w : World) (B : Nat) : RdS w B none 0 0 [] := ⟨rfl, Nat.le_refl _, by omega, ⟨by simp, by simp⟩, fun h => absurd h (by omega)⟩
set_option maxHeartbeats 1000000 in
theorem membersOf_any (A : Option Addr) (n c : Nat) (ds : List D) (w : World) (hr : Rd w w.heap.size A n c ds) :
    Calls Try.prog 20 #[.agg #[.slice A n c]] w (TextsOut (membersV ds) w) := by
  have q := blk1 w #[.slice A n c] 28
  have b := below1 w (.cells #[.slice A n c] 28)
  have R := hr.to b
  have c0 := q.cell 0
  clear hr
  go_enter Try.func20, Try.ntmps20
  go_wp2_with fail
  refine (validEnum_any _ _ _ ds _ R).mono ?_
  rintro e w1 ⟨rfl, hb⟩
  replace b := Below.on b hb b.size
  replace q := q.below hb q.lt
  replace R := R.to hb
  replace c0 := q.cell 0
  clear hb
  cases hv : vDefs ds (-1000) 1000 with
  | false =>
    have HF := Lib.hid (membersV_no (ds := ds) hv)
    go_wp2
    go_ret
    rw [HF.out]
    exact ⟨none, 0, rfl, RdS.nil _ _, b⟩
  | true =>
    have HF := Lib.hid (membersV_yes (ds := ds) hv)
    go_wp2_with fail
    refine (members_any _ _ _ ds _ R).mono ?_
    rintro e w2 ⟨A2, c2, rfl, R2, hb⟩
    replace b := Below.on b hb b.size
    clear hb
    go_wp2_with fail
    refine (namesAny_any _ _ _ (mem ds) _ R2).mono ?_
    rintro e w3 ⟨A3, c3, rfl, S3, hb⟩
    replace b := Below.on b hb b.size
    have HH := Lib.hid (And.intro S3 b)
    clear hb S3 b
    go_wp2
    go_ret
    rw [HF.out]
    exact ⟨A3, c3, rfl, HH.out.1, HH.out.2⟩
end Go.Proofs.Ytpnicgagmopilaa
