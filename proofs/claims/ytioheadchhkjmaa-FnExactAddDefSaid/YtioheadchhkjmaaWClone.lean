/-
  The walks of copies of definitions: clone, copyDefs.
-/
import Derived.Test.YtioheadchhkjmaaMemC
import Derived.Test.YtioheadchhkjmaaWSDefs
import Derived.Maps.AppendAt
namespace Go.Proofs.Ytioheadchhkjmaa
open Go.RowKit

theorem Try.infoDef4 : (Try.prog.info? 46).map (fun i => (i.zero, i.size, i.bytes)) = some (some (.agg #[.string ByteArray.empty, .int .i64 0]), 2, 24) := by kernel_rfl
theorem ones_flat (ds : List D) : ∀ u ∈ flat ds, u.oneCell' = true := by
  intro u hu
  unfold flat at hu
  obtain ⟨d, _, hd⟩ := List.mem_flatMap.1 hu
  simp at hd
  rcases hd with rfl | rfl <;> rfl
/-- A copy has come out. -/
def Copied (ds : List D) (w : World) (e : Ending) (w' : World) : Prop :=
  ∃ v, e = .returned v ∧ OwnC w' w.heap.size 46 v ds ∧ Below w.heap.size w w'
theorem own_empty (w : World) (t : TypeId) : Own (w.alloc (.cells #[] t)) w.heap.size t (.slice (some ⟨w.heap.size, 0, none⟩) 0 0) [] := World.ownsRow_lit (size := 2) w #[] 0 (Nat.le_refl _) (by unfold maxLen; omega) rfl
theorem own_nilC (w : World) (B : Nat) (t : TypeId) : OwnC w B t (.slice none 0 0) [] := .inl ⟨rfl, rfl⟩

set_option maxHeartbeats 1000000 in
theorem copyDefs_any (A : Option Addr) (n c : Nat) (ds : List D) (w : World) (hr : Rd w w.heap.size A n c ds) (hA : A = none → c = 0) :
    Calls Try.prog 39 #[.slice A n c] w (Copied ds w) := by
  have HG := Lib.hid hr.2.2.2.1
  have HL := Lib.hid hr.1
  have hgl := hr.2.2.2.1.1
  rw [hr.1] at hgl
  obtain ⟨i0, hi, hz0, hz1, hz2⟩ := info_parts Try.infoDef4
  have HI := Lib.hid hi
  have HZ0 := Lib.hid hz0
  have HZ1 := Lib.hid hz1
  have HZ2 := Lib.hid hz2
  clear hi hz0 hz1 hz2
  have o0 : (w.alloc (.cells #[] 46)).ownsRow w.heap.size 46 2 (.slice (some ⟨w.heap.size, 0, none⟩) 0 0) 0 [] := own_empty w 46
  have b0 := below1 w (.cells #[] 46)
  by_cases hn : 0 < n
  · obtain ⟨b, off, rfl, hbl, hcell⟩ := (hr.below b0).2.2.2.2 hn
    have HC := Lib.hid (rd_news hr.1 hcell)
    clear hcell hr hA
    go_enter Try.func39, Try.ntmps39
    go_wp2_with (at_builtin; refine wpList_append_own _ rfl _ _ 40 rfl w.heap.size 46 i0 (.agg #[.string ByteArray.empty, .int .i64 0]) 2 24 Try.underlying40 HI.out HZ0.out HZ1.out HZ2.out rfl (by decide) _ _ _ rfl o0 ⟨b, off, none⟩ n c (flat ds) rfl (by rw [flat_length, HL.out]) HC.out (ones_flat ds) (by unfold maxLen; omega) (by omega) (by simp) ?_; intro v' w3 hown3 hgrow _)
    have ho3 : Own w3 w.heap.size 46 v' ds := by
      unfold Own
      rw [HL.out]
      simpa using hown3
    have b3 := b0.grown hgrow (by simp) (fun i hi => (World.ownsRow.lt o0 i hi).1)
    go_wp2
    go_ret
    exact ⟨v', rfl, ho3.toC, b3⟩
  · obtain rfl : n = 0 := by omega
    obtain rfl : ds = [] := List.eq_nil_of_length_eq_zero HL.out
    cases A with
    | none =>
      obtain rfl := hA rfl
      clear hr hA
      go_enter Try.func39, Try.ntmps39
      go_wp2_with (at_builtin; refine wpList_append_own_none rfl _ _ 40 rfl w.heap.size 46 i0 2 Try.underlying40 HI.out _ _ _ rfl o0 rfl ?_)
      go_wp2
      go_ret
      exact ⟨_, rfl, (own_empty w 46).toC, b0⟩
    | some a =>
      clear hr hA
      go_enter Try.func39, Try.ntmps39
      go_wp2_with (at_builtin; refine wpList_append_own _ rfl _ _ 40 rfl w.heap.size 46 i0 (.agg #[.string ByteArray.empty, .int .i64 0]) 2 24 Try.underlying40 HI.out HZ0.out HZ1.out HZ2.out rfl (by decide) _ _ _ rfl o0 a 0 c [] rfl rfl (by intro j u hu; simp at hu) (by simp) (by unfold maxLen; omega) (by omega) (by simp) ?_; intro v' w3 hown3 hgrow _)
      have ho3 : Own w3 w.heap.size 46 v' [] := hown3
      have b3 := b0.grown hgrow (by simp) (fun i hi => (World.ownsRow.lt o0 i hi).1)
      go_wp2
      go_ret
      exact ⟨v', rfl, ho3.toC, b3⟩
theorem OwnC.clip {w : World} {B n c : Nat} {t : TypeId} {A : Option Addr} {ds : List D} (h : OwnC w B t (.slice A n c) ds) : OwnC w B t (.slice A n n) ds := by
  rcases h with ⟨hv, hd⟩ | ⟨g, c', cur, hv, hb, hg, hn, hc, hs, ht⟩
  · simp only [Value.slice.injEq] at hv
    obtain ⟨rfl, rfl, _⟩ := hv
    exact .inl ⟨rfl, hd⟩
  · simp only [Value.slice.injEq] at hv
    obtain ⟨rfl, rfl, rfl⟩ := hv
    exact .inr ⟨g, ds.length, cur, rfl, hb, hg, Nat.le_refl _, Nat.le_trans hn hc, hs, ht⟩
set_option maxHeartbeats 1000000 in
theorem sliceClone_any (A : Option Addr) (n c : Nat) (ds : List D) (w : World) (hr : Rd w w.heap.size A n c ds) (hA : A = none → c = 0) :
    Calls Try.prog 56 #[.slice A n c] w (Copied ds w) := by
  have HG := Lib.hid hr.2.2.2.1
  have HL := Lib.hid hr.1
  have hgl := hr.2.2.2.1.1
  rw [hr.1] at hgl
  obtain ⟨i0, hi, hz0, hz1, hz2⟩ := info_parts Try.infoDef4
  have HI := Lib.hid hi
  have HZ0 := Lib.hid hz0
  have HZ1 := Lib.hid hz1
  have HZ2 := Lib.hid hz2
  clear hi hz0 hz1 hz2
  have o0 : (w.alloc (.cells #[] 46)).ownsRow w.heap.size 46 2 (.slice (some ⟨w.heap.size, 0, none⟩) 0 0) 0 [] := own_empty w 46
  have b0 := below1 w (.cells #[] 46)
  cases A with
  | none =>
    obtain rfl := hA rfl
    have hn := hr.2.1
    obtain rfl : n = 0 := by omega
    obtain rfl : ds = [] := List.eq_nil_of_length_eq_zero HL.out
    have hnil := fun W => Lib.run_eql_slice_nil (P := Try.prog) W 40 46 none 0 0 0 0 Try.underlying40
    clear hr hA o0 b0
    go_enter Try.func56, Try.ntmps56
    go_wp2
    go_ret
    exact ⟨_, rfl, own_nilC _ _ _, Below.refl _ _⟩
  | some a =>
    have hcc : 0 ≤ n := Nat.zero_le _
    have HN : ∀ (j : Nat) (u : Value), (flat ds)[j]? = some u → (w.alloc (.cells #[] 46)).cell? (a.add j) = some u := by
      intro j u hu
      have hj := (List.getElem?_eq_some_iff.1 hu).1
      rw [flat_length, HL.out] at hj
      obtain ⟨b, off, he, _, hcell⟩ := (hr.below b0).2.2.2.2 (by omega)
      simp only [Option.some.injEq] at he
      rw [he]
      exact rd_news hr.1 hcell j u hu
    have HC := Lib.hid HN
    have hnil := fun W => Lib.run_eql_slice_nil (P := Try.prog) W 40 46 (some a) n c 0 0 Try.underlying40
    clear hr hA HN
    go_enter Try.func56, Try.ntmps56
    go_wp2_with (at_builtin; refine wpList_append_own _ rfl _ _ 40 rfl w.heap.size 46 i0 (.agg #[.string ByteArray.empty, .int .i64 0]) 2 24 Try.underlying40 HI.out HZ0.out HZ1.out HZ2.out rfl (by decide) _ _ _ rfl o0 a n c (flat ds) rfl (by rw [flat_length, HL.out]) HC.out (ones_flat ds) (by unfold maxLen; omega) (by omega) (by simp) ?_; intro v' w3 hown3 hgrow _)
    have ho3 : Own w3 w.heap.size 46 v' ds := by
      unfold Own
      rw [HL.out]
      simpa using hown3
    have b3 := b0.grown hgrow (by simp) (fun i hi => (World.ownsRow.lt o0 i hi).1)
    go_wp2
    go_ret
    exact ⟨v', rfl, ho3.toC, b3⟩
set_option maxHeartbeats 400000 in
theorem clipD_any (A : Option Addr) (n c : Nat) (w : World) (hn : n ≤ c) (_hc : c ≤ 9223372036854775807) :
    Calls Try.prog 55 #[.slice A n c] w fun e w' => e = .returned (.slice A n n) ∧ w = w' := by
  go_enter Try.func55, Try.ntmps55
  go_wp2
  go_ret
  exact ⟨rfl, rfl⟩
set_option maxHeartbeats 400000 in
theorem clone_any (A : Option Addr) (n c : Nat) (ds : List D) (w : World) (hr : Rd w w.heap.size A n c ds) (hA : A = none → c = 0) :
    Calls Try.prog 42 #[.slice A n c] w fun e w' => ∃ A', e = .returned (.slice A' n n) ∧ OwnC w' w.heap.size 46 (.slice A' n n) ds ∧ Below w.heap.size w w' := by
  have HL := Lib.hid hr.1
  have HR := Lib.hid hr
  clear hr
  go_enter Try.func42, Try.ntmps42
  go_wp2_with fail
  refine (sliceClone_any A n c ds _ HR.out hA).mono ?_
  rintro e w1 ⟨v, rfl, ho, hb⟩
  obtain ⟨A1, c1, rfl, hn1, hc1, _⟩ := ho.cap
  go_wp2_with fail
  refine (clipD_any _ _ _ _ hn1 hc1).mono ?_
  rintro e w' ⟨rfl, rfl⟩
  have HO := Lib.hid (And.intro ho.clip hb)
  clear ho hb
  rw [HL.out] at HO
  rw [HL.out]
  go_wp2
  go_ret
  exact ⟨A1, rfl, HO.out⟩
end Go.Proofs.Ytioheadchhkjmaa
