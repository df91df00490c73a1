/-
  The walk of the law ValidName.
-/
import Derived.Test.YtpnicgagmopilaaWName2
namespace Go.Proofs.Ytpnicgagmopilaa
open Go.RowKit

set_option maxHeartbeats 400000 in
theorem drawValidName_any (A : Option Addr) (n c : Nat) (w : World) (hr : RdB w w.heap.size A n c) :
    Calls Try.prog 14 #[.slice A n c] w fun e w' => ∃ s, e = .returned (.string s) ∧ Short s ∧ Below w.heap.size w w' := by
  go_enter Try.func14, Try.ntmps14
  go_wp2_with fail
  refine (newReader_any A n c _ hr).mono ?_
  rintro e w1 ⟨g, rfl, hr1, hb⟩
  go_wp2_with fail
  refine (anyName_any w.heap.size g 0 _ (hr1.less (by omega))).mono ?_
  rintro e w2 ⟨s, rfl, hs, hr2, hg⟩
  go_wp2
  go_ret
  exact ⟨s, rfl, hs, hb.trans (grown_below hg hr1.1 hb.size)⟩

theorem vName_size {s : ByteArray} (h : vName s = true) : 1 ≤ (s.size : Int) ∧ (s.size : Int) ≤ 6 := by
  simp only [vName, inR, Bool.and_eq_true, decide_eq_true_eq] at h
  exact h.2
theorem vName_more {s : ByteArray} (h : 1 ≤ (s.size : Int)) : vName (s ++ ⟨#[97, 98, 99, 100, 101, 102]⟩) = false := by
  have e : (s ++ ⟨#[97, 98, 99, 100, 101, 102]⟩ : ByteArray).size = s.size + 6 := by rw [ByteArray.size_append]; rfl
  unfold vName
  rw [e, inR_hi (by omega)]
  simp
theorem vName_rest {s : ByteArray} (h : vName s = true) (h1 : ¬ (s.size : Int) = 1) : vName (s.extract 1 s.size) = true := by
  have h0 := vName_size h
  have hl : s.data.toList.all letter = true := by
    simp only [vName, Bool.and_eq_true] at h
    exact h.1
  have e : (s.extract 1 s.size).size = s.size - 1 := by rw [ByteArray.size_extract]; omega
  unfold vName
  rw [e, inR_yes (by omega) (by omega), Bool.and_true, List.all_eq_true]
  intro x hx
  rw [List.all_eq_true] at hl
  refine hl x ?_
  rw [ByteArray.data_extract, Array.toList_extract, List.extract_eq_take_drop] at hx
  exact List.mem_of_mem_drop (List.mem_of_mem_take hx)
set_option maxHeartbeats 1000000 in
theorem validName_walk (A : Option Addr) (n c : Nat) (w : World) (hr : RdB w w.heap.size A n c) :
    Calls Try.prog 3 #[.slice A n c] w fun e w' => e = .returned (.bool true) ∧ Below w.heap.size w w' := by
  by_cases hlen : (1048576 : Int) < n
  · go_enter Try.func3, Try.ntmps3
    go_wp2_with fail
    go_ret
    exact ⟨rfl, Below.refl _ _⟩
  go_enter Try.func3, Try.ntmps3
  go_wp2_with fail
  refine (drawValidName_any A n c _ hr).mono ?_
  rintro e w1 ⟨s, rfl, hs, hb⟩
  unfold Short at hs
  have hs1 : s.size ≤ 9223372036854775807 := by omega
  cases hv : vName s with
  | false =>
    go_wp2_with (first | (go_at_call 16; refine (sValidName_any _ _ hs1).mono ?_; rintro e w' ⟨rfl, rfl⟩; rw [hv]) | (go_at_call 15; refine (validName_any _ _ hs1).mono ?_; rintro e w' ⟨rfl, rfl⟩; rw [hv]))
    go_ret
    exact ⟨rfl, hb⟩
  | true =>
    obtain ⟨hv0, hv1⟩ := vName_size hv
    go_wp2_with fail
    refine (validName_any s _ hs1).mono ?_
    rintro e w' ⟨rfl, rfl⟩
    rw [hv]
    go_wp2_with fail
    refine (sValidName_any s _ hs1).mono ?_
    rintro e w' ⟨rfl, rfl⟩
    rw [hv]
    have hm := vName_more hv0
    have hm1 : (s ++ ⟨#[97, 98, 99, 100, 101, 102]⟩ : ByteArray).size ≤ 9223372036854775807 := by
      rw [ByteArray.size_append]
      show s.size + 6 ≤ _
      omega
    by_cases h1 : (s.size : Int) = 1
    · go_wp2_with fail
      refine (validName_any _ _ hm1).mono ?_
      rintro e w' ⟨rfl, rfl⟩
      rw [hm]
      go_wp2
      go_ret
      exact ⟨rfl, hb⟩
    · have hr2 := vName_rest hv h1
      have hr3 : (s.extract 1 s.size).size ≤ 9223372036854775807 := by rw [ByteArray.size_extract]; omega
      go_wp2_with fail
      refine (validName_any _ _ hr3).mono ?_
      rintro e w' ⟨rfl, rfl⟩
      rw [hr2]
      go_wp2_with fail
      refine (validName_any _ _ hm1).mono ?_
      rintro e w' ⟨rfl, rfl⟩
      rw [hm]
      go_wp2
      go_ret
      exact ⟨rfl, hb⟩
end Go.Proofs.Ytpnicgagmopilaa
