/-
  Members by name: what the laws of members ask; and the walk of hasText.
-/
import Derived.Test.YtpnicgagmopilaaWText
import Derived.Test.YtpnicgagmopilaaPlainN
namespace Go.Proofs.Ytpnicgagmopilaa
open Go.RowKit

theorem nmAny_length (ds : List D) (k : Nat) : (nmTo anyD ds k).length = k := by
  induction k with
  | zero => rfl
  | succ k ih => rw [nmTo_yes (show anyD (nth ds k) = true from rfl), List.length_append, ih]; rfl
theorem nmAny_nth (ds : List D) {k i : Nat} (h : i < k) : nthS (nmTo anyD ds k) i = (nth ds i).1 := by
  induction k with
  | zero => omega
  | succ k ih =>
    rw [nmTo_yes (show anyD (nth ds k) = true from rfl)]
    rcases Nat.lt_or_ge i k with h1 | h1
    · rw [nthS_snoc_lt (by rw [nmAny_length]; exact h1), ih h1]
    · obtain rfl : i = k := by omega
      have e := nthS_snoc_eq (ss := nmTo anyD ds i) (s := (nth ds i).1)
      rw [nmAny_length] at e
      exact e
theorem membersV_length {ds : List D} (h : vEnum ds = true) : (membersV ds).length = (mem ds).length := by rw [membersV_yes h, nmAny_length]
theorem membersV_nth {ds : List D} (h : vEnum ds = true) {i : Nat} (hi : i < (mem ds).length) : nthS (membersV ds) i = (nth (mem ds) i).1 := by rw [membersV_yes h, nmAny_nth _ hi]
/-- A member is the first definition with its value. -/
theorem memTo_first (ds : List D) (k : Nat) (hk : k ≤ ds.length) : ∀ i, i < (memTo ds k).length → ∃ j, j < ds.length ∧ nth (memTo ds k) i = nth ds j ∧ ix (valueIs (nth ds j).2) ds = j := by
  induction k with
  | zero => intro i hi; simp [memTo] at hi
  | succ k ih =>
    intro i hi
    by_cases h : ix (valueIs (nth ds k).2) (memTo ds k) < 0
    · rw [memTo_yes h] at hi ⊢
      rw [List.length_append] at hi
      rcases Nat.lt_or_ge i (memTo ds k).length with h1 | h1
      · rw [nth_snoc_lt h1]
        exact ih (by omega) i h1
      · obtain rfl : i = (memTo ds k).length := by simp at hi; omega
        exact ⟨k, by omega, nth_snoc_eq, first_yes (by omega) h⟩
    · rw [memTo_no h] at hi ⊢
      exact ih (by omega) i hi
theorem mem_first {ds : List D} {i : Nat} (hi : i < (mem ds).length) : ∃ j, j < ds.length ∧ nth (mem ds) i = nth ds j ∧ ix (valueIs (nth ds j).2) ds = j := memTo_first ds ds.length (Nat.le_refl _) i hi
/-- A member's name has a value, and it is the name of the member with this value. -/
theorem member_name {ds : List D} (h : vEnum ds = true) {i : Nat} (hi : i < (mem ds).length) :
    hasName ds (nth (mem ds) i).1 = true ∧ valV ds (nth (mem ds) i).1 = (nth (mem ds) i).2 ∧ hasVal ds (nth (mem ds) i).2 = true ∧ nameV ds (nth (mem ds) i).2 = (nth (mem ds) i).1 := by
  obtain ⟨j, hj, e, hx⟩ := mem_first hi
  rw [e]
  have h1 := name_at h hj
  have h2 := hasVal_yes h hx
  exact ⟨h1.1, h1.2, h2.1, h2.2⟩
/-- The member with a value that there is, is among the members. -/
theorem member_is {ds : List D} {v : Int} (h : hasVal ds v = true) : ∃ i, i < (mem ds).length ∧ (nth (mem ds) i).1 = nameV ds v := by
  rcases hasVal_cases ds v with ⟨h1, _⟩ | ⟨k, hv, hk, hx, _, hp, _, hn⟩
  · rw [h1] at h; cases h
  · obtain ⟨r, hr, _, e⟩ := ix_mem hk
    have hp' : (nth ds k).2 = v := by simpa [valueIs] using hp
    have hm := member_name hv hr
    rw [e, hp'] at hm
    exact ⟨r, hr, hm.2.2.2.symm⟩
theorem vDefs_take {ds : List D} {lo hi : Int} (h : vDefs ds lo hi = true) (k : Nat) : vDefs (ds.take k) lo hi = true := by
  have hl : ds.length ≤ 12 := by
    simp only [vDefs, Bool.and_eq_true, decide_eq_true_eq] at h
    exact h.2
  have hk : (ds.take k).length ≤ ds.length := by rw [List.length_take]; omega
  simp only [vDefs, okTo, Bool.and_eq_true, List.all_eq_true, List.mem_range, decide_eq_true_eq]
  refine ⟨fun i hi' => ?_, by omega⟩
  have hik : i < k := by rw [List.length_take] at hi'; omega
  have := vDefs_ok h (i := i) (by omega)
  unfold okAt at this ⊢
  rw [nth_take hik, List.take_take, Nat.min_eq_left (by omega)]
  exact this

set_option maxHeartbeats 1000000 in
theorem hasText_yes (B : Nat) (A : Option Addr) (n c : Nat) (ss : List ByteArray) (s : ByteArray) (j : Nat) (hj : j < n) (he : nthS ss j = s) (w : World) (hr : RdS w B A n c ss) :
    Calls Try.prog 27 #[.slice A n c, .string s] w fun e w' => e = .returned (.bool true) ∧ w = w' := by
  obtain ⟨hl, hn, hc, hg, ha⟩ := hr
  obtain ⟨b, off, rfl, hbl, hcell⟩ := ha (by omega)
  have HA := Lib.hid hcell
  have HE := Lib.hid he
  clear hcell he hg hl ha
  go_enter Try.func27, Try.ntmps27
  go_wp2
  go_loop [5] (fun i => ∃ k : Nat, k ≤ j ∧ i = .int .i64 k) (fun i => n - (intOf i).toNat)
  case atStart => exact ⟨0, Nat.zero_le _, rfl⟩
  case round =>
    obtain ⟨k, hk, rfl⟩ := hrel
    have hkn : k < n := by omega
    have c0 := HA.out k hkn
    cases hq : (nthS ss k).toList == s.toList with
    | true =>
      go_wp2
      go_ret
      exact ⟨rfl, rfl⟩
    | false =>
      have hne : k ≠ j := by
        intro e
        rw [e, HE.out] at hq
        simp at hq
      go_wp2
      go_round
      case rel => exact ⟨k + 1, by omega, by go_num⟩
      case measure => simp [intOf]; omega
end Go.Proofs.Ytpnicgagmopilaa
