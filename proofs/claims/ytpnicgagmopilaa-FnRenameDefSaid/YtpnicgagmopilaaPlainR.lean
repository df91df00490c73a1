/-
  Ranks of members in plain Lean. No program is in sight.
-/
import Derived.Test.YtpnicgagmopilaaPlainE
namespace Go.Proofs.Ytpnicgagmopilaa

/-- All names are members. -/
def isUniq (ds : List D) : Bool := vEnum ds && decide ((mem ds).length = ds.length)
/-- The index of the member of a name, or -1. -/
def rankV (ds : List D) (s : ByteArray) : Int := if hasName ds s then ix (valueIs (valV ds s)) (mem ds) else -1
theorem rank_no {ds : List D} {s : ByteArray} (h : hasName ds s = false) : rankV ds s = -1 := by unfold rankV; rw [h]; rfl
theorem rank_yes {ds : List D} {s : ByteArray} (h : hasName ds s = true) : rankV ds s = ix (valueIs (valV ds s)) (mem ds) := by unfold rankV; rw [h]; rfl
theorem ix_mem {ds : List D} {k : Nat} (hk : k < ds.length) : ∃ r : Nat, r < (mem ds).length ∧ ix (valueIs (nth ds k).2) (mem ds) = r ∧ (nth (mem ds) r).2 = (nth ds k).2 := by
  rcases ix_cases (valueIs (nth ds k).2) (mem ds) with ⟨_, ht⟩ | ⟨r, hr, he, _, hp⟩
  · have := (memTo_values ds (nth ds k).2 ds.length).1 ht k hk
    simp [valueIs] at this
  · exact ⟨r, hr, he, by simpa [valueIs] using hp⟩
theorem rank_lt {ds : List D} {s : ByteArray} (h : hasName ds s = true) : ∃ r : Nat, r < (mem ds).length ∧ rankV ds s = r ∧ (nth (mem ds) r).2 = valV ds s := by
  rcases hasName_cases ds s with ⟨h1, _⟩ | ⟨k, _, hk, _, _, _, _, hv⟩
  · rw [h1] at h; cases h
  · obtain ⟨r, hr, he, hv'⟩ := ix_mem hk
    exact ⟨r, hr, by rw [rank_yes h, hv, he], by rw [hv, hv']⟩
/-- The member behind that of a name, no text if there is none. -/
def nextV (ds : List D) (s : ByteArray) : ByteArray := if hasName ds s then (nth (mem ds) (((rankV ds s).toNat + 1) % (mem ds).length)).1 else ⟨#[]⟩
end Go.Proofs.Ytpnicgagmopilaa
