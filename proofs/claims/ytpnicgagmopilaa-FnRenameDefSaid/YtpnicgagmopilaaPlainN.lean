/-
  Names of enumerations in plain Lean: each name is its own, and leads to its value; members have their values. No program is in sight.
-/
import Derived.Test.YtpnicgagmopilaaPlainE
import Derived.Test.YtpnicgagmopilaaPlainB
import Derived.Test.YtpnicgagmopilaaPlainR
namespace Go.Proofs.Ytpnicgagmopilaa

theorem eqS_self (a : ByteArray) : eqS a a = true := by simp [eqS]
theorem vDefs_ok {ds : List D} {lo hi : Int} (h : vDefs ds lo hi = true) {i : Nat} (hi' : i < ds.length) : okAt ds lo hi i = true := by
  simp only [vDefs, okTo, Bool.and_eq_true, List.all_eq_true, List.mem_range] at h
  exact h.1 i hi'
/-- No name ahead of a definition is its name. -/
theorem none_before {ds : List D} {lo hi : Int} (h : vDefs ds lo hi = true) {i : Nat} (hi' : i < ds.length) : noneTo (nameIs (nth ds i).1) ds i := by
  have h1 := vDefs_ok h hi'
  simp only [okAt, Bool.and_eq_true, decide_eq_true_eq] at h1
  have h2 := ix_neg.1 h1.2
  intro j hj
  have := h2 j (by rw [List.length_take]; omega)
  rwa [nth_take hj] at this
theorem ix_name {ds : List D} {lo hi : Int} (h : vDefs ds lo hi = true) {i : Nat} (hi' : i < ds.length) : ix (nameIs (nth ds i).1) ds = i :=
  ix_yes hi' (none_before h hi') (eqS_self _)
/-- A name of a valid enumeration has its definition's value. -/
theorem name_at {ds : List D} (h : vEnum ds = true) {i : Nat} (hi' : i < ds.length) : hasName ds (nth ds i).1 = true ∧ valV ds (nth ds i).1 = (nth ds i).2 :=
  hasName_yes h (ix_name h hi')
/-- The member with a value that there is: its name leads back to the value. -/
theorem member_of {ds : List D} {v : Int} (h : hasVal ds v = true) : hasName ds (nameV ds v) = true ∧ valV ds (nameV ds v) = v := by
  rcases hasVal_cases ds v with ⟨h1, _⟩ | ⟨k, hv, hk, _, _, hp, _, hn⟩
  · rw [h1] at h; cases h
  · rw [hn]
    have h2 := name_at hv hk
    exact ⟨h2.1, h2.2.trans (by simpa [valueIs] using hp)⟩
end Go.Proofs.Ytpnicgagmopilaa
