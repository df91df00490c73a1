/-
  The law ExactAddDef holds for every input, without any condition.
-/
import Derived.Test.YtioheadchhkjmaaOpen
import Derived.Test.YtioheadchhkjmaaLExactAddDef
namespace Go.Proofs.Ytioheadchhkjmaa
open Go.ChangeShapes Go.WideShapes Go.ChangeAt Go.RowKit Go.Deep Go.Joins

set_option maxRecDepth 100000 in
theorem fnExactAddDef_lifted (os : Os) (started : os.Started) (H : Type) (enc : TypeId × Value → H) :
    ReturnsInHanded {} Try.checked os 5 .any (Rows.fnExactAddDefSpec.pre6 enc Try.prog Try.f5 Rows.fnExactAddDefRow.domain false) (Rows.fnExactAddDefSpec.post enc Try.prog Try.f5 false true false false) := by
  refine law_lifted (C := Try.checked) (tb := 4) Try.laidOut (by kernel_rfl) Try.own started (by kernel_rfl) Try.func5 rfl Try.underlying4 rfl
    (fun ds hds => by match ds, hds with | [_, _], _ => exact ⟨rfl, rfl, rfl⟩)
    (ChangeSpec.witness6 (enc := enc) (C := Try.checked) false ⟨#[], #[.agg #[.slice none 0 0], .agg #[.string ⟨#[]⟩, .int .i64 0]], []⟩ 8 (by kernel_rfl) (by kernel_rfl) (by kernel_rfl) (by kernel_rfl)) ?_
  intro W base args ds p hval0 hA0 hsz0
  have hval : ∀ (j : Nat) t v, Try.f5.params[j]? = some t → args[j]? = some v → Value.okWide Try.prog W .any base t v := hval0
  have hA : DataW.TrodAll enc Try.prog W 0 (fun _ => true) true Try.f5.params.toList args.toList ds p := hA0
  have hsz : (DataW.weightsEach Try.prog Try.f5.params.toList ds).all (· ≤ reachBytes) = true := hsz0
  rw [Try.params5] at hA hval hsz
  obtain ⟨v0, v1, d0, d1, p0, p1, rfl, rfl, rfl, h0, h1⟩ := trodAll_two hA
  obtain ⟨A0, n0, c0, ds0, rfl, hr0⟩ := open_enum (hval 0 35 v0 rfl rfl) h0 (sized_each hsz (j := 0) rfl rfl)
  obtain ⟨x1, rfl, hx1⟩ := open_lawsDef (hval 1 37 v1 rfl rfl) h1
  exact exactAddDef_walk A0 n0 c0 ds0 x1 W hr0 hx1

theorem fnExactAddDef_holds : Rows.FnExactAddDefSaid :=
  OpenClaim.holds_of_wide 5 Try.f5 rfl rfl rfl rfl rfl rfl rfl ⟨rfl, rfl, rfl, rfl, rfl⟩ rfl rfl rfl rfl rfl (by kernel_rfl) Try.func5 (by kernel_rfl)
    (of_decide_eq_true (by kernel_rfl)) (by unfold Func.isWrapper; first | (rw [if_pos (by decide +kernel)]; kernel_rfl) | (rw [if_neg (by decide +kernel)]; exact ⟨rfl, rfl⟩))
    (fun os started H enc _ => fnExactAddDef_lifted os started H enc)
#print axioms fnExactAddDef_holds
end Go.Proofs.Ytioheadchhkjmaa
