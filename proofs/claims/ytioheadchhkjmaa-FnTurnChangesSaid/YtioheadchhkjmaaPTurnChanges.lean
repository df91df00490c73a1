/-
  The law TurnChanges holds for every input, without any condition.
-/
import Derived.Test.YtioheadchhkjmaaOpen
import Derived.Test.YtioheadchhkjmaaOpenB
import Derived.Test.YtioheadchhkjmaaLTurnChanges
namespace Go.Proofs.Ytioheadchhkjmaa
open Go.ChangeShapes Go.WideShapes Go.ChangeAt Go.RowKit Go.Deep Go.Joins

set_option maxRecDepth 100000 in
theorem fnTurnChanges_lifted (os : Os) (started : os.Started) (H : Type) (enc : TypeId × Value → H) :
    ReturnsInHanded {} Try.checked os 4 .any (Rows.fnTurnChangesSpec.pre6 enc Try.prog Try.f4 Rows.fnTurnChangesRow.domain false) (Rows.fnTurnChangesSpec.post enc Try.prog Try.f4 false true false false) := by
  refine law_lifted (C := Try.checked) (tb := 4) Try.laidOut (by kernel_rfl) Try.own started (by kernel_rfl) Try.func4 rfl Try.underlying4 rfl
    (fun ds hds => by match ds, hds with | [_], _ => exact ⟨rfl, rfl, rfl⟩)
    (ChangeSpec.witness6 (enc := enc) (C := Try.checked) false ⟨#[], #[.slice none 0 0], []⟩ 8 (by kernel_rfl) (by kernel_rfl) (by kernel_rfl) (by kernel_rfl)) ?_
  intro W base args ds p hval0 hA0 _
  have hval : ∀ (j : Nat) t v, Try.f4.params[j]? = some t → args[j]? = some v → Value.okWide Try.prog W .any base t v := hval0
  have hA : DataW.TrodAll enc Try.prog W 0 (fun _ => true) true Try.f4.params.toList args.toList ds p := hA0
  rw [Try.params4] at hA hval
  obtain ⟨v0, d0, rfl, rfl, h0⟩ := trodAll_one hA
  obtain ⟨A0, n0, c0, rfl, hr0⟩ := open_code (hval 0 30 v0 rfl rfl) h0
  exact turnChanges_walk A0 n0 c0 W hr0

theorem fnTurnChanges_holds : Rows.FnTurnChangesSaid :=
  OpenClaim.holds_of_wide 4 Try.f4 rfl rfl rfl rfl rfl rfl rfl ⟨rfl, rfl, rfl, rfl, rfl⟩ rfl rfl rfl rfl rfl (by kernel_rfl) Try.func4 (by kernel_rfl)
    (of_decide_eq_true (by kernel_rfl)) (by unfold Func.isWrapper; first | (rw [if_pos (by decide +kernel)]; kernel_rfl) | (rw [if_neg (by decide +kernel)]; exact ⟨rfl, rfl⟩))
    (fun os started H enc _ => fnTurnChanges_lifted os started H enc)
#print axioms fnTurnChanges_holds
end Go.Proofs.Ytioheadchhkjmaa
