/-
  The law ExactWithBound holds for every input, without any condition.
-/
import Derived.Test.YtmhngmigekmmcaaOpen
import Derived.Test.YtmhngmigekmmcaaLExactWithBound
namespace Go.Proofs.Ytmhngmigekmmcaa
open Go.ChangeShapes Go.WideShapes Go.ChangeAt Go.RowKit Go.Deep Go.Joins

set_option maxRecDepth 100000 in
theorem fnExactWithBound_lifted (os : Os) (started : os.Started) (H : Type) (enc : TypeId × Value → H) :
    ReturnsInHanded {} Try.checked os 4 .any (Rows.fnExactWithBoundSpec.pre6 enc Try.prog Try.f4 Rows.fnExactWithBoundRow.domain false) (Rows.fnExactWithBoundSpec.post enc Try.prog Try.f4 false true false false) := by
  refine law_lifted (C := Try.checked) (tb := 4) Try.laidOut (by kernel_rfl) Try.own started (by kernel_rfl) Try.func4 rfl Try.underlying4 rfl
    (fun ds hds => by match ds, hds with | [_, _], _ => exact ⟨rfl, rfl, rfl⟩)
    (ChangeSpec.witness6 (enc := enc) (C := Try.checked) false ⟨#[], #[.agg #[.slice none 0 0, .int .i64 0], .int .i64 0], []⟩ 8 (by kernel_rfl) (by kernel_rfl) (by kernel_rfl) (by kernel_rfl)) ?_
  intro W base args ds p hval0 hA0 hsz0
  have hval : ∀ (j : Nat) t v, Try.f4.params[j]? = some t → args[j]? = some v → Value.okWide Try.prog W .any base t v := hval0
  have hA : DataW.TrodAll enc Try.prog W 0 (fun _ => true) true Try.f4.params.toList args.toList ds p := hA0
  have hsz : (DataW.weightsEach Try.prog Try.f4.params.toList ds).all (· ≤ reachBytes) = true := hsz0
  rw [Try.params4] at hA hval hsz
  obtain ⟨v0, v1, d0, d1, p0, p1, rfl, rfl, rfl, h0, h1⟩ := trodAll_two hA
  obtain ⟨A0, n0, c0, ds0, z0, rfl, hr0, hz0⟩ := open_flag (hval 0 33 v0 rfl rfl) h0 (sized_each hsz (j := 0) rfl rfl)
  obtain ⟨x1, rfl, hx1⟩ := open_num (hval 1 3 v1 rfl rfl) h1
  exact exactWithBound_walk A0 n0 c0 ds0 z0 x1 W hr0 hz0 hx1

theorem fnExactWithBound_holds : Rows.FnExactWithBoundSaid :=
  OpenClaim.holds_of_wide 4 Try.f4 rfl rfl rfl rfl rfl rfl rfl ⟨rfl, rfl, rfl, rfl, rfl⟩ rfl rfl rfl rfl rfl (by kernel_rfl) Try.func4 (by kernel_rfl)
    (of_decide_eq_true (by kernel_rfl)) (by unfold Func.isWrapper; first | (rw [if_pos (by decide +kernel)]; kernel_rfl) | (rw [if_neg (by decide +kernel)]; exact ⟨rfl, rfl⟩))
    (fun os started H enc _ => fnExactWithBound_lifted os started H enc)
#print axioms fnExactWithBound_holds
end Go.Proofs.Ytmhngmigekmmcaa
