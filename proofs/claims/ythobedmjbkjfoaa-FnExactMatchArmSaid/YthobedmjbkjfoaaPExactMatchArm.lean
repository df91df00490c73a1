/-
  The law ExactMatchArm holds for every input, without any condition.
-/
import Derived.Test.YthobedmjbkjfoaaOpen
import Derived.Test.YthobedmjbkjfoaaLExactMatchArm
namespace Go.Proofs.Ythobedmjbkjfoaa
open Go.ChangeShapes Go.WideShapes Go.ChangeAt Go.RowKit Go.Deep Go.Joins

set_option maxRecDepth 100000 in
theorem fnExactMatchArm_lifted (os : Os) (started : os.Started) (H : Type) (enc : TypeId × Value → H) :
    ReturnsInHanded {} Try.checked os 4 .any (Rows.fnExactMatchArmSpec.pre6 enc Try.prog Try.f4 Rows.fnExactMatchArmRow.domain false) (Rows.fnExactMatchArmSpec.post enc Try.prog Try.f4 false true false false) := by
  refine law_lifted (C := Try.checked) (tb := 4) Try.laidOut (by kernel_rfl) Try.own started (by kernel_rfl) Try.func4 rfl Try.underlying4 rfl
    (fun ds hds => by match ds, hds with | [_, _, _], _ => exact ⟨rfl, rfl, rfl⟩)
    (ChangeSpec.witness6 (enc := enc) (C := Try.checked) false ⟨#[], #[.agg #[.slice none 0 0, .int .i64 0], .agg #[.int .i64 0, .int .i64 0], .int .i64 0], []⟩ 8 (by kernel_rfl) (by kernel_rfl) (by kernel_rfl) (by kernel_rfl)) ?_
  intro W base args ds p hval0 hA0 hsz0
  have hval : ∀ (j : Nat) t v, Try.f4.params[j]? = some t → args[j]? = some v → Value.okWide Try.prog W .any base t v := hval0
  have hA : DataW.TrodAll enc Try.prog W 0 (fun _ => true) true Try.f4.params.toList args.toList ds p := hA0
  have hsz : (DataW.weightsEach Try.prog Try.f4.params.toList ds).all (· ≤ reachBytes) = true := hsz0
  rw [Try.params4] at hA hval hsz
  obtain ⟨v0, v1, v2, d0, d1, d2, p0, p1, p2, rfl, rfl, rfl, h0, h1, h2⟩ := trodAll_three hA
  obtain ⟨A0, n0, c0, ds0, z0, rfl, hr0, hz0⟩ := open_flag (hval 0 24 v0 rfl rfl) h0 (sized_each hsz (j := 0) rfl rfl)
  obtain ⟨x1, y1, rfl, hx1⟩ := open_arm (hval 1 26 v1 rfl rfl) h1
  obtain ⟨x2, rfl, hx2⟩ := open_num (hval 2 3 v2 rfl rfl) h2
  exact exactMatchArm_walk A0 n0 c0 ds0 z0 x1 y1 x2 W hr0 hz0 hx1 hx2

theorem fnExactMatchArm_holds : Rows.FnExactMatchArmSaid :=
  OpenClaim.holds_of_wide 4 Try.f4 rfl rfl rfl rfl rfl rfl rfl ⟨rfl, rfl, rfl, rfl, rfl⟩ rfl rfl rfl rfl rfl (by kernel_rfl) Try.func4 (by kernel_rfl)
    (of_decide_eq_true (by kernel_rfl)) (by unfold Func.isWrapper; first | (rw [if_pos (by decide +kernel)]; kernel_rfl) | (rw [if_neg (by decide +kernel)]; exact ⟨rfl, rfl⟩))
    (fun os started H enc _ => fnExactMatchArm_lifted os started H enc)
#print axioms fnExactMatchArm_holds
end Go.Proofs.Ythobedmjbkjfoaa
