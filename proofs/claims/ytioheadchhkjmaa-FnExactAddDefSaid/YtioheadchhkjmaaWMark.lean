/-
  The walk of a mark's text: markText.
-/
import Derived.Test.YtioheadchhkjmaaMem
import Derived.Test.YtioheadchhkjmaaWDefs
import Derived.Laws.BytesArg
namespace Go.Proofs.Ytioheadchhkjmaa
open Go.RowKit
attribute [local go_sem ↓] Go.wp_at_zero Go.wp_at_succ

/-- A digit's text; the digits of a number ahead of a text. -/
def digitT (j : Nat) : ByteArray := strOfNums [48 + (j : Int) % 10]
def mtGo : Nat → Nat → ByteArray → ByteArray
  | 0, _, out => out
  | f + 1, j, out => if j = 0 then out else mtGo f (j / 10) (digitT j ++ out)
/-- A mark's text. -/
def mT (k : Nat) : ByteArray := ⟨#[109]⟩ ++ mtGo (k + 1) k ⟨#[]⟩
theorem mtGo_zero (f : Nat) (out : ByteArray) : mtGo f 0 out = out := by cases f <;> rfl
theorem mtGo_succ {f j : Nat} (hj : 0 < j) (out : ByteArray) : mtGo (f + 1) j out = mtGo f (j / 10) (digitT j ++ out) := by
  rw [mtGo, if_neg (by omega)]
set_option maxRecDepth 100000 in
set_option maxHeartbeats 4000000 in
theorem markText_any (k : Nat) (hk : 0 < k) (hk2 : k ≤ 4611686018427387904) (w : World) :
    Calls Try.prog 32 #[.int .i64 k] w fun e w' => e = .returned (.string (mT k)) ∧ Below w.heap.size w w' := by
  have hk0 : ¬ k = 0 := by omega
  go_enter Try.func32, Try.ntmps32
  go_wp2
  go_loopw [0, 3] (fun kv ov wr => ∃ (f j : Nat) (out : ByteArray), kv = .int .i64 j ∧ ov = .string out ∧ j ≤ k ∧ j < f ∧ out.size + j ≤ k ∧ Hid (mtGo f j out = mtGo (k + 1) k ⟨#[]⟩) ∧ Below w.heap.size w wr) (fun kv _ _ => (intOf kv).toNat)
  case atStart => exact ⟨k + 1, k, _, rfl, rfl, Nat.le_refl _, by omega, by exact Nat.le_of_eq (Nat.zero_add k), rfl, Below.refl _ _⟩
  case round =>
    obtain ⟨f, j, out, rfl, rfl, hj, hf, hs, hM, hb⟩ := hrel
    by_cases hj0 : 0 < j
    · have hcv := run_convert_bytes_arg (P := Try.prog) (wr.alloc (.cells #[.int .u8 (48 + (j : Int) % 10)] 5)) 30 5 Try.underlying30 Try.underlying5 wr.heap.size 0 1 1 [48 + (j : Int) % 10] rfl (fun i hi => by
        obtain rfl : i = 0 := by omega
        exact (blk1 wr #[.int .u8 (48 + (j : Int) % 10)] 5).cell 0) 9 Try.underlying9
      have hs1 : (strOfNums [48 + (j : Int) % 10]).size = 1 := strOfNums_size _
      have hs2 : (strOfNums [48 + (j : Int) % 10] ++ out).size = 1 + out.size := by rw [ByteArray.size_append, hs1]
      have had : ¬ (9223372036854775807 < (strOfNums [48 + (j : Int) % 10]).size + out.size) := by omega
      have HS2 := Lib.hid hs2
      clear hs2
      obtain ⟨f, rfl⟩ : ∃ f', f = f' + 1 := ⟨f - 1, by omega⟩
      have hM2 := Lib.hid ((mtGo_succ hj0 out).symm.trans hM.out)
      have hb2 := hb.alloc hb.size (.cells #[.int .u8 (48 + (j : Int) % 10)] 5)
      clear hM
      go_wp2
      go_roundw
      case rel => exact ⟨f, j / 10, digitT j ++ out, by go_num, rfl, by omega, by omega, by have := HS2.out; unfold digitT; omega, hM2, hb2⟩
      case measure => simp [intOf]; omega
    · obtain rfl : j = 0 := by omega
      have had : ¬ (9223372036854775807 < (⟨#[109]⟩ : ByteArray).size + out.size) := by have : (⟨#[109]⟩ : ByteArray).size = 1 := rfl; omega
      have HM := Lib.hid (show mT k = ⟨#[109]⟩ ++ out from by unfold mT; rw [← hM.out, mtGo_zero])
      go_wp2
      go_ret
      rw [HM.out]
      exact ⟨rfl, hb⟩
end Go.Proofs.Ytioheadchhkjmaa
