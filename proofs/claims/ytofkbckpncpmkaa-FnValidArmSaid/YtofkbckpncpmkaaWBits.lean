/-
  The walks of the reference's bit functions: both, either, less.
-/
import Derived.Test.YtofkbckpncpmkaaWName
import Derived.Test.YtofkbckpncpmkaaPlainF
namespace Go.Proofs.Ytofkbckpncpmkaa
open Go.RowKit

set_option maxHeartbeats 1000000 in
theorem both_nat (a b : Nat) (ha : a ≤ 4095) (hb : b ≤ 4095) (w : World) :
    Calls Try.prog 84 #[.int .i64 a, .int .i64 b] w fun e w' => e = .returned (.int .i64 (andV a b)) ∧ w = w' := by
  go_enter Try.func84, Try.ntmps84
  go_wp2
  go_loop [5, 6] (fun o t => ∃ k p q : Nat, k ≤ 12 ∧ t = .int .i64 p ∧ o = .int .i64 q ∧ PowIs p k ∧ Hid (q = andTo a b k)) (fun _ t => 4096 - (intOf t).toNat)
  case atStart => exact ⟨0, 1, 0, by omega, rfl, rfl, PowIs.zero, (andTo_zero a b).symm⟩
  case round =>
    obtain ⟨k, p, q, hk, rfl, rfl, hp, hq⟩ := hrel
    have hlt := andTo_lt a b k hk
    have hq1 : q ≤ 4095 := by rw [hq.out]; exact hlt
    clear hlt
    by_cases hk2 : k < 12
    · obtain ⟨hp1, hp2⟩ := hp.lt hk2
      have hs := hp.succ
      obtain ⟨a0, a1⟩ := quo_bd p ha
      obtain ⟨b0, b1⟩ := quo_bd p hb
      by_cases h1 : a / p % 2 = 1
      · by_cases h2 : b / p % 2 = 1
        · have HS := Lib.hid (andTo_yes hp h1 h2)
          have g1 := bit_yes h1
          have g2 := bit_yes h2
          clear h1 h2
          go_wp2
          go_round
          case rel => exact ⟨k + 1, p * 2, q + p, by omega, by go_num, by go_num, hs, by rw [HS.out, hq.out]; rfl⟩
          case measure => simp [intOf]; omega
        · have HS := Lib.hid (andTo_no hp (a := a) (b := b) (fun h => h2 h.2))
          have g1 := bit_yes h1
          have g2 := bit_no h2
          clear h1 h2
          go_wp2
          go_round
          case rel => exact ⟨k + 1, p * 2, q, by omega, by go_num, rfl, hs, by rw [HS.out, hq.out]; rfl⟩
          case measure => simp [intOf]; omega
      · have HS := Lib.hid (andTo_no hp (a := a) (b := b) (fun h => h1 h.1))
        have g1 := bit_no h1
        clear h1
        go_wp2
        go_round
        case rel => exact ⟨k + 1, p * 2, q, by omega, by go_num, rfl, hs, by rw [HS.out, hq.out]; rfl⟩
        case measure => simp [intOf]; omega
    · have hk3 : k = 12 := by omega
      have hp3 : 4096 ≤ p := by rw [hp.last hk3]; exact Nat.le_refl _
      have HS := Lib.hid (andTo_end (b := b) ha hk3)
      clear hk3
      go_wp2
      go_ret
      exact ⟨ret_int (by rw [hq.out, HS.out]), rfl⟩
theorem both_any (a b : Int) (ha0 : 0 ≤ a) (ha : a ≤ 4095) (hb0 : 0 ≤ b) (hb : b ≤ 4095) (w : World) :
    Calls Try.prog 84 #[.int .i64 a, .int .i64 b] w fun e w' => e = .returned (.int .i64 (andV a b)) ∧ w = w' := by
  obtain ⟨a, rfl⟩ := Int.eq_ofNat_of_zero_le ha0
  obtain ⟨b, rfl⟩ := Int.eq_ofNat_of_zero_le hb0
  exact both_nat a b (by omega) (by omega) w

set_option maxHeartbeats 400000 in
theorem less_any (a b : Int) (ha0 : 0 ≤ a) (ha : a ≤ 4095) (hb0 : 0 ≤ b) (hb : b ≤ 4095) (w : World) :
    Calls Try.prog 82 #[.int .i64 a, .int .i64 b] w fun e w' => e = .returned (.int .i64 (lessV a b)) ∧ w = w' := by
  have hl := andV_le (b := b) ha0
  obtain ⟨l0, l1⟩ := hl
  go_enter Try.func82, Try.ntmps82
  go_wp2_with (go_at_call 84; refine (both_any a b ha0 ha hb0 hb _).mono ?_; rintro e w' ⟨rfl, rfl⟩)
  go_ret
  exact ⟨ret_int rfl, rfl⟩

set_option maxHeartbeats 400000 in
theorem either_any (a b : Int) (ha0 : 0 ≤ a) (ha : a ≤ 4095) (hb0 : 0 ≤ b) (hb : b ≤ 4095) (w : World) :
    Calls Try.prog 77 #[.int .i64 a, .int .i64 b] w fun e w' => e = .returned (.int .i64 (orV a b)) ∧ w = w' := by
  have hl := andV_le (b := b) ha0
  obtain ⟨l0, l1⟩ := hl
  have HS := Lib.hid (orV_eq ha0 hb0)
  go_enter Try.func77, Try.ntmps77
  go_wp2_with (go_at_call 84; refine (both_any a b ha0 ha hb0 hb _).mono ?_; rintro e w' ⟨rfl, rfl⟩)
  go_ret
  exact ⟨ret_int HS.out.symm, rfl⟩

end Go.Proofs.Ytofkbckpncpmkaa
