/-
  The walks of marks in an enumeration: markEnum, heldEnum.
-/
import Derived.Test.YtioheadchhkjmaaWMarks
namespace Go.Proofs.Ytioheadchhkjmaa
open Go.RowKit
attribute [local go_sem ↓] Go.wp_at_zero Go.wp_at_succ

set_option maxHeartbeats 1000000 in
theorem markEnum_any (B : Nat) (A : Option Addr) (n c : Nat) (ds : List D) (k : Nat) (hk : 0 < k) (hk2 : k + 2 * n ≤ 4611686018427387904) (w : World) (hn : ds.length = n) (ho : OwnC w B 46 (.slice A n c) ds) :
    Calls Try.prog 23 #[.agg #[.slice A n c], .int .i64 k] w fun e w' => ∃ ms : List D, e = .returned (.int .i64 ((k + 2 * n : Nat) : Int)) ∧ ms.length = n ∧ Marked k n ms ∧ OwnC w' B 46 (.slice A n c) ms ∧ w.grownBy w' (Value.ownBlock (.slice A n c)) := by
  have q := blk1 w #[.slice A n c] 42
  have c0 := q.cell 0
  have o := ho.alloc (.cells #[.slice A n c] 42)
  have hg := World.grownBy_alloc w (.cells #[.slice A n c] 42) (Value.ownBlock (.slice A n c))
  clear ho
  go_enter Try.func23, Try.ntmps23
  go_wp2_with fail
  refine (markDefS_any B A n c ds k hk hk2 _ hn o).mono ?_
  rintro e w1 ⟨ms, rfl, hl, hm, o1, hg1⟩
  have HH := Lib.hid (And.intro hl (And.intro hm (And.intro o1 (hg.trans hg1))))
  clear hl hm o1 hg hg1 o
  go_wp2
  go_ret
  exact ⟨ms, by simp, HH.out⟩
set_option maxHeartbeats 1000000 in
theorem heldEnum_any (A : Option Addr) (n c : Nat) (ms : List D) (k : Nat) (hk : 0 < k) (hk2 : k + 2 * n ≤ 4611686018427387904) (w : World) (hr : Rd w w.heap.size A n c ms) (hm : Marked k n ms) :
    Calls Try.prog 24 #[.agg #[.slice A n c], .int .i64 k] w fun e w' => e = .returned (.int .i64 ((k + 2 * n : Nat) : Int)) ∧ Below w.heap.size w w' := by
  have q := blk1 w #[.slice A n c] 42
  have b := below1 w (.cells #[.slice A n c] 42)
  have c0 := q.cell 0
  have R := hr.to b
  have HM := Lib.hid hm
  clear hr hm
  go_enter Try.func24, Try.ntmps24
  go_wp2_with fail
  refine (heldDefS_any A n c ms k hk hk2 _ R HM.out).mono ?_
  rintro e w1 ⟨rfl, hb⟩
  have hp : ¬ ((k : Int) + 2 * (n : Int) < 0) := by omega
  go_wp2
  go_ret
  exact ⟨by simp, Below.on b hb b.size⟩
end Go.Proofs.Ytioheadchhkjmaa
