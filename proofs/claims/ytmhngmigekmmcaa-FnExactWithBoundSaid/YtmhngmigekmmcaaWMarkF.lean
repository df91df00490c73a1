/-
  The walks of marks in a class of flags: markFlag, heldFlag; and WithBound of both sides in one word.
-/
import Derived.Test.YtmhngmigekmmcaaWMarks
import Derived.Test.YtmhngmigekmmcaaWBound
namespace Go.Proofs.Ytmhngmigekmmcaa
open Go.RowKit
attribute [local go_sem ↓] Go.wp_at_zero Go.wp_at_succ

set_option maxHeartbeats 1000000 in
theorem markFlag_any (B : Nat) (A : Option Addr) (n c : Nat) (ds : List D) (z : Int) (k : Nat) (hk : 0 < k) (hk2 : k + 2 * n ≤ 4611686018427387904) (w : World) (hn : ds.length = n) (ho : OwnC w B 48 (.slice A n c) ds) :
    Calls Try.prog 17 #[.agg #[.slice A n c, .int .i64 z], .int .i64 k] w fun e w' => ∃ ms : List D, e = .returned (.int .i64 ((k + 2 * n : Nat) : Int)) ∧ ms.length = n ∧ Marked k n ms ∧ OwnC w' B 48 (.slice A n c) ms ∧ w.grownBy w' (Value.ownBlock (.slice A n c)) := by
  have q := blk1 w #[.slice A n c, .int .i64 z] 36
  have c0 := q.cell 0
  have o := ho.alloc (.cells #[.slice A n c, .int .i64 z] 36)
  have hg := World.grownBy_alloc w (.cells #[.slice A n c, .int .i64 z] 36) (Value.ownBlock (.slice A n c))
  clear ho
  go_enter Try.func17, Try.ntmps17
  go_wp2_with fail
  refine (markDefS_any B A n c ds k hk hk2 _ hn o).mono ?_
  rintro e w1 ⟨ms, rfl, hl, hm, o1, hg1⟩
  have HH := Lib.hid (And.intro hl (And.intro hm (And.intro o1 (hg.trans hg1))))
  clear hl hm o1 hg hg1 o
  go_wp2
  go_ret
  exact ⟨ms, by simp, HH.out⟩
set_option maxHeartbeats 1000000 in
theorem heldFlag_any (A : Option Addr) (n c : Nat) (ms : List D) (z : Int) (k : Nat) (hk : 0 < k) (hk2 : k + 2 * n ≤ 4611686018427387904) (w : World) (hr : Rd w w.heap.size A n c ms) (hm : Marked k n ms) :
    Calls Try.prog 18 #[.agg #[.slice A n c, .int .i64 z], .int .i64 k] w fun e w' => e = .returned (.int .i64 ((k + 2 * n : Nat) : Int)) ∧ Below w.heap.size w w' := by
  have q := blk1 w #[.slice A n c, .int .i64 z] 36
  have b := below1 w (.cells #[.slice A n c, .int .i64 z] 36)
  have c0 := q.cell 0
  have R := hr.to b
  have HM := Lib.hid hm
  clear hr hm
  go_enter Try.func18, Try.ntmps18
  go_wp2_with fail
  refine (heldDefS_any A n c ms k hk hk2 _ R HM.out).mono ?_
  rintro e w1 ⟨rfl, hb⟩
  have hp : ¬ ((k : Int) + 2 * (n : Int) < 0) := by omega
  go_wp2
  go_ret
  exact ⟨by simp, Below.on b hb b.size⟩
/-- A class, and whether it has been made. -/
def FlagGot (ds : List D) (z : Int) (ok : Bool) (w : World) (e : Ending) (w' : World) : Prop :=
  ∃ A c, e = .returned (.tuple #[.agg #[.slice A ds.length c, .int .i64 z], .bool ok]) ∧ OwnC w' w.heap.size 48 (.slice A ds.length c) ds ∧ Below w.heap.size w w'
theorem FlagYes.got {n : Nat} {k : Int} {ds : List D} {w w' : World} {e : Ending} (hn : ds.length = n) (h : FlagYes n k ds w e w') : FlagGot ds k true w e w' := by
  subst hn; exact h
theorem FlagNo.got {w w' : World} {e : Ending} (h : FlagNo w e w') : FlagGot [] 0 false w e w' := ⟨none, 0, h.1, .inl ⟨rfl, rfl⟩, h.2⟩
/-- WithBound of both sides answers alike. -/
theorem withBound_both (ds : List D) (z k : Int) (hg : Good ds) : ∃ (ds' : List D) (z' : Int) (ok : Bool), Good ds' ∧
    (∀ (A : Option Addr) (n c : Nat) (w : World), Rd w w.heap.size A n c ds → (A = none → c = 0) → Calls Try.prog 15 #[.agg #[.slice A n c, .int .i64 z], .int .i64 k] w (FlagGot ds' z' ok w)) ∧
    (∀ (A : Option Addr) (n c : Nat) (w : World), Rd w w.heap.size A n c ds → (A = none → c = 0) → Calls Try.prog 13 #[.agg #[.slice A n c, .int .i64 z], .int .i64 k] w (FlagGot ds' z' ok w)) := by
  cases h1 : vFlag ds z with
  | false =>
    exact ⟨[], 0, false, ⟨by simp, by simp⟩, fun A n c w hr hA => (withBound_no A n c ds z k (.inl h1) w hr hA).mono fun _ _ h => h.got, fun A n c w hr hA => (swithBound_no A n c ds z k (.inl h1) w hr hA).mono fun _ _ h => h.got⟩
  | true =>
    cases h2 : vFlag ds k with
    | false =>
      exact ⟨[], 0, false, ⟨by simp, by simp⟩, fun A n c w hr hA => (withBound_no A n c ds z k (.inr h2) w hr hA).mono fun _ _ h => h.got, fun A n c w hr hA => (swithBound_no A n c ds z k (.inr h2) w hr hA).mono fun _ _ h => h.got⟩
    | true =>
      exact ⟨ds, k, true, hg, fun A n c w hr hA => (withBound_yes A n c ds z k h1 h2 w hr hA).mono fun _ _ h => h.got hr.1, fun A n c w hr hA => (swithBound_yes A n c ds z k h1 h2 w hr hA).mono fun _ _ h => h.got hr.1⟩
end Go.Proofs.Ytmhngmigekmmcaa
