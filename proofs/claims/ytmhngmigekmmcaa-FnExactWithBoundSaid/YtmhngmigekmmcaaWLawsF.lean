/-
  The walks of the laws' own helpers over classes of flags and arms.
-/
import Derived.Test.YtmhngmigekmmcaaWLaws
namespace Go.Proofs.Ytmhngmigekmmcaa
open Go.RowKit

set_option maxHeartbeats 400000 in
theorem szFlag_any (A : Option Addr) (n c : Nat) (ds : List D) (z : Int) (m : Int) (h0 : 0 ≤ m) (h1 : m ≤ 1048576) (w : World) (hr : Rd w w.heap.size A n c ds) :
    Calls Try.prog 12 #[.agg #[.slice A n c, .int .i64 z], .int .i64 m] w (SomeInt (-1) m w) := by
  have b := below1 w (.cells #[.slice A n c, .int .i64 z] 33)
  have HR := Lib.hid (hr.to b)
  clear hr
  go_enter Try.func12, Try.ntmps12
  go_wp2_with (go_at_call 32; refine (szDefS_any _ _ _ ds m h0 h1 _ HR.out).mono ?_; rintro e w1 ⟨t, ht0, ht1, rfl, hb1⟩)
  · go_ret
    exact ⟨_, by omega, by omega, rfl, Below.on b hb1 b.size⟩
  · go_ret
    exact ⟨_, by omega, by omega, rfl, Below.on b hb1 b.size⟩

set_option maxHeartbeats 1000000 in
theorem toFlag_any (A : Option Addr) (n c : Nat) (ds : List D) (z : Int) (w : World) (hr : Rd w w.heap.size A n c ds) :
    Calls Try.prog 14 #[.agg #[.slice A n c, .int .i64 z]] w fun e w' => ∃ g, e = .returned (.agg #[.slice (some ⟨g, 0, none⟩) n n, .int .i64 z]) ∧ w.heap.size ≤ g ∧ Row w' g 48 ds ∧ Below w.heap.size w w' := by
  have HR := Lib.hid hr
  clear hr
  have q1 := ((blk1 w #[.slice A n c, .int .i64 z] 33).alloc (.cells #[.slice none 0 0, .int .i64 0] 36)).alloc (.cells #[.slice none 0 0, .int .i64 0] 36)
  have q2 := (blk2 w (.cells #[.slice A n c, .int .i64 z] 33) #[.slice none 0 0, .int .i64 0] 36).alloc (.cells #[.slice none 0 0, .int .i64 0] 36)
  have q3 := blk3 w (.cells #[.slice A n c, .int .i64 z] 33) (.cells #[.slice none 0 0, .int .i64 0] 36) #[.slice none 0 0, .int .i64 0] 36
  have b := below3 w (.cells #[.slice A n c, .int .i64 z] 33) (.cells #[.slice none 0 0, .int .i64 0] 36) (.cells #[.slice none 0 0, .int .i64 0] 36)
  go_enter Try.func14, Try.ntmps14
  go_wp2_with fail
  refine (toDefS_any _ _ _ ds _ (HR.out.to b)).mono ?_
  rintro e w1 ⟨g, rfl, hg, hrow, hb⟩
  have k1 := q1.below hb q1.lt
  have k2 := q2.below hb q2.lt
  have k3 := q3.below hb q3.lt
  have e1 := k1.cell 1
  have e2 := k2.cell 0
  have e3 := k2.cell 1
  have e4 := k3.cell 0
  have e5 := k3.cell 1
  have f2 := k2.frozen 0
  have f3 := k2.frozen 1
  have f4 := k3.frozen 0
  have f5 := k3.frozen 1
  have hg' : w.heap.size + 1 + 1 + 1 ≤ g := by simpa using hg
  have bb := Below.on b hb b.size
  clear q1 q2 q3 hg
  have hsz : w.heap.size + 1 + 1 < w1.heap.size := k3.lt
  obtain ⟨W, hW⟩ : ∃ W, W = (((w1.setCell ⟨w.heap.size + 1 + 1, 0, none⟩ (.slice (some ⟨g, 0, none⟩) n n)).setCell ⟨w.heap.size + 1 + 1, 1, none⟩ (.int .i64 z)).setCell ⟨w.heap.size + 1, 0, none⟩ (.slice (some ⟨g, 0, none⟩) n n)).setCell ⟨w.heap.size + 1, 1, none⟩ (.int .i64 z) := ⟨_, rfl⟩
  have r2 := (((k2.far (p := ⟨w.heap.size + 1 + 1, 0, none⟩) (by simp) (.slice (some ⟨g, 0, none⟩) n n)).far (p := ⟨w.heap.size + 1 + 1, 1, none⟩) (by simp) (.int .i64 z)).set_ 0 (.slice (some ⟨g, 0, none⟩) n n)).set_ 1 (.int .i64 z)
  have rr := (((hrow.far (p := ⟨w.heap.size + 1 + 1, 0, none⟩) (by simp; omega) (.slice (some ⟨g, 0, none⟩) n n)).far (p := ⟨w.heap.size + 1 + 1, 1, none⟩) (by simp; omega) (.int .i64 z)).far (p := ⟨w.heap.size + 1, 0, none⟩) (by simp; omega) (.slice (some ⟨g, 0, none⟩) n n)).far (p := ⟨w.heap.size + 1, 1, none⟩) (by simp; omega) (.int .i64 z)
  have rb := ((((bb.setCell (p := ⟨w.heap.size + 1 + 1, 0, none⟩) (by simp; omega) (.slice (some ⟨g, 0, none⟩) n n)).setCell (p := ⟨w.heap.size + 1 + 1, 1, none⟩) (by simp; omega) (.int .i64 z))).setCell (p := ⟨w.heap.size + 1, 0, none⟩) (by simp) (.slice (some ⟨g, 0, none⟩) n n)).setCell (p := ⟨w.heap.size + 1, 1, none⟩) (by simp) (.int .i64 z)
  have RR := Lib.hid (And.intro r2 (And.intro rr rb))
  clear r2 rr rb hrow k1 k2 k3 hW
  go_wp2
  obtain ⟨r2, rr, rb⟩ := RR.out
  have y0 := r2.cell 0
  have y1 := r2.cell 1
  exact bodyPost_ret (v := .agg #[.slice (some ⟨g, 0, none⟩) n n, .int .i64 z]) (by simp [results, Try.results14, go_sem, y0, y1]) rfl ⟨g, rfl, by omega, rr, rb⟩

set_option maxHeartbeats 400000 in
theorem eqFlag_same (A A' : Option Addr) (n c c' : Nat) (ds : List D) (z : Int) (w : World) (hr : Rd w w.heap.size A n c ds) (hr' : Rd w w.heap.size A' n c' ds) :
    Calls Try.prog 16 #[.agg #[.slice A n c, .int .i64 z], .agg #[.slice A' n c', .int .i64 z]] w fun e w' => e = .returned (.bool true) ∧ Below w.heap.size w w' := by
  have b := below2 w (.cells #[.slice A n c, .int .i64 z] 36) (.cells #[.slice A' n c', .int .i64 z] 36)
  have q1 := (blk1 w #[.slice A n c, .int .i64 z] 36).alloc (.cells #[.slice A' n c', .int .i64 z] 36)
  have q2 := blk2 w (.cells #[.slice A n c, .int .i64 z] 36) #[.slice A' n c', .int .i64 z] 36
  have HR := Lib.hid (hr.to b)
  have HR' := Lib.hid (hr'.to b)
  clear hr hr'
  go_enter Try.func16, Try.ntmps16
  go_wp2_with fail
  refine (eqDefS_same _ _ _ _ _ ds _ HR.out HR'.out).mono ?_
  rintro e w1 ⟨rfl, hb⟩
  have e1 := (q1.below hb q1.lt).cell 1
  have e2 := (q2.below hb q2.lt).cell 1
  go_wp2
  go_ret
  exact ⟨rfl, Below.on b hb b.size⟩

end Go.Proofs.Ytmhngmigekmmcaa
