/-
  The walk of changes turned round by the program: TurnChanges over slices.Backward.
-/
import Derived.RangeFuncNested
import Derived.RangeFuncBound
import Derived.RangeFuncCalls
import Derived.RangeFuncLeaves
import Derived.Shelf.Abstract
import Derived.Shelf.RegionOpen
import Derived.WalkKit
import Derived.OwnWalkIn
import Derived.TacticsInMore
import Derived.LoopNIn
import Derived.LoopIn
import Derived.Test.YtioheadchhkjmaaPlainC
import Derived.Test.YtioheadchhkjmaaWName
namespace Go.Proofs.Ytioheadchhkjmaa
open Go.RowKit Go.Shelf
attribute [local go_sem] Oper.semAt_some

/-- What lay below n₀ lies as it lay, and block b too. -/
def KpB (n₀ b : Nat) (W W' : World) : Prop := Below n₀ W W' ∧ W'.heap[b]? = W.heap[b]?
theorem KpB.refl (n₀ b : Nat) (W : World) : KpB n₀ b W W := ⟨Below.refl _ _, rfl⟩
theorem KpB.trans {n₀ b : Nat} {X Y Z : World} (h : KpB n₀ b X Y) (k : KpB n₀ b Y Z) : KpB n₀ b X Z := ⟨h.1.trans k.1, k.2.trans h.2⟩
theorem KpB.box {n₀ b : Nat} {X Y : World} (h : KpB n₀ b X Y) (i : Nat) : Y.cell? ⟨b, i, none⟩ = X.cell? ⟨b, i, none⟩ := World.cell?_of_block h.2
theorem kpB_b {n₀ b : Nat} {w : World} (hn : n₀ ≤ w.heap.size) (hb : b < w.heap.size) (W : World) (l : Nat) (o o' : Obj) (hl : w.heap.size ≤ l) (h : W.heap[l]? = some o) (h1 : o.isCells = false) (h2 : o.isWalk = false) : KpB n₀ b W (W.putObj l o') :=
  ⟨belowK_b hn W l o o' hl h h1 h2, World.putObj_heap_other (by omega)⟩
theorem blk_own {β : Type} (B : Nat) (t : TypeId) (f : β → Array Value) : Go.Own (fun s W => Blk W B t (f s)) := fun s X Y row hs hg hrow =>
  (hg.block B hs.lt (fun e' => by obtain ⟨o, ho, hc⟩ := hrow B e'.symm; rw [show X.heap[B]? = _ from hs] at ho; cases ho; cases hc)).trans hs
/-- A change as a value. -/
abbrev chV (c : Ch) : Value := .agg #[.int .i64 c.kind, .string c.name, .int .i64 c.was, .int .i64 c.will]
set_option maxRecDepth 100000 in
set_option maxHeartbeats 2000000 in
theorem back1_in (F : Fence) (n : Nat) (h7 : F.fn 49) (hro : F.round = none) (hn : 1 ≤ n) (l Bs n₀ b off len cap : Nat) (cs : List Ch) (hl : Hid (cs.length = len)) (hcap : len ≤ cap) (hcap2 : cap ≤ 9223372036854775807) (hb : b < n₀) (J Jx : List (Nat × Ch) → World → Prop)
    (hY : ∀ pre x W, J pre W → pre.length < len → YieldAt F (n - 1) Try.prog l #[.int .i64 (x.1 : Int), chV x.2] W fun e W' =>
      (e = .returned (.bool true) ∧ J (pre ++ [x]) W' ∧ KpB n₀ Bs W W') ∨ (e = .returned (.bool false) ∧ Jx (pre ++ [x]) W'))
    (W : World) (hBs : W.cell? ⟨Bs, 0, none⟩ = some (.slice (some ⟨b, off, none⟩) len cap))
    (hc : Hid (∀ i, i < len → W.cell? ⟨b, off + i * 4, none⟩ = some (.int .i64 (nthH cs i).kind) ∧ W.cell? ⟨b, off + i * 4 + 1, none⟩ = some (.string (nthH cs i).name) ∧ W.cell? ⟨b, off + i * 4 + 2, none⟩ = some (.int .i64 (nthH cs i).was) ∧ W.cell? ⟨b, off + i * 4 + 3, none⟩ = some (.int .i64 (nthH cs i).will))) (h0 : J [] W) :
    CallsIn F n Try.prog 49 #[.func (.yield l) #[] #[], .pointer (some ⟨Bs, 0, none⟩)] W fun e W' => (∃ v, e = .returned v) ∧
      ((∃ ys, ys = backTo cs cs.length ∧ J ys W') ∨ (∃ pre, True ∧ Jx pre W')) := by
  refine callsIn_of_wp Try.func49 rfl h7 ?_ hro
  simp only [Try.ntmps49, List.size_toArray, List.length_cons, List.length_nil, Nat.reduceAdd, Nat.reduceSub, Array.replicate_succ, Array.replicate_zero, List.push_toArray, List.append_toArray, List.nil_append, List.cons_append]
  gi_wp2
  gi_loopw [3] (fun i wr => ∃ z : Int, i = .int .i64 z ∧ -1 ≤ z ∧ z < len ∧ J (backTo cs (cs.length - (z + 1).toNat)) wr ∧ KpB n₀ Bs W wr)
    (fun i _ => (intOf i + 1).toNat)
  case atStart => exact ⟨_, rfl, by omega, by omega, by rw [show cs.length - ((len : Int) - 1 + 1).toNat = 0 from by rw [hl.out]; omega]; exact h0, KpB.refl _ _ _⟩
  case round =>
    obtain ⟨z, rfl, hz1, hz2, hJs, hnx⟩ := hrel
    have cB := (hnx.box 0).trans hBs
    by_cases hz : 0 ≤ z
    · obtain ⟨j, rfl⟩ := Int.eq_ofNat_of_zero_le hz
      have hj : j < len := by omega
      obtain ⟨c0, c1, c2, c3⟩ := hc.out j hj
      replace c0 := (hnx.1.cell (p := ⟨b, off + j * 4, none⟩) hb).trans c0
      replace c1 := (hnx.1.cell (p := ⟨b, off + j * 4 + 1, none⟩) hb).trans c1
      replace c2 := (hnx.1.cell (p := ⟨b, off + j * 4 + 2, none⟩) hb).trans c2
      replace c3 := (hnx.1.cell (p := ⟨b, off + j * 4 + 3, none⟩) hb).trans c3
      obtain ⟨fn, tmps, assign, body, hy, hR⟩ := hY _ (j, nthH cs j) wr hJs (by rw [backTo_length]; have := hl.out; omega)
      dsimp only at hy
      gi_wp2
      refine hR.mono ?_
      rintro e W3 (⟨rfl, hJ3, hk3⟩ | ⟨rfl, hJx3⟩)
      · gi_wp2
        go_roundw
        case rel =>
          refine ⟨_, rfl, by omega, by omega, ?_, hnx.trans hk3⟩
          have h := backTo_prefix cs j (by rw [hl.out]; exact hj)
          rw [show ((j : Int) + 1).toNat = j + 1 from by omega, h] at hJ3
          rw [show ((j : Int) - 1 + 1).toNat = j from by omega]
          exact hJ3
        case measure => simp [intOf]
      · gi_wp2
        refine bodyPost_ret (results_none rfl _ _ _) rfl ?_
        exact ⟨⟨_, rfl⟩, .inr ⟨_, trivial, hJx3⟩⟩
    · obtain rfl : z = -1 := by omega
      gi_wp2
      go_end0
      exact ⟨⟨_, rfl⟩, .inl (by simpa using hJs)⟩
set_option maxRecDepth 100000 in
set_option maxHeartbeats 2000000 in
theorem back1_nil_in (F : Fence) (n : Nat) (h7 : F.fn 49) (hro : F.round = none) (l Bs : Nat) (A : Option Addr) (cap : Nat) (J : List (Nat × Ch) → World → Prop) (W : World) (hBs : W.cell? ⟨Bs, 0, none⟩ = some (.slice A 0 cap)) (h0 : J [] W) :
    CallsIn F n Try.prog 49 #[.func (.yield l) #[] #[], .pointer (some ⟨Bs, 0, none⟩)] W fun e W' => (∃ v, e = .returned v) ∧ J [] W' := by
  refine callsIn_of_wp Try.func49 rfl h7 ?_ hro
  simp only [Try.ntmps49, List.size_toArray, List.length_cons, List.length_nil, Nat.reduceAdd, Nat.reduceSub, Array.replicate_succ, Array.replicate_zero, List.push_toArray, List.append_toArray, List.nil_append, List.cons_append]
  gi_wp2
  gi_loopw [3] (fun i wr => i = .int .i64 (-1) ∧ J [] wr) (fun _ _ => 0)
  case atStart => exact ⟨rfl, h0⟩
  case round =>
    obtain ⟨rfl, hJs⟩ := hrel
    gi_wp2
    go_end0
    first | exact ⟨⟨_, rfl⟩, hJs⟩ | exact hJs

set_option maxHeartbeats 1000000 in
theorem backward_in (F : Fence) (n : Nat) (h5 : F.fn 29) (hro : F.round = none) (a : Option Addr) (len cap : Nat) (w : World) :
    CallsIn F n Try.prog 29 #[.slice a len cap] w fun e w' => e = .returned (.func (.func 49) #[] #[.pointer (some ⟨w.heap.size, 0, none⟩)]) ∧ w' = w.alloc (.cells #[.slice a len cap] 24) := by
  refine callsIn_of_wp Try.func29 rfl h5 ?_ hro
  simp only [Try.ntmps29, List.size_toArray, List.length_cons, List.length_nil, Nat.reduceAdd, Nat.reduceSub, Array.replicate_succ, Array.replicate_zero, List.push_toArray, List.append_toArray, List.nil_append, List.cons_append]
  gi_wp2
  go_ret
  exact ⟨rfl, rfl⟩

/-- slices.Backward over a slice of changes: all have come, the last one first. -/
theorem backward_stops (F : Fence) (n : Nat) (h7 : F.fn 49) (hro : F.round = none) (hn : 1 ≤ n) (Bs n₀ : Nat) (A : Option Addr) (len cap : Nat) (cs : List Ch) (w : World) (hBs : Bs < w.heap.size) (hn₀ : n₀ ≤ w.heap.size)
    (hc : w.cell? ⟨Bs, 0, none⟩ = some (.slice A len cap)) (hr : RdH w n₀ A len cap cs) :
    SeqStopsK F n Try.prog 49 #[.pointer (some ⟨Bs, 0, none⟩)] (fun x : Nat × Ch => #[Value.int .i64 (x.1 : Int), chV x.2]) (KpB n₀ Bs) (fun ys => ys = backTo cs cs.length) (fun _ => True) cs.length w := fun l J Jx W hW _ _ hY h0 => by
  have hc' := (hW.cell (p := ⟨Bs, 0, none⟩) hBs).trans hc
  obtain ⟨h1, h2, h3, h4, h5⟩ := hr.below (hW.mono hn₀)
  by_cases h : 0 < len
  · obtain ⟨b, off, rfl, hb, hcs⟩ := h5 h
    exact back1_in F n h7 hro hn l Bs n₀ b off len cap cs h1 h2 h3 hb J Jx (by rw [← h1]; exact hY) W hc' hcs h0
  · obtain rfl : len = 0 := by omega
    obtain rfl : cs = [] := List.eq_nil_of_length_eq_zero h1
    exact (back1_nil_in F n h7 hro l Bs A cap J W hc' h0).mono fun e W' ⟨he, hj⟩ => ⟨he, .inl ⟨_, rfl, hj⟩⟩

set_option maxHeartbeats 1000000 in
theorem clipH_in (F : Fence) (n : Nat) (h5 : F.fn 30) (hro : F.round = none) (A : Option Addr) (len cap : Nat) (w : World) (hn : len ≤ cap) (_hc : cap ≤ 9223372036854775807) :
    CallsIn F n Try.prog 30 #[.slice A len cap] w fun e w' => e = .returned (.slice A len len) ∧ w = w' := by
  refine callsIn_of_wp Try.func30 rfl h5 ?_ hro
  simp only [Try.ntmps30, List.size_toArray, List.length_cons, List.length_nil, Nat.reduceAdd, Nat.reduceSub, Array.replicate_succ, Array.replicate_zero, List.push_toArray, List.append_toArray, List.nil_append, List.cons_append]
  gi_wp2
  go_ret
  exact ⟨rfl, rfl⟩

theorem Try.infoCh : (Try.prog.info? 55).map (fun i => (i.zero, i.size, i.bytes)) = some (some (.agg #[.int .i64 0, .string ByteArray.empty, .int .i64 0, .int .i64 0]), 4, 40) := by kernel_rfl
theorem rowFar {w : World} {B p i n size : Nat} {e : TypeId} {v : Value} {xs : List Value} (h : w.ownsRow B e size v n xs) (hp : v.ownBlock ≠ some p) (u : Value) : (w.setCell ⟨p, i, none⟩ u).ownsRow B e size v n xs :=
  World.ownsRow.kept h (grown_set (grown_refl w (some p)) u) (.inr hp)
/-- Changes turned round have come out. -/
def TurnedI (cs : List Ch) (w : World) (e : Ending) (w' : World) : Prop :=
  ∃ A c, e = .returned (.slice A cs.length c) ∧ OwnH w' w.heap.size 55 (.slice A cs.length c) (turned cs) ∧ Below w.heap.size w w'
theorem OwnA.cap {w : World} {B : Nat} {t : TypeId} {v : Value} {cs : List Ch} (h : OwnA w B t v cs) : ∃ A c, v = .slice A cs.length c ∧ cs.length ≤ c ∧ c ≤ 9223372036854775807 := by
  rcases h.2 with ⟨hv, h0⟩ | ⟨g, c, cur, hv, _, _, hn, hc, _⟩
  · exact ⟨none, 0, by rw [hv, h0], by omega, by omega⟩
  · exact ⟨_, c, hv, hn, by unfold maxLen at hc; omega⟩
set_option maxRecDepth 100000 in
set_option maxHeartbeats 4000000 in
theorem turnI_in (F : Fence) (n : Nat) (h3 : F.fn 10) (h4 : F.fn 29) (h5 : F.fn 49) (h6 : F.fn 30) (hro : F.round = none) (hn : 3 ≤ n) (A : Option Addr) (len cap : Nat) (cs : List Ch) (w : World) (hr : RdH w w.heap.size A len cap cs) :
    CallsIn F n Try.prog 10 #[.slice A len cap] w (TurnedI cs w) := by
  have h1 : 1 ≤ n := by omega
  obtain ⟨i0, hi, hz0, hz1, hz2⟩ := info_parts Try.infoCh
  refine callsIn_of_wp_marks Try.func10 rfl h3 ?_ hro
  simp only [Try.ntmps10, List.size_toArray, List.length_cons, List.length_nil, Nat.reduceAdd, Nat.reduceSub, Array.replicate_succ, Array.replicate_zero, List.push_toArray, List.append_toArray, List.nil_append, List.cons_append]
  gi_wp2_with (gi_at_call 29; refine (backward_in F (n - 1) h4 hro _ _ _ _).mono ?_; rintro e w' ⟨rfl, rfl⟩)
  have bO := (Boxed.new w 24 (.slice none 0 0)).alloc (.cells #[.slice A len cap] 24)
  have bS := Boxed.new (w.alloc (.cells #[.slice none 0 0] 24)) 24 (.slice A len cap)
  rw [World.size_alloc] at bS
  have hB0 : Below w.heap.size w ((w.alloc (.cells #[.slice none 0 0] 24)).alloc (.cells #[.slice A len cap] 24)) := below2 w _ _
  have hsz : ((w.alloc (.cells #[.slice none 0 0] 24)).alloc (.cells #[.slice A len cap] 24)).heap.size = w.heap.size + 2 := by simp
  obtain ⟨W0, hW0⟩ : ∃ W0, (w.alloc (.cells #[.slice none 0 0] 24)).alloc (.cells #[.slice A len cap] 24) = W0 := ⟨_, rfl⟩
  rw [hW0] at bO bS hB0 hsz ⊢
  clear hW0
  have hgl := hr.2.2.2.1.1
  have R := hr.below hB0
  clear hr
  refine wpIn_rangeFunc_ownH hro h1 (gf := 49) (lb := #[.pointer (some ⟨w.heap.size + 1, 0, none⟩)]) rfl h5 (enters_of Try.func49 (by kernel_rfl) rfl)
    (backward_stops F (n - 1) h5 hro (by omega) (w.heap.size + 1) w.heap.size A len cap cs W0 (by omega) (by omega) bS.cell R) KpB.trans (kpB_b (by omega) (by omega)) (Below.refl _ _) (fun _ => rfl)
    (fun (pre : List (Nat × Ch)) W => ((∃ v, Boxed W w.heap.size 24 v ∧ W.ownsRow w.heap.size 55 4 v pre.length (flatH (pre.map fun x => turnC x.2)) ∧ True) ∧ Boxed W (w.heap.size + 1) 24 (.slice A len cap)) ∧ Below w.heap.size w W)
    (fun _ _ _ => False)
    (OwnFrom.and (OwnFrom.and (Go.Own.from (holdsRow_own w.heap.size w.heap.size 24 55 4 (fun (pre : List (Nat × Ch)) => pre.length) (fun (pre : List (Nat × Ch)) => flatH (pre.map fun x => turnC x.2)) (fun _ _ => True)) _) (Go.Own.from (boxed_own _ _ _) _)) (ownFrom_below (Nat.le_refl _) (by omega)))
    (fun _ _ _ _ _ hs _ _ => hs)
    ⟨⟨⟨_, bO, World.ownsRow_nil _ _ _ _, trivial⟩, bS⟩, hB0⟩
    (fun x a' W => ∃ Bx v, w.heap.size + 1 < Bx ∧ Boxed W w.heap.size 24 v ∧ v.ownBlock ≠ some Bx ∧ Blk W Bx 55 #[.int .i64 x.2.kind, .string x.2.name, .int .i64 x.2.was, .int .i64 x.2.will] ∧ a' = { tmps := #[.slice A len cap, undef, .slice none 0 0, .pointer (some ⟨w.heap.size, 0, none⟩), undef, .pointer (some ⟨Bx, 0, none⟩), .slice A len cap, .func (.func 49) #[] #[.pointer (some ⟨w.heap.size + 1, 0, none⟩)], .int .i64 (x.1 : Int), chV x.2, undef, undef, undef, undef, undef, undef, undef, undef, undef, undef, undef, undef, undef, undef, undef, undef, undef, undef, undef, undef], defers := [] })
    (fun x a' _ X Y row hs hg hr => by obtain ⟨Bx, v, h1, h2, h3, h4, h5⟩ := hs; exact ⟨Bx, v, h1, boxed_own _ _ (fun (_ : Unit) => v) () X Y row h2 hg (fun r e => (hr r e).2), h3, blk_own Bx _ (fun (_ : Unit) => #[Value.int .i64 x.2.kind, .string x.2.name, .int .i64 x.2.was, .int .i64 x.2.will]) () X Y row h4 hg (fun r e => (hr r e).2), h5⟩)
    ?assign ?body ?done ?stop
  case assign =>
    rintro l pre x W K ⟨⟨⟨v, hv, hrow, _⟩, bS1⟩, hB1⟩ hK
    gi_wp2
    refine hK _ _ ((KeepsOthers.alloc _ _).from _) ⟨(Below.refl _ W).alloc hB1.size _, Below.heap_alloc W _ _ bS1.lt⟩ ⟨⟨⟨v, hv.alloc _, hrow.alloc _, trivial⟩, bS1.alloc _⟩, hB1.alloc hB1.size _⟩ ⟨W.heap.size, v, bS1.lt, hv.alloc _, fun e => by have := (World.ownsRow.lt hrow _ e).2; omega, blk1 W _ _, rfl⟩
  case body =>
    rintro l pre ⟨j, ⟨k, s, y, z⟩⟩ a' W hl ⟨r, hr⟩ ⟨⟨⟨v, hv, hrow, _⟩, bS1⟩, hB1⟩ ⟨Bx, v', hBx, hv', hne, bX, rfl⟩ hlt
    obtain rfl : v' = v := by have h1 := hv'.cell; have h2 := hv.cell; rw [h1] at h2; exact Option.some.inj h2
    clear hv'
    have hv0 : Blk W w.heap.size 24 #[v'] := hv
    have bS0 : Blk W (w.heap.size + 1) 24 #[.slice A len cap] := bS1
    have row0 : W.ownsRow w.heap.size 55 4 v' pre.length (flatH (pre.map fun x => turnC x.2)) := hrow
    have hnB : w.heap.size ≠ Bx := by omega
    have hnS : w.heap.size + 1 ≠ Bx := by omega
    have hsW := hB1.size
    have c0 : W.cell? ⟨Bx, 0, none⟩ = some (.int .i64 k) := bX.cell 0
    have hpl1 : pre.length + 1 ≤ 3518437208883 := by omega
    have z0 := bX.frozen 0
    dsimp only at bX
    clear hv hrow hlt hr
    by_cases hk0 : k = 0
    · subst hk0
      have b0 : Blk (W.setCell ⟨Bx, 0, none⟩ (.int .i64 1)) Bx 55 #[.int .i64 1, .string s, .int .i64 y, .int .i64 z] := bX.set_ 0 _
      have b1 : Blk (((W.setCell ⟨Bx, 0, none⟩ (.int .i64 1))).setCell ⟨Bx, 2, none⟩ (.int .i64 z)) Bx 55 #[.int .i64 1, .string s, .int .i64 z, .int .i64 z] := b0.set_ 2 _
      have b2 : Blk ((((W.setCell ⟨Bx, 0, none⟩ (.int .i64 1))).setCell ⟨Bx, 2, none⟩ (.int .i64 z)).setCell ⟨Bx, 3, none⟩ (.int .i64 y)) Bx 55 #[.int .i64 1, .string s, .int .i64 z, .int .i64 y] := b1.set_ 3 _
      have e2 : ((W.setCell ⟨Bx, 0, none⟩ (.int .i64 1))).cell? ⟨Bx, 2, none⟩ = some (.int .i64 y) := b0.cell 2
      have e3 : ((W.setCell ⟨Bx, 0, none⟩ (.int .i64 1))).cell? ⟨Bx, 3, none⟩ = some (.int .i64 z) := b0.cell 3
      have z2 := b0.frozen 2
      have z3 := b1.frozen 3
      have z4 := b0.frozen 3
      have z5 := bX.frozen 2
      have z6 := bX.frozen 3
      have g0 : ((((W.setCell ⟨Bx, 0, none⟩ (.int .i64 1))).setCell ⟨Bx, 2, none⟩ (.int .i64 z)).setCell ⟨Bx, 3, none⟩ (.int .i64 y)).cell? ⟨Bx, 0, none⟩ = some (.int .i64 1) := b2.cell 0
      have g1 : ((((W.setCell ⟨Bx, 0, none⟩ (.int .i64 1))).setCell ⟨Bx, 2, none⟩ (.int .i64 z)).setCell ⟨Bx, 3, none⟩ (.int .i64 y)).cell? ⟨Bx, 1, none⟩ = some (.string s) := b2.cell 1
      have g2 : ((((W.setCell ⟨Bx, 0, none⟩ (.int .i64 1))).setCell ⟨Bx, 2, none⟩ (.int .i64 z)).setCell ⟨Bx, 3, none⟩ (.int .i64 y)).cell? ⟨Bx, 2, none⟩ = some (.int .i64 z) := b2.cell 2
      have g3 : ((((W.setCell ⟨Bx, 0, none⟩ (.int .i64 1))).setCell ⟨Bx, 2, none⟩ (.int .i64 z)).setCell ⟨Bx, 3, none⟩ (.int .i64 y)).cell? ⟨Bx, 3, none⟩ = some (.int .i64 y) := b2.cell 3
      have hvA : Blk ((W.setCell ⟨Bx, 0, none⟩ (.int .i64 1))) w.heap.size 24 #[v'] := (hv0.far (p := ⟨Bx, 0, none⟩) hnB _)
      have bSA : Blk ((W.setCell ⟨Bx, 0, none⟩ (.int .i64 1))) (w.heap.size + 1) 24 #[.slice A len cap] := (bS0.far (p := ⟨Bx, 0, none⟩) hnS _)
      have rowA : World.ownsRow ((W.setCell ⟨Bx, 0, none⟩ (.int .i64 1))) w.heap.size 55 4 v' pre.length (flatH (pre.map fun x => turnC x.2)) := (rowFar (i := 0) row0 hne _)
      have hv2 := (hvA.far (p := ⟨Bx, 2, none⟩) hnB (.int .i64 z)).far (p := ⟨Bx, 3, none⟩) hnB (.int .i64 y)
      have bS2 := (bSA.far (p := ⟨Bx, 2, none⟩) hnS (.int .i64 z)).far (p := ⟨Bx, 3, none⟩) hnS (.int .i64 y)
      have row2 := rowFar (i := 3) (rowFar (i := 2) rowA hne (.int .i64 z)) hne (.int .i64 y)
      have hvc : ((((W.setCell ⟨Bx, 0, none⟩ (.int .i64 1))).setCell ⟨Bx, 2, none⟩ (.int .i64 z)).setCell ⟨Bx, 3, none⟩ (.int .i64 y)).cell? ⟨w.heap.size, 0, none⟩ = some v' := hv2.cell 0
      have koA : KeepsOthers W ((W.setCell ⟨Bx, 0, none⟩ (.int .i64 1))) := (KeepsOthers.setCell W _ _)
      have beA : Below w.heap.size W ((W.setCell ⟨Bx, 0, none⟩ (.int .i64 1))) := ((Below.refl w.heap.size W).setCell (p := ⟨Bx, 0, none⟩) (by simp; omega) _)
      have HX := Lib.hid (And.intro b2 (And.intro hv2 (And.intro bS2 (And.intro row2 (And.intro koA beA)))))
      clear b0 b1 b2 hv2 bS2 row2 hvA bSA rowA hv0 bS0 row0 bX koA beA
      have hnw : ∀ (j : Nat) (u : Value), [Value.int .i64 1, .string s, .int .i64 z, .int .i64 y][j]? = some u → (((((W.setCell ⟨Bx, 0, none⟩ (.int .i64 1))).setCell ⟨Bx, 2, none⟩ (.int .i64 z)).setCell ⟨Bx, 3, none⟩ (.int .i64 y)).alloc (.cells #[.int .i64 1, .string s, .int .i64 z, .int .i64 y] 55)).cell? ((⟨W.heap.size, 0, none⟩ : Addr).add j) = some u := by
        have h := newsH ((((W.setCell ⟨Bx, 0, none⟩ (.int .i64 1))).setCell ⟨Bx, 2, none⟩ (.int .i64 z)).setCell ⟨Bx, 3, none⟩ (.int .i64 y)) ⟨1, s, z, y⟩ 55
        rwa [show ((((W.setCell ⟨Bx, 0, none⟩ (.int .i64 1))).setCell ⟨Bx, 2, none⟩ (.int .i64 z)).setCell ⟨Bx, 3, none⟩ (.int .i64 y)).heap.size = W.heap.size from by simp] at h
      have HNW := Lib.hid hnw
      have hT : turnC ⟨0, s, y, z⟩ = ⟨1, s, z, y⟩ := by simp [turnC]
      have HT := Lib.hid hT
      clear hnw hT
      gi_wp2_with (gi_at_builtin; refine wpListIn_append_own _ rfl _ _ 24 rfl w.heap.size 55 i0 (.agg #[.int .i64 0, .string ByteArray.empty, .int .i64 0, .int .i64 0]) 4 40 Try.underlying24 hi hz0 hz1 hz2 rfl (by decide) _ _ _ rfl (World.ownsRow.alloc HX.out.2.2.2.1 _) ⟨W.heap.size, 0, none⟩ 1 1 [.int .i64 1, .string s, .int .i64 z, .int .i64 y] rfl rfl HNW.out (by simp [Value.oneCell']) (by unfold maxLen; omega) (by omega) (by simp; omega) ?_; intro v'' w1 hown' hgrow _; obtain ⟨g', cap', rfl⟩ := ownsRow_succ hown'; obtain ⟨hv1, hv2, hr2, hk2, hb2⟩ := Boxed.appended HX.out.2.1 (by decide) HX.out.2.2.2.1 (by simp; omega) (Nat.le_refl _) hown' hgrow; have hc1 := hv1.cell; have hf1 := hv1.frozen)
      obtain ⟨b2, hvA, bSA, rowA, koA, beA⟩ := HX.out
      have hsW2 := beA.size
      have bS3 : Boxed w1 (w.heap.size + 1) 24 (.slice A len cap) := (Boxed.alloc bSA _).kept hgrow (Boxed.not_row bSA (by decide) rowA)
      have bS4 := bS3.other (B' := w.heap.size) (by omega) (.slice (some ⟨g', 0, none⟩) (pre.length + 1) cap')
      exact ⟨((koA.trans (KeepsOthers.setCell _ _ _)).trans (KeepsOthers.setCell _ _ _) |>.trans hk2).from _, ⟨((beA.setCell (p := ⟨Bx, 2, none⟩) (by simp; omega) _).setCell (p := ⟨Bx, 3, none⟩) (by simp; omega) _).trans hb2, bS4.trans bS1.symm⟩, ⟨⟨_, hv2, by rw [List.map_append, List.length_append, flatH_append, List.map_singleton, HT.out]; exact hr2, trivial⟩, bS4⟩, hB1.trans (((beA.setCell (p := ⟨Bx, 2, none⟩) (by simp; omega) _).setCell (p := ⟨Bx, 3, none⟩) (by simp; omega) _).trans hb2)⟩
    by_cases hk1 : k = 1
    · subst hk1
      have b0 : Blk (W.setCell ⟨Bx, 0, none⟩ (.int .i64 0)) Bx 55 #[.int .i64 0, .string s, .int .i64 y, .int .i64 z] := bX.set_ 0 _
      have b1 : Blk (((W.setCell ⟨Bx, 0, none⟩ (.int .i64 0))).setCell ⟨Bx, 2, none⟩ (.int .i64 z)) Bx 55 #[.int .i64 0, .string s, .int .i64 z, .int .i64 z] := b0.set_ 2 _
      have b2 : Blk ((((W.setCell ⟨Bx, 0, none⟩ (.int .i64 0))).setCell ⟨Bx, 2, none⟩ (.int .i64 z)).setCell ⟨Bx, 3, none⟩ (.int .i64 y)) Bx 55 #[.int .i64 0, .string s, .int .i64 z, .int .i64 y] := b1.set_ 3 _
      have e2 : ((W.setCell ⟨Bx, 0, none⟩ (.int .i64 0))).cell? ⟨Bx, 2, none⟩ = some (.int .i64 y) := b0.cell 2
      have e3 : ((W.setCell ⟨Bx, 0, none⟩ (.int .i64 0))).cell? ⟨Bx, 3, none⟩ = some (.int .i64 z) := b0.cell 3
      have z2 := b0.frozen 2
      have z3 := b1.frozen 3
      have z4 := b0.frozen 3
      have z5 := bX.frozen 2
      have z6 := bX.frozen 3
      have g0 : ((((W.setCell ⟨Bx, 0, none⟩ (.int .i64 0))).setCell ⟨Bx, 2, none⟩ (.int .i64 z)).setCell ⟨Bx, 3, none⟩ (.int .i64 y)).cell? ⟨Bx, 0, none⟩ = some (.int .i64 0) := b2.cell 0
      have g1 : ((((W.setCell ⟨Bx, 0, none⟩ (.int .i64 0))).setCell ⟨Bx, 2, none⟩ (.int .i64 z)).setCell ⟨Bx, 3, none⟩ (.int .i64 y)).cell? ⟨Bx, 1, none⟩ = some (.string s) := b2.cell 1
      have g2 : ((((W.setCell ⟨Bx, 0, none⟩ (.int .i64 0))).setCell ⟨Bx, 2, none⟩ (.int .i64 z)).setCell ⟨Bx, 3, none⟩ (.int .i64 y)).cell? ⟨Bx, 2, none⟩ = some (.int .i64 z) := b2.cell 2
      have g3 : ((((W.setCell ⟨Bx, 0, none⟩ (.int .i64 0))).setCell ⟨Bx, 2, none⟩ (.int .i64 z)).setCell ⟨Bx, 3, none⟩ (.int .i64 y)).cell? ⟨Bx, 3, none⟩ = some (.int .i64 y) := b2.cell 3
      have hvA : Blk ((W.setCell ⟨Bx, 0, none⟩ (.int .i64 0))) w.heap.size 24 #[v'] := (hv0.far (p := ⟨Bx, 0, none⟩) hnB _)
      have bSA : Blk ((W.setCell ⟨Bx, 0, none⟩ (.int .i64 0))) (w.heap.size + 1) 24 #[.slice A len cap] := (bS0.far (p := ⟨Bx, 0, none⟩) hnS _)
      have rowA : World.ownsRow ((W.setCell ⟨Bx, 0, none⟩ (.int .i64 0))) w.heap.size 55 4 v' pre.length (flatH (pre.map fun x => turnC x.2)) := (rowFar (i := 0) row0 hne _)
      have hv2 := (hvA.far (p := ⟨Bx, 2, none⟩) hnB (.int .i64 z)).far (p := ⟨Bx, 3, none⟩) hnB (.int .i64 y)
      have bS2 := (bSA.far (p := ⟨Bx, 2, none⟩) hnS (.int .i64 z)).far (p := ⟨Bx, 3, none⟩) hnS (.int .i64 y)
      have row2 := rowFar (i := 3) (rowFar (i := 2) rowA hne (.int .i64 z)) hne (.int .i64 y)
      have hvc : ((((W.setCell ⟨Bx, 0, none⟩ (.int .i64 0))).setCell ⟨Bx, 2, none⟩ (.int .i64 z)).setCell ⟨Bx, 3, none⟩ (.int .i64 y)).cell? ⟨w.heap.size, 0, none⟩ = some v' := hv2.cell 0
      have koA : KeepsOthers W ((W.setCell ⟨Bx, 0, none⟩ (.int .i64 0))) := (KeepsOthers.setCell W _ _)
      have beA : Below w.heap.size W ((W.setCell ⟨Bx, 0, none⟩ (.int .i64 0))) := ((Below.refl w.heap.size W).setCell (p := ⟨Bx, 0, none⟩) (by simp; omega) _)
      have HX := Lib.hid (And.intro b2 (And.intro hv2 (And.intro bS2 (And.intro row2 (And.intro koA beA)))))
      clear b0 b1 b2 hv2 bS2 row2 hvA bSA rowA hv0 bS0 row0 bX koA beA
      have hnw : ∀ (j : Nat) (u : Value), [Value.int .i64 0, .string s, .int .i64 z, .int .i64 y][j]? = some u → (((((W.setCell ⟨Bx, 0, none⟩ (.int .i64 0))).setCell ⟨Bx, 2, none⟩ (.int .i64 z)).setCell ⟨Bx, 3, none⟩ (.int .i64 y)).alloc (.cells #[.int .i64 0, .string s, .int .i64 z, .int .i64 y] 55)).cell? ((⟨W.heap.size, 0, none⟩ : Addr).add j) = some u := by
        have h := newsH ((((W.setCell ⟨Bx, 0, none⟩ (.int .i64 0))).setCell ⟨Bx, 2, none⟩ (.int .i64 z)).setCell ⟨Bx, 3, none⟩ (.int .i64 y)) ⟨0, s, z, y⟩ 55
        rwa [show ((((W.setCell ⟨Bx, 0, none⟩ (.int .i64 0))).setCell ⟨Bx, 2, none⟩ (.int .i64 z)).setCell ⟨Bx, 3, none⟩ (.int .i64 y)).heap.size = W.heap.size from by simp] at h
      have HNW := Lib.hid hnw
      have hT : turnC ⟨1, s, y, z⟩ = ⟨0, s, z, y⟩ := by simp [turnC]
      have HT := Lib.hid hT
      clear hnw hT
      gi_wp2_with (gi_at_builtin; refine wpListIn_append_own _ rfl _ _ 24 rfl w.heap.size 55 i0 (.agg #[.int .i64 0, .string ByteArray.empty, .int .i64 0, .int .i64 0]) 4 40 Try.underlying24 hi hz0 hz1 hz2 rfl (by decide) _ _ _ rfl (World.ownsRow.alloc HX.out.2.2.2.1 _) ⟨W.heap.size, 0, none⟩ 1 1 [.int .i64 0, .string s, .int .i64 z, .int .i64 y] rfl rfl HNW.out (by simp [Value.oneCell']) (by unfold maxLen; omega) (by omega) (by simp; omega) ?_; intro v'' w1 hown' hgrow _; obtain ⟨g', cap', rfl⟩ := ownsRow_succ hown'; obtain ⟨hv1, hv2, hr2, hk2, hb2⟩ := Boxed.appended HX.out.2.1 (by decide) HX.out.2.2.2.1 (by simp; omega) (Nat.le_refl _) hown' hgrow; have hc1 := hv1.cell; have hf1 := hv1.frozen)
      obtain ⟨b2, hvA, bSA, rowA, koA, beA⟩ := HX.out
      have hsW2 := beA.size
      have bS3 : Boxed w1 (w.heap.size + 1) 24 (.slice A len cap) := (Boxed.alloc bSA _).kept hgrow (Boxed.not_row bSA (by decide) rowA)
      have bS4 := bS3.other (B' := w.heap.size) (by omega) (.slice (some ⟨g', 0, none⟩) (pre.length + 1) cap')
      exact ⟨((koA.trans (KeepsOthers.setCell _ _ _)).trans (KeepsOthers.setCell _ _ _) |>.trans hk2).from _, ⟨((beA.setCell (p := ⟨Bx, 2, none⟩) (by simp; omega) _).setCell (p := ⟨Bx, 3, none⟩) (by simp; omega) _).trans hb2, bS4.trans bS1.symm⟩, ⟨⟨_, hv2, by rw [List.map_append, List.length_append, flatH_append, List.map_singleton, HT.out]; exact hr2, trivial⟩, bS4⟩, hB1.trans (((beA.setCell (p := ⟨Bx, 2, none⟩) (by simp; omega) _).setCell (p := ⟨Bx, 3, none⟩) (by simp; omega) _).trans hb2)⟩
    · have b0 := bX
      have b1 : Blk ((W).setCell ⟨Bx, 2, none⟩ (.int .i64 z)) Bx 55 #[.int .i64 k, .string s, .int .i64 z, .int .i64 z] := b0.set_ 2 _
      have b2 : Blk (((W).setCell ⟨Bx, 2, none⟩ (.int .i64 z)).setCell ⟨Bx, 3, none⟩ (.int .i64 y)) Bx 55 #[.int .i64 k, .string s, .int .i64 z, .int .i64 y] := b1.set_ 3 _
      have e2 : (W).cell? ⟨Bx, 2, none⟩ = some (.int .i64 y) := b0.cell 2
      have e3 : (W).cell? ⟨Bx, 3, none⟩ = some (.int .i64 z) := b0.cell 3
      have z2 := b0.frozen 2
      have z3 := b1.frozen 3
      have z4 := b0.frozen 3
      have z5 := bX.frozen 2
      have z6 := bX.frozen 3
      have g0 : (((W).setCell ⟨Bx, 2, none⟩ (.int .i64 z)).setCell ⟨Bx, 3, none⟩ (.int .i64 y)).cell? ⟨Bx, 0, none⟩ = some (.int .i64 k) := b2.cell 0
      have g1 : (((W).setCell ⟨Bx, 2, none⟩ (.int .i64 z)).setCell ⟨Bx, 3, none⟩ (.int .i64 y)).cell? ⟨Bx, 1, none⟩ = some (.string s) := b2.cell 1
      have g2 : (((W).setCell ⟨Bx, 2, none⟩ (.int .i64 z)).setCell ⟨Bx, 3, none⟩ (.int .i64 y)).cell? ⟨Bx, 2, none⟩ = some (.int .i64 z) := b2.cell 2
      have g3 : (((W).setCell ⟨Bx, 2, none⟩ (.int .i64 z)).setCell ⟨Bx, 3, none⟩ (.int .i64 y)).cell? ⟨Bx, 3, none⟩ = some (.int .i64 y) := b2.cell 3
      have hvA : Blk (W) w.heap.size 24 #[v'] := hv0
      have bSA : Blk (W) (w.heap.size + 1) 24 #[.slice A len cap] := bS0
      have rowA : World.ownsRow (W) w.heap.size 55 4 v' pre.length (flatH (pre.map fun x => turnC x.2)) := row0
      have hv2 := (hvA.far (p := ⟨Bx, 2, none⟩) hnB (.int .i64 z)).far (p := ⟨Bx, 3, none⟩) hnB (.int .i64 y)
      have bS2 := (bSA.far (p := ⟨Bx, 2, none⟩) hnS (.int .i64 z)).far (p := ⟨Bx, 3, none⟩) hnS (.int .i64 y)
      have row2 := rowFar (i := 3) (rowFar (i := 2) rowA hne (.int .i64 z)) hne (.int .i64 y)
      have hvc : (((W).setCell ⟨Bx, 2, none⟩ (.int .i64 z)).setCell ⟨Bx, 3, none⟩ (.int .i64 y)).cell? ⟨w.heap.size, 0, none⟩ = some v' := hv2.cell 0
      have koA : KeepsOthers W (W) := (KeepsOthers.refl W)
      have beA : Below w.heap.size W (W) := (Below.refl w.heap.size W)
      have HX := Lib.hid (And.intro b2 (And.intro hv2 (And.intro bS2 (And.intro row2 (And.intro koA beA)))))
      clear b0 b1 b2 hv2 bS2 row2 hvA bSA rowA hv0 bS0 row0 bX koA beA
      have hnw : ∀ (j : Nat) (u : Value), [Value.int .i64 k, .string s, .int .i64 z, .int .i64 y][j]? = some u → ((((W).setCell ⟨Bx, 2, none⟩ (.int .i64 z)).setCell ⟨Bx, 3, none⟩ (.int .i64 y)).alloc (.cells #[.int .i64 k, .string s, .int .i64 z, .int .i64 y] 55)).cell? ((⟨W.heap.size, 0, none⟩ : Addr).add j) = some u := by
        have h := newsH (((W).setCell ⟨Bx, 2, none⟩ (.int .i64 z)).setCell ⟨Bx, 3, none⟩ (.int .i64 y)) ⟨k, s, z, y⟩ 55
        rwa [show (((W).setCell ⟨Bx, 2, none⟩ (.int .i64 z)).setCell ⟨Bx, 3, none⟩ (.int .i64 y)).heap.size = W.heap.size from by simp] at h
      have HNW := Lib.hid hnw
      have hT : turnC ⟨k, s, y, z⟩ = ⟨k, s, z, y⟩ := by simp [turnC, hk0, hk1]
      have HT := Lib.hid hT
      clear hnw hT
      gi_wp2_with (gi_at_builtin; refine wpListIn_append_own _ rfl _ _ 24 rfl w.heap.size 55 i0 (.agg #[.int .i64 0, .string ByteArray.empty, .int .i64 0, .int .i64 0]) 4 40 Try.underlying24 hi hz0 hz1 hz2 rfl (by decide) _ _ _ rfl (World.ownsRow.alloc HX.out.2.2.2.1 _) ⟨W.heap.size, 0, none⟩ 1 1 [.int .i64 k, .string s, .int .i64 z, .int .i64 y] rfl rfl HNW.out (by simp [Value.oneCell']) (by unfold maxLen; omega) (by omega) (by simp; omega) ?_; intro v'' w1 hown' hgrow _; obtain ⟨g', cap', rfl⟩ := ownsRow_succ hown'; obtain ⟨hv1, hv2, hr2, hk2, hb2⟩ := Boxed.appended HX.out.2.1 (by decide) HX.out.2.2.2.1 (by simp; omega) (Nat.le_refl _) hown' hgrow; have hc1 := hv1.cell; have hf1 := hv1.frozen)
      obtain ⟨b2, hvA, bSA, rowA, koA, beA⟩ := HX.out
      have hsW2 := beA.size
      have bS3 : Boxed w1 (w.heap.size + 1) 24 (.slice A len cap) := (Boxed.alloc bSA _).kept hgrow (Boxed.not_row bSA (by decide) rowA)
      have bS4 := bS3.other (B' := w.heap.size) (by omega) (.slice (some ⟨g', 0, none⟩) (pre.length + 1) cap')
      exact ⟨((koA.trans (KeepsOthers.setCell _ _ _)).trans (KeepsOthers.setCell _ _ _) |>.trans hk2).from _, ⟨((beA.setCell (p := ⟨Bx, 2, none⟩) (by simp; omega) _).setCell (p := ⟨Bx, 3, none⟩) (by simp; omega) _).trans hb2, bS4.trans bS1.symm⟩, ⟨⟨_, hv2, by rw [List.map_append, List.length_append, flatH_append, List.map_singleton, HT.out]; exact hr2, trivial⟩, bS4⟩, hB1.trans (((beA.setCell (p := ⟨Bx, 2, none⟩) (by simp; omega) _).setCell (p := ⟨Bx, 3, none⟩) (by simp; omega) _).trans hb2)⟩
  case done =>
    rintro D ys W hD rfl ⟨⟨⟨v, hv, hrow, _⟩, bS1⟩, hB1⟩ hK
    rw [backTo_length, backTo_all] at hrow
    have ho : OwnA W w.heap.size 55 v (turned cs) := by unfold OwnA; rw [turned_length]; exact hrow
    have hK2 := ownsRow_putObj hrow (.deferred none) hK rfl
    have ho2 : OwnA (W.putObj D (.deferred none)) w.heap.size 55 v (turned cs) := by unfold OwnA; rw [turned_length]; exact hK2
    obtain ⟨A', c', rfl, hn1, hc1⟩ := ho.cap
    have HO := Lib.hid ho2.toH.clip
    have hc := hv.cell
    rw [turned_length] at HO hn1 hc
    clear ho ho2 hrow hK2 hv bS1
    gi_wp2_with (gi_at_call 30; refine (clipH_in F (n - 1) h6 hro _ _ _ _ hn1 hc1).mono ?_; rintro e w' ⟨rfl, rfl⟩)
    refine ⟨by simp, .inl ⟨_, _, rfl, run_takeDeferred hK, ?_⟩⟩
    exact ⟨_, results_tmp rfl _ _ _, A', _, rfl, HO.out, hB1.trans (belowK_b (w := w) (Nat.le_refl _) W D _ _ (by omega) hK rfl rfl)⟩
  case stop =>
    rintro D c pre W _ _ h _
    exact h.elim
theorem turnI_any (A : Option Addr) (len cap : Nat) (cs : List Ch) (w : World) (hr : RdH w w.heap.size A len cap cs) :
    Calls Try.prog 10 #[.slice A len cap] w (TurnedI cs w) :=
  callsIn_wide.1 (turnI_in Fence.wide 3 trivial trivial trivial trivial rfl (by omega) A len cap cs w hr)
end Go.Proofs.Ytioheadchhkjmaa
