/-
  The walks of copies of definitions that can be added to: copyDefs, dropped.
-/
import Derived.Test.YtioheadchhkjmaaMemC
import Derived.Test.YtioheadchhkjmaaWSDefs
import Derived.Maps.AppendAt
import Derived.Deep.RegionHeld3
import Derived.Deep.DrawnRows
namespace Go.Proofs.Ytioheadchhkjmaa
open Go.RowKit
attribute [local go_sem ↓] Go.wp_at_zero Go.wp_at_succ

theorem Try.infoDef5 : (Try.prog.info? 46).map (fun i => (i.zero, i.size, i.bytes)) = some (some (.agg #[.string ByteArray.empty, .int .i64 0]), 2, 24) := by kernel_rfl
theorem onesFlat (ds : List D) : ∀ u ∈ flat ds, u.oneCell' = true := by
  intro u hu
  unfold flat at hu
  obtain ⟨d, _, hd⟩ := List.mem_flatMap.1 hu
  simp at hd
  rcases hd with rfl | rfl <;> rfl
/-- append to a row of the call's own, at a step of a region that draws its order. -/
theorem step_append_own {P : Program} {w : World} {ops : Array Oper} {o : Oper} {a : Act} {K : Act → World → Prop} {Q : Exit → Act → World → Prop} {E : Prop} (hgd : o.guard = none) (s x : Operand) (t : TypeId)
    (ho : o.op = .call { callee := .builtin .append, args := #[s, x], argTypes := #[t, t] })
    (base : Nat) (e : TypeId) (i : TypeInfo) (z : Value) (size bytes : Nat) (ht : P.underlying t = some (.slice e)) (hi : P.info? e = some i) (hz : i.zero = some z)
    (hsize : i.size = size) (hby : i.bytes = bytes) (hzs : z.cells.size = size) (hsz : 0 < size)
    (v : Value) (n : Nat) (xs : List Value) (hs : a.eval s = v) (hown : w.ownsRow base e size v n xs)
    (ad : Addr) (m c : Nat) (news : List Value) (hx : a.eval x = .slice (some ad) m c) (hl : news.length = m * size) (hnews : ∀ j u, news[j]? = some u → w.cell? (ad.add j) = some u) (h1 : ∀ u ∈ news, u.oneCell' = true)
    (h63 : n + m ≤ maxLen) (hbytes : (n + m) * bytes ≤ 140737488355328) (hbase : base ≤ w.heap.size)
    (h : ∀ v' w', w'.ownsRow base e size v' (n + m) (xs ++ news) → w.grownBy w' v.ownBlock → (v' = .slice none 0 0 ↔ v = .slice none 0 0 ∧ m = 0) → K (a.put o.dst v') w') :
    if Region.wanted o (yielded ops a.tmps) = true then Oper.wp P o a w K Q else E := by
  have hw : Region.wanted o (yielded ops a.tmps) = true := by simp [Region.wanted, hgd]
  rw [if_pos hw]
  exact wp_append_own w s x t ho base e i z size bytes ht hi hz hsize hby hzs hsz v n xs hs hown ad m c news hx hl hnews h1 h63 hbytes hbase h
/-- A copy that can be added to has come out. -/
def CopiedO (ds : List D) (w : World) (e : Ending) (w' : World) : Prop :=
  ∃ v, e = .returned v ∧ Own w' w.heap.size 46 v ds ∧ Below w.heap.size w w'
theorem ownEmpty (w : World) (t : TypeId) : Own (w.alloc (.cells #[] t)) w.heap.size t (.slice (some ⟨w.heap.size, 0, none⟩) 0 0) [] := World.ownsRow_lit (size := 2) w #[] 0 (Nat.le_refl _) (by unfold maxLen; omega) rfl

set_option maxHeartbeats 1000000 in
theorem copyDefs_own (A : Option Addr) (n c : Nat) (ds : List D) (w : World) (hr : Rd w w.heap.size A n c ds) (hA : A = none → c = 0) :
    Calls Try.prog 39 #[.slice A n c] w (CopiedO ds w) := by
  have HG := Lib.hid hr.2.2.2.1
  have HL := Lib.hid hr.1
  have hgl := hr.2.2.2.1.1
  rw [hr.1] at hgl
  obtain ⟨i0, hi, hz0, hz1, hz2⟩ := info_parts Try.infoDef5
  have HI := Lib.hid hi
  have HZ0 := Lib.hid hz0
  have HZ1 := Lib.hid hz1
  have HZ2 := Lib.hid hz2
  clear hi hz0 hz1 hz2
  have o0 : (w.alloc (.cells #[] 46)).ownsRow w.heap.size 46 2 (.slice (some ⟨w.heap.size, 0, none⟩) 0 0) 0 [] := ownEmpty w 46
  have b0 := below1 w (.cells #[] 46)
  by_cases hn : 0 < n
  · obtain ⟨b, off, rfl, hbl, hcell⟩ := (hr.below b0).2.2.2.2 hn
    have HC := Lib.hid (rd_news hr.1 hcell)
    clear hcell hr hA
    go_enter Try.func39, Try.ntmps39
    go_wp2_with (at_builtin; refine wpList_append_own _ rfl _ _ 40 rfl w.heap.size 46 i0 (.agg #[.string ByteArray.empty, .int .i64 0]) 2 24 Try.underlying40 HI.out HZ0.out HZ1.out HZ2.out rfl (by decide) _ _ _ rfl o0 ⟨b, off, none⟩ n c (flat ds) rfl (by rw [flat_length, HL.out]) HC.out (onesFlat ds) (by unfold maxLen; omega) (by omega) (by simp) ?_; intro v' w3 hown3 hgrow _)
    have ho3 : Own w3 w.heap.size 46 v' ds := by
      unfold Own
      rw [HL.out]
      simpa using hown3
    have b3 := b0.grown hgrow (by simp) (fun i hi => (World.ownsRow.lt o0 i hi).1)
    go_wp2
    go_ret
    exact ⟨v', rfl, ho3, b3⟩
  · obtain rfl : n = 0 := by omega
    obtain rfl : ds = [] := List.eq_nil_of_length_eq_zero HL.out
    cases A with
    | none =>
      obtain rfl := hA rfl
      clear hr hA
      go_enter Try.func39, Try.ntmps39
      go_wp2_with (at_builtin; refine wpList_append_own_none rfl _ _ 40 rfl w.heap.size 46 i0 2 Try.underlying40 HI.out _ _ _ rfl o0 rfl ?_)
      go_wp2
      go_ret
      exact ⟨_, rfl, ownEmpty w 46, b0⟩
    | some a =>
      clear hr hA
      go_enter Try.func39, Try.ntmps39
      go_wp2_with (at_builtin; refine wpList_append_own _ rfl _ _ 40 rfl w.heap.size 46 i0 (.agg #[.string ByteArray.empty, .int .i64 0]) 2 24 Try.underlying40 HI.out HZ0.out HZ1.out HZ2.out rfl (by decide) _ _ _ rfl o0 a 0 c [] rfl rfl (by intro j u hu; simp at hu) (by simp) (by unfold maxLen; omega) (by omega) (by simp) ?_; intro v' w3 hown3 hgrow _)
      have ho3 : Own w3 w.heap.size 46 v' [] := hown3
      have b3 := b0.grown hgrow (by simp) (fun i hi => (World.ownsRow.lt o0 i hi).1)
      go_wp2
      go_ret
      exact ⟨v', rfl, ho3, b3⟩

theorem nth_append_lt {xs ys : List D} {i : Nat} (h : i < xs.length) : nth (xs ++ ys) i = nth xs i := by
  unfold nth; simp [List.getElem?_append_left h]
theorem nth_drop {ds : List D} {k i : Nat} : nth (ds.drop k) i = nth ds (k + i) := by
  unfold nth; simp [List.getD_eq_getElem?_getD]
end Go.Proofs.Ytioheadchhkjmaa
