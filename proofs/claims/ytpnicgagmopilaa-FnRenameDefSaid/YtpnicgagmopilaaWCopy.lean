/-
  The walks of copies of definitions that can be added to: copyDefs, dropped.
-/
import Derived.Test.YtpnicgagmopilaaMemC
import Derived.Test.YtpnicgagmopilaaWSDefs
import Derived.Maps.AppendAt
import Derived.Deep.RegionHeld3
import Derived.Deep.DrawnRows
namespace Go.Proofs.Ytpnicgagmopilaa
open Go.RowKit
attribute [local go_sem ↓] Go.wp_at_zero Go.wp_at_succ

theorem Try.infoDef5 : (Try.prog.info? 68).map (fun i => (i.zero, i.size, i.bytes)) = some (some (.agg #[.string ByteArray.empty, .int .i64 0]), 2, 24) := by kernel_rfl
theorem onesFlat (ds : List D) : ∀ u ∈ flat ds, u.oneCell' = true := by
  intro u hu
  unfold flat at hu
  obtain ⟨d, _, hd⟩ := List.mem_flatMap.1 hu
  simp at hd
  rcases hd with rfl | rfl <;> rfl
/-- append to a row of the call's own, at a step of a region that draws its order. -/
theorem step_append_own {P : Program} {w : World} {ops : Array Oper} {o : Oper} {a : Act} {K : Act → World → Prop} {Q : Exit → Act → World → Prop} {E : Prop} (hgd : o.guard = none) (s x : Operand) (t : TypeId)
    (ho : o.op = .call { callee := .builtin .append, args := #[s, x], argTypes := #[t, t] })
    (base : Nat) (e : TypeId) (i : TypeInfo) (z : Value) (size bytes : Nat) (ht : P.underlying t = some (.slice e)) (hi : P.info? e = some i) (hz : i.zero = some z)
    (hsize : i.size = size) (hby : i.bytes = bytes) (hzs : z.cells.size = size) (hsz : 0 < size)
    (v : Value) (n : Nat) (xs : List Value) (hs : a.eval s = v) (hown : w.ownsRow base e size v n xs)
    (ad : Addr) (m c : Nat) (news : List Value) (hx : a.eval x = .slice (some ad) m c) (hl : news.length = m * size) (hnews : ∀ j u, news[j]? = some u → w.cell? (ad.add j) = some u) (h1 : ∀ u ∈ news, u.oneCell' = true)
    (h63 : n + m ≤ maxLen) (hbytes : (n + m) * bytes ≤ 140737488355328) (hbase : base ≤ w.heap.size)
    (h : ∀ v' w', w'.ownsRow base e size v' (n + m) (xs ++ news) → w.grownBy w' v.ownBlock → (v' = .slice none 0 0 ↔ v = .slice none 0 0 ∧ m = 0) → K (a.put o.dst v') w') :
    if Region.wanted o (yielded ops a.tmps) = true then Oper.wp P o a w K Q else E := by
  have hw : Region.wanted o (yielded ops a.tmps) = true := by simp [Region.wanted, hgd]
  rw [if_pos hw]
  exact wp_append_own w s x t ho base e i z size bytes ht hi hz hsize hby hzs hsz v n xs hs hown ad m c news hx hl hnews h1 h63 hbytes hbase h
/-- A copy that can be added to has come out. -/
def CopiedO (ds : List D) (w : World) (e : Ending) (w' : World) : Prop :=
  ∃ v, e = .returned v ∧ Own w' w.heap.size 68 v ds ∧ Below w.heap.size w w'
theorem ownEmpty (w : World) (t : TypeId) : Own (w.alloc (.cells #[] t)) w.heap.size t (.slice (some ⟨w.heap.size, 0, none⟩) 0 0) [] := World.ownsRow_lit (size := 2) w #[] 0 (Nat.le_refl _) (by unfold maxLen; omega) rfl

set_option maxHeartbeats 1000000 in
theorem copyDefs_own (A : Option Addr) (n c : Nat) (ds : List D) (w : World) (hr : Rd w w.heap.size A n c ds) (hA : A = none → c = 0) :
    Calls Try.prog 75 #[.slice A n c] w (CopiedO ds w) := by
  have HG := Lib.hid hr.2.2.2.1
  have HL := Lib.hid hr.1
  have hgl := hr.2.2.2.1.1
  rw [hr.1] at hgl
  obtain ⟨i0, hi, hz0, hz1, hz2⟩ := info_parts Try.infoDef5
  have HI := Lib.hid hi
  have HZ0 := Lib.hid hz0
  have HZ1 := Lib.hid hz1
  have HZ2 := Lib.hid hz2
  clear hi hz0 hz1 hz2
  have o0 : (w.alloc (.cells #[] 68)).ownsRow w.heap.size 68 2 (.slice (some ⟨w.heap.size, 0, none⟩) 0 0) 0 [] := ownEmpty w 68
  have b0 := below1 w (.cells #[] 68)
  by_cases hn : 0 < n
  · obtain ⟨b, off, rfl, hbl, hcell⟩ := (hr.below b0).2.2.2.2 hn
    have HC := Lib.hid (rd_news hr.1 hcell)
    clear hcell hr hA
    go_enter Try.func75, Try.ntmps75
    go_wp2_with (at_builtin; refine wpList_append_own _ rfl _ _ 26 rfl w.heap.size 68 i0 (.agg #[.string ByteArray.empty, .int .i64 0]) 2 24 Try.underlying26 HI.out HZ0.out HZ1.out HZ2.out rfl (by decide) _ _ _ rfl o0 ⟨b, off, none⟩ n c (flat ds) rfl (by rw [flat_length, HL.out]) HC.out (onesFlat ds) (by unfold maxLen; omega) (by omega) (by simp) ?_; intro v' w3 hown3 hgrow _)
    have ho3 : Own w3 w.heap.size 68 v' ds := by
      unfold Own
      rw [HL.out]
      simpa using hown3
    have b3 := b0.grown hgrow (by simp) (fun i hi => (World.ownsRow.lt o0 i hi).1)
    go_wp2
    go_ret
    exact ⟨v', rfl, ho3, b3⟩
  · obtain rfl : n = 0 := by omega
    obtain rfl : ds = [] := List.eq_nil_of_length_eq_zero HL.out
    cases A with
    | none =>
      obtain rfl := hA rfl
      clear hr hA
      go_enter Try.func75, Try.ntmps75
      go_wp2_with (at_builtin; refine wpList_append_own_none rfl _ _ 26 rfl w.heap.size 68 i0 2 Try.underlying26 HI.out _ _ _ rfl o0 rfl ?_)
      go_wp2
      go_ret
      exact ⟨_, rfl, ownEmpty w 68, b0⟩
    | some a =>
      clear hr hA
      go_enter Try.func75, Try.ntmps75
      go_wp2_with (at_builtin; refine wpList_append_own _ rfl _ _ 26 rfl w.heap.size 68 i0 (.agg #[.string ByteArray.empty, .int .i64 0]) 2 24 Try.underlying26 HI.out HZ0.out HZ1.out HZ2.out rfl (by decide) _ _ _ rfl o0 a 0 c [] rfl rfl (by intro j u hu; simp at hu) (by simp) (by unfold maxLen; omega) (by omega) (by simp) ?_; intro v' w3 hown3 hgrow _)
      have ho3 : Own w3 w.heap.size 68 v' [] := hown3
      have b3 := b0.grown hgrow (by simp) (fun i hi => (World.ownsRow.lt o0 i hi).1)
      go_wp2
      go_ret
      exact ⟨v', rfl, ho3, b3⟩

theorem nth_append_lt {xs ys : List D} {i : Nat} (h : i < xs.length) : nth (xs ++ ys) i = nth xs i := by
  unfold nth; simp [List.getElem?_append_left h]
theorem nth_drop {ds : List D} {k i : Nat} : nth (ds.drop k) i = nth ds (k + i) := by
  unfold nth; simp [List.getD_eq_getElem?_getD]
set_option maxHeartbeats 4000000 in
theorem dropped_own (b off n c k : Nat) (ds : List D) (hk : k < n) (w : World) (hr : Rd w w.heap.size (some ⟨b, off, none⟩) n c ds) :
    Calls Try.prog 89 #[.slice (some ⟨b, off, none⟩) n c, .int .i64 k] w (CopiedO (ds.take k ++ ds.drop (k + 1)) w) := by
  have HG := Lib.hid hr.2.2.2.1
  have HL := Lib.hid hr.1
  have hgl := hr.2.2.2.1.1
  rw [hr.1] at hgl
  have hn1 := hr.2.1
  have hc1 := hr.2.2.1
  obtain ⟨i0, hi, hz0, hz1, hz2⟩ := info_parts Try.infoDef5
  have HI := Lib.hid hi
  have HZ0 := Lib.hid hz0
  have HZ1 := Lib.hid hz1
  have HZ2 := Lib.hid hz2
  clear hi hz0 hz1 hz2
  have RT := hr.take (k := k) (by omega)
  obtain ⟨b', off', he, hbl, hcell⟩ := hr.2.2.2.2 (by omega)
  simp only [Option.some.injEq, Addr.mk.injEq, and_true] at he
  obtain ⟨rfl, rfl⟩ := he
  have HC := Lib.hid hcell
  have i0' : (0 : Int) ≤ (k : Int) := by omega
  have i1 : (k : Int) ≤ (c : Int) := by omega
  have i2 : IntKind.i64.wrap ((k : Int) + 1) = (k : Int) + 1 := by rw [IntKind.wrap_i64]; omega
  have i3 : (0 : Int) ≤ (k : Int) + 1 := by omega
  have i4 : (k : Int) + 1 ≤ (n : Int) := by omega
  have i5 : ((k : Int) + 1).toNat = k + 1 := by omega
  clear hr hcell
  by_cases hck : c = k + 1
  · subst hck
    obtain rfl : n = k + 1 := by omega
    have i6 : (k : Int) ≤ (k : Int) + 1 := by omega
    have h0 : ds.drop (k + 1) = [] := List.drop_eq_nil_of_le (by rw [HL.out]; omega)
    have H0 := Lib.hid h0
    clear h0 HC
    go_enter Try.func89, Try.ntmps89
    go_wp2_with fail
    go_region_held3 (fun _ => True) (trivial)
      (first
        | (go_at_call 75; refine (copyDefs_own _ _ _ (ds.take k) _ RT.drew (fun h => by cases h)).mono ?_; rintro e w1 ⟨v1, rfl, ho, hb⟩; have hlt1 : w.heap.size ≤ w1.heap.size := hb.size; obtain ⟨A1, c1, rfl⟩ := ho.form; have hlk : (ds.take k).length = k := (by rw [List.length_take, HL.out]; omega); rw [hlk])
        | (refine step_append_own (by rfl) _ _ 26 (by rfl) w.heap.size 68 i0 (.agg #[.string ByteArray.empty, .int .i64 0]) 2 24 Try.underlying26 HI.out HZ0.out HZ1.out HZ2.out rfl (by decide) (.slice A1 k c1) k (flat (ds.take k)) (by rfl) (by have h := ho; unfold Own at h; rw [hlk] at h; exact h) ⟨b, off, none⟩ 0 0 [] (by rfl) rfl (fun j u hu => by simp at hu) (by simp) (by unfold maxLen; omega) (by omega) hlt1 ?_; intro v' w2 hown hgrow _))
    go_wp2
    go_ret
    refine ⟨v', rfl, ?_, ?_⟩
    · unfold Own
      rw [H0.out, List.append_nil, hlk]
      simpa using hown
    · exact ((Below.refl w.heap.size w).drew.trans (show Below w.heap.size w.drew w1 from hb)).grown hgrow hlt1 (fun i hi => by rw [hlk] at ho; exact (World.ownsRow.lt ho i hi).1)
  · have hck' : ¬ c = k + 1 := hck
    have HN : ∀ (j : Nat) (u : Value), (flat (ds.drop (k + 1)))[j]? = some u → w.cell? ((⟨b, off + (k + 1) * 2, none⟩ : Addr).add j) = some u := fun j u hu => by
      have h := rd_news (w := w) (b := b) (off := off + (k + 1) * 2) (n := n - (k + 1)) (ds := ds.drop (k + 1)) (by rw [List.length_drop, HL.out]) (fun i hi => by
        rw [nth_drop, show off + (k + 1) * 2 + i * 2 = off + (k + 1 + i) * 2 from by omega]
        exact HC.out (k + 1 + i) (by omega))
      exact h j u hu
    have HNN := Lib.hid HN
    clear HN HC
    go_enter Try.func89, Try.ntmps89
    go_wp2_with fail
    go_region_held3 (fun _ => True) (trivial)
      (first
        | (go_at_call 75; refine (copyDefs_own _ _ _ (ds.take k) _ RT.drew (fun h => by cases h)).mono ?_; rintro e w1 ⟨v1, rfl, ho, hb⟩; have hlt1 : w.heap.size ≤ w1.heap.size := hb.size; obtain ⟨A1, c1, rfl⟩ := ho.form; have hlk : (ds.take k).length = k := (by rw [List.length_take, HL.out]; omega); rw [hlk])
        | (refine step_append_own (by rfl) _ _ 26 (by rfl) w.heap.size 68 i0 (.agg #[.string ByteArray.empty, .int .i64 0]) 2 24 Try.underlying26 HI.out HZ0.out HZ1.out HZ2.out rfl (by decide) (.slice A1 k c1) k (flat (ds.take k)) (by rfl) (by have h := ho; unfold Own at h; rw [hlk] at h; exact h) ⟨b, off + (k + 1) * 2, none⟩ (n - (k + 1)) (c - (k + 1)) (flat (ds.drop (k + 1))) (by rfl) (by rw [flat_length, List.length_drop, HL.out]) (fun j u hu => by rw [add_addr]; exact (hb.cell (p := ⟨b, off + (k + 1) * 2 + j, none⟩) hbl).trans (by rw [← add_addr]; exact HNN.out j u hu)) (onesFlat _) (by unfold maxLen; omega) (by omega) hlt1 ?_; intro v' w2 hown hgrow _))
    go_wp2
    go_ret
    refine ⟨v', rfl, ?_, ?_⟩
    · unfold Own
      rw [flat_append, List.length_append, List.length_drop, hlk, HL.out]
      exact hown
    · exact ((Below.refl w.heap.size w).drew.trans (show Below w.heap.size w.drew w1 from hb)).grown hgrow hlt1 (fun i hi => by rw [hlk] at ho; exact (World.ownsRow.lt ho i hi).1)
end Go.Proofs.Ytpnicgagmopilaa
