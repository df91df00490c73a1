/-
  The walks of the reader: newReader, pick, of, one.
-/
import Derived.Test.YtioheadchhkjmaaMemR
import Derived.Test.YtioheadchhkjmaaWName
namespace Go.Proofs.Ytioheadchhkjmaa
open Go.RowKit

/-- A number is drawn. -/
def Picked (m : Int) (w : World) (base g : Nat) (k : Nat) (e : Ending) (w' : World) : Prop :=
  ∃ v : Int, e = .returned (.int .i64 v) ∧ 0 ≤ v ∧ (1 ≤ m → v < m) ∧ Rdr w' base g 78 k ∧ w.grownBy w' (some g)

theorem xor_pos {a b : Int} (ha : 0 ≤ a) (ha' : a ≤ 9223372036854775807) (hb : 0 ≤ b) (hb' : b ≤ 9223372036854775807) : ∃ t : Nat, bits .xor .i64 a b = (t : Int) ∧ t < 9223372036854775808 := by
  have h1 : (BitVec.ofInt 64 a).toNat = a.toNat := by rw [BitVec.toNat_ofInt]; omega
  have h2 : (BitVec.ofInt 64 b).toNat = b.toNat := by rw [BitVec.toNat_ofInt]; omega
  have hx : a.toNat ^^^ b.toNat < 2 ^ 63 := Nat.xor_lt_two_pow (by omega) (by omega)
  refine ⟨a.toNat ^^^ b.toNat, ?_, hx⟩
  show IntKind.i64.wrap ((BitVec.ofInt 64 a ^^^ BitVec.ofInt 64 b).toNat : Int) = _
  rw [BitVec.toNat_xor, h1, h2, IntKind.wrap_i64]
  omega
set_option maxRecDepth 100000 in
set_option maxHeartbeats 4000000 in
theorem pick_any (base g k : Nat) (m : Int) (w : World) (hr : Rdr w base g 78 (k + 1)) :
    Calls Try.prog 50 #[.pointer (some ⟨g, 0, none⟩), .int .i64 m] w (Picked m w base g k) := by
  obtain ⟨h0, A, n, c, p, hn, hp, hB, hq⟩ := hr
  have c0 := hq.cell 0
  have c1 := hq.cell 1
  have f1 := hq.frozen 1
  have hp1 : p ≤ 1000000 := by omega
  have hnc := hB.1
  have hc := hB.2.1
  have q2 := hq.set_ 1 (.int .i64 ((p : Int) + 1))
  have hB2 := hB.keep (w' := w.setCell ⟨g, 1, none⟩ (.int .i64 ((p : Int) + 1))) (fun b o hlt => by
    have := Below.heap_setCell w ⟨g, 1, none⟩ (.int .i64 ((p : Int) + 1)) b (by simp; omega)
    simp only [World.cell?, this])
  have HG := Lib.hid (grown_set (World.grownBy.refl w (some g)) (i := 1) (.int .i64 ((p : Int) + 1)))
  have HR := Lib.hid (show Rdr (w.setCell ⟨g, 1, none⟩ (.int .i64 ((p : Int) + 1))) base g 78 k from ⟨h0, A, n, c, p + 1, hn, by omega, hB2, q2⟩)
  obtain ⟨W, hW⟩ : ∃ W, W = w.setCell ⟨g, 1, none⟩ (.int .i64 ((p : Int) + 1)) := ⟨_, rfl⟩
  rw [← hW] at q2 hB2 HG HR
  have d0 := q2.cell 0
  have d1 := q2.cell 1
  by_cases hm : m < 1
  · go_enter Try.func50, Try.ntmps50
    go_wp2
    go_ret
    exact ⟨0, rfl, by omega, by omega, by rw [← hW]; exact HR.out, by rw [← hW]; exact HG.out⟩
  by_cases hn0 : n = 0
  · subst hn0
    rw [hW] at d0 d1
    go_enter Try.func50, Try.ntmps50
    go_wp2
    go_ret
    exact ⟨0, rfl, by omega, by omega, by rw [← hW]; exact HR.out, by rw [← hW]; exact HG.out⟩
  obtain ⟨b, off, rfl, hbl, hcell⟩ := hB2.2.2 (by omega)
  by_cases hpn : p < n
  · obtain ⟨x, hx, x0, x1⟩ := hcell p hpn
    rw [hW] at d0 d1 hx
    go_enter Try.func50, Try.ntmps50
    go_wp2
    go_ret
    exact ⟨x % m, rfl, Int.emod_nonneg _ (by omega), fun _ => Int.emod_lt_of_pos _ (by omega), by rw [← hW]; exact HR.out, by rw [← hW]; exact HG.out⟩
  · obtain ⟨u, hu, hu1⟩ : ∃ u : Nat, (p : Int) % (n : Int) = u ∧ u < n := ⟨p % n, (Int.natCast_emod p n).symm, Nat.mod_lt _ (by omega)⟩
    obtain ⟨v, hv, hv1⟩ : ∃ v : Nat, ((p : Int) * 7 + 3) % (n : Int) = v ∧ v < n := ⟨(p * 7 + 3) % n, by rw [Int.natCast_emod]; push_cast; rfl, Nat.mod_lt _ (by omega)⟩
    obtain ⟨x, hx, x0, x1⟩ := hcell u hu1
    obtain ⟨y, hy, y0, y1⟩ := hcell v hv1
    have hq0 : 0 ≤ (p : Int) / (n : Int) := Int.ediv_nonneg (by omega) (by omega)
    have hq1 : (p : Int) / (n : Int) ≤ 1000000 := by
      have := Int.ediv_le_self (n : Int) (show (0 : Int) ≤ (p : Int) by omega)
      omega
    rw [hW] at d0 d1 hx hy
    clear hcell q2 hB2 hq hB c0
    go_enter Try.func50, Try.ntmps50
    go_wp2
    go_region
    have z0 : 0 ≤ x * 131 + y * 1117 + (p : Int) * 29 + (p : Int) / (n : Int) * 53 := by omega
    have z1 : x * 131 + y * 1117 + (p : Int) * 29 + (p : Int) / (n : Int) * 53 ≤ 9223372036854775807 := by omega
    generalize x * 131 + y * 1117 + (p : Int) * 29 + (p : Int) / (n : Int) * 53 = z at z0 z1 ⊢
    have z2 : 0 ≤ z / 64 := Int.ediv_nonneg z0 (by omega)
    have z3 : z / 64 ≤ 9223372036854775807 := by omega
    obtain ⟨t, ht, ht1⟩ := xor_pos z0 z1 z2 z3
    go_wp2
    go_ret
    exact ⟨(t : Int) % m, rfl, Int.emod_nonneg _ (by omega), fun _ => Int.emod_lt_of_pos _ (by omega), by rw [← hW]; exact HR.out.drew, by rw [← hW]; exact grown_drew HG.out⟩
end Go.Proofs.Ytioheadchhkjmaa
