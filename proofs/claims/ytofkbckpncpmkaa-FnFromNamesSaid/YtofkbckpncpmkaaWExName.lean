/-
  The walks of ExactName, of the program's and of the reference's.
-/
import Derived.Test.YtofkbckpncpmkaaWFlag
namespace Go.Proofs.Ytofkbckpncpmkaa
open Go.RowKit

/-- A valid class has a value under a name; the first name of it, no text if there is none. -/
def hasFl (ds : List D) (z n : Int) : Bool := vFlag ds z && decide (0 ≤ ix (valueIs n) ds)
def exV (ds : List D) (z n : Int) : ByteArray := if hasFl ds z n then (nth ds (ix (valueIs n) ds).toNat).1 else ⟨#[]⟩
theorem hasFl_bad {ds : List D} {z : Int} (n : Int) (h : vFlag ds z = false) : hasFl ds z n = false ∧ exV ds z n = ⟨#[]⟩ := by
  have : hasFl ds z n = false := by simp [hasFl, h]
  exact ⟨this, by unfold exV; rw [this]; rfl⟩
theorem hasFl_no {ds : List D} {z n : Int} (h : ix (valueIs n) ds = -1) : hasFl ds z n = false ∧ exV ds z n = ⟨#[]⟩ := by
  have : hasFl ds z n = false := by simp [hasFl, h]
  exact ⟨this, by unfold exV; rw [this]; rfl⟩
theorem hasFl_yes {ds : List D} {z n : Int} {k : Nat} (hv : vFlag ds z = true) (h : ix (valueIs n) ds = k) : hasFl ds z n = true ∧ exV ds z n = (nth ds k).1 := by
  have h1 : hasFl ds z n = true := by simp [hasFl, h, hv]
  refine ⟨h1, ?_⟩
  unfold exV
  rw [h1, h]
  simp

set_option maxHeartbeats 1000000 in
theorem exactName_any (A : Option Addr) (n c : Nat) (ds : List D) (z : Int) (s : Int) (w : World) (hr : Rd w w.heap.size A n c ds) :
    Calls Try.prog 22 #[.agg #[.slice A n c, .int .i64 z], .int .i64 s] w fun e w' => e = .returned (.tuple #[.string (exV ds z s), .bool (hasFl ds z s)]) ∧ Below w.heap.size w w' := by
  have HR := Lib.hid hr
  have q0 := blk1 w #[.slice A n c, .int .i64 z] 25
  have b0 := below1 w (.cells #[.slice A n c, .int .i64 z] 25)
  have R0 := hr.to b0
  clear hr
  cases hv : vFlag ds z with
  | false =>
    obtain ⟨h1, h2⟩ := hasFl_bad s hv
    go_enter Try.func22, Try.ntmps22
    go_wp2_with fail
    refine (valued_any _ _ _ ds _ _ R0).mono ?_
    rintro e w1 ⟨rfl, hb1⟩
    have q1 := q0.below hb1 q0.lt
    have c1 := q1.cell 0
    have c2 := q1.cell 1
    have R1 := R0.to hb1
    go_wp2_with fail
    refine (validFlag_any _ _ _ ds _ _ R1).mono ?_
    rintro e w2 ⟨rfl, hb2⟩
    go_wp2
    go_ret2
    rw [h1, h2]
    exact ⟨rfl, Below.on (Below.on b0 hb1 b0.size) hb2 (Nat.le_trans b0.size hb1.size)⟩
  | true =>
    rcases ix_cases (valueIs s) ds with ⟨h, _⟩ | ⟨k, hk, h, _, _⟩
    · obtain ⟨h1, h2⟩ := hasFl_no (z := z) h
      go_enter Try.func22, Try.ntmps22
      go_wp2_with fail
      refine (valued_any _ _ _ ds _ _ R0).mono ?_
      rintro e w1 ⟨rfl, hb1⟩
      have q1 := q0.below hb1 q0.lt
      have c1 := q1.cell 0
      have c2 := q1.cell 1
      have R1 := R0.to hb1
      go_wp2_with fail
      refine (validFlag_any _ _ _ ds _ _ R1).mono ?_
      rintro e w2 ⟨rfl, hb2⟩
      go_wp2
      go_ret2
      rw [h1, h2]
      exact ⟨rfl, Below.on (Below.on b0 hb1 b0.size) hb2 (Nat.le_trans b0.size hb1.size)⟩
    · obtain ⟨h1, h2⟩ := hasFl_yes hv h
      have H2 := Lib.hid h2
      clear h2
      go_enter Try.func22, Try.ntmps22
      go_wp2_with fail
      refine (valued_any _ _ _ ds _ _ R0).mono ?_
      rintro e w1 ⟨rfl, hb1⟩
      have q1 := q0.below hb1 q0.lt
      have c1 := q1.cell 0
      have c2 := q1.cell 1
      have R1 := R0.to hb1
      go_wp2_with fail
      refine (validFlag_any _ _ _ ds _ _ R1).mono ?_
      rintro e w2 ⟨rfl, hb2⟩
      have q2 := q1.below hb2 q1.lt
      have c3 := q2.cell 0
      obtain ⟨hl, hn, hc, hg, ha⟩ := R1.to hb2
      have hkn : k < n := by omega
      obtain ⟨b, off, rfl, hbl, hcell⟩ := ha (by omega)
      obtain ⟨e0, e1⟩ := hcell k hkn
      clear hcell ha hg
      go_wp2
      go_ret2
      rw [h1, H2.out]
      exact ⟨rfl, Below.on (Below.on b0 hb1 b0.size) hb2 (Nat.le_trans b0.size hb1.size)⟩

set_option maxHeartbeats 1000000 in
theorem sexactName_any (A : Option Addr) (n c : Nat) (ds : List D) (z : Int) (s : Int) (w : World) (hr : Rd w w.heap.size A n c ds) :
    Calls Try.prog 23 #[.agg #[.slice A n c, .int .i64 z], .int .i64 s] w fun e w' => e = .returned (.tuple #[.string (exV ds z s), .bool (hasFl ds z s)]) ∧ Below w.heap.size w w' := by
  have HR := Lib.hid hr
  have q0 := blk1 w #[.slice A n c, .int .i64 z] 25
  have b0 := below1 w (.cells #[.slice A n c, .int .i64 z] 25)
  have R0 := hr.to b0
  clear hr
  cases hv : vFlag ds z with
  | false =>
    obtain ⟨h1, h2⟩ := hasFl_bad s hv
    go_enter Try.func23, Try.ntmps23
    go_wp2_with fail
    refine (valueAt_bel _ _ _ ds _ _ R0).mono ?_
    rintro e w1 ⟨rfl, hb1⟩
    have q1 := q0.below hb1 q0.lt
    have c1 := q1.cell 0
    have c2 := q1.cell 1
    have R1 := R0.to hb1
    go_wp2_with fail
    refine (svalidFlag_any _ _ _ ds _ _ R1).mono ?_
    rintro e w2 ⟨rfl, hb2⟩
    go_wp2
    go_ret2
    rw [h1, h2]
    exact ⟨rfl, Below.on (Below.on b0 hb1 b0.size) hb2 (Nat.le_trans b0.size hb1.size)⟩
  | true =>
    rcases ix_cases (valueIs s) ds with ⟨h, _⟩ | ⟨k, hk, h, _, _⟩
    · obtain ⟨h1, h2⟩ := hasFl_no (z := z) h
      go_enter Try.func23, Try.ntmps23
      go_wp2_with fail
      refine (valueAt_bel _ _ _ ds _ _ R0).mono ?_
      rintro e w1 ⟨rfl, hb1⟩
      have q1 := q0.below hb1 q0.lt
      have c1 := q1.cell 0
      have c2 := q1.cell 1
      have R1 := R0.to hb1
      go_wp2_with fail
      refine (svalidFlag_any _ _ _ ds _ _ R1).mono ?_
      rintro e w2 ⟨rfl, hb2⟩
      go_wp2
      go_ret2
      rw [h1, h2]
      exact ⟨rfl, Below.on (Below.on b0 hb1 b0.size) hb2 (Nat.le_trans b0.size hb1.size)⟩
    · obtain ⟨h1, h2⟩ := hasFl_yes hv h
      have H2 := Lib.hid h2
      clear h2
      go_enter Try.func23, Try.ntmps23
      go_wp2_with fail
      refine (valueAt_bel _ _ _ ds _ _ R0).mono ?_
      rintro e w1 ⟨rfl, hb1⟩
      have q1 := q0.below hb1 q0.lt
      have c1 := q1.cell 0
      have c2 := q1.cell 1
      have R1 := R0.to hb1
      go_wp2_with fail
      refine (svalidFlag_any _ _ _ ds _ _ R1).mono ?_
      rintro e w2 ⟨rfl, hb2⟩
      have q2 := q1.below hb2 q1.lt
      have c3 := q2.cell 0
      obtain ⟨hl, hn, hc, hg, ha⟩ := R1.to hb2
      have hkn : k < n := by omega
      obtain ⟨b, off, rfl, hbl, hcell⟩ := ha (by omega)
      obtain ⟨e0, e1⟩ := hcell k hkn
      clear hcell ha hg
      go_wp2
      go_ret2
      rw [h1, H2.out]
      exact ⟨rfl, Below.on (Below.on b0 hb1 b0.size) hb2 (Nat.le_trans b0.size hb1.size)⟩

end Go.Proofs.Ytofkbckpncpmkaa
