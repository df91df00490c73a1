/-
  The walks of ValueOf and NameOf, of the program's and of the reference's.
-/
import Derived.Test.YtpnicgagmopilaaWSDefs
import Derived.Test.YtpnicgagmopilaaPlainE
namespace Go.Proofs.Ytpnicgagmopilaa
open Go.RowKit

theorem vEnum_out (ds : List D) : vDefs ds (-1000) 1000 = vEnum ds := rfl

set_option maxHeartbeats 1000000 in
theorem valueOf_any (A : Option Addr) (n c : Nat) (ds : List D) (s : ByteArray) (w : World) (hr : Rd w w.heap.size A n c ds) :
    Calls Try.prog 21 #[.agg #[.slice A n c], .string s] w fun e w' => e = .returned (.tuple #[.int .i64 (valV ds s), .bool (hasName ds s)]) ∧ Below w.heap.size w w' := by
  have HR := Lib.hid hr
  have q0 := blk1 w #[.slice A n c] 28
  have b0 := below1 w (.cells #[.slice A n c] 28)
  have R0 := hr.to b0
  clear hr
  cases hv : vDefs ds (-1000) 1000 with
  | false =>
    obtain ⟨h1, h2⟩ := hasName_bad s hv
    go_enter Try.func21, Try.ntmps21
    go_wp2_with fail
    refine (named_any _ _ _ ds _ _ R0).mono ?_
    rintro e w1 ⟨rfl, hb1⟩
    have q1 := q0.below hb1 q0.lt
    have c1 := q1.cell 0
    have R1 := R0.to hb1
    go_wp2_with fail
    refine (validEnum_any _ _ _ ds _ R1).mono ?_
    rintro e w2 ⟨rfl, hb2⟩
    go_wp2
    go_ret2
    rw [h1, h2]
    exact ⟨rfl, Below.on (Below.on b0 hb1 b0.size) hb2 (Nat.le_trans b0.size hb1.size)⟩
  | true =>
    rcases ix_cases (nameIs s) ds with ⟨h, _⟩ | ⟨k, hk, h, _, _⟩
    · obtain ⟨h1, h2⟩ := hasName_no h
      go_enter Try.func21, Try.ntmps21
      go_wp2_with fail
      refine (named_any _ _ _ ds _ _ R0).mono ?_
      rintro e w1 ⟨rfl, hb1⟩
      have q1 := q0.below hb1 q0.lt
      have c1 := q1.cell 0
      have R1 := R0.to hb1
      go_wp2_with fail
      refine (validEnum_any _ _ _ ds _ R1).mono ?_
      rintro e w2 ⟨rfl, hb2⟩
      go_wp2
      go_ret2
      rw [h1, h2]
      exact ⟨rfl, Below.on (Below.on b0 hb1 b0.size) hb2 (Nat.le_trans b0.size hb1.size)⟩
    · obtain ⟨h1, h2⟩ := hasName_yes (show vEnum ds = true from hv) h
      have H2 := Lib.hid h2
      clear h2
      go_enter Try.func21, Try.ntmps21
      go_wp2_with fail
      refine (named_any _ _ _ ds _ _ R0).mono ?_
      rintro e w1 ⟨rfl, hb1⟩
      have q1 := q0.below hb1 q0.lt
      have c1 := q1.cell 0
      have R1 := R0.to hb1
      go_wp2_with fail
      refine (validEnum_any _ _ _ ds _ R1).mono ?_
      rintro e w2 ⟨rfl, hb2⟩
      have q2 := q1.below hb2 q1.lt
      have c2 := q2.cell 0
      obtain ⟨hl, hn, hc, hg, ha⟩ := R1.to hb2
      have hkn : k < n := by omega
      obtain ⟨b, off, rfl, hbl, hcell⟩ := ha (by omega)
      obtain ⟨e0, e1⟩ := hcell k hkn
      clear hcell ha hg
      go_wp2
      go_ret2
      rw [h1, H2.out]
      exact ⟨rfl, Below.on (Below.on b0 hb1 b0.size) hb2 (Nat.le_trans b0.size hb1.size)⟩

set_option maxHeartbeats 1000000 in
theorem svalueOf_any (A : Option Addr) (n c : Nat) (ds : List D) (s : ByteArray) (w : World) (hr : Rd w w.heap.size A n c ds) :
    Calls Try.prog 24 #[.agg #[.slice A n c], .string s] w fun e w' => e = .returned (.tuple #[.int .i64 (valV ds s), .bool (hasName ds s)]) ∧ Below w.heap.size w w' := by
  have HR := Lib.hid hr
  have q0 := blk1 w #[.slice A n c] 28
  have b0 := below1 w (.cells #[.slice A n c] 28)
  have R0 := hr.to b0
  clear hr
  cases hv : vDefs ds (-1000) 1000 with
  | false =>
    obtain ⟨h1, h2⟩ := hasName_bad s hv
    go_enter Try.func24, Try.ntmps24
    go_wp2_with fail
    refine (indexOf_bel _ _ _ ds _ _ R0).mono ?_
    rintro e w1 ⟨rfl, hb1⟩
    have q1 := q0.below hb1 q0.lt
    have c1 := q1.cell 0
    have R1 := R0.to hb1
    go_wp2_with fail
    refine (svalidEnum_any _ _ _ ds _ R1).mono ?_
    rintro e w2 ⟨rfl, hb2⟩
    go_wp2
    go_ret2
    rw [h1, h2]
    exact ⟨rfl, Below.on (Below.on b0 hb1 b0.size) hb2 (Nat.le_trans b0.size hb1.size)⟩
  | true =>
    rcases ix_cases (nameIs s) ds with ⟨h, _⟩ | ⟨k, hk, h, _, _⟩
    · obtain ⟨h1, h2⟩ := hasName_no h
      go_enter Try.func24, Try.ntmps24
      go_wp2_with fail
      refine (indexOf_bel _ _ _ ds _ _ R0).mono ?_
      rintro e w1 ⟨rfl, hb1⟩
      have q1 := q0.below hb1 q0.lt
      have c1 := q1.cell 0
      have R1 := R0.to hb1
      go_wp2_with fail
      refine (svalidEnum_any _ _ _ ds _ R1).mono ?_
      rintro e w2 ⟨rfl, hb2⟩
      go_wp2
      go_ret2
      rw [h1, h2]
      exact ⟨rfl, Below.on (Below.on b0 hb1 b0.size) hb2 (Nat.le_trans b0.size hb1.size)⟩
    · obtain ⟨h1, h2⟩ := hasName_yes (show vEnum ds = true from hv) h
      have H2 := Lib.hid h2
      clear h2
      go_enter Try.func24, Try.ntmps24
      go_wp2_with fail
      refine (indexOf_bel _ _ _ ds _ _ R0).mono ?_
      rintro e w1 ⟨rfl, hb1⟩
      have q1 := q0.below hb1 q0.lt
      have c1 := q1.cell 0
      have R1 := R0.to hb1
      go_wp2_with fail
      refine (svalidEnum_any _ _ _ ds _ R1).mono ?_
      rintro e w2 ⟨rfl, hb2⟩
      have q2 := q1.below hb2 q1.lt
      have c2 := q2.cell 0
      obtain ⟨hl, hn, hc, hg, ha⟩ := R1.to hb2
      have hkn : k < n := by omega
      obtain ⟨b, off, rfl, hbl, hcell⟩ := ha (by omega)
      obtain ⟨e0, e1⟩ := hcell k hkn
      clear hcell ha hg
      go_wp2
      go_ret2
      rw [h1, H2.out]
      exact ⟨rfl, Below.on (Below.on b0 hb1 b0.size) hb2 (Nat.le_trans b0.size hb1.size)⟩

set_option maxHeartbeats 1000000 in
theorem nameOf_any (A : Option Addr) (n c : Nat) (ds : List D) (s : Int) (w : World) (hr : Rd w w.heap.size A n c ds) :
    Calls Try.prog 22 #[.agg #[.slice A n c], .int .i64 s] w fun e w' => e = .returned (.tuple #[.string (nameV ds s), .bool (hasVal ds s)]) ∧ Below w.heap.size w w' := by
  have HR := Lib.hid hr
  have q0 := blk1 w #[.slice A n c] 28
  have b0 := below1 w (.cells #[.slice A n c] 28)
  have R0 := hr.to b0
  clear hr
  cases hv : vDefs ds (-1000) 1000 with
  | false =>
    obtain ⟨h1, h2⟩ := hasVal_bad s hv
    go_enter Try.func22, Try.ntmps22
    go_wp2_with fail
    refine (valued_any _ _ _ ds _ _ R0).mono ?_
    rintro e w1 ⟨rfl, hb1⟩
    have q1 := q0.below hb1 q0.lt
    have c1 := q1.cell 0
    have R1 := R0.to hb1
    go_wp2_with fail
    refine (validEnum_any _ _ _ ds _ R1).mono ?_
    rintro e w2 ⟨rfl, hb2⟩
    go_wp2
    go_ret2
    rw [h1, h2]
    exact ⟨rfl, Below.on (Below.on b0 hb1 b0.size) hb2 (Nat.le_trans b0.size hb1.size)⟩
  | true =>
    rcases ix_cases (valueIs s) ds with ⟨h, _⟩ | ⟨k, hk, h, _, _⟩
    · obtain ⟨h1, h2⟩ := hasVal_no h
      go_enter Try.func22, Try.ntmps22
      go_wp2_with fail
      refine (valued_any _ _ _ ds _ _ R0).mono ?_
      rintro e w1 ⟨rfl, hb1⟩
      have q1 := q0.below hb1 q0.lt
      have c1 := q1.cell 0
      have R1 := R0.to hb1
      go_wp2_with fail
      refine (validEnum_any _ _ _ ds _ R1).mono ?_
      rintro e w2 ⟨rfl, hb2⟩
      go_wp2
      go_ret2
      rw [h1, h2]
      exact ⟨rfl, Below.on (Below.on b0 hb1 b0.size) hb2 (Nat.le_trans b0.size hb1.size)⟩
    · obtain ⟨h1, h2⟩ := hasVal_yes (show vEnum ds = true from hv) h
      have H2 := Lib.hid h2
      clear h2
      go_enter Try.func22, Try.ntmps22
      go_wp2_with fail
      refine (valued_any _ _ _ ds _ _ R0).mono ?_
      rintro e w1 ⟨rfl, hb1⟩
      have q1 := q0.below hb1 q0.lt
      have c1 := q1.cell 0
      have R1 := R0.to hb1
      go_wp2_with fail
      refine (validEnum_any _ _ _ ds _ R1).mono ?_
      rintro e w2 ⟨rfl, hb2⟩
      have q2 := q1.below hb2 q1.lt
      have c2 := q2.cell 0
      obtain ⟨hl, hn, hc, hg, ha⟩ := R1.to hb2
      have hkn : k < n := by omega
      obtain ⟨b, off, rfl, hbl, hcell⟩ := ha (by omega)
      obtain ⟨e0, e1⟩ := hcell k hkn
      clear hcell ha hg
      go_wp2
      go_ret2
      rw [h1, H2.out]
      exact ⟨rfl, Below.on (Below.on b0 hb1 b0.size) hb2 (Nat.le_trans b0.size hb1.size)⟩

set_option maxHeartbeats 1000000 in
theorem snameOf_any (A : Option Addr) (n c : Nat) (ds : List D) (s : Int) (w : World) (hr : Rd w w.heap.size A n c ds) :
    Calls Try.prog 26 #[.agg #[.slice A n c], .int .i64 s] w fun e w' => e = .returned (.tuple #[.string (nameV ds s), .bool (hasVal ds s)]) ∧ Below w.heap.size w w' := by
  have HR := Lib.hid hr
  have q0 := blk1 w #[.slice A n c] 28
  have b0 := below1 w (.cells #[.slice A n c] 28)
  have R0 := hr.to b0
  clear hr
  cases hv : vDefs ds (-1000) 1000 with
  | false =>
    obtain ⟨h1, h2⟩ := hasVal_bad s hv
    go_enter Try.func26, Try.ntmps26
    go_wp2_with fail
    refine (valueAt_bel _ _ _ ds _ _ R0).mono ?_
    rintro e w1 ⟨rfl, hb1⟩
    have q1 := q0.below hb1 q0.lt
    have c1 := q1.cell 0
    have R1 := R0.to hb1
    go_wp2_with fail
    refine (svalidEnum_any _ _ _ ds _ R1).mono ?_
    rintro e w2 ⟨rfl, hb2⟩
    go_wp2
    go_ret2
    rw [h1, h2]
    exact ⟨rfl, Below.on (Below.on b0 hb1 b0.size) hb2 (Nat.le_trans b0.size hb1.size)⟩
  | true =>
    rcases ix_cases (valueIs s) ds with ⟨h, _⟩ | ⟨k, hk, h, _, _⟩
    · obtain ⟨h1, h2⟩ := hasVal_no h
      go_enter Try.func26, Try.ntmps26
      go_wp2_with fail
      refine (valueAt_bel _ _ _ ds _ _ R0).mono ?_
      rintro e w1 ⟨rfl, hb1⟩
      have q1 := q0.below hb1 q0.lt
      have c1 := q1.cell 0
      have R1 := R0.to hb1
      go_wp2_with fail
      refine (svalidEnum_any _ _ _ ds _ R1).mono ?_
      rintro e w2 ⟨rfl, hb2⟩
      go_wp2
      go_ret2
      rw [h1, h2]
      exact ⟨rfl, Below.on (Below.on b0 hb1 b0.size) hb2 (Nat.le_trans b0.size hb1.size)⟩
    · obtain ⟨h1, h2⟩ := hasVal_yes (show vEnum ds = true from hv) h
      have H2 := Lib.hid h2
      clear h2
      go_enter Try.func26, Try.ntmps26
      go_wp2_with fail
      refine (valueAt_bel _ _ _ ds _ _ R0).mono ?_
      rintro e w1 ⟨rfl, hb1⟩
      have q1 := q0.below hb1 q0.lt
      have c1 := q1.cell 0
      have R1 := R0.to hb1
      go_wp2_with fail
      refine (svalidEnum_any _ _ _ ds _ R1).mono ?_
      rintro e w2 ⟨rfl, hb2⟩
      have q2 := q1.below hb2 q1.lt
      have c2 := q2.cell 0
      obtain ⟨hl, hn, hc, hg, ha⟩ := R1.to hb2
      have hkn : k < n := by omega
      obtain ⟨b, off, rfl, hbl, hcell⟩ := ha (by omega)
      obtain ⟨e0, e1⟩ := hcell k hkn
      clear hcell ha hg
      go_wp2
      go_ret2
      rw [h1, H2.out]
      exact ⟨rfl, Below.on (Below.on b0 hb1 b0.size) hb2 (Nat.le_trans b0.size hb1.size)⟩

end Go.Proofs.Ytpnicgagmopilaa
