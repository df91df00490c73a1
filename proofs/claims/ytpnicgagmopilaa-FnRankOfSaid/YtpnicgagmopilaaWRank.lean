/-
  The walks of RankOf and NextMember, of the program's and of the reference's.
-/
import Derived.Test.YtpnicgagmopilaaWEnum
import Derived.Test.YtpnicgagmopilaaWMem
import Derived.Test.YtpnicgagmopilaaPlainR
namespace Go.Proofs.Ytpnicgagmopilaa
open Go.RowKit

set_option maxHeartbeats 1000000 in
theorem rankOf_any (A : Option Addr) (n c : Nat) (ds : List D) (s : ByteArray) (w : World) (hr : Rd w w.heap.size A n c ds) :
    Calls Try.prog 32 #[.agg #[.slice A n c], .string s] w fun e w' => e = .returned (.int .i64 (rankV ds s)) ∧ Below w.heap.size w w' := by
  have q := blk1 w #[.slice A n c] 28
  have b := below1 w (.cells #[.slice A n c] 28)
  have R := hr.to b
  have c0 := q.cell 0
  clear hr
  cases hv : hasName ds s with
  | false =>
    have HF := Lib.hid (rank_no hv)
    go_enter Try.func32, Try.ntmps32
    go_wp2_with fail
    refine (valueOf_any _ _ _ ds _ _ R).mono ?_
    rintro e w1 ⟨rfl, hb⟩
    go_wp2
    go_ret
    exact ⟨ret_int HF.out.symm, Below.on b hb b.size⟩
  | true =>
    have HF := Lib.hid (rank_yes hv)
    go_enter Try.func32, Try.ntmps32
    go_wp2_with fail
    refine (valueOf_any _ _ _ ds _ _ R).mono ?_
    rintro e w1 ⟨rfl, hb⟩
    replace b := Below.on b hb b.size
    replace q := q.below hb q.lt
    replace R := R.to hb
    replace c0 := q.cell 0
    clear hb
    go_wp2_with fail
    refine (members_any _ _ _ ds _ R).mono ?_
    rintro e w2 ⟨A2, c2, rfl, R2, hb⟩
    replace b := Below.on b hb b.size
    clear hb R q c0
    go_wp2_with fail
    refine (valued_any _ _ _ (mem ds) _ _ R2).mono ?_
    rintro e w3 ⟨rfl, hb⟩
    go_wp2
    go_ret
    exact ⟨ret_int HF.out.symm, Below.on b hb b.size⟩

set_option maxHeartbeats 1000000 in
theorem srankOf_any (A : Option Addr) (n c : Nat) (ds : List D) (s : ByteArray) (w : World) (hr : Rd w w.heap.size A n c ds) :
    Calls Try.prog 33 #[.agg #[.slice A n c], .string s] w fun e w' => e = .returned (.int .i64 (rankV ds s)) ∧ Below w.heap.size w w' := by
  have q := blk1 w #[.slice A n c] 28
  have b := below1 w (.cells #[.slice A n c] 28)
  have R := hr.to b
  have c0 := q.cell 0
  clear hr
  cases hv : vDefs ds (-1000) 1000 with
  | false =>
    have HF := Lib.hid (rank_no (hasName_bad s hv).1)
    go_enter Try.func33, Try.ntmps33
    go_wp2_with fail
    refine (indexOf_bel _ _ _ ds _ _ R).mono ?_
    rintro e w1 ⟨rfl, hb⟩
    replace b := Below.on b hb b.size
    replace q := q.below hb q.lt
    replace R := R.to hb
    replace c0 := q.cell 0
    clear hb
    go_wp2_with fail
    refine (svalidEnum_any _ _ _ ds _ R).mono ?_
    rintro e w2 ⟨rfl, hb⟩
    go_wp2
    go_ret
    exact ⟨ret_int HF.out.symm, Below.on b hb b.size⟩
  | true =>
    rcases ix_cases (nameIs s) ds with ⟨h, _⟩ | ⟨k, hk, h, _, _⟩
    · have HF := Lib.hid (rank_no (hasName_no h).1)
      go_enter Try.func33, Try.ntmps33
      go_wp2_with fail
      refine (indexOf_bel _ _ _ ds _ _ R).mono ?_
      rintro e w1 ⟨rfl, hb⟩
      replace b := Below.on b hb b.size
      replace q := q.below hb q.lt
      replace R := R.to hb
      replace c0 := q.cell 0
      clear hb
      go_wp2_with fail
      refine (svalidEnum_any _ _ _ ds _ R).mono ?_
      rintro e w2 ⟨rfl, hb⟩
      go_wp2
      go_ret
      exact ⟨ret_int HF.out.symm, Below.on b hb b.size⟩
    · have hy := hasName_yes (show vEnum ds = true from hv) h
      have HF := Lib.hid (show rankV ds s = ix (valueIs (nth ds k).2) (mem ds) from by rw [rank_yes hy.1, hy.2])
      clear hy
      go_enter Try.func33, Try.ntmps33
      go_wp2_with fail
      refine (indexOf_bel _ _ _ ds _ _ R).mono ?_
      rintro e w1 ⟨rfl, hb⟩
      replace b := Below.on b hb b.size
      replace q := q.below hb q.lt
      replace R := R.to hb
      replace c0 := q.cell 0
      clear hb
      go_wp2_with fail
      refine (svalidEnum_any _ _ _ ds _ R).mono ?_
      rintro e w2 ⟨rfl, hb⟩
      replace b := Below.on b hb b.size
      replace q := q.below hb q.lt
      replace R := R.to hb
      replace c0 := q.cell 0
      clear hb
      have RR := Lib.hid R
      obtain ⟨hl, hn, hc, hg, ha⟩ := R
      have hkn : k < n := by omega
      obtain ⟨bl, off, rfl, hbl, hcell⟩ := ha (by omega)
      obtain ⟨e0, e1⟩ := hcell k hkn
      clear hcell ha hg
      have j0 : (0 : Int) ≤ (k : Int) := by omega
      have j2 : (k : Int) < (n : Int) := by omega
      have hlw : w.heap.size < w2.heap.size := q.lt
      go_wp2_with fail
      go_region_held3 (fun w' => w'.cell? ⟨w.heap.size, 0, none⟩ = some (.slice (some ⟨bl, off, none⟩) n c) ∧ w'.cell? ⟨bl, off + k * 2 + 1, none⟩ = some (.int .i64 (nth ds k).2)) (go_keep)
        (first
          | (go_at_call 69; refine (smembers_any _ _ _ ds _ (by exact RR.out.drew)).mono ?_; rintro e w3 ⟨A3, c3, rfl, R3, hb⟩; have e3 := (q.drew.below hb q.lt).cell 0; have e4 := (hb.cell (p := ⟨bl, off + k * 2 + 1, none⟩) hbl).trans e1)
          | (go_at_call 68; refine (valueAt_any _ _ _ _ (mem ds) _ _ R3).mono ?_; rintro e w4 ⟨rfl, rfl⟩))
      go_wp2
      go_ret
      exact ⟨ret_int HF.out.symm, Below.on b.drew hb b.size⟩

end Go.Proofs.Ytpnicgagmopilaa
