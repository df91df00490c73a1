/-
  The walks of FromNames, of the program's and of the reference's.
-/
import Derived.Test.YtofkbckpncpmkaaWFlag
import Derived.Test.YtofkbckpncpmkaaMemS
namespace Go.Proofs.Ytofkbckpncpmkaa
open Go.RowKit

/-- The first k texts are names, and their values together. -/
def knowsTo (ds : List D) (ss : List ByteArray) : Nat → Bool
  | 0 => true
  | k + 1 => knowsTo ds ss k && decide (0 ≤ ix (nameIs (nthS ss k)) ds)
def fromTo (ds : List D) (ss : List ByteArray) : Nat → Int
  | 0 => 0
  | k + 1 => orV (fromTo ds ss k) (nth ds (ix (nameIs (nthS ss k)) ds).toNat).2
def fromOk (ds : List D) (z : Int) (ss : List ByteArray) : Bool := vFlag ds z && knowsTo ds ss ss.length
def fromV (ds : List D) (z : Int) (ss : List ByteArray) : Int := if fromOk ds z ss then fromTo ds ss ss.length else 0
theorem knowsTo_mono {ds : List D} {ss : List ByteArray} {k m : Nat} (hk : k ≤ m) (h : knowsTo ds ss k = false) : knowsTo ds ss m = false := by
  induction m with
  | zero => rw [show k = 0 from by omega] at h; exact h
  | succ m ih =>
    by_cases e : k = m + 1
    · subst e; exact h
    · unfold knowsTo; rw [ih (by omega)]; rfl
theorem from_bad {ds : List D} {z : Int} (ss : List ByteArray) (h : vFlag ds z = false) : fromOk ds z ss = false ∧ fromV ds z ss = 0 := by
  have : fromOk ds z ss = false := by simp [fromOk, h]
  exact ⟨this, by unfold fromV; rw [this]; rfl⟩
theorem from_no {ds : List D} {z : Int} {ss : List ByteArray} {k : Nat} (hk : k < ss.length) (h : ix (nameIs (nthS ss k)) ds = -1) : fromOk ds z ss = false ∧ fromV ds z ss = 0 := by
  have h1 : knowsTo ds ss ss.length = false := knowsTo_mono (k := k + 1) (by omega) (by unfold knowsTo; simp [h])
  have : fromOk ds z ss = false := by simp [fromOk, h1]
  exact ⟨this, by unfold fromV; rw [this]; rfl⟩
theorem from_yes {ds : List D} {z : Int} {ss : List ByteArray} {k : Nat} (hv : vFlag ds z = true) (hk : k = ss.length) (h : knowsTo ds ss k = true) : fromOk ds z ss = true ∧ fromV ds z ss = fromTo ds ss k := by
  subst hk
  have : fromOk ds z ss = true := by simp [fromOk, h, hv]
  exact ⟨this, by unfold fromV; rw [this]; rfl⟩
theorem from_step {ds : List D} {ss : List ByteArray} {k j : Nat} (h : knowsTo ds ss k = true) (hj : ix (nameIs (nthS ss k)) ds = j) : knowsTo ds ss (k + 1) = true ∧ fromTo ds ss (k + 1) = orV (fromTo ds ss k) (nth ds j).2 := by
  refine ⟨by unfold knowsTo; simp [h, hj], ?_⟩
  rw [fromTo, hj]; rfl

set_option maxHeartbeats 1000000 in
theorem fromNames_any (A : Option Addr) (n c : Nat) (ds : List D) (z : Int) (A' : Option Addr) (n' c' : Nat) (ss : List ByteArray) (w : World) (hr : Rd w w.heap.size A n c ds) (hs : RdS w w.heap.size A' n' c' ss) :
    Calls Try.prog 24 #[.agg #[.slice A n c, .int .i64 z], .slice A' n' c'] w fun e w' => e = .returned (.tuple #[.int .i64 (fromV ds z ss), .bool (fromOk ds z ss)]) ∧ Below w.heap.size w w' := by
  have q := blk1 w #[.slice A n c, .int .i64 z] 25
  have b := below1 w (.cells #[.slice A n c, .int .i64 z] 25)
  have R := hr.to b
  have S := hs.to b
  clear hr hs
  cases hv : vFlag ds z with
  | false =>
    obtain ⟨h1, h2⟩ := from_bad ss hv
    go_enter Try.func24, Try.ntmps24
    go_wp2_with fail
    refine (validFlag_any _ _ _ ds _ _ R).mono ?_
    rintro e w1 ⟨rfl, hb⟩
    go_wp2
    go_ret2
    rw [h1, h2]
    exact ⟨rfl, Below.on b hb b.size⟩
  | true =>
    have HV := Lib.hid hv
    have HB := Lib.hid (Bits_of (vFlag_defs hv))
    go_enter Try.func24, Try.ntmps24
    go_wp2_with fail
    refine (validFlag_any _ _ _ ds _ _ R).mono ?_
    rintro e w1 ⟨rfl, hb⟩
    replace b := Below.on b hb b.size
    replace q := q.below hb q.lt
    replace R := R.to hb
    replace S := S.to hb
    have hn' := S.2.1
    have hc' := S.2.2.1
    have HL' := Lib.hid S.1
    have hq := q.lt
    have HQ := Lib.hid q
    have HR := Lib.hid R
    have HS := Lib.hid S
    have HBW := Lib.hid b
    clear hb q R S b
    go_wp2
    go_loopw [6, 15] (fun o i wr => ∃ (k : Nat) (m : Int), k ≤ n' ∧ i = .int .i64 k ∧ o = .int .i64 m ∧ Hid (m = fromTo ds ss k) ∧ (0 ≤ m ∧ m ≤ 4095) ∧ knowsTo ds ss k = true ∧ Below w1.heap.size w1 wr) (fun _ i _ => n' - (intOf i).toNat)
    case atStart => exact ⟨0, 0, Nat.zero_le _, rfl, rfl, rfl, ⟨Int.le_refl _, by decide⟩, rfl, Below.refl _ _⟩
    case round =>
      obtain ⟨k, m, hk, rfl, rfl, hm, ⟨l0, l1⟩, hkn, hb⟩ := hrel
      by_cases hlt : k < n'
      · have q := HQ.out.below hb hq
        have c0 := q.cell 0
        obtain ⟨bl, off, rfl, hbl, hcell⟩ := (HS.out.to hb).2.2.2.2 (by omega)
        have d0 := hcell k hlt
        clear hcell
        have i0 : (0 : Int) ≤ (k : Int) := by omega
        have i1 : (k : Int) < (n' : Int) := by omega
        rcases ix_cases (nameIs (nthS ss k)) ds with ⟨h, _⟩ | ⟨j, hj, h, _, _⟩
        · obtain ⟨h1, h2⟩ := from_no (z := z) (k := k) (by rw [HL'.out]; exact hlt) h
          go_wp2_with fail
          refine (named_any _ _ _ ds _ _ (HR.out.to hb)).mono ?_
          rintro e w3 ⟨rfl, hb3⟩
          replace q := q.below hb3 q.lt
          replace c0 := q.cell 0
          rw [h]
          go_wp2
          go_ret2
          rw [h1, h2]
          exact ⟨rfl, Below.on HBW.out (Below.on hb hb3 hb.size) HBW.out.size⟩
        · obtain ⟨h1, h2⟩ := from_step hkn h
          have HS2 := Lib.hid (show orV m (nth ds j).2 = fromTo ds ss (k + 1) from by rw [h2, hm.out])
          have HK := Lib.hid h1
          have hlim := orV_lt l1 (HB.out j hj).2
          obtain ⟨v0, v1⟩ := HB.out j hj
          have e := bits_or (a := m) (b := (nth ds j).2) l0 (by omega) v0 (by omega)
          have hR := HR.out.to hb
          go_wp2_with fail
          refine (named_any _ _ _ ds _ _ (HR.out.to hb)).mono ?_
          rintro e w3 ⟨rfl, hb3⟩
          replace q := q.below hb3 q.lt
          replace c0 := q.cell 0
          rw [h]
          obtain ⟨hl, hn, hc, hg, ha⟩ := hR.to hb3
          obtain ⟨bd, offd, rfl, hbd, hcd⟩ := ha (by omega)
          obtain ⟨e0, e1⟩ := hcd j (by omega)
          clear hcd ha hg
          go_wp2
          go_roundw
          case rel => exact ⟨k + 1, _, by omega, by go_num, rfl, HS2.out, hlim, HK.out, Below.on hb hb3 hb.size⟩
          case measure => simp [intOf]; omega
      · have HK := Lib.hid (from_yes HV.out (show k = ss.length from by rw [HL'.out]; omega) hkn)
        go_wp2
        go_ret2
        rw [HK.out.1, HK.out.2, ← hm.out]
        exact ⟨rfl, Below.on HBW.out hb HBW.out.size⟩

set_option maxHeartbeats 1000000 in
theorem sfromNames_any (A : Option Addr) (n c : Nat) (ds : List D) (z : Int) (A' : Option Addr) (n' c' : Nat) (ss : List ByteArray) (w : World) (hr : Rd w w.heap.size A n c ds) (hs : RdS w w.heap.size A' n' c' ss) :
    Calls Try.prog 37 #[.agg #[.slice A n c, .int .i64 z], .slice A' n' c'] w fun e w' => e = .returned (.tuple #[.int .i64 (fromV ds z ss), .bool (fromOk ds z ss)]) ∧ Below w.heap.size w w' := by
  have q := blk1 w #[.slice A n c, .int .i64 z] 25
  have b := below1 w (.cells #[.slice A n c, .int .i64 z] 25)
  have R := hr.to b
  have S := hs.to b
  clear hr hs
  cases hv : vFlag ds z with
  | false =>
    obtain ⟨h1, h2⟩ := from_bad ss hv
    go_enter Try.func37, Try.ntmps37
    go_wp2_with fail
    refine (svalidFlag_any _ _ _ ds _ _ R).mono ?_
    rintro e w1 ⟨rfl, hb⟩
    go_wp2
    go_ret2
    rw [h1, h2]
    exact ⟨rfl, Below.on b hb b.size⟩
  | true =>
    have HV := Lib.hid hv
    have HB := Lib.hid (Bits_of (vFlag_defs hv))
    go_enter Try.func37, Try.ntmps37
    go_wp2_with fail
    refine (svalidFlag_any _ _ _ ds _ _ R).mono ?_
    rintro e w1 ⟨rfl, hb⟩
    replace b := Below.on b hb b.size
    replace q := q.below hb q.lt
    replace R := R.to hb
    replace S := S.to hb
    have hn' := S.2.1
    have hc' := S.2.2.1
    have HL' := Lib.hid S.1
    have hq := q.lt
    have HQ := Lib.hid q
    have HR := Lib.hid R
    have HS := Lib.hid S
    have HBW := Lib.hid b
    clear hb q R S b
    go_wp2
    go_loopw [6, 7] (fun o i wr => ∃ (k : Nat) (m : Int), k ≤ n' ∧ i = .int .i64 k ∧ o = .int .i64 m ∧ Hid (m = fromTo ds ss k) ∧ (0 ≤ m ∧ m ≤ 4095) ∧ knowsTo ds ss k = true ∧ Below w1.heap.size w1 wr) (fun _ i _ => n' - (intOf i).toNat)
    case atStart => exact ⟨0, 0, Nat.zero_le _, rfl, rfl, rfl, ⟨Int.le_refl _, by decide⟩, rfl, Below.refl _ _⟩
    case round =>
      obtain ⟨k, m, hk, rfl, rfl, hm, ⟨l0, l1⟩, hkn, hb⟩ := hrel
      by_cases hlt : k < n'
      · have q := HQ.out.below hb hq
        have c0 := q.cell 0
        obtain ⟨bl, off, rfl, hbl, hcell⟩ := (HS.out.to hb).2.2.2.2 (by omega)
        have d0 := hcell k hlt
        clear hcell
        have i0 : (0 : Int) ≤ (k : Int) := by omega
        have i1 : (k : Int) < (n' : Int) := by omega
        rcases ix_cases (nameIs (nthS ss k)) ds with ⟨h, _⟩ | ⟨j, hj, h, _, _⟩
        · obtain ⟨h1, h2⟩ := from_no (z := z) (k := k) (by rw [HL'.out]; exact hlt) h
          have RR := Lib.hid (HR.out.to hb)
          go_wp2_with fail
          go_quiet ((go_at_call 76; exact Calls.quiet_of_same ((indexOf_any _ _ _ _ ds _ _ (by exact RR.out)).mono fun _ _ ⟨he, hw⟩ => ⟨he, hw.symm⟩)))
          rw [h]
          go_wp2
          go_ret2
          rw [h1, h2]
          exact ⟨rfl, Below.on HBW.out (below_drewN hb _) HBW.out.size⟩
        · obtain ⟨h1, h2⟩ := from_step hkn h
          have HS2 := Lib.hid (show orV m (nth ds j).2 = fromTo ds ss (k + 1) from by rw [h2, hm.out])
          have HK := Lib.hid h1
          have hlim := orV_lt l1 (HB.out j hj).2
          obtain ⟨v0, v1⟩ := HB.out j hj
          have e := bits_or (a := m) (b := (nth ds j).2) l0 (by omega) v0 (by omega)
          have hR := HR.out.to hb
          have RR := Lib.hid (HR.out.to hb)
          go_wp2_with fail
          go_quiet ((go_at_call 76; exact Calls.quiet_of_same ((indexOf_any _ _ _ _ ds _ _ (by exact RR.out)).mono fun _ _ ⟨he, hw⟩ => ⟨he, hw.symm⟩)))
          rw [h]
          obtain ⟨hl, hn, hc, hg, ha⟩ := hR
          obtain ⟨bd, offd, rfl, hbd, hcd⟩ := ha (by omega)
          obtain ⟨e0, e1⟩ := hcd j (by omega)
          clear hcd ha hg
          go_wp2_with (go_at_call 77; refine (either_any _ _ l0 l1 v0 v1 _).mono ?_; rintro e w' ⟨rfl, rfl⟩)
          go_roundw
          case rel => exact ⟨k + 1, _, by omega, by go_num, rfl, HS2.out, hlim, HK.out, below_drewN hb _⟩
          case measure => simp [intOf]; omega
      · have HK := Lib.hid (from_yes HV.out (show k = ss.length from by rw [HL'.out]; omega) hkn)
        go_wp2
        go_ret2
        rw [HK.out.1, HK.out.2, ← hm.out]
        exact ⟨rfl, Below.on HBW.out hb HBW.out.size⟩

end Go.Proofs.Ytofkbckpncpmkaa
