/-
  The other names of a value: the plain law of them, and the walks of OtherNames, the program's and the reference's, and of equalTexts.
-/
import Derived.Test.YtpnicgagmopilaaWText
import Derived.Test.YtpnicgagmopilaaWMembers
import Derived.Test.YtpnicgagmopilaaWEnum
import Derived.Test.YtpnicgagmopilaaMemG
namespace Go.Proofs.Ytpnicgagmopilaa
open Go.RowKit

theorem nmTo_nil {p : D → Bool} {ds : List D} {k : Nat} (h : noneTo p ds k) : nmTo p ds k = [] := by
  induction k with
  | zero => rfl
  | succ k ih => rw [nmTo_no (h k (by omega)), ih (fun i hi => h i (by omega))]
theorem nmTo_nth {p : D → Bool} {ds : List D} {k : Nat} : ∀ i, i < (nmTo p ds k).length → ∃ j, j < k ∧ p (nth ds j) = true ∧ nthS (nmTo p ds k) i = (nth ds j).1 := by
  induction k with
  | zero => intro i hi; simp [nmTo] at hi
  | succ k ih =>
    intro i hi
    cases h : p (nth ds k) with
    | true =>
      rw [nmTo_yes h] at hi ⊢
      rw [List.length_append] at hi
      rcases Nat.lt_or_ge i (nmTo p ds k).length with h1 | h1
      · rw [nthS_snoc_lt h1]
        obtain ⟨j, hj, hp, e⟩ := ih i h1
        exact ⟨j, by omega, hp, e⟩
      · obtain rfl : i = (nmTo p ds k).length := by simp at hi; omega
        exact ⟨k, by omega, h, nthS_snoc_eq⟩
    | false =>
      rw [nmTo_no h] at hi ⊢
      obtain ⟨j, hj, hp, e⟩ := ih i hi
      exact ⟨j, by omega, hp, e⟩
/-- The other names of the value of a name. -/
def othV (ds : List D) (s : ByteArray) : List ByteArray := if hasName ds s then nmTo (othP (valV ds s) (nameV ds (valV ds s))) ds ds.length else []
theorem othV_no {ds : List D} {s : ByteArray} (h : hasName ds s = false) : othV ds s = [] := by unfold othV; rw [h]; rfl
theorem othV_yes {ds : List D} {s : ByteArray} (h : hasName ds s = true) : othV ds s = nmTo (othP (valV ds s) (nameV ds (valV ds s))) ds ds.length := by unfold othV; rw [h]; rfl
theorem othP_next {ds : List D} (hv : vEnum ds = true) {x : Int} {j i : Nat} (hj : j < i) (hi : i < ds.length) : othP x (nth ds j).1 (nth ds i) = ((nth ds i).2 == x) := by
  have h := none_before hv hi j hj
  have h2 : eqS (nth ds i).1 (nth ds j).1 = false := by
    rw [← h]
    simp only [nameIs, eqS, Bool.beq_comm]
  simp [othP, h2]
theorem othP_first {ds : List D} {x : Int} {j : Nat} (hj : j < ds.length) (hx : ix (valueIs x) ds = j) : nmTo (othP x (nth ds j).1) ds (j + 1) = [] := by
  refine nmTo_nil fun i hi => ?_
  rcases ix_cases (valueIs x) ds with ⟨h, _⟩ | ⟨k, hk, h, hn, _⟩
  · omega
  · obtain rfl : k = j := by omega
    rcases Nat.lt_or_ge i k with h1 | h1
    · have := hn i h1
      simp only [valueIs] at this
      simp [othP, this]
    · obtain rfl : i = k := by omega
      simp [othP, eqS_self]
/-- Each other name has the value, and the same other names. -/
theorem othV_each {ds : List D} {s : ByteArray} (h : hasName ds s = true) {i : Nat} (hi : i < (othV ds s).length) : hasName ds (nthS (othV ds s) i) = true ∧ valV ds (nthS (othV ds s) i) = valV ds s ∧ othV ds (nthS (othV ds s) i) = othV ds s := by
  have hv : vEnum ds = true := by
    simp only [hasName, Bool.and_eq_true] at h
    exact h.1
  have e := othV_yes h
  rw [e] at hi
  obtain ⟨j, hj, hp, en⟩ := nmTo_nth i hi
  rw [← e] at en
  have hn := name_at hv hj
  simp only [othP, Bool.and_eq_true, beq_iff_eq] at hp
  rw [en]
  refine ⟨hn.1, hn.2.trans hp.1, ?_⟩
  rw [othV_yes hn.1, hn.2, hp.1, e]
theorem othV_good {ds : List D} (hg : Good ds) (s : ByteArray) : GoodS (othV ds s) := by
  cases h : hasName ds s with
  | false => rw [othV_no h]; exact ⟨by simp, by simp⟩
  | true => rw [othV_yes h]; exact nmTo_good hg (Nat.le_refl _)

set_option maxHeartbeats 1000000 in
theorem otherNames_any (A : Option Addr) (n c : Nat) (ds : List D) (s : ByteArray) (w : World) (hr : Rd w w.heap.size A n c ds) :
    Calls Try.prog 35 #[.agg #[.slice A n c], .string s] w (TextsOut (othV ds s) w) := by
  have q := blk1 w #[.slice A n c] 28
  have b := below1 w (.cells #[.slice A n c] 28)
  have R := hr.to b
  have c0 := q.cell 0
  have HL := Lib.hid hr.1
  clear hr
  go_enter Try.func35, Try.ntmps35
  go_wp2_with fail
  refine (valueOf_any _ _ _ ds s _ R).mono ?_
  rintro e w1 ⟨rfl, hb⟩
  replace b := Below.on b hb b.size
  replace q := q.below hb q.lt
  replace R := R.to hb
  clear hb
  have p1 := blk1 w1 #[.int .i64 (valV ds s)] 3
  have ba := below1 w1 (.cells #[.int .i64 (valV ds s)] 3)
  replace q := q.below ba q.lt
  replace b := Below.on b ba b.size
  replace R := R.to ba
  replace c0 := q.cell 0
  clear ba
  cases h : hasName ds s with
  | false =>
    have HF := Lib.hid (othV_no h)
    go_wp2
    go_ret
    rw [HF.out]
    exact ⟨none, 0, rfl, RdS.nil _ _, b⟩
  | true =>
    have HF := Lib.hid (othV_yes h)
    have hx := hasVal_of h
    have d0 := p1.cell 0
    go_wp2_with fail
    refine (nameOf_any _ _ _ ds (valV ds s) _ R).mono ?_
    rintro e w2 ⟨rfl, hb⟩
    replace b := Below.on b hb b.size
    replace q := q.below hb q.lt
    replace p1 := p1.below hb p1.lt
    replace R := R.to hb
    clear hb
    have p2 := blk1 w2 #[.string (nameV ds (valV ds s))] 9
    have ba := below1 w2 (.cells #[.string (nameV ds (valV ds s))] 9)
    replace q := q.below ba q.lt
    replace p1 := p1.below ba p1.lt
    replace b := Below.on b ba b.size
    replace R := R.to ba
    replace c0 := q.cell 0
    replace d0 := p1.cell 0
    have e0 := p2.cell 0
    have hl1 := p1.lt
    have hl2 := p2.lt
    clear ba
    go_wp2_with fail
    refine (namesOth_any A n c ds _ _ _ _ _ R d0 e0 hl1 hl2).mono ?_
    rintro e w3 ⟨A3, c3, rfl, S3, hb⟩
    replace b := Below.on b hb b.size
    rw [← HL.out] at S3
    have HH := Lib.hid (And.intro S3 b)
    clear hb S3 b
    go_wp2
    go_ret
    rw [HF.out]
    exact ⟨A3, c3, by rw [HL.out]; rfl, HH.out.1, HH.out.2⟩
set_option maxRecDepth 100000 in
set_option maxHeartbeats 4000000 in
theorem sotherNames_any (A : Option Addr) (n c : Nat) (ds : List D) (s : ByteArray) (w : World) (hr : Rd w w.heap.size A n c ds) :
    Calls Try.prog 37 #[.agg #[.slice A n c], .string s] w (TextsOut (othV ds s) w) := by
  have q := blk1 w #[.slice A n c] 28
  have b := below1 w (.cells #[.slice A n c] 28)
  have R := hr.to b
  have c0 := q.cell 0
  have HL := Lib.hid hr.1
  have HG := Lib.hid hr.2.2.2.1
  have HR := Lib.hid hr
  clear hr
  go_enter Try.func37, Try.ntmps37
  go_wp2_with fail
  refine (indexOf_bel _ _ _ ds _ _ R).mono ?_
  rintro e w1 ⟨rfl, hb⟩
  replace b := Below.on b hb b.size
  replace q := q.below hb q.lt
  replace R := R.to hb
  replace c0 := q.cell 0
  clear hb
  go_wp2_with fail
  refine (svalidEnum_any _ _ _ ds _ R).mono ?_
  rintro e w2 ⟨rfl, hb⟩
  replace b := Below.on b hb b.size
  replace q := q.below hb q.lt
  replace R := R.to hb
  replace c0 := q.cell 0
  clear hb
  cases hv : vDefs ds (-1000) 1000 with
  | false =>
    have HF := Lib.hid (othV_no (hasName_bad s hv).1)
    go_wp2
    go_ret
    rw [HF.out]
    exact ⟨none, 0, rfl, RdS.nil _ _, b⟩
  | true =>
    rcases ix_cases (nameIs s) ds with ⟨h, _⟩ | ⟨k, hk, h, _, _⟩
    · have HF := Lib.hid (othV_no (hasName_no h).1)
      go_wp2
      go_ret
      rw [HF.out]
      exact ⟨none, 0, rfl, RdS.nil _ _, b⟩
    · have y := hasName_yes (show vEnum ds = true from hv) h
      obtain ⟨j, hj, hx, hjk⟩ := ix_self hk
      have HV := Lib.hid (show vEnum ds = true from hv)
      have HF := Lib.hid (show othV ds s = nmTo (othP (nth ds k).2 (nth ds j).1) ds ds.length from by rw [othV_yes y.1, y.2, (hasVal_yes (show vEnum ds = true from hv) hx).2])
      have H0 := Lib.hid (othP_first hj hx)
      have HLP := Lib.hid (nmTo_length (othP (nth ds k).2 (nth ds j).1) ds)
      clear y hv
      obtain ⟨i0, hi, hz0, hz1, hz2⟩ := info_parts Try.infoText
      have HI := Lib.hid hi
      have HZ0 := Lib.hid hz0
      have HZ1 := Lib.hid hz1
      have HZ2 := Lib.hid hz2
      clear hi hz0 hz1 hz2
      have hwq : w.heap.size < w2.heap.size := q.lt
      have ba := below1 w2 (.cells #[] 9)
      have OW := Lib.hid (show (w2.alloc (.cells #[] 9)).ownsRow w2.heap.size 9 1 (.slice (some ⟨w2.heap.size, 0, none⟩) 0 0) 0 (flatS []) from World.ownsRow_lit (size := 1) w2 #[] 0 (Nat.le_refl _) (by unfold maxLen; omega) rfl)
      replace q := q.below ba q.lt
      replace b := Below.on b ba b.size
      replace R := R.to ba
      replace c0 := q.cell 0
      clear ba
      have HB := Lib.hid b
      have HQ := Lib.hid q
      have RR := Lib.hid R
      clear b
      obtain ⟨hl, hn, hc, hg, ha⟩ := R
      have hkn : k < n := by omega
      have hgl := HG.out.1
      rw [HL.out] at hgl
      obtain ⟨bl, off, rfl, hbl, hcell⟩ := ha (by omega)
      have HC := Lib.hid hcell
      obtain ⟨e0, e1⟩ := hcell k hkn
      clear hcell ha hg
      have i1 : (0 : Int) ≤ (k : Int) := by omega
      have i2 : (k : Int) < (n : Int) := by omega
      go_wp2
      go_quiet ((go_at_call 68; exact Calls.quiet_of_same ((valueAt_any _ _ _ _ ds _ _ (by exact RR.out)).mono fun _ _ ⟨he, hw⟩ => ⟨he, hw.symm⟩)))
      go_wp2
      clear hx
      go_loopw [6, 7] (fun v i wr => ∃ (m : Nat) (A' : Option Addr) (c' : Nat), j + 1 ≤ m ∧ m ≤ n ∧ w2.heap.size ≤ wr.heap.size ∧ i = .int .i64 m ∧ v = .slice A' (nmTo (othP (nth ds k).2 (nth ds j).1) ds m).length c' ∧ Hid (wr.ownsRow w2.heap.size 9 1 (.slice A' (nmTo (othP (nth ds k).2 (nth ds j).1) ds m).length c') (nmTo (othP (nth ds k).2 (nth ds j).1) ds m).length (flatS (nmTo (othP (nth ds k).2 (nth ds j).1) ds m))) ∧ Hid (Blk wr w.heap.size 28 #[.slice (some ⟨bl, off, none⟩) n c]) ∧ Below w.heap.size w wr) (fun _ i _ => n - (intOf i).toNat)
      case atStart => exact ⟨j + 1, some ⟨w2.heap.size, 0, none⟩, 0, Nat.le_refl _, by omega, by simp, by go_num, by rw [H0.out]; rfl, by rw [H0.out]; exact OW.out, HQ.out, below_drewN HB.out _⟩
      case round =>
        obtain ⟨m, A', c', hjm, hmn, hwr, rfl, rfl, ho, q, hb⟩ := hrel
        have c0 := q.out.cell 0
        by_cases hm : m < n
        · obtain ⟨b', off', hA, hbl', hcell⟩ := (HR.out.below hb).2.2.2.2 (by omega)
          simp only [Option.some.injEq, Addr.mk.injEq, and_true] at hA
          obtain ⟨rfl, rfl⟩ := hA
          obtain ⟨e0, e1⟩ := hcell k hkn
          obtain ⟨e2, e3⟩ := hcell m hm
          clear hcell
          have i3 : (0 : Int) ≤ (m : Int) := by omega
          have i4 : (m : Int) < (n : Int) := by omega
          have HP := Lib.hid (show othP (nth ds k).2 (nth ds j).1 (nth ds m) = ((nth ds m).2 == (nth ds k).2) from othP_next HV.out (by omega) (by omega))
          have hlen := HLP.out m
          go_wp2
          go_quiet (fail)
          cases hp : ((nth ds m).2 == (nth ds k).2) with
          | true =>
            have HM := Lib.hid (nmTo_yes (HP.out.trans hp))
            go_wp2_with (at_builtin; refine wpList_append_own _ rfl _ _ 31 rfl w2.heap.size 9 i0 (.string ByteArray.empty) 1 16 Try.underlying31 HI.out HZ0.out HZ1.out HZ2.out rfl (by decide) _ _ _ rfl (World.ownsRow.alloc ho.out _) ⟨wr.heap.size, 0, none⟩ 1 1 [.string (nth ds m).1] rfl rfl (cell_one_new _ _ _) (by simp [Value.oneCell']) (by unfold maxLen; omega) (by omega) (by simp; omega) ?_; intro v' w3 hown3 hgrow _)
            have hs3 : w2.heap.size ≤ w3.heap.size := by have := hgrow.size; simp at this; omega
            have b3 := ((below_drewN hb _).alloc hb.size (.cells #[.string (nth ds m).1] 9)).grown hgrow (by simp; omega) (fun i hi => by have := (World.ownsRow.lt ho.out i hi).1; omega)
            have q3 := Blk.row (Blk.alloc (w := wr.drewN _) q.out (.cells #[.string (nth ds m).1] 9)) hgrow (fun e => by have := (World.ownsRow.lt ho.out _ e).1; omega)
            have ho3 : w3.ownsRow w2.heap.size 9 1 v' (nmTo (othP (nth ds k).2 (nth ds j).1) ds (m + 1)).length (flatS (nmTo (othP (nth ds k).2 (nth ds j).1) ds (m + 1))) := by
              rw [HM.out, flatS_snoc, List.length_append]
              exact hown3
            obtain ⟨A3, c3, hv3⟩ := ownS_slice ho3
            go_roundw
            case rel => exact ⟨m + 1, A3, c3, by omega, by omega, hs3, by go_num, hv3, by rw [← hv3]; exact ho3, q3, b3⟩
            case measure => simp [intOf]; omega
          | false =>
            have HM := Lib.hid (nmTo_no (HP.out.trans hp))
            go_wp2_with fail
            go_roundw
            case rel => exact ⟨m + 1, A', c', by omega, by omega, hwr, by go_num, by rw [HM.out], by rw [HM.out]; exact ho.out, q.out, below_drewN hb _⟩
            case measure => simp [intOf]; omega
        · obtain rfl : m = n := by omega
          obtain ⟨A2, c2, he, S⟩ := own_rdS ho.out (nmTo_good HG.out (by omega))
          simp only [Value.slice.injEq] at he
          obtain ⟨rfl, _, rfl⟩ := he
          have HS := Lib.hid (And.intro S hb)
          clear S
          go_wp2
          go_ret
          rw [HF.out, HL.out]
          exact ⟨A', _, rfl, HS.out.1, HS.out.2⟩
set_option maxHeartbeats 1000000 in
theorem equalTexts_same (A A' : Option Addr) (n c c' : Nat) (ss : List ByteArray) (w : World) (hr : RdS w w.heap.size A n c ss) (hr' : RdS w w.heap.size A' n c' ss) :
    Calls Try.prog 36 #[.slice A n c, .slice A' n c'] w fun e w' => e = .returned (.bool true) ∧ Below w.heap.size w w' := by
  obtain ⟨_, hn, hc, _, ha⟩ := hr
  obtain ⟨_, hn', hc', _, ha'⟩ := hr'
  have HA := Lib.hid ha
  have HA' := Lib.hid ha'
  clear ha ha'
  go_enter Try.func36, Try.ntmps36
  go_wp2
  go_loopw [5] (fun i wr => ∃ k : Nat, k ≤ n ∧ i = .int .i64 k ∧ Below w.heap.size w wr) (fun i _ => n - (intOf i).toNat)
  case atStart => exact ⟨0, Nat.zero_le _, rfl, Below.refl _ _⟩
  case round =>
    obtain ⟨k, hk, rfl, hb⟩ := hrel
    by_cases hkn : k < n
    · obtain ⟨b, off, rfl, hbl, hcell⟩ := HA.out (by omega)
      obtain ⟨b', off', rfl, hbl', hcell'⟩ := HA'.out (by omega)
      have c0 := hcell k hkn
      rw [← hb.cell (p := ⟨b, off + k, none⟩) hbl] at c0
      have c0' := hcell' k hkn
      rw [← hb.cell (p := ⟨b', off' + k, none⟩) hbl'] at c0'
      clear hcell hcell'
      have i0 : (0 : Int) ≤ (k : Int) := by omega
      have i2 : (k : Int) < (n : Int) := by omega
      go_wp2
      go_quiet (fail)
      go_wp2
      exact ⟨⟨k + 1, by omega, by go_num, below_drewN hb _⟩, by simp [intOf]; omega⟩
    · go_wp2
      go_ret
      exact ⟨rfl, hb⟩
end Go.Proofs.Ytpnicgagmopilaa
