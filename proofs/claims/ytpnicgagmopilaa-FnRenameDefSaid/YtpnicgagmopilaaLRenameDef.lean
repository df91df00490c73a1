/-
  The walk of the law RenameDef: whatever comes in, it answers true.
-/
import Derived.Test.YtpnicgagmopilaaWDrawR
import Derived.Test.YtpnicgagmopilaaWRenD
import Derived.Test.YtpnicgagmopilaaPlainN
namespace Go.Proofs.Ytpnicgagmopilaa
open Go.RowKit
attribute [local go_sem ↓] Go.wp_at_zero Go.wp_at_succ

theorem eqS_eq {a b : ByteArray} (h : eqS a b = true) : a = b := by
  unfold eqS at h
  rw [ByteArray.toList_eq, ByteArray.toList_eq] at h
  have h2 : a.data.toList = b.data.toList := by simpa using h
  obtain ⟨⟨x⟩⟩ := a
  obtain ⟨⟨y⟩⟩ := b
  simp at h2
  rw [h2]
theorem nth_set_eq {ds : List D} {k : Nat} (hk : k < ds.length) (d : D) : nth (ds.set k d) k = d := by
  unfold nth; rw [List.getD_eq_getElem?_getD, List.getElem?_set_self hk]; rfl
/-- Renamed there and back. -/
theorem renD_back {ds : List D} {s to : ByteArray} {k : Nat} (hk : k < ds.length) (hp : nameIs s (nth ds k) = true) : renD (renD ds k to) k s = ds := by
  have h1 : (nth ds k).1 = s := eqS_eq hp
  unfold renD
  rw [nth_set_eq hk, List.set_set, ← h1, nth_get hk]
  exact List.set_getElem_self hk
theorem renD_ix {ds : List D} {to : ByteArray} {k : Nat} (hk : k < ds.length) (hv : vEnum (renD ds k to) = true) : ix (nameIs to) (renD ds k to) = k := by
  have h := ix_name (ds := renD ds k to) hv (i := k) (by rw [renD_length]; exact hk)
  rwa [show (nth (renD ds k to) k).1 = to from by unfold renD; rw [nth_set_eq hk]] at h
theorem good_nil : Good [] := ⟨by simp, by simp⟩
theorem Fine.ren {m : Nat} {ds : List D} (h : Fine m ds) {k : Nat} (hk : k < ds.length) {to : ByteArray} (ht : to.size ≤ 10) : Fine m (renD ds k to) := h.set k ht (h.nth hk).2

theorem renameDef_bad (A : Option Addr) (c : Nat) (ds : List D) (s to : ByteArray) (k : Nat) (hk : k < ds.length) (hx : ix (nameIs s) ds = k) (hg : Good (renD ds k to)) (hv : (vEnum ds && vEnum (renD ds k to)) = false) (w : World) (hr : Rd w w.heap.size A ds.length c ds) (hA : A = none → c = 0) :
    Calls Try.prog 45 #[.agg #[.slice A ds.length c], .string s, .string to] w (EnumMade [] false w) := by
  have h := renameDef_some A c ds s to k hk hx hg w hr hA
  rw [hv, if_neg (by simp)] at h
  exact h
theorem renameDef_good (A : Option Addr) (c : Nat) (ds : List D) (s to : ByteArray) (k : Nat) (L : List D) (hL : renD ds k to = L) (hk : k < ds.length) (hx : ix (nameIs s) ds = k) (hg : Good L) (hv : vEnum ds = true) (hv2 : vEnum L = true) (w : World) (hr : Rd w w.heap.size A ds.length c ds) (hA : A = none → c = 0) :
    Calls Try.prog 45 #[.agg #[.slice A ds.length c], .string s, .string to] w (EnumMade L true w) := by
  have h := renameDef_some A c ds s to k hk hx (by rw [hL]; exact hg) w hr hA
  rw [hL, hv, hv2, Bool.true_and, if_pos rfl] at h
  exact h
theorem srenameDef_bad (A : Option Addr) (c : Nat) (ds : List D) (s to : ByteArray) (k : Nat) (hk : k < ds.length) (hx : ix (nameIs s) ds = k) (hg : Good (renD ds k to)) (hv : (vEnum ds && vEnum (renD ds k to)) = false) (w : World) (hr : Rd w w.heap.size A ds.length c ds) (hA : A = none → c = 0) :
    Calls Try.prog 46 #[.agg #[.slice A ds.length c], .string s, .string to] w (EnumMade [] false w) := by
  have h := srenameDef_some A c ds s to k hk hx hg w hr hA
  rw [hv, if_neg (by simp)] at h
  exact h
theorem srenameDef_good (A : Option Addr) (c : Nat) (ds : List D) (s to : ByteArray) (k : Nat) (L : List D) (hL : renD ds k to = L) (hk : k < ds.length) (hx : ix (nameIs s) ds = k) (hg : Good L) (hv : vEnum ds = true) (hv2 : vEnum L = true) (w : World) (hr : Rd w w.heap.size A ds.length c ds) (hA : A = none → c = 0) :
    Calls Try.prog 46 #[.agg #[.slice A ds.length c], .string s, .string to] w (EnumMade L true w) := by
  have h := srenameDef_some A c ds s to k hk hx (by rw [hL]; exact hg) w hr hA
  rw [hL, hv, hv2, Bool.true_and, if_pos rfl] at h
  exact h
set_option maxRecDepth 100000 in
set_option maxHeartbeats 8000000 in
theorem renameDef_walk (A : Option Addr) (n c : Nat) (w : World) (hr : RdB w w.heap.size A n c) :
    Calls Try.prog 12 #[.slice A n c] w fun e w' => e = .returned (.bool true) ∧ Below w.heap.size w w' := by
  by_cases hlen : (1048576 : Int) < n
  · go_enter Try.func12, Try.ntmps12
    go_wp2_with fail
    go_ret
    exact ⟨rfl, Below.refl _ _⟩
  go_enter Try.func12, Try.ntmps12
  go_wp2_with fail
  refine (drawRenameDef_any A n c _ hr).mono ?_
  rintro e w1 ⟨A1, cc, ds, s, to, rfl, hs, hto, hf, oa, b⟩
  obtain ⟨A3, c3, he, R⟩ := oa.rd hf (by omega)
  simp only [Value.slice.injEq] at he
  obtain ⟨rfl, _, rfl⟩ := he
  have hA : A1 = none → cc = 0 := by
    obtain ⟨Ax, cx, he, _, _, hh⟩ := oa.toC.cap
    simp only [Value.slice.injEq] at he
    obtain ⟨rfl, _, rfl⟩ := he
    exact hh
  have q := blk1 w1 #[.slice A1 ds.length cc] 28
  have b2 := below1 w1 (.cells #[.slice A1 ds.length cc] 28)
  replace b := Below.on b b2 b.size
  replace R := R.to b2
  have c0 := q.cell 0
  clear hr oa b2
  rcases ix_cases (nameIs s) ds with ⟨hx, _⟩ | ⟨k, hk, hx, _, hp⟩
  · have HX := Lib.hid hx
    clear hx
    go_wp2_with fail
    refine (renameDef_none _ _ ds s to HX.out _ R).mono ?_
    rintro e w2 ⟨A2, c2, rfl, oo, hb⟩
    replace b := Below.on b hb b.size
    replace q := q.below hb q.lt
    replace R := R.to hb
    obtain ⟨A', c', hcv, _, _, hcap⟩ := oo.cap
    simp only [Value.slice.injEq] at hcv
    obtain ⟨rfl, _, rfl⟩ := hcv
    obtain ⟨A', c', he, R2⟩ := oo.rd good_nil
    simp only [Value.slice.injEq] at he
    obtain ⟨rfl, _, rfl⟩ := he
    replace R2 : Rd w2 (w2).heap.size A2 0 c2 [] := R2
    have p2 := blk1 w2 #[.slice A2 0 c2] 28
    have ba := below1 w2 (.cells #[.slice A2 0 c2] 28)
    replace b := Below.on b ba b.size
    replace q := q.below ba q.lt
    replace R := R.to ba
    replace R2 := (R2).to ba
    replace c0 := q.cell 0
    have d0 := p2.cell 0
    clear hb oo ba hcap
    go_wp2_with fail
    refine (srenameDef_none _ _ ds s to HX.out _ R).mono ?_
    rintro e w3 ⟨A3, c3, rfl, oo, hb⟩
    replace b := Below.on b hb b.size
    replace q := q.below hb q.lt
    replace R := R.to hb
    obtain ⟨A', c', hcv, _, _, hcap⟩ := oo.cap
    simp only [Value.slice.injEq] at hcv
    obtain ⟨rfl, _, rfl⟩ := hcv
    replace p2 := p2.below hb p2.lt
    replace R2 := R2.to hb
    obtain ⟨A', c', he, R3⟩ := oo.rd good_nil
    simp only [Value.slice.injEq] at he
    obtain ⟨rfl, _, rfl⟩ := he
    replace R3 : Rd w3 (w3).heap.size A3 0 c3 [] := R3
    have p3 := blk1 w3 #[.slice A3 0 c3] 28
    have ba := below1 w3 (.cells #[.slice A3 0 c3] 28)
    replace b := Below.on b ba b.size
    replace q := q.below ba q.lt
    replace R := R.to ba
    replace R3 := (R3).to ba
    replace c0 := q.cell 0
    replace p2 := p2.below ba p2.lt
    replace R2 := R2.to ba
    replace d0 := p2.cell 0
    have e0 := p3.cell 0
    clear hb oo ba hcap
    go_wp2_with fail
    refine (equalEnum_same _ _ _ _ _ [] _ R2 R3).mono ?_
    rintro e wn ⟨rfl, hb⟩
    replace b := Below.on b hb b.size
    replace q := q.below hb q.lt
    replace R := R.to hb
    replace c0 := q.cell 0
    replace p2 := p2.below hb p2.lt
    replace R2 := R2.to hb
    replace p3 := p3.below hb p3.lt
    replace R3 := R3.to hb
    replace d0 := p2.cell 0
    replace e0 := p3.cell 0
    clear hb
    go_wp2_with fail
    refine (equalEnum_same _ _ _ _ _ [] _ R2 R3).mono ?_
    rintro e wn ⟨rfl, hb⟩
    replace b := Below.on b hb b.size
    replace q := q.below hb q.lt
    replace R := R.to hb
    replace c0 := q.cell 0
    go_wp2
    go_ret
    exact ⟨rfl, b⟩
  · have HX := Lib.hid hx
    have HG := Lib.hid ((hf.ren hk (to := to) hto).good (by omega))
    cases hv : vEnum ds && vEnum (renD ds k to) with
    | false =>
      have HV := Lib.hid hv
      clear hv hx hp
      go_wp2_with fail
      refine (renameDef_bad _ _ ds s to k hk HX.out HG.out HV.out _ R hA).mono ?_
      rintro e w2 ⟨A2, c2, rfl, oo, hb⟩
      replace b := Below.on b hb b.size
      replace q := q.below hb q.lt
      replace R := R.to hb
      obtain ⟨A', c', hcv, _, _, hcap⟩ := oo.cap
      simp only [Value.slice.injEq] at hcv
      obtain ⟨rfl, _, rfl⟩ := hcv
      obtain ⟨A', c', he, R2⟩ := oo.rd good_nil
      simp only [Value.slice.injEq] at he
      obtain ⟨rfl, _, rfl⟩ := he
      replace R2 : Rd w2 (w2).heap.size A2 0 c2 [] := R2
      have p2 := blk1 w2 #[.slice A2 0 c2] 28
      have ba := below1 w2 (.cells #[.slice A2 0 c2] 28)
      replace b := Below.on b ba b.size
      replace q := q.below ba q.lt
      replace R := R.to ba
      replace R2 := (R2).to ba
      replace c0 := q.cell 0
      have d0 := p2.cell 0
      clear hb oo ba hcap
      go_wp2_with fail
      refine (srenameDef_bad _ _ ds s to k hk HX.out HG.out HV.out _ R hA).mono ?_
      rintro e w3 ⟨A3, c3, rfl, oo, hb⟩
      replace b := Below.on b hb b.size
      replace q := q.below hb q.lt
      replace R := R.to hb
      obtain ⟨A', c', hcv, _, _, hcap⟩ := oo.cap
      simp only [Value.slice.injEq] at hcv
      obtain ⟨rfl, _, rfl⟩ := hcv
      replace p2 := p2.below hb p2.lt
      replace R2 := R2.to hb
      obtain ⟨A', c', he, R3⟩ := oo.rd good_nil
      simp only [Value.slice.injEq] at he
      obtain ⟨rfl, _, rfl⟩ := he
      replace R3 : Rd w3 (w3).heap.size A3 0 c3 [] := R3
      have p3 := blk1 w3 #[.slice A3 0 c3] 28
      have ba := below1 w3 (.cells #[.slice A3 0 c3] 28)
      replace b := Below.on b ba b.size
      replace q := q.below ba q.lt
      replace R := R.to ba
      replace R3 := (R3).to ba
      replace c0 := q.cell 0
      replace p2 := p2.below ba p2.lt
      replace R2 := R2.to ba
      replace d0 := p2.cell 0
      have e0 := p3.cell 0
      clear hb oo ba hcap
      go_wp2_with fail
      refine (equalEnum_same _ _ _ _ _ [] _ R2 R3).mono ?_
      rintro e wn ⟨rfl, hb⟩
      replace b := Below.on b hb b.size
      replace q := q.below hb q.lt
      replace R := R.to hb
      replace c0 := q.cell 0
      replace p2 := p2.below hb p2.lt
      replace R2 := R2.to hb
      replace p3 := p3.below hb p3.lt
      replace R3 := R3.to hb
      replace d0 := p2.cell 0
      replace e0 := p3.cell 0
      clear hb
      go_wp2_with fail
      refine (equalEnum_same _ _ _ _ _ [] _ R2 R3).mono ?_
      rintro e wn ⟨rfl, hb⟩
      replace b := Below.on b hb b.size
      replace q := q.below hb q.lt
      replace R := R.to hb
      replace c0 := q.cell 0
      go_wp2
      go_ret
      exact ⟨rfl, b⟩
    | true =>
      have hv1 : vEnum ds = true := by simp only [Bool.and_eq_true] at hv; exact hv.1
      have hv2 : vEnum (renD ds k to) = true := by simp only [Bool.and_eq_true] at hv; exact hv.2
      have hx2 := renD_ix hk hv2
      have hb1 := renD_back (to := to) hk hp
      have hl := renD_length ds k to
      have hn1 := hasName_yes hv1 hx
      have hn2 := hasName_yes hv2 hx2
      have hval : (nth (renD ds k to) k).2 = (nth ds k).2 := by unfold renD; rw [nth_set_eq hk]
      have GD := Lib.hid (hf.good (by omega))
      rw [hval] at hn2
      obtain ⟨L, hL⟩ : ∃ L, renD ds k to = L := ⟨_, rfl⟩
      rw [hL] at hv2 hx2 hb1 hl hn2
      have HL := Lib.hid hL
      have GL := Lib.hid (show Good L from by rw [← hL]; exact HG.out)
      have V1 := Lib.hid hv1
      have V2 := Lib.hid hv2
      have X2 := Lib.hid hx2
      have B1 := Lib.hid hb1
      have N1 := Lib.hid hn1
      have N2 := Lib.hid hn2
      have hkL : k < L.length := by omega
      clear hv hv1 hv2 hx2 hb1 hl hn1 hn2 hval hL hx hp HG
      go_wp2_with fail
      refine (renameDef_good _ _ ds s to k L HL.out hk HX.out GL.out V1.out V2.out _ R hA).mono ?_
      rintro e w2 ⟨A2, c2, rfl, oo, hb⟩
      replace b := Below.on b hb b.size
      replace q := q.below hb q.lt
      replace R := R.to hb
      obtain ⟨A', c', hcv, _, _, hcap⟩ := oo.cap
      simp only [Value.slice.injEq] at hcv
      obtain ⟨rfl, _, rfl⟩ := hcv
      have hA2 := hcap
      obtain ⟨A', c', he, R2⟩ := oo.rd GL.out
      simp only [Value.slice.injEq] at he
      obtain ⟨rfl, _, rfl⟩ := he
      replace R2 : Rd w2 (w2).heap.size A2 L.length c2 L := R2
      have p2 := blk1 w2 #[.slice A2 L.length c2] 28
      have ba := below1 w2 (.cells #[.slice A2 L.length c2] 28)
      replace b := Below.on b ba b.size
      replace q := q.below ba q.lt
      replace R := R.to ba
      replace R2 := (R2).to ba
      replace c0 := q.cell 0
      have d0 := p2.cell 0
      clear hb oo ba hcap
      go_wp2_with fail
      refine (srenameDef_good _ _ ds s to k L HL.out hk HX.out GL.out V1.out V2.out _ R hA).mono ?_
      rintro e w3 ⟨A3, c3, rfl, oo, hb⟩
      replace b := Below.on b hb b.size
      replace q := q.below hb q.lt
      replace R := R.to hb
      obtain ⟨A', c', hcv, _, _, hcap⟩ := oo.cap
      simp only [Value.slice.injEq] at hcv
      obtain ⟨rfl, _, rfl⟩ := hcv
      replace p2 := p2.below hb p2.lt
      replace R2 := R2.to hb
      obtain ⟨A', c', he, R3⟩ := oo.rd GL.out
      simp only [Value.slice.injEq] at he
      obtain ⟨rfl, _, rfl⟩ := he
      replace R3 : Rd w3 (w3).heap.size A3 L.length c3 L := R3
      have p3 := blk1 w3 #[.slice A3 L.length c3] 28
      have ba := below1 w3 (.cells #[.slice A3 L.length c3] 28)
      replace b := Below.on b ba b.size
      replace q := q.below ba q.lt
      replace R := R.to ba
      replace R3 := (R3).to ba
      replace c0 := q.cell 0
      replace p2 := p2.below ba p2.lt
      replace R2 := R2.to ba
      replace d0 := p2.cell 0
      have e0 := p3.cell 0
      clear hb oo ba hcap
      go_wp2_with fail
      refine (equalEnum_same _ _ _ _ _ L _ R2 R3).mono ?_
      rintro e wn ⟨rfl, hb⟩
      replace b := Below.on b hb b.size
      replace q := q.below hb q.lt
      replace R := R.to hb
      replace c0 := q.cell 0
      replace p2 := p2.below hb p2.lt
      replace R2 := R2.to hb
      replace d0 := p2.cell 0
      clear hb R3 p3 e0
      go_wp2_with fail
      refine (renameDef_good _ _ L to s k ds B1.out hkL X2.out GD.out V2.out V1.out _ R2 hA2).mono ?_
      rintro e w5 ⟨A5, c5, rfl, oo, hb⟩
      replace b := Below.on b hb b.size
      replace q := q.below hb q.lt
      replace R := R.to hb
      obtain ⟨A', c', hcv, _, _, hcap⟩ := oo.cap
      simp only [Value.slice.injEq] at hcv
      obtain ⟨rfl, _, rfl⟩ := hcv
      replace p2 := p2.below hb p2.lt
      replace R2 := R2.to hb
      obtain ⟨A', c', he, R5⟩ := oo.rd GD.out
      simp only [Value.slice.injEq] at he
      obtain ⟨rfl, _, rfl⟩ := he
      replace R5 : Rd w5 (w5).heap.size A5 ds.length c5 ds := R5
      have p5 := blk1 w5 #[.slice A5 ds.length c5] 28
      have ba := below1 w5 (.cells #[.slice A5 ds.length c5] 28)
      replace b := Below.on b ba b.size
      replace q := q.below ba q.lt
      replace R := R.to ba
      replace R5 := (R5).to ba
      replace c0 := q.cell 0
      replace p2 := p2.below ba p2.lt
      replace R2 := R2.to ba
      replace d0 := p2.cell 0
      have e0 := p5.cell 0
      clear hb oo ba hcap
      go_wp2_with fail
      refine (valueOf_any _ _ _ ds s _ R).mono ?_
      rintro e w6 ⟨rfl, hb⟩
      rw [N1.out.1, N1.out.2]
      replace b := Below.on b hb b.size
      replace q := q.below hb q.lt
      replace p2 := p2.below hb p2.lt
      replace p5 := p5.below hb p5.lt
      replace R := R.to hb
      replace R2 := R2.to hb
      replace R5 := R5.to hb
      replace c0 := q.cell 0
      replace d0 := p2.cell 0
      replace e0 := p5.cell 0
      clear hb
      go_wp2_with fail
      refine (valueOf_any _ _ _ L to _ R2).mono ?_
      rintro e w7 ⟨rfl, hb⟩
      rw [N2.out.1, N2.out.2]
      replace b := Below.on b hb b.size
      replace q := q.below hb q.lt
      replace p5 := p5.below hb p5.lt
      replace R := R.to hb
      replace R5 := R5.to hb
      replace c0 := q.cell 0
      replace e0 := p5.cell 0
      clear hb R2 p2 d0
      go_wp2_with fail
      refine (equalEnum_same _ _ _ _ _ ds _ R5 R).mono ?_
      rintro e wn ⟨rfl, hb⟩
      replace b := Below.on b hb b.size
      replace q := q.below hb q.lt
      replace R := R.to hb
      replace c0 := q.cell 0
      go_wp2
      go_ret
      exact ⟨rfl, b⟩
end Go.Proofs.Ytpnicgagmopilaa
