/-
  The walks of RenameDef, of the program and of the reference.
-/
import Derived.Test.YtpnicgagmopilaaWRename
namespace Go.Proofs.Ytpnicgagmopilaa
open Go.RowKit
attribute [local go_sem ↓] Go.wp_at_zero Go.wp_at_succ

/-- The definitions with another name at k. -/
def renD (ds : List D) (k : Nat) (s : ByteArray) : List D := ds.set k (s, (nth ds k).2)
theorem renD_length (ds : List D) (k : Nat) (s : ByteArray) : (renD ds k s).length = ds.length := by simp [renD]

set_option maxRecDepth 100000 in
set_option maxHeartbeats 4000000 in
theorem renameDef_none (A : Option Addr) (c : Nat) (ds : List D) (s to : ByteArray) (hx : ix (nameIs s) ds = -1) (w : World) (hr : Rd w w.heap.size A ds.length c ds) :
    Calls Try.prog 45 #[.agg #[.slice A ds.length c], .string s, .string to] w (EnumMade [] false w) := by
  have hr0 := Lib.hid hr
  have q := (blk1 w #[.slice A ds.length c] 28).alloc (.cells #[.slice none 0 0] 28)
  have r := blk2 w (.cells #[.slice A ds.length c] 28) #[.slice none 0 0] 28
  have b := below2 w (.cells #[.slice A ds.length c] 28) (.cells #[.slice none 0 0] 28)
  have R := hr.to b
  have c0 := q.cell 0
  clear hr
  go_enter Try.func45, Try.ntmps45
  go_wp2_with fail
  refine (named_any _ _ _ ds s _ R).mono ?_
  rintro e w1 ⟨rfl, hb⟩
  replace b := Below.on b hb b.size
  replace q := q.below hb q.lt
  replace r := r.below hb r.lt
  replace R := R.to hb
  replace c0 := q.cell 0
  rw [hx]
  clear hb
  have g0 := r.cell 0
  have f0 := r.frozen 0
  have r2 : Blk (w1.setCell ⟨(w.heap.size + 1), 0, none⟩ (.slice none 0 0)) (w.heap.size + 1) 28 #[.slice none 0 0] := r.set_ 0 (.slice none 0 0)
  have d0 := r2.cell 0
  have HH := Lib.hid (b.setCell (p := ⟨(w.heap.size + 1), 0, none⟩) (by simp) (.slice none 0 0))
  clear b r r2
  go_wp2
  exact bodyPost_ret (v := .tuple #[.agg #[.slice none 0 0], .bool false]) (by simp [results, Try.results45, go_sem, d0]) rfl ⟨none, 0, rfl, .inl ⟨rfl, rfl⟩, HH.out⟩

set_option maxRecDepth 100000 in
set_option maxHeartbeats 4000000 in
theorem renameDef_some (A : Option Addr) (c : Nat) (ds : List D) (s to : ByteArray) (k : Nat) (hk : k < ds.length) (hx : ix (nameIs s) ds = k) (hg : Good (renD ds k to)) (w : World) (hr : Rd w w.heap.size A ds.length c ds) (hA : A = none → c = 0) :
    Calls Try.prog 45 #[.agg #[.slice A ds.length c], .string s, .string to] w (if vEnum ds && vEnum (renD ds k to) then EnumMade (renD ds k to) true w else EnumMade [] false w) := by
  have HX := Lib.hid hx
  have HG := Lib.hid hg
  clear hx hg
  have hr0 := Lib.hid hr
  have q := (blk1 w #[.slice A ds.length c] 28).alloc (.cells #[.slice none 0 0] 28)
  have r := blk2 w (.cells #[.slice A ds.length c] 28) #[.slice none 0 0] 28
  have b := below2 w (.cells #[.slice A ds.length c] 28) (.cells #[.slice none 0 0] 28)
  have R := hr.to b
  have c0 := q.cell 0
  clear hr
  cases hv : vEnum ds && vEnum (renD ds k to) with
  | true =>
    have hv1 : vEnum ds = true := by simp only [Bool.and_eq_true] at hv; exact hv.1
    have hv2 : vEnum (renD ds k to) = true := by simp only [Bool.and_eq_true] at hv; exact hv.2
    have HV1 := Lib.hid hv1
    have HV2 := Lib.hid hv2
    clear hv hv1 hv2
    rw [if_pos rfl]
    go_enter Try.func45, Try.ntmps45
    go_wp2_with fail
    refine (named_any _ _ _ ds s _ R).mono ?_
    rintro e w1 ⟨rfl, hb⟩
    rw [HX.out]
    replace b := Below.on b hb b.size
    replace q := q.below hb q.lt
    replace r := r.below hb r.lt
    replace R := R.to hb
    replace c0 := q.cell 0
    have hs1 := r.lt
    clear hb
    go_wp2_with fail
    refine (clone_any A ds.length c ds _ R hA).mono ?_
    rintro e w2 ⟨A2, rfl, ho, hb⟩
    replace ho := ho.base (B' := w.heap.size + 2) (by omega)
    replace b := Below.on b hb b.size
    replace q := q.below hb q.lt
    replace r := r.below hb r.lt
    replace R := R.to hb
    replace c0 := q.cell 0
    clear hb
    obtain ⟨bb, c3, he, hbb, hbw, hc1, hc2⟩ := ho.blk (by omega)
    simp only [Value.slice.injEq] at he
    obtain ⟨rfl, _, rfl⟩ := he
    obtain ⟨⟨x, hx0⟩, hf0, ho2⟩ := ho.name hk to
    have i1 : (0 : Int) ≤ (k : Int) := by omega
    have i2 : (k : Int) < (ds.length : Int) := by omega
    have hne1 : ¬ bb = w.heap.size := by omega
    have hne2 : ¬ w.heap.size = bb := by omega
    obtain ⟨W, hW⟩ : ∃ W, W = w2.setCell ⟨bb, k * 2, none⟩ (.string to) := ⟨_, rfl⟩
    have q3 : Blk W w.heap.size 28 #[.slice A ds.length c] := by rw [hW]; exact q.far hne2 _
    have r3 : Blk W (w.heap.size + 1) 28 #[.slice none 0 0] := by rw [hW]; exact r.far (by simp; omega) _
    have b3 : Below w.heap.size w W := by rw [hW]; exact b.setCell (p := ⟨bb, k * 2, none⟩) (by simp; omega) _
    have R3 : Rd W W.heap.size A ds.length c ds := (hr0.out.below b3).more b3.size
    have o3 : OwnC W (w.heap.size + 2) 68 (.slice (some ⟨bb, 0, none⟩) (renD ds k to).length ds.length) (renD ds k to) := by rw [hW]; exact ho2
    have c3' := q3.cell 0
    have c4 : (w2.setCell ⟨bb, k * 2, none⟩ (.string to)).cell? ⟨w.heap.size, 0, none⟩ = some (.slice A ds.length c) := (Blk.far q hne2 _).cell 0
    clear q r b R ho ho2 c0
    go_wp2_with fail
    rw [← hW]
    clear hW c4
    refine (validEnum_any _ _ _ ds _ R3).mono ?_
    rintro e w4 ⟨rfl, hb⟩
    rw [show vDefs ds (-1000) 1000 = true from HV1.out]
    replace b3 := Below.on b3 hb b3.size
    replace r3 := r3.below hb r3.lt
    replace o3 := o3.below hb
    obtain ⟨A5, c5, he, R5⟩ := o3.rd HG.out
    simp only [Value.slice.injEq] at he
    obtain ⟨rfl, _, rfl⟩ := he
    rw [renD_length] at R5
    have hs4 := r3.lt
    clear hb R3 q3 c3' o3
    go_wp2_with fail
    refine (enumOf_yes _ _ _ (renD ds k to) HV2.out _ R5 (by simp)).mono ?_
    rintro e w5 ⟨A6, c6, rfl, ho, hb⟩
    have r := r3.below hb r3.lt
    have b := Below.on b3 hb b3.size
    have hs5 := r.lt
    clear hb R5 r3 b3
    have g0 := r.cell 0
    have f0 := r.frozen 0
    have r2 : Blk (w5.setCell ⟨(w.heap.size + 1), 0, none⟩ (.slice A6 (renD ds k to).length c6)) (w.heap.size + 1) 28 #[(.slice A6 (renD ds k to).length c6)] := r.set_ 0 (.slice A6 (renD ds k to).length c6)
    have d0 := r2.cell 0
    have hne := ho.ne (p := (w.heap.size + 1)) (.inl (by omega))
    have HH := Lib.hid (And.intro ((ho.far hne (i := 0) (.slice A6 (renD ds k to).length c6)).base (B' := w.heap.size) (by omega)) (b.setCell (p := ⟨(w.heap.size + 1), 0, none⟩) (by simp) (.slice A6 (renD ds k to).length c6)))
    clear b r ho r2 hne
    go_wp2
    exact bodyPost_ret (v := .tuple #[.agg #[(.slice A6 (renD ds k to).length c6)], .bool true]) (by simp [results, Try.results45, go_sem, d0]) rfl ⟨_, _, rfl, HH.out.1, HH.out.2⟩
  | false =>
    have hv1 : vEnum ds = false ∨ vEnum (renD ds k to) = false := Bool.and_eq_false_iff.1 hv
    have HV1 := Lib.hid hv1
    clear hv hv1
    rw [if_neg (by simp)]
    go_enter Try.func45, Try.ntmps45
    go_wp2_with fail
    refine (named_any _ _ _ ds s _ R).mono ?_
    rintro e w1 ⟨rfl, hb⟩
    rw [HX.out]
    replace b := Below.on b hb b.size
    replace q := q.below hb q.lt
    replace r := r.below hb r.lt
    replace R := R.to hb
    replace c0 := q.cell 0
    have hs1 := r.lt
    clear hb
    go_wp2_with fail
    refine (clone_any A ds.length c ds _ R hA).mono ?_
    rintro e w2 ⟨A2, rfl, ho, hb⟩
    replace ho := ho.base (B' := w.heap.size + 2) (by omega)
    replace b := Below.on b hb b.size
    replace q := q.below hb q.lt
    replace r := r.below hb r.lt
    replace R := R.to hb
    replace c0 := q.cell 0
    clear hb
    obtain ⟨bb, c3, he, hbb, hbw, hc1, hc2⟩ := ho.blk (by omega)
    simp only [Value.slice.injEq] at he
    obtain ⟨rfl, _, rfl⟩ := he
    obtain ⟨⟨x, hx0⟩, hf0, ho2⟩ := ho.name hk to
    have i1 : (0 : Int) ≤ (k : Int) := by omega
    have i2 : (k : Int) < (ds.length : Int) := by omega
    have hne1 : ¬ bb = w.heap.size := by omega
    have hne2 : ¬ w.heap.size = bb := by omega
    obtain ⟨W, hW⟩ : ∃ W, W = w2.setCell ⟨bb, k * 2, none⟩ (.string to) := ⟨_, rfl⟩
    have q3 : Blk W w.heap.size 28 #[.slice A ds.length c] := by rw [hW]; exact q.far hne2 _
    have r3 : Blk W (w.heap.size + 1) 28 #[.slice none 0 0] := by rw [hW]; exact r.far (by simp; omega) _
    have b3 : Below w.heap.size w W := by rw [hW]; exact b.setCell (p := ⟨bb, k * 2, none⟩) (by simp; omega) _
    have R3 : Rd W W.heap.size A ds.length c ds := (hr0.out.below b3).more b3.size
    have o3 : OwnC W (w.heap.size + 2) 68 (.slice (some ⟨bb, 0, none⟩) (renD ds k to).length ds.length) (renD ds k to) := by rw [hW]; exact ho2
    have c3' := q3.cell 0
    have c4 : (w2.setCell ⟨bb, k * 2, none⟩ (.string to)).cell? ⟨w.heap.size, 0, none⟩ = some (.slice A ds.length c) := (Blk.far q hne2 _).cell 0
    clear q r b R ho ho2 c0
    go_wp2_with fail
    rw [← hW]
    clear hW c4
    refine (validEnum_any _ _ _ ds _ R3).mono ?_
    rintro e w4 ⟨rfl, hb⟩
    replace b3 := Below.on b3 hb b3.size
    replace r3 := r3.below hb r3.lt
    replace o3 := o3.below hb
    obtain ⟨A5, c5, he, R5⟩ := o3.rd HG.out
    simp only [Value.slice.injEq] at he
    obtain ⟨rfl, _, rfl⟩ := he
    rw [renD_length] at R5
    have hs4 := r3.lt
    clear hb R3 q3 c3' o3
    go_wp2_with fail
    refine (enumOf_no _ _ _ (renD ds k to) _ HV1.out _ R5).mono ?_
    rintro e w5 ⟨A6, c6, rfl, ho, hb⟩
    have r := r3.below hb r3.lt
    have b := Below.on b3 hb b3.size
    have hs5 := r.lt
    clear hb R5 r3 b3
    have g0 := r.cell 0
    have f0 := r.frozen 0
    have r2 : Blk (w5.setCell ⟨(w.heap.size + 1), 0, none⟩ (.slice A6 0 c6)) (w.heap.size + 1) 28 #[(.slice A6 0 c6)] := r.set_ 0 (.slice A6 0 c6)
    have d0 := r2.cell 0
    have hne := ho.ne (p := (w.heap.size + 1)) (.inl (by omega))
    have HH := Lib.hid (And.intro ((ho.far hne (i := 0) (.slice A6 0 c6)).base (B' := w.heap.size) (by omega)) (b.setCell (p := ⟨(w.heap.size + 1), 0, none⟩) (by simp) (.slice A6 0 c6)))
    clear b r ho r2 hne
    go_wp2
    exact bodyPost_ret (v := .tuple #[.agg #[(.slice A6 0 c6)], .bool false]) (by simp [results, Try.results45, go_sem, d0]) rfl ⟨_, _, rfl, HH.out.1, HH.out.2⟩
theorem checkedEnum_yes' (A : Option Addr) (c : Nat) (ds : List D) {n : Nat} (hv : vEnum ds = true) (w : World) (hn : ds.length = n) (hr : Rd w w.heap.size A n c ds) :
    Calls Try.prog 76 #[.slice A n c] w fun e w' => e = .returned (.tuple #[.agg #[.slice A n c], .bool true]) ∧ Below w.heap.size w w' := by
  subst hn; exact checkedEnum_yes A c ds hv w hr
theorem checkedEnum_no' (A : Option Addr) (c : Nat) (ds : List D) {n : Nat} (hv : vEnum ds = false) (w : World) (hn : ds.length = n) (hr : Rd w w.heap.size A n c ds) :
    Calls Try.prog 76 #[.slice A n c] w fun e w' => e = .returned (.tuple #[.agg #[.slice none 0 0], .bool false]) ∧ Below w.heap.size w w' := by
  subst hn; exact checkedEnum_no A c ds hv w hr
set_option maxRecDepth 100000 in
set_option maxHeartbeats 4000000 in
theorem srenameDef_none (A : Option Addr) (c : Nat) (ds : List D) (s to : ByteArray) (hx : ix (nameIs s) ds = -1) (w : World) (hr : Rd w w.heap.size A ds.length c ds) :
    Calls Try.prog 46 #[.agg #[.slice A ds.length c], .string s, .string to] w (EnumMade [] false w) := by
  have hr0 := Lib.hid hr
  have q := (blk1 w #[.slice A ds.length c] 28).alloc (.cells #[.slice none 0 0] 28)
  have r := blk2 w (.cells #[.slice A ds.length c] 28) #[.slice none 0 0] 28
  have b := below2 w (.cells #[.slice A ds.length c] 28) (.cells #[.slice none 0 0] 28)
  have R := hr.to b
  have c0 := q.cell 0
  clear hr
  go_enter Try.func46, Try.ntmps46
  go_wp2_with fail
  refine (indexOf_bel _ _ _ ds s _ R).mono ?_
  rintro e w1 ⟨rfl, hb⟩
  replace b := Below.on b hb b.size
  replace q := q.below hb q.lt
  replace r := r.below hb r.lt
  replace R := R.to hb
  replace c0 := q.cell 0
  rw [hx]
  clear hb
  go_wp2_with fail
  refine (svalidEnum_any _ _ _ ds _ R).mono ?_
  rintro e w2 ⟨rfl, hb⟩
  replace b := Below.on b hb b.size
  replace q := q.below hb q.lt
  replace r := r.below hb r.lt
  replace R := R.to hb
  replace c0 := q.cell 0
  clear hb
  cases vDefs ds (-1000) 1000 with
  | false =>
    have g0 := r.cell 0
    have f0 := r.frozen 0
    have r2 : Blk (w2.setCell ⟨(w.heap.size + 1), 0, none⟩ (.slice none 0 0)) (w.heap.size + 1) 28 #[.slice none 0 0] := r.set_ 0 (.slice none 0 0)
    have d0 := r2.cell 0
    have HH := Lib.hid (b.setCell (p := ⟨(w.heap.size + 1), 0, none⟩) (by simp) (.slice none 0 0))
    clear b r r2
    go_wp2
    exact bodyPost_ret (v := .tuple #[.agg #[.slice none 0 0], .bool false]) (by simp [results, Try.results46, go_sem, d0]) rfl ⟨none, 0, rfl, .inl ⟨rfl, rfl⟩, HH.out⟩
  | true =>
    have g0 := r.cell 0
    have f0 := r.frozen 0
    have r2 : Blk (w2.setCell ⟨(w.heap.size + 1), 0, none⟩ (.slice none 0 0)) (w.heap.size + 1) 28 #[.slice none 0 0] := r.set_ 0 (.slice none 0 0)
    have d0 := r2.cell 0
    have HH := Lib.hid (b.setCell (p := ⟨(w.heap.size + 1), 0, none⟩) (by simp) (.slice none 0 0))
    clear b r r2
    go_wp2
    exact bodyPost_ret (v := .tuple #[.agg #[.slice none 0 0], .bool false]) (by simp [results, Try.results46, go_sem, d0]) rfl ⟨none, 0, rfl, .inl ⟨rfl, rfl⟩, HH.out⟩

set_option maxRecDepth 100000 in
set_option maxHeartbeats 4000000 in
theorem srenameDef_some (A : Option Addr) (c : Nat) (ds : List D) (s to : ByteArray) (k : Nat) (hk : k < ds.length) (hx : ix (nameIs s) ds = k) (hg : Good (renD ds k to)) (w : World) (hr : Rd w w.heap.size A ds.length c ds) (hA : A = none → c = 0) :
    Calls Try.prog 46 #[.agg #[.slice A ds.length c], .string s, .string to] w (if vEnum ds && vEnum (renD ds k to) then EnumMade (renD ds k to) true w else EnumMade [] false w) := by
  have HX := Lib.hid hx
  have HG := Lib.hid hg
  clear hx hg
  have hr0 := Lib.hid hr
  have q := (blk1 w #[.slice A ds.length c] 28).alloc (.cells #[.slice none 0 0] 28)
  have r := blk2 w (.cells #[.slice A ds.length c] 28) #[.slice none 0 0] 28
  have b := below2 w (.cells #[.slice A ds.length c] 28) (.cells #[.slice none 0 0] 28)
  have R := hr.to b
  have c0 := q.cell 0
  clear hr
  cases hv : vEnum ds && vEnum (renD ds k to) with
  | true =>
    have hv1 : vEnum ds = true := by simp only [Bool.and_eq_true] at hv; exact hv.1
    have hv2 : vEnum (renD ds k to) = true := by simp only [Bool.and_eq_true] at hv; exact hv.2
    have HV1 := Lib.hid hv1
    have HV2 := Lib.hid hv2
    clear hv hv1 hv2
    rw [if_pos rfl]
    go_enter Try.func46, Try.ntmps46
    go_wp2_with fail
    refine (indexOf_bel _ _ _ ds s _ R).mono ?_
    rintro e w1 ⟨rfl, hb⟩
    rw [HX.out]
    replace b := Below.on b hb b.size
    replace q := q.below hb q.lt
    replace r := r.below hb r.lt
    replace R := R.to hb
    replace c0 := q.cell 0
    clear hb
    go_wp2_with fail
    refine (svalidEnum_any _ _ _ ds _ R).mono ?_
    rintro e w1 ⟨rfl, hb⟩
    replace b := Below.on b hb b.size
    replace q := q.below hb q.lt
    replace r := r.below hb r.lt
    replace R := R.to hb
    replace c0 := q.cell 0
    have hs1 := r.lt
    clear hb
    rw [show vDefs ds (-1000) 1000 = true from HV1.out]
    go_wp2_with fail
    refine (copyDefs_own A ds.length c ds _ R hA).mono ?_
    rintro e w2 ⟨v2, rfl, ho', hb⟩
    have ho := ho'.toC.base (B' := w.heap.size + 2) (by omega)
    obtain ⟨A2, c2, rfl⟩ := ho.form
    clear ho'
    replace b := Below.on b hb b.size
    replace q := q.below hb q.lt
    replace r := r.below hb r.lt
    replace R := R.to hb
    replace c0 := q.cell 0
    clear hb
    obtain ⟨bb, c3, he, hbb, hbw, hc1, hc2⟩ := ho.blk (by omega)
    simp only [Value.slice.injEq] at he
    obtain ⟨rfl, _, rfl⟩ := he
    obtain ⟨⟨x, hx0⟩, hf0, ho2⟩ := ho.name hk to
    have i1 : (0 : Int) ≤ (k : Int) := by omega
    have i2 : (k : Int) < (ds.length : Int) := by omega
    have hne1 : ¬ bb = w.heap.size := by omega
    have hne2 : ¬ w.heap.size = bb := by omega
    obtain ⟨W, hW⟩ : ∃ W, W = w2.setCell ⟨bb, k * 2, none⟩ (.string to) := ⟨_, rfl⟩
    have q3 : Blk W w.heap.size 28 #[.slice A ds.length c] := by rw [hW]; exact q.far hne2 _
    have r3 : Blk W (w.heap.size + 1) 28 #[.slice none 0 0] := by rw [hW]; exact r.far (by simp; omega) _
    have b3 : Below w.heap.size w W := by rw [hW]; exact b.setCell (p := ⟨bb, k * 2, none⟩) (by simp; omega) _
    have R3 : Rd W W.heap.size A ds.length c ds := (hr0.out.below b3).more b3.size
    have o3 : OwnC W (w.heap.size + 2) 68 (.slice (some ⟨bb, 0, none⟩) (renD ds k to).length c2) (renD ds k to) := by rw [hW]; exact ho2
    have c3' := q3.cell 0
    have c4 : (w2.setCell ⟨bb, k * 2, none⟩ (.string to)).cell? ⟨w.heap.size, 0, none⟩ = some (.slice A ds.length c) := (Blk.far q hne2 _).cell 0
    clear q r b R ho ho2 c0
    go_wp2_with fail
    rw [← hW]
    clear hW c4
    obtain ⟨A5, c5, he, R5⟩ := o3.rd HG.out
    simp only [Value.slice.injEq] at he
    obtain ⟨rfl, _, rfl⟩ := he
    rw [renD_length] at R5
    have hs4 := r3.lt
    clear R3 q3 c3'
    refine (checkedEnum_yes' _ _ (renD ds k to) HV2.out _ (renD_length ds k to) R5).mono ?_
    rintro e w5 ⟨rfl, hb⟩
    have r := r3.below hb r3.lt
    have b := Below.on b3 hb b3.size
    have ho := o3.below hb
    rw [renD_length] at ho
    have hs5 := r.lt
    clear hb R5 r3 b3 o3
    have HT := Lib.hid (renD_length ds k to)
    have g0 := r.cell 0
    have f0 := r.frozen 0
    have r2 : Blk (w5.setCell ⟨w.heap.size + 1, 0, none⟩ (.slice (some ⟨bb, 0, none⟩) ds.length c2)) (w.heap.size + 1) 28 #[(.slice (some ⟨bb, 0, none⟩) ds.length c2)] := r.set_ 0 _
    have d0 := r2.cell 0
    have hne := ho.ne (p := w.heap.size + 1) (.inl (by omega))
    have HH := Lib.hid (And.intro ((ho.far hne (i := 0) (.slice (some ⟨bb, 0, none⟩) ds.length c2)).base (B' := w.heap.size) (by omega)) (b.setCell (p := ⟨w.heap.size + 1, 0, none⟩) (by simp) (.slice (some ⟨bb, 0, none⟩) ds.length c2)))
    clear b r ho r2 hne
    go_wp2
    exact bodyPost_ret (v := .tuple #[.agg #[.slice (some ⟨bb, 0, none⟩) ds.length c2], .bool true]) (by simp [results, Try.results46, go_sem, d0]) rfl ⟨some ⟨bb, 0, none⟩, c2, by rw [HT.out], by rw [HT.out]; exact HH.out.1, HH.out.2⟩
  | false =>
    have hv1 : vEnum ds = false ∨ vEnum (renD ds k to) = false := Bool.and_eq_false_iff.1 hv
    have HV1 := Lib.hid hv1
    clear hv hv1
    rw [if_neg (by simp)]
    go_enter Try.func46, Try.ntmps46
    go_wp2_with fail
    refine (indexOf_bel _ _ _ ds s _ R).mono ?_
    rintro e w1 ⟨rfl, hb⟩
    rw [HX.out]
    replace b := Below.on b hb b.size
    replace q := q.below hb q.lt
    replace r := r.below hb r.lt
    replace R := R.to hb
    replace c0 := q.cell 0
    clear hb
    go_wp2_with fail
    refine (svalidEnum_any _ _ _ ds _ R).mono ?_
    rintro e w1 ⟨rfl, hb⟩
    replace b := Below.on b hb b.size
    replace q := q.below hb q.lt
    replace r := r.below hb r.lt
    replace R := R.to hb
    replace c0 := q.cell 0
    have hs1 := r.lt
    clear hb
    cases hv : vDefs ds (-1000) 1000 with
    | false =>
      clear hv HV1
      have g0 := r.cell 0
      have f0 := r.frozen 0
      have r2 : Blk (w1.setCell ⟨(w.heap.size + 1), 0, none⟩ (.slice none 0 0)) (w.heap.size + 1) 28 #[.slice none 0 0] := r.set_ 0 (.slice none 0 0)
      have d0 := r2.cell 0
      have HH := Lib.hid (b.setCell (p := ⟨(w.heap.size + 1), 0, none⟩) (by simp) (.slice none 0 0))
      clear b r r2
      go_wp2
      exact bodyPost_ret (v := .tuple #[.agg #[.slice none 0 0], .bool false]) (by simp [results, Try.results46, go_sem, d0]) rfl ⟨none, 0, rfl, .inl ⟨rfl, rfl⟩, HH.out⟩
    | true =>
      have HV2 := Lib.hid (show vEnum (renD ds k to) = false from HV1.out.resolve_left (by rw [show vEnum ds = true from hv]; simp))
      clear hv HV1
      go_wp2_with fail
      refine (copyDefs_own A ds.length c ds _ R hA).mono ?_
      rintro e w2 ⟨v2, rfl, ho', hb⟩
      have ho := ho'.toC.base (B' := w.heap.size + 2) (by omega)
      obtain ⟨A2, c2, rfl⟩ := ho.form
      clear ho'
      replace b := Below.on b hb b.size
      replace q := q.below hb q.lt
      replace r := r.below hb r.lt
      replace R := R.to hb
      replace c0 := q.cell 0
      clear hb
      obtain ⟨bb, c3, he, hbb, hbw, hc1, hc2⟩ := ho.blk (by omega)
      simp only [Value.slice.injEq] at he
      obtain ⟨rfl, _, rfl⟩ := he
      obtain ⟨⟨x, hx0⟩, hf0, ho2⟩ := ho.name hk to
      have i1 : (0 : Int) ≤ (k : Int) := by omega
      have i2 : (k : Int) < (ds.length : Int) := by omega
      have hne1 : ¬ bb = w.heap.size := by omega
      have hne2 : ¬ w.heap.size = bb := by omega
      obtain ⟨W, hW⟩ : ∃ W, W = w2.setCell ⟨bb, k * 2, none⟩ (.string to) := ⟨_, rfl⟩
      have q3 : Blk W w.heap.size 28 #[.slice A ds.length c] := by rw [hW]; exact q.far hne2 _
      have r3 : Blk W (w.heap.size + 1) 28 #[.slice none 0 0] := by rw [hW]; exact r.far (by simp; omega) _
      have b3 : Below w.heap.size w W := by rw [hW]; exact b.setCell (p := ⟨bb, k * 2, none⟩) (by simp; omega) _
      have R3 : Rd W W.heap.size A ds.length c ds := (hr0.out.below b3).more b3.size
      have o3 : OwnC W (w.heap.size + 2) 68 (.slice (some ⟨bb, 0, none⟩) (renD ds k to).length c2) (renD ds k to) := by rw [hW]; exact ho2
      have c3' := q3.cell 0
      have c4 : (w2.setCell ⟨bb, k * 2, none⟩ (.string to)).cell? ⟨w.heap.size, 0, none⟩ = some (.slice A ds.length c) := (Blk.far q hne2 _).cell 0
      clear q r b R ho ho2 c0
      go_wp2_with fail
      rw [← hW]
      clear hW c4
      obtain ⟨A5, c5, he, R5⟩ := o3.rd HG.out
      simp only [Value.slice.injEq] at he
      obtain ⟨rfl, _, rfl⟩ := he
      rw [renD_length] at R5
      have hs4 := r3.lt
      clear R3 q3 c3'
      refine (checkedEnum_no' _ _ (renD ds k to) HV2.out _ (renD_length ds k to) R5).mono ?_
      rintro e w5 ⟨rfl, hb⟩
      have r := r3.below hb r3.lt
      have b := Below.on b3 hb b3.size
      have hs5 := r.lt
      clear hb R5 r3 b3 o3
      have g0 := r.cell 0
      have f0 := r.frozen 0
      have r2 : Blk (w5.setCell ⟨(w.heap.size + 1), 0, none⟩ (.slice none 0 0)) (w.heap.size + 1) 28 #[.slice none 0 0] := r.set_ 0 (.slice none 0 0)
      have d0 := r2.cell 0
      have HH := Lib.hid (b.setCell (p := ⟨(w.heap.size + 1), 0, none⟩) (by simp) (.slice none 0 0))
      clear b r r2
      go_wp2
      exact bodyPost_ret (v := .tuple #[.agg #[.slice none 0 0], .bool false]) (by simp [results, Try.results46, go_sem, d0]) rfl ⟨none, 0, rfl, .inl ⟨rfl, rfl⟩, HH.out⟩
end Go.Proofs.Ytpnicgagmopilaa
