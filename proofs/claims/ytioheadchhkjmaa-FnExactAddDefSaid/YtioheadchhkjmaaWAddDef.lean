/-
  The walks of AddDef of both sides.
-/
import Derived.Test.YtioheadchhkjmaaWRename
import Derived.Test.YtioheadchhkjmaaWMarkE
import Derived.Deep.RegionHeld3
namespace Go.Proofs.Ytioheadchhkjmaa
open Go.RowKit
attribute [local go_sem ↓] Go.wp_at_zero Go.wp_at_succ

theorem Try.infoDef6 : (Try.prog.info? 46).map (fun i => (i.zero, i.size, i.bytes)) = some (some (.agg #[.string ByteArray.empty, .int .i64 0]), 2, 24) := by kernel_rfl
theorem cellFarA {w : World} {b o p i : Nat} {x : Option Value} {u : Value} (h : w.cell? ⟨b, o, none⟩ = x) (hne : b ≠ p) : (w.setCell ⟨p, i, none⟩ u).cell? ⟨b, o, none⟩ = x :=
  (World.cell?_of_block (a := ⟨b, o, none⟩) (Below.heap_setCell w ⟨p, i, none⟩ u b (by simpa using hne))).trans h
theorem belowGrown0 {n₀ : Nat} {w wr W w' : World} {row : Option Nat} (hb : Below n₀ w wr) (hg : W.grownBy w' row) (e1 : W.os = wr.os) (e2 : W.tape = wr.tape) (e3 : W.output = wr.output) (e4 : W.heap = wr.heap) (hn : n₀ ≤ wr.heap.size) (hrow : ∀ i, row = some i → n₀ ≤ i) : Below n₀ w w' :=
  ⟨hg.os.trans (e1.trans hb.os), hg.tape.trans (e2.trans hb.tape), hg.output.trans (e3.trans hb.output), Nat.le_trans hb.size (by rw [← e4]; exact hg.size), fun i hi => (hg.block i (by rw [e4]; exact Nat.lt_of_lt_of_le hi hn) (fun e => by have := hrow i e.symm; omega)).trans (by rw [e4]; exact hb.block i hi)⟩
theorem belowGrown1 {n₀ : Nat} {w wr W w' : World} {o : Obj} {row : Option Nat} (hb : Below n₀ w wr) (hg : W.grownBy w' row) (e1 : W.os = wr.os) (e2 : W.tape = wr.tape) (e3 : W.output = wr.output) (e4 : W.heap = (wr.alloc o).heap) (hn : n₀ ≤ wr.heap.size) (hrow : ∀ i, row = some i → n₀ ≤ i) : Below n₀ w w' :=
  belowGrown0 (wr := wr.alloc o) (hb.alloc hn o) hg e1 e2 e3 e4 (by simp; omega) hrow
theorem ownFormA {w : World} {B n m size : Nat} {e : TypeId} {v : Value} {xs : List Value} (h : w.ownsRow B e size v n xs) (hn : n = m) : ∃ A c, v = .slice A m c := by
  subst hn
  rcases h.2 with ⟨hv, h0⟩ | ⟨g, cap, _, hv, _⟩
  · exact ⟨none, 0, by rw [hv, h0]⟩
  · exact ⟨_, cap, hv⟩
/-- The new block that holds one definition. -/
theorem newsDA (w : World) (d : D) (t : TypeId) : ∀ (j : Nat) (u : Value), [Value.string d.1, .int .i64 d.2][j]? = some u → (w.alloc (.cells #[.string d.1, .int .i64 d.2] t)).cell? ((⟨w.heap.size, 0, none⟩ : Addr).add j) = some u := by
  intro j u hj
  have h := (blk1 w #[.string d.1, .int .i64 d.2] t).cell
  match j, hj with
  | 0, hj => simp at hj; subst hj; exact h 0
  | 1, hj => simp at hj; subst hj; exact h 1

theorem run_append_full {P : Program} (w : World) (base : Nat) (t ty e : TypeId) (i : TypeInfo) (z : Value) (size bytes : Nat) (ht : P.underlying t = some (.slice e)) (hi : P.info? e = some i) (hz : i.zero = some z)
    (hsize : i.size = size) (hby : i.bytes = bytes) (hzs : z.cells.size = size) (hs2 : size = 2) {B : Nat} {A : Option Addr} {n : Nat} {ds : List D} (ho : OwnC w B e (.slice A n n) ds)
    (a : Addr) (m c : Nat) (news : List Value) (hl : news.length = m * size) (hnews : ∀ j u, news[j]? = some u → w.cell? (a.add j) = some u) (hm : 0 < m)
    (h63 : n + m ≤ maxLen) (hbytes : (n + m) * bytes ≤ 140737488355328) (hbase : base ≤ w.heap.size) :
    ∃ v' w', (Builtin.append_ #[t, t] ty #[.slice A n n, .slice (some a) m c]).run P w = .ok v' w' ∧ w'.ownsRow base e size v' (n + m) (flat ds ++ news) ∧ w.grownBy w' none := by
  subst hsize
  subst hby
  have hlen0 : ds.length = n := by
    rcases ho with ⟨hv, hd⟩ | ⟨g, c', cur, hv, _⟩
    · simp only [Value.slice.injEq] at hv; rw [hd]; exact hv.2.1.symm
    · simp only [Value.slice.injEq] at hv; exact hv.2.1.symm
  have hfl : (flat ds).length = n * i.size := by rw [flat_length, hlen0, hs2]
  have hsmall : n + m ≤ 9223372036854775807 := by simp only [maxLen] at h63; omega
  have hlen : (flat ds ++ news).length = (n + m) * i.size := by rw [List.length_append, hfl, hl, Nat.add_mul]
  have grown : ∀ (old : Nat), old < n + m →
      (w.drew.alloc (.cells ((flat ds).toArray ++ news.toArray ++ Builtin.zeroCells z.cells (grownCap w (n + m) old e - (n + m))) e)).ownsRow base e i.size
        (.slice (some ⟨w.heap.size, 0, none⟩) (n + m) (grownCap w (n + m) old e)) (n + m) (flat ds ++ news) ∧
      w.grownBy (w.drew.alloc (.cells ((flat ds).toArray ++ news.toArray ++ Builtin.zeroCells z.cells (grownCap w (n + m) old e - (n + m))) e)) none := by
    intro old ho
    have hge := grownCap_ge w (n + m) old e
    have hcm : grownCap w (n + m) old e ≤ maxLen := grownCap_le_maxLen w (n + m) old e h63
    refine ⟨⟨hlen, .inr ⟨w.heap.size, _, _, rfl, hbase, heap_alloc_new w.drew _, hge, hcm, ?_, ?_⟩⟩, ⟨rfl, rfl, rfl, by simp, fun k hk _ => Below.heap_alloc w.drew _ k hk⟩⟩
    · simp only [Array.size_append, List.size_toArray, size_zeroCells, hzs, hfl, hl, ← Nat.add_mul]
      congr 1
      omega
    · simp only [Array.toList_append, List.append_assoc]
      rw [← List.append_assoc, ← hlen]
      exact List.take_left
  rcases ho with ⟨hv, hd⟩ | ⟨g, c', cur, hv, hb, hg, hn, hc, hs, htk⟩
  · simp only [Value.slice.injEq] at hv
    obtain ⟨rfl, rfl, _⟩ := hv
    subst hd
    have hr := run_append_nil (P := P) w t ty e i z ht hi hz a m c news hl hnews (by omega) (by omega) (by have hb := hbytes; simp only [Nat.zero_add] at hb; omega)
    have hgr := grown 0 (by omega)
    simp only [Nat.zero_add, flat, List.flatMap_nil, List.nil_append, Array.empty_append] at hgr ⊢
    exact ⟨_, _, hr, hgr.1, hgr.2⟩
  · simp only [Value.slice.injEq] at hv
    obtain ⟨rfl, _, rfl⟩ := hv
    have holds : ∀ j u, (flat ds)[j]? = some u → w.cell? ((⟨g, 0, none⟩ : Addr).add j) = some u := fun j u hj => by
      have hlt := (List.getElem?_eq_some_iff.1 hj).1
      rw [flat_length] at hlt
      rw [add_addr, Nat.zero_add, ← hj, ← htk, List.getElem?_take, if_pos hlt]
      simp [World.cell?, hg]
    have hr := run_append_grow (P := P) w t ty e i z ht hi hz ⟨g, 0, none⟩ n n (flat ds) hfl holds a m c news hl hnews (by omega) (by omega) (growslice_fits (by omega) hbytes)
    have hgr := grown n (by omega)
    exact ⟨_, _, hr, hgr.1, hgr.2⟩
/-- append to a full row, at a step of a region that draws its order. -/
theorem step_append_full {P : Program} {w : World} {ops : Array Oper} {o : Oper} {a : Act} {K : Act → World → Prop} {Q : Exit → Act → World → Prop} {E : Prop} (hgd : o.guard = none) (s x : Operand) (t : TypeId)
    (ho : o.op = .call { callee := .builtin .append, args := #[s, x], argTypes := #[t, t] })
    (base : Nat) (e : TypeId) (i : TypeInfo) (z : Value) (size bytes : Nat) (ht : P.underlying t = some (.slice e)) (hi : P.info? e = some i) (hz : i.zero = some z)
    (hsize : i.size = size) (hby : i.bytes = bytes) (hzs : z.cells.size = size) (hs2 : size = 2) {B : Nat} (A : Option Addr) (n : Nat) (ds : List D) (hs : a.eval s = .slice A n n) (hown : OwnC w B e (.slice A n n) ds)
    (ad : Addr) (m c : Nat) (news : List Value) (hx : a.eval x = .slice (some ad) m c) (hl : news.length = m * size) (hnews : ∀ j u, news[j]? = some u → w.cell? (ad.add j) = some u) (hm : 0 < m)
    (h63 : n + m ≤ maxLen) (hbytes : (n + m) * bytes ≤ 140737488355328) (hbase : base ≤ w.heap.size)
    (h : ∀ v' w', w'.ownsRow base e size v' (n + m) (flat ds ++ news) → w.grownBy w' none → K (a.put o.dst v') w') :
    if Region.wanted o (yielded ops a.tmps) = true then Oper.wp P o a w K Q else E := by
  have hw : Region.wanted o (yielded ops a.tmps) = true := by simp [Region.wanted, hgd]
  rw [if_pos hw]
  obtain ⟨v', w', hr, h2, h3⟩ := run_append_full (P := P) w base t o.type e i z size bytes ht hi hz hsize hby hzs hs2 hown ad m c news hl hnews hm h63 hbytes hbase
  unfold Oper.wp execOp
  simp only [ho, resolve, invoke, builtin, Sem.run_bind, Sem.run_pure, Result.andThen_ok, List.map_toArray, List.map_cons, List.map_nil, hs, hx, hr]
  exact h v' w' h2 h3

theorem ownRdA {w : World} {B n c : Nat} {t : TypeId} {A : Option Addr} {ds : List D} (h : Own w B t (.slice A n c) ds) (hg : Good ds) : Rd w w.heap.size A n c ds := by
  obtain ⟨A', c', he, r⟩ := h.toC.rd hg
  simp only [Value.slice.injEq] at he
  obtain ⟨rfl, hn, rfl⟩ := he
  rwa [hn]
theorem ownNilA {w : World} {B n c : Nat} {t : TypeId} {A : Option Addr} {ds : List D} (h : Own w B t (.slice A n c) ds) : A = none → c = 0 := by
  obtain ⟨A', c', he, _, _, hh⟩ := h.toC.cap
  simp only [Value.slice.injEq] at he
  obtain ⟨rfl, _, rfl⟩ := he
  exact hh

set_option maxRecDepth 100000 in
set_option maxHeartbeats 4000000 in
theorem addDef_yes (A : Option Addr) (c : Nat) (ds L : List D) (d : D) (hL : ds ++ [d] = L) (hv : vEnum ds = true) (hv2 : vEnum L = true) (hg : Good L) (w : World) (hr : Rd w w.heap.size A ds.length c ds) (hA : A = none → c = 0) :
    Calls Try.prog 21 #[.agg #[.slice A ds.length c], .agg #[.string d.1, .int .i64 d.2]] w (EnumMade L true w) := by
  have q := ((blk1 w #[.slice A ds.length c] 42).alloc (.cells #[.string d.1, .int .i64 d.2] 46)).alloc (.cells #[.slice none 0 0] 42)
  have p := (blk2 w (.cells #[.slice A ds.length c] 42) #[.string d.1, .int .i64 d.2] 46).alloc (.cells #[.slice none 0 0] 42)
  have r := blk3 w (.cells #[.slice A ds.length c] 42) (.cells #[.string d.1, .int .i64 d.2] 46) #[.slice none 0 0] 42
  have b := below3 w (.cells #[.slice A ds.length c] 42) (.cells #[.string d.1, .int .i64 d.2] 46) (.cells #[.slice none 0 0] 42)
  have R := hr.to b
  have c0 := q.cell 0
  have d0 := p.cell 0
  have d1 := p.cell 1
  obtain ⟨i0, hi, hz0, hz1, hz2⟩ := info_parts Try.infoDef6
  have HI := Lib.hid hi
  have HZ0 := Lib.hid hz0
  have HZ1 := Lib.hid hz1
  have HZ2 := Lib.hid hz2
  clear hi hz0 hz1 hz2 hr
  have HLL := Lib.hid (show ds.length + 1 = L.length from by rw [← hL]; simp)
  have HF := Lib.hid (show flat ds ++ [.string d.1, .int .i64 d.2] = flat L from by rw [← hL, flat_snoc])
  have hl9 : ds.length ≤ 5864062014804 := by have := hg.1; have := HLL.out; omega
  have HG := Lib.hid hg
  have HV := Lib.hid hv
  have HV2 := Lib.hid hv2
  clear hv hv2 hg hL
  go_enter Try.func21, Try.ntmps21
  go_wp2_with fail
  obtain ⟨W0, hW0⟩ : ∃ W0, ((w.alloc (.cells #[.slice A ds.length c] 42)).alloc (.cells #[.string d.1, .int .i64 d.2] 46)).alloc (.cells #[.slice none 0 0] 42) = W0 := ⟨_, rfl⟩
  rw [hW0] at q p r b R c0 d0 d1 ⊢
  clear hW0
  have hql := q.lt
  have hpl := p.lt
  have hrl := r.lt
  have hw0 := b.size
  go_region_held3 (fun w' => w'.cell? ⟨w.heap.size, 0, none⟩ = some (.slice A ds.length c) ∧ w'.cell? ⟨w.heap.size + 1, 0, none⟩ = some (.string d.1) ∧ w'.cell? ⟨w.heap.size + 1, 1, none⟩ = some (.int .i64 d.2)) (first | exact ⟨h0, h1, h2⟩ | go_keep)
    (first
      | (go_at_call 42; refine (clone_any A ds.length c ds W0.drew R.drew hA).mono ?_; rintro e w2 ⟨A2, rfl, ho, hb⟩; have bA : Below W0.heap.size W0 w2 := Below.on (Below.refl W0.heap.size W0).drew hb (Nat.le_refl _); have hw2 := bA.size; have e0 := (q.below bA hql).cell 0; have e1 := (p.below bA hpl).cell 0; have e2 := (p.below bA hpl).cell 1; have HNW := newsDA w2 d 46)
      | (go_at_call 42; refine (clone_any A ds.length c ds (W0.drew.alloc (.cells #[.string d.1, .int .i64 d.2] 46)) (R.drew.to (below1 W0.drew _)) hA).mono ?_; rintro e w2 ⟨A2, rfl, ho, hb⟩; have bA : Below W0.heap.size W0 w2 := Below.on ((Below.refl W0.heap.size W0).drew.alloc (Nat.le_refl _) _) hb (by simp); have hw2 := bA.size; have e0 := (q.below bA hql).cell 0; have e1 := (p.below bA hpl).cell 0; have e2 := (p.below bA hpl).cell 1; have HNW := World.news_of_block (Blk.below (blk1 W0.drew #[.string d.1, .int .i64 d.2] 46) hb (by simp)))
      | (refine step_append_full (by rfl) _ _ 40 (by rfl) W0.heap.size 46 i0 (.agg #[.string ByteArray.empty, .int .i64 0]) 2 24 Try.underlying40 HI.out HZ0.out HZ1.out HZ2.out rfl rfl A2 ds.length ds (by rfl) (ho.alloc _) ⟨w2.heap.size, 0, none⟩ 1 1 [.string d.1, .int .i64 d.2] (by rfl) rfl HNW (by omega) (by unfold maxLen; omega) (by omega) (by simp; omega) ?_; intro v' w3 hown hgrow; obtain ⟨A3, c3, hv3⟩ := ownFormA hown HLL.out; subst hv3; have b3 : Below W0.heap.size W0 w3 := belowGrown1 (wr := w2) bA hgrow rfl rfl rfl rfl hw2 (fun i hi => by cases hi); have e0 := (q.below b3 hql).cell 0; have e1 := (p.below b3 hpl).cell 0; have e2 := (p.below b3 hpl).cell 1)
      | (refine step_append_full (by rfl) _ _ 40 (by rfl) W0.heap.size 46 i0 (.agg #[.string ByteArray.empty, .int .i64 0]) 2 24 Try.underlying40 HI.out HZ0.out HZ1.out HZ2.out rfl rfl A2 ds.length ds (by rfl) ho ⟨W0.heap.size, 0, none⟩ 1 1 [.string d.1, .int .i64 d.2] (by rfl) rfl HNW (by omega) (by unfold maxLen; omega) (by omega) hw2 ?_; intro v' w3 hown hgrow; obtain ⟨A3, c3, hv3⟩ := ownFormA hown HLL.out; subst hv3; have b3 : Below W0.heap.size W0 w3 := belowGrown0 (wr := w2) bA hgrow rfl rfl rfl rfl hw2 (fun i hi => by cases hi); have e0 := (q.below b3 hql).cell 0; have e1 := (p.below b3 hpl).cell 0; have e2 := (p.below b3 hpl).cell 1)
      | (go_at_call 43; refine (validEnum_any A ds.length c ds _ (R.to b3)).mono ?_; rintro e w4 ⟨rfl, hb4⟩; rw [show vDefs ds (-1000) 1000 = true from HV.out]; have b4 : Below W0.heap.size W0 w4 := Below.on b3 hb4 b3.size; have o4 : Own w4 W0.heap.size 46 (.slice A3 L.length c3) L := Own.below (show Own w3 W0.heap.size 46 (.slice A3 L.length c3) L from by have h := hown; rw [HLL.out, HF.out] at h; exact h) hb4; have e0 := (q.below b4 hql).cell 0; have e1 := (p.below b4 hpl).cell 0; have e2 := (p.below b4 hpl).cell 1)
      | (go_at_call 41; refine (enumOf_yes A3 L.length c3 L HV2.out _ (ownRdA o4 HG.out) (ownNilA o4)).mono ?_; rintro e w5 ⟨A5, c5, rfl, o5, hb5⟩; have b5 : Below W0.heap.size W0 w5 := Below.on b4 hb5 b4.size; have e0 := (q.below b5 hql).cell 0; have e1 := (p.below b5 hpl).cell 0; have e2 := (p.below b5 hpl).cell 1; have f0 := (r.below b5 hrl).cell 0; have f1 := (r.below b5 hrl).frozen 0; have h0 := cellFarA (p := w.heap.size + 1 + 1) (i := 0) (u := .slice A5 L.length c5) e0 (by omega); have h1 := cellFarA (p := w.heap.size + 1 + 1) (i := 0) (u := .slice A5 L.length c5) e1 (by omega); have h2 := cellFarA (p := w.heap.size + 1 + 1) (i := 0) (u := .slice A5 L.length c5) e2 (by omega)))
  all_goals
    have r5 : Blk (w5.setCell ⟨w.heap.size + 1 + 1, 0, none⟩ (.slice A5 L.length c5)) (w.heap.size + 1 + 1) 42 #[.slice A5 L.length c5] := (r.below b5 hrl).set_ 0 (.slice A5 L.length c5)
    have g9 := r5.cell 0
    have hrw := (r.below b4 hrl).lt
    have HH := Lib.hid (And.intro ((o5.far (o5.ne (p := w.heap.size + 1 + 1) (.inl hrw)) (i := 0) (.slice A5 L.length c5)).base (B' := w.heap.size) (by omega)) ((Below.on b b5 b.size).setCell (p := ⟨w.heap.size + 1 + 1, 0, none⟩) (by simp; omega) (.slice A5 L.length c5)))
    clear r5 b5 e0 e1 e2 f0 f1 h0 h1 h2 hrw
    go_wp2
    exact bodyPost_ret (v := .tuple #[.agg #[.slice A5 L.length c5], .bool true]) (by simp [results, Try.results21, go_sem, g9]) rfl ⟨_, _, rfl, HH.out.1, HH.out.2⟩

set_option maxRecDepth 100000 in
set_option maxHeartbeats 4000000 in
theorem addDef_no (A : Option Addr) (c : Nat) (ds L : List D) (d : D) (hL : ds ++ [d] = L) (ok : Bool) (hv : vEnum ds = ok) (hv2 : ok = false ∨ vEnum L = false) (hg : Good L) (w : World) (hr : Rd w w.heap.size A ds.length c ds) (hA : A = none → c = 0) :
    Calls Try.prog 21 #[.agg #[.slice A ds.length c], .agg #[.string d.1, .int .i64 d.2]] w (EnumMade [] false w) := by
  have q := ((blk1 w #[.slice A ds.length c] 42).alloc (.cells #[.string d.1, .int .i64 d.2] 46)).alloc (.cells #[.slice none 0 0] 42)
  have p := (blk2 w (.cells #[.slice A ds.length c] 42) #[.string d.1, .int .i64 d.2] 46).alloc (.cells #[.slice none 0 0] 42)
  have r := blk3 w (.cells #[.slice A ds.length c] 42) (.cells #[.string d.1, .int .i64 d.2] 46) #[.slice none 0 0] 42
  have b := below3 w (.cells #[.slice A ds.length c] 42) (.cells #[.string d.1, .int .i64 d.2] 46) (.cells #[.slice none 0 0] 42)
  have R := hr.to b
  have c0 := q.cell 0
  have d0 := p.cell 0
  have d1 := p.cell 1
  obtain ⟨i0, hi, hz0, hz1, hz2⟩ := info_parts Try.infoDef6
  have HI := Lib.hid hi
  have HZ0 := Lib.hid hz0
  have HZ1 := Lib.hid hz1
  have HZ2 := Lib.hid hz2
  clear hi hz0 hz1 hz2 hr
  have HLL := Lib.hid (show ds.length + 1 = L.length from by rw [← hL]; simp)
  have HF := Lib.hid (show flat ds ++ [.string d.1, .int .i64 d.2] = flat L from by rw [← hL, flat_snoc])
  have hl9 : ds.length ≤ 5864062014804 := by have := hg.1; have := HLL.out; omega
  have HG := Lib.hid hg
  have HV := Lib.hid hv
  have HV2 := Lib.hid hv2
  clear hv hv2 hg hL
  go_enter Try.func21, Try.ntmps21
  go_wp2_with fail
  obtain ⟨W0, hW0⟩ : ∃ W0, ((w.alloc (.cells #[.slice A ds.length c] 42)).alloc (.cells #[.string d.1, .int .i64 d.2] 46)).alloc (.cells #[.slice none 0 0] 42) = W0 := ⟨_, rfl⟩
  rw [hW0] at q p r b R c0 d0 d1 ⊢
  clear hW0
  have hql := q.lt
  have hpl := p.lt
  have hrl := r.lt
  have hw0 := b.size
  go_region_held3 (fun w' => w'.cell? ⟨w.heap.size, 0, none⟩ = some (.slice A ds.length c) ∧ w'.cell? ⟨w.heap.size + 1, 0, none⟩ = some (.string d.1) ∧ w'.cell? ⟨w.heap.size + 1, 1, none⟩ = some (.int .i64 d.2)) (first | exact ⟨h0, h1, h2⟩ | go_keep)
    (first
      | (go_at_call 42; refine (clone_any A ds.length c ds W0.drew R.drew hA).mono ?_; rintro e w2 ⟨A2, rfl, ho, hb⟩; have bA : Below W0.heap.size W0 w2 := Below.on (Below.refl W0.heap.size W0).drew hb (Nat.le_refl _); have hw2 := bA.size; have e0 := (q.below bA hql).cell 0; have e1 := (p.below bA hpl).cell 0; have e2 := (p.below bA hpl).cell 1; have HNW := newsDA w2 d 46)
      | (go_at_call 42; refine (clone_any A ds.length c ds (W0.drew.alloc (.cells #[.string d.1, .int .i64 d.2] 46)) (R.drew.to (below1 W0.drew _)) hA).mono ?_; rintro e w2 ⟨A2, rfl, ho, hb⟩; have bA : Below W0.heap.size W0 w2 := Below.on ((Below.refl W0.heap.size W0).drew.alloc (Nat.le_refl _) _) hb (by simp); have hw2 := bA.size; have e0 := (q.below bA hql).cell 0; have e1 := (p.below bA hpl).cell 0; have e2 := (p.below bA hpl).cell 1; have HNW := World.news_of_block (Blk.below (blk1 W0.drew #[.string d.1, .int .i64 d.2] 46) hb (by simp)))
      | (refine step_append_full (by rfl) _ _ 40 (by rfl) W0.heap.size 46 i0 (.agg #[.string ByteArray.empty, .int .i64 0]) 2 24 Try.underlying40 HI.out HZ0.out HZ1.out HZ2.out rfl rfl A2 ds.length ds (by rfl) (ho.alloc _) ⟨w2.heap.size, 0, none⟩ 1 1 [.string d.1, .int .i64 d.2] (by rfl) rfl HNW (by omega) (by unfold maxLen; omega) (by omega) (by simp; omega) ?_; intro v' w3 hown hgrow; obtain ⟨A3, c3, hv3⟩ := ownFormA hown HLL.out; subst hv3; have b3 : Below W0.heap.size W0 w3 := belowGrown1 (wr := w2) bA hgrow rfl rfl rfl rfl hw2 (fun i hi => by cases hi); have e0 := (q.below b3 hql).cell 0; have e1 := (p.below b3 hpl).cell 0; have e2 := (p.below b3 hpl).cell 1)
      | (refine step_append_full (by rfl) _ _ 40 (by rfl) W0.heap.size 46 i0 (.agg #[.string ByteArray.empty, .int .i64 0]) 2 24 Try.underlying40 HI.out HZ0.out HZ1.out HZ2.out rfl rfl A2 ds.length ds (by rfl) ho ⟨W0.heap.size, 0, none⟩ 1 1 [.string d.1, .int .i64 d.2] (by rfl) rfl HNW (by omega) (by unfold maxLen; omega) (by omega) hw2 ?_; intro v' w3 hown hgrow; obtain ⟨A3, c3, hv3⟩ := ownFormA hown HLL.out; subst hv3; have b3 : Below W0.heap.size W0 w3 := belowGrown0 (wr := w2) bA hgrow rfl rfl rfl rfl hw2 (fun i hi => by cases hi); have e0 := (q.below b3 hql).cell 0; have e1 := (p.below b3 hpl).cell 0; have e2 := (p.below b3 hpl).cell 1)
      | (go_at_call 43; refine (validEnum_any A ds.length c ds _ (R.to b3)).mono ?_; rintro e w4 ⟨rfl, hb4⟩; rw [show vDefs ds (-1000) 1000 = ok from HV.out]; have b4 : Below W0.heap.size W0 w4 := Below.on b3 hb4 b3.size; have o4 : Own w4 W0.heap.size 46 (.slice A3 L.length c3) L := Own.below (show Own w3 W0.heap.size 46 (.slice A3 L.length c3) L from by have h := hown; rw [HLL.out, HF.out] at h; exact h) hb4; have e0 := (q.below b4 hql).cell 0; have e1 := (p.below b4 hpl).cell 0; have e2 := (p.below b4 hpl).cell 1)
      | (go_at_call 41; refine (enumOf_no A3 L.length c3 L ok HV2.out _ (ownRdA o4 HG.out)).mono ?_; rintro e w5 ⟨A5, c5, rfl, o5, hb5⟩; rw [show ([] : List D).length = 0 from rfl] at o5 ⊢; have b5 : Below W0.heap.size W0 w5 := Below.on b4 hb5 b4.size; have e0 := (q.below b5 hql).cell 0; have e1 := (p.below b5 hpl).cell 0; have e2 := (p.below b5 hpl).cell 1; have f0 := (r.below b5 hrl).cell 0; have f1 := (r.below b5 hrl).frozen 0; have h0 := cellFarA (p := w.heap.size + 1 + 1) (i := 0) (u := .slice A5 0 c5) e0 (by omega); have h1 := cellFarA (p := w.heap.size + 1 + 1) (i := 0) (u := .slice A5 0 c5) e1 (by omega); have h2 := cellFarA (p := w.heap.size + 1 + 1) (i := 0) (u := .slice A5 0 c5) e2 (by omega)))
  all_goals
    have r5 : Blk (w5.setCell ⟨w.heap.size + 1 + 1, 0, none⟩ (.slice A5 0 c5)) (w.heap.size + 1 + 1) 42 #[.slice A5 0 c5] := (r.below b5 hrl).set_ 0 (.slice A5 0 c5)
    have g9 := r5.cell 0
    have hrw := (r.below b4 hrl).lt
    have HH := Lib.hid (And.intro ((o5.far (o5.ne (p := w.heap.size + 1 + 1) (.inl hrw)) (i := 0) (.slice A5 0 c5)).base (B' := w.heap.size) (by omega)) ((Below.on b b5 b.size).setCell (p := ⟨w.heap.size + 1 + 1, 0, none⟩) (by simp; omega) (.slice A5 0 c5)))
    clear r5 b5 e0 e1 e2 f0 f1 h0 h1 h2 hrw
    go_wp2
    exact bodyPost_ret (v := .tuple #[.agg #[.slice A5 0 c5], .bool false]) (by simp [results, Try.results21, go_sem, g9]) rfl ⟨_, _, rfl, HH.out.1, HH.out.2⟩

set_option maxRecDepth 100000 in
set_option maxHeartbeats 4000000 in
theorem saddDef_yes (A : Option Addr) (c : Nat) (ds L : List D) (d : D) (hL : ds ++ [d] = L) (hv : vEnum ds = true) (hv2 : vEnum L = true) (hg : Good L) (w : World) (hr : Rd w w.heap.size A ds.length c ds) (hA : A = none → c = 0) :
    Calls Try.prog 18 #[.agg #[.slice A ds.length c], .agg #[.string d.1, .int .i64 d.2]] w (EnumMade L true w) := by
  have q := ((blk1 w #[.slice A ds.length c] 42).alloc (.cells #[.string d.1, .int .i64 d.2] 46)).alloc (.cells #[.slice none 0 0] 42)
  have p := (blk2 w (.cells #[.slice A ds.length c] 42) #[.string d.1, .int .i64 d.2] 46).alloc (.cells #[.slice none 0 0] 42)
  have r := blk3 w (.cells #[.slice A ds.length c] 42) (.cells #[.string d.1, .int .i64 d.2] 46) #[.slice none 0 0] 42
  have b := below3 w (.cells #[.slice A ds.length c] 42) (.cells #[.string d.1, .int .i64 d.2] 46) (.cells #[.slice none 0 0] 42)
  have R := hr.to b
  have c0 := q.cell 0
  have d0 := p.cell 0
  have d1 := p.cell 1
  obtain ⟨i0, hi, hz0, hz1, hz2⟩ := info_parts Try.infoDef6
  have HI := Lib.hid hi
  have HZ0 := Lib.hid hz0
  have HZ1 := Lib.hid hz1
  have HZ2 := Lib.hid hz2
  clear hi hz0 hz1 hz2 hr
  have HLL := Lib.hid (show ds.length + 1 = L.length from by rw [← hL]; simp)
  have HF := Lib.hid (show flat ds ++ [.string d.1, .int .i64 d.2] = flat L from by rw [← hL, flat_snoc])
  have hl9 : ds.length ≤ 5864062014804 := by have := hg.1; have := HLL.out; omega
  have HG := Lib.hid hg
  have HV := Lib.hid hv
  have HV2 := Lib.hid hv2
  clear hv hv2 hg hL
  go_enter Try.func18, Try.ntmps18
  go_wp2_with fail
  refine (svalidEnum_any _ _ _ ds _ R).mono ?_
  rintro e W0 ⟨rfl, hb⟩
  rw [show vDefs ds (-1000) 1000 = true from HV.out]
  replace b := Below.on b hb b.size
  replace q := q.below hb q.lt
  replace p := p.below hb p.lt
  replace r := r.below hb r.lt
  replace R := R.to hb
  replace c0 := q.cell 0
  replace d0 := p.cell 0
  replace d1 := p.cell 1
  clear hb
  have hql := q.lt
  have hpl := p.lt
  have hrl := r.lt
  have hw0 := b.size
  go_wp2_with fail
  go_region_held3 (fun w' => w'.cell? ⟨w.heap.size, 0, none⟩ = some (.slice A ds.length c) ∧ w'.cell? ⟨w.heap.size + 1, 0, none⟩ = some (.string d.1) ∧ w'.cell? ⟨w.heap.size + 1, 1, none⟩ = some (.int .i64 d.2)) (first | exact ⟨h0, h1, h2⟩ | go_keep)
    (first
      | (go_at_call 39; refine (copyDefs_own A ds.length c ds W0.drew R.drew hA).mono ?_; rintro e w2 ⟨v2, rfl, ho, hb⟩; obtain ⟨A2, c2, rfl⟩ := ho.form; have bA : Below W0.heap.size W0 w2 := Below.on (Below.refl W0.heap.size W0).drew hb (Nat.le_refl _); have hw2 := bA.size; have hoB := ho.base (B' := W0.heap.size) (by simp); have e0 := (q.below bA hql).cell 0; have e1 := (p.below bA hpl).cell 0; have e2 := (p.below bA hpl).cell 1; have HNW := newsDA w2 d 46)
      | (go_at_call 39; refine (copyDefs_own A ds.length c ds (W0.drew.alloc (.cells #[.string d.1, .int .i64 d.2] 46)) (R.drew.to (below1 W0.drew _)) hA).mono ?_; rintro e w2 ⟨v2, rfl, ho, hb⟩; obtain ⟨A2, c2, rfl⟩ := ho.form; have bA : Below W0.heap.size W0 w2 := Below.on ((Below.refl W0.heap.size W0).drew.alloc (Nat.le_refl _) _) hb (by simp); have hw2 := bA.size; have hoB := ho.base (B' := W0.heap.size) (by simp); have e0 := (q.below bA hql).cell 0; have e1 := (p.below bA hpl).cell 0; have e2 := (p.below bA hpl).cell 1; have HNW := World.news_of_block (Blk.below (blk1 W0.drew #[.string d.1, .int .i64 d.2] 46) hb (by simp)))
      | (refine step_append_own (by rfl) _ _ 40 (by rfl) W0.heap.size 46 i0 (.agg #[.string ByteArray.empty, .int .i64 0]) 2 24 Try.underlying40 HI.out HZ0.out HZ1.out HZ2.out rfl (by decide) (.slice A2 ds.length c2) ds.length (flat ds) (by rfl) (World.ownsRow.alloc hoB _) ⟨w2.heap.size, 0, none⟩ 1 1 [.string d.1, .int .i64 d.2] (by rfl) rfl HNW (by simp [Value.oneCell']) (by unfold maxLen; omega) (by omega) (by simp; omega) ?_; intro v' w3 hown hgrow _; obtain ⟨A3, c3, hv3⟩ := ownFormA hown HLL.out; subst hv3; have b3 : Below W0.heap.size W0 w3 := belowGrown1 (wr := w2) bA hgrow rfl rfl rfl rfl hw2 (fun i hi => (World.ownsRow.lt hoB i hi).1); have e0 := (q.below b3 hql).cell 0; have e1 := (p.below b3 hpl).cell 0; have e2 := (p.below b3 hpl).cell 1)
      | (refine step_append_own (by rfl) _ _ 40 (by rfl) W0.heap.size 46 i0 (.agg #[.string ByteArray.empty, .int .i64 0]) 2 24 Try.underlying40 HI.out HZ0.out HZ1.out HZ2.out rfl (by decide) (.slice A2 ds.length c2) ds.length (flat ds) (by rfl) hoB ⟨W0.heap.size, 0, none⟩ 1 1 [.string d.1, .int .i64 d.2] (by rfl) rfl HNW (by simp [Value.oneCell']) (by unfold maxLen; omega) (by omega) hw2 ?_; intro v' w3 hown hgrow _; obtain ⟨A3, c3, hv3⟩ := ownFormA hown HLL.out; subst hv3; have b3 : Below W0.heap.size W0 w3 := belowGrown0 (wr := w2) bA hgrow rfl rfl rfl rfl hw2 (fun i hi => (World.ownsRow.lt hoB i hi).1); have e0 := (q.below b3 hql).cell 0; have e1 := (p.below b3 hpl).cell 0; have e2 := (p.below b3 hpl).cell 1)
      | (go_at_call 38; refine (checkedEnum_yes A3 c3 L HV2.out _ (ownRdA (show Own w3 W0.heap.size 46 (.slice A3 L.length c3) L from by have h := hown; rw [HLL.out, HF.out] at h; exact h) HG.out)).mono ?_; rintro e w5 ⟨rfl, hb5⟩; have o5 := Own.below (show Own w3 W0.heap.size 46 (.slice A3 L.length c3) L from by have h := hown; rw [HLL.out, HF.out] at h; exact h) hb5; have b5 : Below W0.heap.size W0 w5 := Below.on b3 hb5 b3.size; have e0 := (q.below b5 hql).cell 0; have e1 := (p.below b5 hpl).cell 0; have e2 := (p.below b5 hpl).cell 1; have f0 := (r.below b5 hrl).cell 0; have f1 := (r.below b5 hrl).frozen 0; have h0 := cellFarA (p := w.heap.size + 1 + 1) (i := 0) (u := .slice A3 L.length c3) e0 (by omega); have h1 := cellFarA (p := w.heap.size + 1 + 1) (i := 0) (u := .slice A3 L.length c3) e1 (by omega); have h2 := cellFarA (p := w.heap.size + 1 + 1) (i := 0) (u := .slice A3 L.length c3) e2 (by omega)))
  all_goals
    have r5 : Blk (w5.setCell ⟨w.heap.size + 1 + 1, 0, none⟩ (.slice A3 L.length c3)) (w.heap.size + 1 + 1) 42 #[.slice A3 L.length c3] := (r.below b5 hrl).set_ 0 (.slice A3 L.length c3)
    have g9 := r5.cell 0
    have hrw := (r.below b3 hrl).lt
    have HH := Lib.hid (And.intro (((o5.far (o5.ne (p := w.heap.size + 1 + 1) (.inl (by omega))) (i := 0) (.slice A3 L.length c3)).base (B' := w.heap.size) (by omega)).toC) ((Below.on b b5 b.size).setCell (p := ⟨w.heap.size + 1 + 1, 0, none⟩) (by simp; omega) (.slice A3 L.length c3)))
    clear r5 b5 e0 e1 e2 f0 f1 h0 h1 h2 hrw
    go_wp2
    exact bodyPost_ret (v := .tuple #[.agg #[.slice A3 L.length c3], .bool true]) (by simp [results, Try.results18, go_sem, g9]) rfl ⟨_, _, rfl, HH.out.1, HH.out.2⟩

set_option maxRecDepth 100000 in
set_option maxHeartbeats 4000000 in
theorem saddDef_no (A : Option Addr) (c : Nat) (ds L : List D) (d : D) (hL : ds ++ [d] = L) (hv : vEnum ds = true) (hv2 : vEnum L = false) (hg : Good L) (w : World) (hr : Rd w w.heap.size A ds.length c ds) (hA : A = none → c = 0) :
    Calls Try.prog 18 #[.agg #[.slice A ds.length c], .agg #[.string d.1, .int .i64 d.2]] w (EnumMade [] false w) := by
  have q := ((blk1 w #[.slice A ds.length c] 42).alloc (.cells #[.string d.1, .int .i64 d.2] 46)).alloc (.cells #[.slice none 0 0] 42)
  have p := (blk2 w (.cells #[.slice A ds.length c] 42) #[.string d.1, .int .i64 d.2] 46).alloc (.cells #[.slice none 0 0] 42)
  have r := blk3 w (.cells #[.slice A ds.length c] 42) (.cells #[.string d.1, .int .i64 d.2] 46) #[.slice none 0 0] 42
  have b := below3 w (.cells #[.slice A ds.length c] 42) (.cells #[.string d.1, .int .i64 d.2] 46) (.cells #[.slice none 0 0] 42)
  have R := hr.to b
  have c0 := q.cell 0
  have d0 := p.cell 0
  have d1 := p.cell 1
  obtain ⟨i0, hi, hz0, hz1, hz2⟩ := info_parts Try.infoDef6
  have HI := Lib.hid hi
  have HZ0 := Lib.hid hz0
  have HZ1 := Lib.hid hz1
  have HZ2 := Lib.hid hz2
  clear hi hz0 hz1 hz2 hr
  have HLL := Lib.hid (show ds.length + 1 = L.length from by rw [← hL]; simp)
  have HF := Lib.hid (show flat ds ++ [.string d.1, .int .i64 d.2] = flat L from by rw [← hL, flat_snoc])
  have hl9 : ds.length ≤ 5864062014804 := by have := hg.1; have := HLL.out; omega
  have HG := Lib.hid hg
  have HV := Lib.hid hv
  have HV2 := Lib.hid hv2
  clear hv hv2 hg hL
  go_enter Try.func18, Try.ntmps18
  go_wp2_with fail
  refine (svalidEnum_any _ _ _ ds _ R).mono ?_
  rintro e W0 ⟨rfl, hb⟩
  rw [show vDefs ds (-1000) 1000 = true from HV.out]
  replace b := Below.on b hb b.size
  replace q := q.below hb q.lt
  replace p := p.below hb p.lt
  replace r := r.below hb r.lt
  replace R := R.to hb
  replace c0 := q.cell 0
  replace d0 := p.cell 0
  replace d1 := p.cell 1
  clear hb
  have hql := q.lt
  have hpl := p.lt
  have hrl := r.lt
  have hw0 := b.size
  go_wp2_with fail
  go_region_held3 (fun w' => w'.cell? ⟨w.heap.size, 0, none⟩ = some (.slice A ds.length c) ∧ w'.cell? ⟨w.heap.size + 1, 0, none⟩ = some (.string d.1) ∧ w'.cell? ⟨w.heap.size + 1, 1, none⟩ = some (.int .i64 d.2)) (first | exact ⟨h0, h1, h2⟩ | go_keep)
    (first
      | (go_at_call 39; refine (copyDefs_own A ds.length c ds W0.drew R.drew hA).mono ?_; rintro e w2 ⟨v2, rfl, ho, hb⟩; obtain ⟨A2, c2, rfl⟩ := ho.form; have bA : Below W0.heap.size W0 w2 := Below.on (Below.refl W0.heap.size W0).drew hb (Nat.le_refl _); have hw2 := bA.size; have hoB := ho.base (B' := W0.heap.size) (by simp); have e0 := (q.below bA hql).cell 0; have e1 := (p.below bA hpl).cell 0; have e2 := (p.below bA hpl).cell 1; have HNW := newsDA w2 d 46)
      | (go_at_call 39; refine (copyDefs_own A ds.length c ds (W0.drew.alloc (.cells #[.string d.1, .int .i64 d.2] 46)) (R.drew.to (below1 W0.drew _)) hA).mono ?_; rintro e w2 ⟨v2, rfl, ho, hb⟩; obtain ⟨A2, c2, rfl⟩ := ho.form; have bA : Below W0.heap.size W0 w2 := Below.on ((Below.refl W0.heap.size W0).drew.alloc (Nat.le_refl _) _) hb (by simp); have hw2 := bA.size; have hoB := ho.base (B' := W0.heap.size) (by simp); have e0 := (q.below bA hql).cell 0; have e1 := (p.below bA hpl).cell 0; have e2 := (p.below bA hpl).cell 1; have HNW := World.news_of_block (Blk.below (blk1 W0.drew #[.string d.1, .int .i64 d.2] 46) hb (by simp)))
      | (refine step_append_own (by rfl) _ _ 40 (by rfl) W0.heap.size 46 i0 (.agg #[.string ByteArray.empty, .int .i64 0]) 2 24 Try.underlying40 HI.out HZ0.out HZ1.out HZ2.out rfl (by decide) (.slice A2 ds.length c2) ds.length (flat ds) (by rfl) (World.ownsRow.alloc hoB _) ⟨w2.heap.size, 0, none⟩ 1 1 [.string d.1, .int .i64 d.2] (by rfl) rfl HNW (by simp [Value.oneCell']) (by unfold maxLen; omega) (by omega) (by simp; omega) ?_; intro v' w3 hown hgrow _; obtain ⟨A3, c3, hv3⟩ := ownFormA hown HLL.out; subst hv3; have b3 : Below W0.heap.size W0 w3 := belowGrown1 (wr := w2) bA hgrow rfl rfl rfl rfl hw2 (fun i hi => (World.ownsRow.lt hoB i hi).1); have e0 := (q.below b3 hql).cell 0; have e1 := (p.below b3 hpl).cell 0; have e2 := (p.below b3 hpl).cell 1)
      | (refine step_append_own (by rfl) _ _ 40 (by rfl) W0.heap.size 46 i0 (.agg #[.string ByteArray.empty, .int .i64 0]) 2 24 Try.underlying40 HI.out HZ0.out HZ1.out HZ2.out rfl (by decide) (.slice A2 ds.length c2) ds.length (flat ds) (by rfl) hoB ⟨W0.heap.size, 0, none⟩ 1 1 [.string d.1, .int .i64 d.2] (by rfl) rfl HNW (by simp [Value.oneCell']) (by unfold maxLen; omega) (by omega) hw2 ?_; intro v' w3 hown hgrow _; obtain ⟨A3, c3, hv3⟩ := ownFormA hown HLL.out; subst hv3; have b3 : Below W0.heap.size W0 w3 := belowGrown0 (wr := w2) bA hgrow rfl rfl rfl rfl hw2 (fun i hi => (World.ownsRow.lt hoB i hi).1); have e0 := (q.below b3 hql).cell 0; have e1 := (p.below b3 hpl).cell 0; have e2 := (p.below b3 hpl).cell 1)
      | (go_at_call 38; refine (checkedEnum_no A3 c3 L HV2.out _ (ownRdA (show Own w3 W0.heap.size 46 (.slice A3 L.length c3) L from by have h := hown; rw [HLL.out, HF.out] at h; exact h) HG.out)).mono ?_; rintro e w5 ⟨rfl, hb5⟩; have b5 : Below W0.heap.size W0 w5 := Below.on b3 hb5 b3.size; have e0 := (q.below b5 hql).cell 0; have e1 := (p.below b5 hpl).cell 0; have e2 := (p.below b5 hpl).cell 1; have f0 := (r.below b5 hrl).cell 0; have f1 := (r.below b5 hrl).frozen 0; have h0 := cellFarA (p := w.heap.size + 1 + 1) (i := 0) (u := .slice none 0 0) e0 (by omega); have h1 := cellFarA (p := w.heap.size + 1 + 1) (i := 0) (u := .slice none 0 0) e1 (by omega); have h2 := cellFarA (p := w.heap.size + 1 + 1) (i := 0) (u := .slice none 0 0) e2 (by omega)))
  all_goals
    have r5 : Blk (w5.setCell ⟨w.heap.size + 1 + 1, 0, none⟩ (.slice none 0 0)) (w.heap.size + 1 + 1) 42 #[.slice none 0 0] := (r.below b5 hrl).set_ 0 (.slice none 0 0)
    have g9 := r5.cell 0
    have hrw := (r.below b3 hrl).lt
    have HH := Lib.hid (And.intro (show OwnC (w5.setCell ⟨w.heap.size + 1 + 1, 0, none⟩ (.slice none 0 0)) w.heap.size 46 (.slice none 0 0) [] from .inl ⟨rfl, rfl⟩) ((Below.on b b5 b.size).setCell (p := ⟨w.heap.size + 1 + 1, 0, none⟩) (by simp; omega) (.slice none 0 0)))
    clear r5 b5 e0 e1 e2 f0 f1 h0 h1 h2 hrw
    go_wp2
    exact bodyPost_ret (v := .tuple #[.agg #[.slice none 0 0], .bool false]) (by simp [results, Try.results18, go_sem, g9]) rfl ⟨_, _, rfl, HH.out.1, HH.out.2⟩

set_option maxRecDepth 100000 in
set_option maxHeartbeats 4000000 in
theorem saddDef_bad (A : Option Addr) (c : Nat) (ds : List D) (d : D) (hv : vEnum ds = false) (w : World) (hr : Rd w w.heap.size A ds.length c ds) :
    Calls Try.prog 18 #[.agg #[.slice A ds.length c], .agg #[.string d.1, .int .i64 d.2]] w (EnumMade [] false w) := by
  have q := ((blk1 w #[.slice A ds.length c] 42).alloc (.cells #[.string d.1, .int .i64 d.2] 46)).alloc (.cells #[.slice none 0 0] 42)
  have r := blk3 w (.cells #[.slice A ds.length c] 42) (.cells #[.string d.1, .int .i64 d.2] 46) #[.slice none 0 0] 42
  have b := below3 w (.cells #[.slice A ds.length c] 42) (.cells #[.string d.1, .int .i64 d.2] 46) (.cells #[.slice none 0 0] 42)
  have R := hr.to b
  have c0 := q.cell 0
  have HV := Lib.hid hv
  clear hr hv
  go_enter Try.func18, Try.ntmps18
  go_wp2_with fail
  refine (svalidEnum_any _ _ _ ds _ R).mono ?_
  rintro e w1 ⟨rfl, hb⟩
  rw [show vDefs ds (-1000) 1000 = false from HV.out]
  replace b := Below.on b hb b.size
  replace r := r.below hb r.lt
  clear hb R
  have g0 := r.cell 0
  have f0 := r.frozen 0
  have r2 : Blk (w1.setCell ⟨w.heap.size + 1 + 1, 0, none⟩ (.slice none 0 0)) (w.heap.size + 1 + 1) 42 #[.slice none 0 0] := r.set_ 0 (.slice none 0 0)
  have d0 := r2.cell 0
  have HH := Lib.hid (b.setCell (p := ⟨w.heap.size + 1 + 1, 0, none⟩) (by simp; omega) (.slice none 0 0))
  clear b r r2
  go_wp2
  exact bodyPost_ret (v := .tuple #[.agg #[.slice none 0 0], .bool false]) (by simp [results, Try.results18, go_sem, d0]) rfl ⟨none, 0, rfl, .inl ⟨rfl, rfl⟩, HH.out⟩
/-- AddDef of both sides answers alike. -/
theorem addDef_both (ds : List D) (d : D) (hg : Good (ds ++ [d])) : ∃ (ds' : List D) (ok : Bool), Good ds' ∧
    (∀ (A : Option Addr) (c : Nat) (w : World), Rd w w.heap.size A ds.length c ds → (A = none → c = 0) → Calls Try.prog 21 #[.agg #[.slice A ds.length c], .agg #[.string d.1, .int .i64 d.2]] w (EnumMade ds' ok w)) ∧
    (∀ (A : Option Addr) (c : Nat) (w : World), Rd w w.heap.size A ds.length c ds → (A = none → c = 0) → Calls Try.prog 18 #[.agg #[.slice A ds.length c], .agg #[.string d.1, .int .i64 d.2]] w (EnumMade ds' ok w)) := by
  cases h1 : vEnum ds with
  | false =>
    exact ⟨[], false, ⟨by simp, by simp⟩, fun A c w hr hA => addDef_no A c ds _ d rfl false h1 (.inl rfl) hg w hr hA, fun A c w hr hA => saddDef_bad A c ds d h1 w hr⟩
  | true =>
    cases h2 : vEnum (ds ++ [d]) with
    | false =>
      exact ⟨[], false, ⟨by simp, by simp⟩, fun A c w hr hA => addDef_no A c ds _ d rfl true h1 (.inr h2) hg w hr hA, fun A c w hr hA => saddDef_no A c ds _ d rfl h1 h2 hg w hr hA⟩
    | true =>
      exact ⟨ds ++ [d], true, hg, fun A c w hr hA => addDef_yes A c ds _ d rfl h1 h2 hg w hr hA, fun A c w hr hA => saddDef_yes A c ds _ d rfl h1 h2 hg w hr hA⟩
end Go.Proofs.Ytioheadchhkjmaa
