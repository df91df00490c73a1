/-
  The walk of the program's changes from an enumeration to another one: how many come out.
-/
import Derived.Test.YtioheadchhkjmaaWConcat
import Derived.Test.YtioheadchhkjmaaWDiffer
namespace Go.Proofs.Ytioheadchhkjmaa
open Go.RowKit
attribute [local go_sem ↓] Go.wp_at_zero Go.wp_at_succ

/-- append to a row of the call's own, at a step of a region that draws its order; where the row lies then. -/
theorem step_append_own_at {P : Program} {w : World} {ops : Array Oper} {o : Oper} {a : Act} {K : Act → World → Prop} {Q : Exit → Act → World → Prop} {E : Prop} (hgd : o.guard = none) (s x : Operand) (t : TypeId)
    (ho : o.op = .call { callee := .builtin .append, args := #[s, x], argTypes := #[t, t] })
    (base : Nat) (e : TypeId) (i : TypeInfo) (z : Value) (size bytes : Nat) (ht : P.underlying t = some (.slice e)) (hi : P.info? e = some i) (hz : i.zero = some z)
    (hsize : i.size = size) (hby : i.bytes = bytes) (hzs : z.cells.size = size) (hsz : 0 < size)
    (v : Value) (n : Nat) (xs : List Value) (hs : a.eval s = v) (hown : w.ownsRow base e size v n xs)
    (ad : Addr) (m c : Nat) (news : List Value) (hx : a.eval x = .slice (some ad) m c) (hl : news.length = m * size) (hnews : ∀ j u, news[j]? = some u → w.cell? (ad.add j) = some u) (h1 : ∀ u ∈ news, u.oneCell' = true)
    (h63 : n + m ≤ maxLen) (hbytes : (n + m) * bytes ≤ 140737488355328) (hbase : base ≤ w.heap.size)
    (h : ∀ v' w', w'.ownsRow base e size v' (n + m) (xs ++ news) → w.grownBy w' v.ownBlock → (v'.ownBlock = v.ownBlock ∨ v'.ownBlock = some w.heap.size) → K (a.put o.dst v') w') :
    if Region.wanted o (yielded ops a.tmps) = true then Oper.wp P o a w K Q else E := by
  have hw : Region.wanted o (yielded ops a.tmps) = true := by simp [Region.wanted, hgd]
  rw [if_pos hw]
  obtain ⟨v', w', hr, h2, h3, _, h5⟩ := run_append_own_at (P := P) w base t o.type e i z size bytes ht hi hz hsize hby hzs hsz v n xs hown ad m c news hl hnews h1 h63 hbytes hbase
  unfold Oper.wp execOp
  simp only [ho, resolve, invoke, builtin, Sem.run_bind, Sem.run_pure, Result.andThen_ok, List.map_toArray, List.map_cons, List.map_nil, hs, hx, hr]
  exact h v' w' h2 h3 h5

/-- Two rows lie apart. -/
def Apart (v v' : Value) : Prop := ∀ i, v.ownBlock = some i → v'.ownBlock ≠ some i
theorem Apart.symm {v v' : Value} (h : Apart v v') : Apart v' v := fun i hi he => h i he hi
/-- Three rows of changes that lie apart. -/
structure Three (w : World) (B : Nat) (t : TypeId) (v1 v2 v3 : Value) (c1 c2 c3 : List Ch) : Prop where
  o1 : OwnA w B t v1 c1
  o2 : OwnA w B t v2 c2
  o3 : OwnA w B t v3 c3
  a12 : Apart v1 v2
  a13 : Apart v1 v3
  a23 : Apart v2 v3
section
variable {w w' : World} {B : Nat} {t : TypeId} {v1 v2 v3 v : Value} {c1 c2 c3 c : List Ch}
theorem Three.start (w : World) (B : Nat) (t : TypeId) : Three w B t (.slice none 0 0) (.slice none 0 0) (.slice none 0 0) [] [] [] :=
  ⟨OwnA.nil _ _ _, OwnA.nil _ _ _, OwnA.nil _ _ _, fun i hi => by simp [Value.ownBlock] at hi, fun i hi => by simp [Value.ownBlock] at hi, fun i hi => by simp [Value.ownBlock] at hi⟩
theorem Three.below (h : Three w B t v1 v2 v3 c1 c2 c3) (hb : Below w.heap.size w w') : Three w' B t v1 v2 v3 c1 c2 c3 := ⟨h.o1.below hb, h.o2.below hb, h.o3.below hb, h.a12, h.a13, h.a23⟩
theorem Three.alloc (h : Three w B t v1 v2 v3 c1 c2 c3) (o : Obj) : Three (w.alloc o) B t v1 v2 v3 c1 c2 c3 := h.below (below1 w o)
theorem Three.swap12 (h : Three w B t v1 v2 v3 c1 c2 c3) : Three w B t v2 v1 v3 c2 c1 c3 := ⟨h.o2, h.o1, h.o3, h.a12.symm, h.a23, h.a13⟩
theorem Three.swap13 (h : Three w B t v1 v2 v3 c1 c2 c3) : Three w B t v3 v2 v1 c3 c2 c1 := ⟨h.o3, h.o2, h.o1, h.a23.symm, h.a13.symm, h.a12.symm⟩
theorem Three.heap (h : Three w B t v1 v2 v3 c1 c2 c3) (he : w'.heap = w.heap) : Three w' B t v1 v2 v3 c1 c2 c3 := by
  have k : ∀ {v : Value} {c : List Ch}, OwnA w B t v c → OwnA w' B t v c := fun {v c} ho => by
    unfold OwnA World.ownsRow at *
    rw [he]; exact ho
  exact ⟨k h.o1, k h.o2, k h.o3, h.a12, h.a13, h.a23⟩
/-- The first one grows. -/
theorem Three.grow (h : Three w B t v1 v2 v3 c1 c2 c3) (hg : w.grownBy w' v1.ownBlock) (ho : OwnA w' B t v c) (hat : v.ownBlock = v1.ownBlock ∨ v.ownBlock = some w.heap.size) : Three w' B t v v2 v3 c c2 c3 := by
  have k : ∀ {u : Value} {cs : List Ch}, OwnA w B t u cs → Apart v1 u → OwnA w' B t u cs ∧ Apart v u := fun {u cs} hu ha => by
    refine ⟨World.ownsRow.kept hu hg ?_, fun i hi he => ?_⟩
    · cases hk : u.ownBlock with
      | none => exact .inl rfl
      | some j => exact .inr (fun e => ha j e.symm hk)
    · rcases hat with h1 | h1
      · exact ha i (h1 ▸ hi) he
      · rw [h1] at hi
        have := (hu.lt i he).2
        simp at hi
        omega
  exact ⟨ho, (k h.o2 h.a12).1, (k h.o3 h.a13).1, (k h.o2 h.a12).2, (k h.o3 h.a13).2, h.a23⟩
end
theorem OwnA.nilc {w : World} {B : Nat} {t : TypeId} {A : Option Addr} {n c : Nat} {cs : List Ch} (h : OwnA w B t (.slice A n c) cs) (hA : A = none) : c = 0 := by
  rcases h.2 with ⟨hv, _⟩ | ⟨g, cap, cur, hv, _⟩
  · simp only [Value.slice.injEq] at hv; exact hv.2.2
  · simp only [Value.slice.injEq] at hv; rw [hA] at hv; cases hv.1
/-- So many changes have come out. -/
def DiffI (xs ys : List D) (w : World) (e : Ending) (w' : World) : Prop :=
  ∃ A c, e = .returned (.slice A (diffLen xs ys) c) ∧ Below w.heap.size w w'
set_option maxRecDepth 100000 in
set_option maxHeartbeats 8000000 in
theorem diffEnums_any (A A' : Option Addr) (n n' c c' : Nat) (xs ys : List D) (hv1 : vDefs xs (-1000) 1000 = true) (hv2 : vDefs ys (-1000) 1000 = true) (w : World) (hr : Rd w w.heap.size A n c xs) (hr' : Rd w w.heap.size A' n' c' ys) (hn1 : n ≤ 1000) (hn2 : n' ≤ 1000) :
    Calls Try.prog 48 #[.agg #[.slice A n c], .agg #[.slice A' n' c']] w (DiffI xs ys w) := by
  have q := (blk1 w #[.slice A n c] 42).alloc (.cells #[.slice A' n' c'] 42)
  have p := blk2 w (.cells #[.slice A n c] 42) #[.slice A' n' c'] 42
  have b := below2 w (.cells #[.slice A n c] 42) (.cells #[.slice A' n' c'] 42)
  have R := hr.to b
  have R' := hr'.to b
  have V1 := Lib.hid hv1
  have V2 := Lib.hid hv2
  have HL := Lib.hid hr.1
  have HL' := Lib.hid hr'.1
  have HG := Lib.hid hr.2.2.2.1
  have HG' := Lib.hid hr'.2.2.2.1
  have hn := hr.2.1
  have hn' := hr'.2.1
  have hc := hr.2.2.1
  have hc' := hr'.2.2.1
  clear hv1 hv2 hr hr'
  obtain ⟨i0, hi, hz0, hz1, hz2⟩ := info_parts Try.infoCh4
  have HI := Lib.hid hi
  have HZ0 := Lib.hid hz0
  have HZ1 := Lib.hid hz1
  have HZ2 := Lib.hid hz2
  clear hi hz0 hz1 hz2
  have c0 := q.cell 0
  have c1 := p.cell 0
  go_enter Try.func48, Try.ntmps48
  go_wp2_with fail
  refine (validEnum_any _ _ _ xs _ R).mono ?_
  rintro e w1 ⟨rfl, hb⟩
  rw [V1.out]
  replace b := Below.on b hb b.size
  replace q := q.below hb q.lt
  replace p := p.below hb p.lt
  replace R := R.to hb
  replace R' := R'.to hb
  replace c0 := q.cell 0
  replace c1 := p.cell 0
  clear hb
  go_wp2_with fail
  refine (validEnum_any _ _ _ ys _ R').mono ?_
  rintro e W0 ⟨rfl, hb⟩
  rw [V2.out]
  replace b := Below.on b hb b.size
  replace q := q.below hb q.lt
  replace p := p.below hb p.lt
  replace R := R.to hb
  replace R' := R'.to hb
  replace c0 := q.cell 0
  replace c1 := p.cell 0
  clear hb
  have HQ := Lib.hid q
  have HP := Lib.hid p
  have HR := Lib.hid R
  have HR' := Lib.hid R'
  have HA := Lib.hid R.2.2.2.2
  have HA' := Lib.hid R'.2.2.2.2
  have HBW := Lib.hid b
  have hwW : w.heap.size ≤ W0.heap.size := b.size
  clear b R R'
  go_wp2_with fail
  clear c0 c1 q p
  go_loopw [5, 6, 24] (fun o1 o2 i wr => ∃ (k m1 m2 : Nat) (A1 A2 : Option Addr) (k1 k2 : Nat) (cs1 cs2 : List Ch), i = .int .i64 k ∧ k ≤ n ∧ o1 = .slice A1 m1 k1 ∧ o2 = .slice A2 m2 k2 ∧ m1 ≤ k ∧ m2 ≤ k ∧ Hid (cs1.length = m1) ∧ Hid (cs2.length = m2) ∧ Hid (m1 = cnt (isNew ys) xs k) ∧ Hid (m2 = cnt (isTurn ys) xs k) ∧ Hid (FitAll cs1) ∧ Hid (FitAll cs2) ∧ Hid (Three wr W0.heap.size 55 (.slice A1 m1 k1) (.slice A2 m2 k2) (.slice none 0 0) cs1 cs2 []) ∧ Below W0.heap.size W0 wr) (fun _ _ i _ => n - (intOf i).toNat)
  case atStart => exact ⟨0, 0, 0, none, none, 0, 0, [], [], rfl, Nat.zero_le _, rfl, rfl, by omega, by omega, rfl, rfl, (cnt_zero _ _).symm, (cnt_zero _ _).symm, FitAll.nil, FitAll.nil, Three.start _ _ _, Below.refl _ _⟩
  case round =>
    obtain ⟨k, m1, m2, A1, A2, k1, k2, cs1, cs2, rfl, hk, rfl, rfl, hm1, hm2, hl1, hl2, hc1, hc2, hf1, hf2, T, hb⟩ := hrel
    by_cases hkn : k < n
    · skip
      obtain ⟨b, off, rfl, hbl, hcell⟩ := HA.out (by omega)
      have hd := hcell k hkn
      rw [← hb.cell (p := ⟨b, off + k * 2, none⟩) hbl, ← hb.cell (p := ⟨b, off + k * 2 + 1, none⟩) hbl] at hd
      obtain ⟨c0, c1⟩ := hd
      clear hcell
      have hkx : k < (xs).length := by rw [HL.out]; exact hkn
      obtain ⟨hgs, hgv⟩ := HG.out.nth hkx
      have HKX := Lib.hid hkx
      clear hkx
      obtain ⟨x, hxk⟩ : ∃ x, nth xs k = x := ⟨_, rfl⟩
      rw [hxk] at c0 c1 hgs hgv
      have HXK := Lib.hid hxk
      clear hxk
      obtain ⟨s, z⟩ := x
      dsimp only at c0 c1 hgs hgv
      have i0' : (0 : Int) ≤ (k : Int) := by omega
      have i2 : (k : Int) < (n : Int) := by omega
      have hneD := Lib.hid (T.out.o2.ne (p := wr.heap.size) (.inr (Nat.le_refl _)))
      have T0 := T.out.alloc (.cells #[.string s, .int .i64 z] 46)
      have bx := blk1 wr #[.string s, .int .i64 z] 46
      have b0 := hb.alloc hb.size (.cells #[.string s, .int .i64 z] 46)
      have hbs := hb.size
      have q0 := HQ.out.below b0 HQ.out.lt
      have p0 := HP.out.below b0 HP.out.lt
      have e0 := q0.cell 0
      have e1 := p0.cell 0
      have hlq : w.heap.size < wr.heap.size := Nat.lt_of_lt_of_le HQ.out.lt hbs
      have hlp : w.heap.size + 1 < wr.heap.size := Nat.lt_of_lt_of_le HP.out.lt hbs
      go_wp2_with fail
      refine (named_any _ _ _ ys s _ (HR'.out.to b0)).mono ?_
      rintro e w1 ⟨rfl, hb1⟩
      have T1 := T0.below hb1
      have b1 := Below.on b0 hb1 b0.size
      have q1 := q0.below hb1 q0.lt
      have p1 := p0.below hb1 p0.lt
      have x1 := bx.below hb1 bx.lt
      have hx1l := x1.lt
      have hw1 : W0.heap.size ≤ w1.heap.size := b1.size
      clear hb1 T0 b0 q0 p0 bx c0 c1 e0 e1 T hb hbs
      replace e0 := q1.cell 0
      replace e1 := p1.cell 0
      have d0 := x1.cell 0
      have d1 := x1.cell 1
      rcases ix_cases (nameIs s) ys with ⟨hx, _⟩ | ⟨j, hj, hx, _, _⟩
      · rw [hx]
        have HX1 := Lib.hid (cnt_yes (p := isNew ys) HKX.out (by rw [HXK.out]; exact isNew_yes (by rw [hx]; decide)))
        have HX2 := Lib.hid (cnt_no (p := isTurn ys) HKX.out (by rw [HXK.out]; exact isTurn_neg (by rw [hx]; decide)))
        clear hx
        have HO := Lib.hid (show World.ownsRow w1 W0.heap.size 55 4 (.slice A1 m1 k1) m1 (flatH cs1) from by have h := T1.o1; unfold OwnA at h; rw [hl1.out] at h; exact h)
        have HNW := Lib.hid (newsH w1 ⟨1, s, z, 0⟩ 55)
        go_wp2_with (at_builtin; refine wpList_append_own_at _ rfl _ _ 24 rfl W0.heap.size 55 i0 (.agg #[.int .i64 0, .string ByteArray.empty, .int .i64 0, .int .i64 0]) 4 40 Try.underlying24 HI.out HZ0.out HZ1.out HZ2.out rfl (by decide) _ _ _ rfl (World.ownsRow.alloc HO.out _) ⟨w1.heap.size, 0, none⟩ 1 1 [.int .i64 1, .string s, .int .i64 z, .int .i64 0] rfl rfl HNW.out (by simp [Value.oneCell']) (by unfold maxLen; omega) (by omega) (by simp; omega) ?_; intro v' w3 hown hgrow _ hat)
        have hform : ∃ A3 k3, v' = .slice A3 (m1 + 1) k3 := ownForm hown
        obtain ⟨A3, k3, rfl⟩ := hform
        have o3 : OwnA w3 W0.heap.size 55 (.slice A3 (m1 + 1) k3) (cs1 ++ [⟨1, s, z, 0⟩]) := by unfold OwnA; rw [flatH_snoc, List.length_append, (hl1).out]; exact hown
        have T3 := Lib.hid (Three.grow (T1.alloc (.cells #[.int .i64 1, .string s, .int .i64 z, .int .i64 0] 55)) hgrow o3 hat)
        have b3 : Below W0.heap.size W0 w3 := belowGrown (wr := w1) (o := .cells #[.int .i64 1, .string s, .int .i64 z, .int .i64 0] 55) b1 hgrow rfl rfl rfl rfl hw1 (fun i hi => ((T1.o1).lt i hi).1)
        have l3 := Lib.hid (show (cs1 ++ [(⟨1, s, z, 0⟩ : Ch)]).length = m1 + 1 from by rw [List.length_append, (hl1).out]; rfl)
        clear o3 T1 b1 q1 p1 x1 hown hgrow hat e0 e1 d0 d1
        have f3 := Lib.hid (hf1.out.snoc (c := ⟨1, s, z, 0⟩) hgs fit1 hgv fit0)
        have n3 := Lib.hid (show m1 + 1 = cnt (isNew ys) xs (k + 1) from by have h := HX1.out; have h2 := hc1.out; omega)
        have n4 := Lib.hid (show m2 = cnt (isTurn ys) xs (k + 1) from by have h := HX2.out; have h2 := hc2.out; omega)
        go_wp2_with fail
        go_roundw
        case rel => exact ⟨k + 1, m1 + 1, m2, A3, A2, k3, k2, _, cs2, by go_num, by omega, rfl, rfl, by omega, by omega, l3, hl2, n3, n4, f3, hf2, T3, b3⟩
        case measure => simp [intOf]; omega
      · obtain ⟨b', off', rfl, hbl', hcell'⟩ := HA'.out (by have := HL'.out; omega)
        have hjn : j < n' := by rw [← HL'.out]; exact hj
        have d2 := (hcell' j hjn).2
        rw [← b1.cell (p := ⟨b', off' + j * 2 + 1, none⟩) hbl'] at d2
        clear hcell'
        have hbw' : b' < w1.heap.size := Nat.lt_of_lt_of_le hbl' hw1
        have hjv := Lib.hid (HG'.out.nth hj).2
        obtain ⟨y, hyj⟩ : ∃ y, (nth ys j).2 = y := ⟨_, rfl⟩
        rw [hyj] at d2 hjv
        have HT := Lib.hid (show isTurn ys (nth xs k) = !(y == z) from by rw [HXK.out, isTurn_at hx, hyj])
        rw [hx]
        have HX1 := Lib.hid (cnt_no (p := isNew ys) HKX.out (by rw [HXK.out]; exact isNew_no (by rw [hx]; omega)))
        clear hyj hx hj
        have j0 : (0 : Int) ≤ (j : Int) := by omega
        have j2 : (j : Int) < (n' : Int) := by omega
        have n3 := Lib.hid (show m1 = cnt (isNew ys) xs (k + 1) from by have h := HX1.out; have h2 := hc1.out; omega)
        by_cases hyz : y = z
        · have HX2 := Lib.hid (cnt_no (p := isTurn ys) HKX.out (by rw [HT.out]; simp [hyz]))
          have q2 : (y == z) = true := by simp [hyz]
          have q3 : (y != z) = false := by simp [hyz]
          have n4 := Lib.hid (show m2 = cnt (isTurn ys) xs (k + 1) from by have h := HX2.out; have h2 := hc2.out; omega)
          clear hyz
          go_wp2_with fail
          go_quiet (fail)
          clear q2 q3
          go_wp2_with fail
          go_roundw
          case rel => exact ⟨k + 1, m1, m2, A1, A2, k1, k2, cs1, cs2, by go_num, by omega, rfl, rfl, by omega, by omega, hl1, hl2, n3, n4, hf1, hf2, T1.heap rfl, below_drewN b1 _⟩
          case measure => simp [intOf]; omega
        · have q2 : (y == z) = false := by simp [hyz]
          have q3 : (y != z) = true := by simp [hyz]
          have HX2 := Lib.hid (cnt_yes (p := isTurn ys) HKX.out (by rw [HT.out, q2]; rfl))
          have n4 := Lib.hid (show m2 + 1 = cnt (isTurn ys) xs (k + 1) from by have h := HX2.out; have h2 := hc2.out; omega)
          go_wp2_with fail
          go_quiet (fail)
          clear q2 q3 hyz
          have HO := Lib.hid (show World.ownsRow w1 W0.heap.size 55 4 (.slice A2 m2 k2) m2 (flatH cs2) from by have h := T1.o2; unfold OwnA at h; rw [hl2.out] at h; exact h)
          have HNW := Lib.hid (newsH w1 ⟨2, s, z, y⟩ 55)
          have u0 := Lib.hid e1
          have u1 := Lib.hid d0
          have u2 := Lib.hid d1
          have u3 := Lib.hid d2
          have v0 : (.slice A2 m2 k2 : Value).ownBlock ≠ some (w.heap.size + 1) := T1.o2.ne (.inl HP.out.lt)
          have v1 : (.slice A2 m2 k2 : Value).ownBlock ≠ some wr.heap.size := hneD.out
          have v3 : (.slice A2 m2 k2 : Value).ownBlock ≠ some b' := T1.o2.ne (.inl hbl')
          have V0 := Lib.hid v0
          have V3 := Lib.hid v1
          have V4 := Lib.hid v3
          have hp1l := p1.lt
          clear v0 v1 v3
          go_wp2_with fail
          go_region_held3 (fun w' => w'.cell? ⟨w.heap.size + 1, 0, none⟩ = some (.slice (some ⟨b', off', none⟩) n' c') ∧ w'.cell? ⟨wr.heap.size, 0, none⟩ = some (.string s) ∧ w'.cell? ⟨wr.heap.size, 1, none⟩ = some (.int .i64 z) ∧ w'.cell? ⟨b', off' + j * 2 + 1, none⟩ = some (.int .i64 y)) (go_keep)
            (first
              | (refine step_append_own_at (by rfl) _ _ 24 (by rfl) W0.heap.size 55 i0 (.agg #[.int .i64 0, .string ByteArray.empty, .int .i64 0, .int .i64 0]) 4 40 Try.underlying24 HI.out HZ0.out HZ1.out HZ2.out rfl (by decide) (.slice A2 m2 k2) m2 (flatH cs2) (by rfl) (World.ownsRow.alloc HO.out _) ⟨w1.heap.size, 0, none⟩ 1 1 [.int .i64 2, .string s, .int .i64 z, .int .i64 y] (by rfl) rfl HNW.out (by simp [Value.oneCell']) (by unfold maxLen; omega) (by omega) (by simp; omega) ?_; intro v' w3 hown hgrow hat; obtain ⟨A9, c9, rfl⟩ := ownForm hown; have f0 := cellFar hgrow (Below.heap_alloc w1 _ (w.heap.size + 1) hp1l) u0.out (by simp; omega) V0.out; have f1 := cellFar hgrow (Below.heap_alloc w1 _ wr.heap.size hx1l) u1.out (by simp; omega) V3.out; have f2 := cellFar hgrow (Below.heap_alloc w1 _ wr.heap.size hx1l) u2.out (by simp; omega) V3.out; have f3 := cellFar hgrow (Below.heap_alloc w1 _ b' hbw') u3.out (by simp; omega) V4.out))
          have o3 : OwnA w3 W0.heap.size 55 (.slice A9 (m2 + 1) c9) (cs2 ++ [⟨2, s, z, y⟩]) := by unfold OwnA; rw [flatH_snoc, List.length_append, hl2.out]; exact hown
          have T3 := Lib.hid (Three.swap12 (Three.grow (Three.heap (T1.swap12.alloc (.cells #[.int .i64 2, .string s, .int .i64 z, .int .i64 y] 55)) (by rfl)) hgrow o3 hat))
          have b3 : Below W0.heap.size W0 w3 := belowGrown (wr := w1) (o := .cells #[.int .i64 2, .string s, .int .i64 z, .int .i64 y] 55) b1 hgrow rfl rfl rfl rfl hw1 (fun i hi => (T1.o2.lt i hi).1)
          have l3 := Lib.hid (show (cs2 ++ [(⟨2, s, z, y⟩ : Ch)]).length = m2 + 1 from by rw [List.length_append, hl2.out]; rfl)
          have f9 := Lib.hid (hf2.out.snoc (c := ⟨2, s, z, y⟩) hgs fit2 hgv hjv.out)
          clear o3 T1 b1 q1 p1 x1 hown hgrow hat e0 e1 d0 d1 d2 f0 f1 f2 f3
          go_wp2_with fail
          go_roundw
          case rel => exact ⟨k + 1, m1, m2 + 1, A1, A9, k1, c9, cs1, _, by go_num, by omega, rfl, rfl, by omega, by omega, hl1, l3, n3, n4, hf1, f9, T3, b3⟩
          case measure => simp [intOf]; omega
    · have hk1 : k = n := by omega
      have hc3 := Lib.hid (show m1 = cnt (isNew ys) xs xs.length from by rw [HL.out, ← hk1]; exact hc1.out)
      have hc4 := Lib.hid (show m2 = cnt (isTurn ys) xs xs.length from by rw [HL.out, ← hk1]; exact hc2.out)
      have hm3 : m1 ≤ 1000 := by omega
      have hm4 : m2 ≤ 1000 := by omega
      have e1 := (HP.out.below hb HP.out.lt).cell 0
      clear hc1 hc2 hk1
      go_wp2_with fail
      clear e1
      go_loopw [7, 72] (fun o3 i wr => ∃ (k m3 : Nat) (A3 : Option Addr) (k3 : Nat) (cs3 : List Ch), i = .int .i64 k ∧ k ≤ n' ∧ o3 = .slice A3 m3 k3 ∧ m3 ≤ k ∧ Hid (cs3.length = m3) ∧ Hid (m3 = cnt (isNew xs) ys k) ∧ Hid (FitAll cs3) ∧ Hid (Three wr W0.heap.size 55 (.slice A1 m1 k1) (.slice A2 m2 k2) (.slice A3 m3 k3) cs1 cs2 cs3) ∧ Below W0.heap.size W0 wr) (fun _ i _ => n' - (intOf i).toNat)
      case atStart => exact ⟨0, 0, none, 0, [], rfl, Nat.zero_le _, rfl, by omega, rfl, (cnt_zero _ _).symm, FitAll.nil, T, hb⟩
      case round =>
        clear T hb hkn hk hm1 hm2
        obtain ⟨k, m3, A3, k3, cs3, rfl, hk, rfl, hm5, hl3, hc5, hf3, T, hb⟩ := hrel
        by_cases hkn : k < n'
        · skip
          obtain ⟨b, off, rfl, hbl, hcell⟩ := HA'.out (by omega)
          have hd := hcell k hkn
          rw [← hb.cell (p := ⟨b, off + k * 2, none⟩) hbl, ← hb.cell (p := ⟨b, off + k * 2 + 1, none⟩) hbl] at hd
          obtain ⟨c0, c1⟩ := hd
          clear hcell
          have hkx : k < (ys).length := by rw [HL'.out]; exact hkn
          obtain ⟨hgs, hgv⟩ := HG'.out.nth hkx
          have HKX := Lib.hid hkx
          clear hkx
          obtain ⟨x, hxk⟩ : ∃ x, nth ys k = x := ⟨_, rfl⟩
          rw [hxk] at c0 c1 hgs hgv
          have HXK := Lib.hid hxk
          clear hxk
          obtain ⟨s, z⟩ := x
          dsimp only at c0 c1 hgs hgv
          have i0' : (0 : Int) ≤ (k : Int) := by omega
          have i2 : (k : Int) < (n' : Int) := by omega
          have hneD := Lib.hid (T.out.o2.ne (p := wr.heap.size) (.inr (Nat.le_refl _)))
          have T0 := T.out.alloc (.cells #[.string s, .int .i64 z] 46)
          have bx := blk1 wr #[.string s, .int .i64 z] 46
          have b0 := hb.alloc hb.size (.cells #[.string s, .int .i64 z] 46)
          have hbs := hb.size
          have q0 := HQ.out.below b0 HQ.out.lt
          have p0 := HP.out.below b0 HP.out.lt
          have e0 := q0.cell 0
          have e1 := p0.cell 0
          have hlq : w.heap.size < wr.heap.size := Nat.lt_of_lt_of_le HQ.out.lt hbs
          have hlp : w.heap.size + 1 < wr.heap.size := Nat.lt_of_lt_of_le HP.out.lt hbs
          go_wp2_with fail
          refine (named_any _ _ _ xs s _ (HR.out.to b0)).mono ?_
          rintro e w1 ⟨rfl, hb1⟩
          have T1 := T0.below hb1
          have b1 := Below.on b0 hb1 b0.size
          have q1 := q0.below hb1 q0.lt
          have p1 := p0.below hb1 p0.lt
          have x1 := bx.below hb1 bx.lt
          have hx1l := x1.lt
          have hw1 : W0.heap.size ≤ w1.heap.size := b1.size
          clear hb1 T0 b0 q0 p0 bx c0 c1 e0 e1 T hb hbs
          replace e0 := q1.cell 0
          replace e1 := p1.cell 0
          have d0 := x1.cell 0
          have d1 := x1.cell 1
          by_cases hx : ix (nameIs s) xs < 0
          · have HX1 := Lib.hid (cnt_yes (p := isNew xs) HKX.out (by rw [HXK.out]; exact isNew_yes hx))
            have HO := Lib.hid (show World.ownsRow w1 W0.heap.size 55 4 (.slice A3 m3 k3) m3 (flatH cs3) from by have h := T1.o3; unfold OwnA at h; rw [hl3.out] at h; exact h)
            have HNW := Lib.hid (newsH w1 ⟨0, s, 0, z⟩ 55)
            have hm6 : m3 ≤ 1000 := by omega
            go_wp2_with (at_builtin; refine wpList_append_own_at _ rfl _ _ 24 rfl W0.heap.size 55 i0 (.agg #[.int .i64 0, .string ByteArray.empty, .int .i64 0, .int .i64 0]) 4 40 Try.underlying24 HI.out HZ0.out HZ1.out HZ2.out rfl (by decide) _ _ _ rfl (World.ownsRow.alloc HO.out _) ⟨w1.heap.size, 0, none⟩ 1 1 [.int .i64 0, .string s, .int .i64 0, .int .i64 z] rfl rfl HNW.out (by simp [Value.oneCell']) (by unfold maxLen; omega) (by omega) (by simp; omega) ?_; intro v' w3 hown hgrow _ hat)
            have hform : ∃ A4 k4, v' = .slice A4 (m3 + 1) k4 := ownForm hown
            obtain ⟨A4, k4, rfl⟩ := hform
            have o3 : OwnA w3 W0.heap.size 55 (.slice A4 (m3 + 1) k4) (cs3 ++ [⟨0, s, 0, z⟩]) := by unfold OwnA; rw [flatH_snoc, List.length_append, hl3.out]; exact hown
            have T3 := Lib.hid (Three.swap13 (Three.grow (T1.swap13.alloc (.cells #[.int .i64 0, .string s, .int .i64 0, .int .i64 z] 55)) hgrow o3 hat))
            have b3 : Below W0.heap.size W0 w3 := belowGrown (wr := w1) (o := .cells #[.int .i64 0, .string s, .int .i64 0, .int .i64 z] 55) b1 hgrow rfl rfl rfl rfl hw1 (fun i hi => (T1.o3.lt i hi).1)
            have l3 := Lib.hid (show (cs3 ++ [(⟨0, s, 0, z⟩ : Ch)]).length = m3 + 1 from by rw [List.length_append, hl3.out]; rfl)
            have f9 := Lib.hid (hf3.out.snoc (c := ⟨0, s, 0, z⟩) hgs fit0 fit0 hgv)
            have n3 := Lib.hid (show m3 + 1 = cnt (isNew xs) ys (k + 1) from by have h := HX1.out; have h2 := hc5.out; omega)
            clear o3 T1 b1 q1 p1 x1 hown hgrow hat e0 e1 d0 d1
            go_wp2_with fail
            go_roundw
            case rel => exact ⟨k + 1, m3 + 1, A4, k4, _, by go_num, by omega, rfl, by omega, l3, n3, f9, T3, b3⟩
            case measure => simp [intOf]; omega
          · have HX1 := Lib.hid (cnt_no (p := isNew xs) HKX.out (by rw [HXK.out]; exact isNew_no hx))
            have n3 := Lib.hid (show m3 = cnt (isNew xs) ys (k + 1) from by have h := HX1.out; have h2 := hc5.out; omega)
            have T3 := Lib.hid T1
            clear T1 q1 p1 x1
            go_wp2_with fail
            go_roundw
            case rel => exact ⟨k + 1, m3, A3, k3, cs3, by go_num, by omega, rfl, by omega, hl3, n3, hf3, T3, b1⟩
            case measure => simp [intOf]; omega
        · have hk1 : k = n' := by omega
          have hD := Lib.hid (show m1 + m2 + m3 = diffLen xs ys from by
            have h := hc5.out
            rw [hk1, ← HL'.out] at h
            unfold diffLen
            rw [← hc3.out, ← hc4.out, ← h])
          have hm6 : m3 ≤ 1000 := by omega
          have R1 := T.out.o1.toH.rd2 (hf1.out.good (by have := hl1.out; omega)) hl1.out
          have R2 := T.out.o2.toH.rd2 (hf2.out.good (by have := hl2.out; omega)) hl2.out
          have R3 := T.out.o3.toH.rd2 (hf3.out.good (by have := hl3.out; omega)) hl3.out
          have N1 := T.out.o1.nilc
          have N2 := T.out.o2.nilc
          have N3 := T.out.o3.nilc
          have bg := blk1 wr #[.slice A1 m1 k1, .slice A2 m2 k2, .slice A3 m3 k3] 24
          have b9 := hb.alloc hb.size (.cells #[.slice A1 m1 k1, .slice A2 m2 k2, .slice A3 m3 k3] 24)
          have ba := below1 wr (.cells #[.slice A1 m1 k1, .slice A2 m2 k2, .slice A3 m3 k3] 24)
          have HCC := Lib.hid (concatC_any wr.heap.size (fun i => match i with | 0 => A1 | 1 => A2 | _ => A3) (fun i => match i with | 0 => m1 | 1 => m2 | _ => m3) (fun i => match i with | 0 => k1 | 1 => k2 | _ => k3) (fun i => match i with | 0 => cs1 | 1 => cs2 | _ => cs3) _ bg.lt
            (fun i hi => match i, hi with | 0, _ => bg.cell 0 | 1, _ => bg.cell 1 | 2, _ => bg.cell 2) (fun i hi => match i, hi with | 0, _ => R1.to ba | 1, _ => R2.to ba | 2, _ => R3.to ba) (fun i hi => match i, hi with | 0, _ => N1 | 1, _ => N2 | 2, _ => N3) (fun i hi => match i, hi with | 0, _ => by show m1 ≤ 2000; omega | 1, _ => by show m2 ≤ 2000; omega | 2, _ => by show m3 ≤ 2000; omega))
          have HT := Lib.hid (show tot (fun i => match i with | 0 => m1 | 1 => m2 | _ => m3) 3 = diffLen xs ys from by rw [← hD.out]; simp [tot, List.range_succ]; omega)
          clear R1 R2 R3 N1 N2 N3 bg ba hb T hk1
          go_wp2_with fail
          refine HCC.out.mono ?_
          rintro e w9 ⟨A9, c9, rfl, hn9, hc9, hb⟩
          rw [HT.out]
          rw [HT.out] at hn9
          go_wp2_with fail
          refine (clipC_any _ _ _ _ hn9 hc9).mono ?_
          rintro e w' ⟨rfl, rfl⟩
          have b10 := Lib.hid (Below.on HBW.out (Below.on b9 hb b9.size) (by omega))
          clear b9 hb
          go_wp2
          go_ret
          exact ⟨A9, _, rfl, b10.out⟩
end Go.Proofs.Ytioheadchhkjmaa
