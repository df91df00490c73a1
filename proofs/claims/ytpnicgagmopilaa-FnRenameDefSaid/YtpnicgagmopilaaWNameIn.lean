/-
  The walk of an enumeration and a name that are drawn: nameIn.
-/
import Derived.Test.YtpnicgagmopilaaWEnums
namespace Go.Proofs.Ytpnicgagmopilaa
open Go.RowKit
attribute [local go_sem ↓] Go.wp_at_zero Go.wp_at_succ

theorem cell_far {w : World} {b o p i : Nat} {x : Option Value} {u : Value} (h : w.cell? ⟨b, o, none⟩ = x) (hne : b ≠ p) : (w.setCell ⟨p, i, none⟩ u).cell? ⟨b, o, none⟩ = x :=
  (World.cell?_of_block (w := w) (a := ⟨b, o, none⟩) (Below.heap_setCell w ⟨p, i, none⟩ u b hne)).trans h
theorem own_all {w : World} {B b n c : Nat} {t : TypeId} {ds : List D} (h : Own w B t (.slice (some ⟨b, 0, none⟩) n c) ds) (hn : n = ds.length) : ∀ i : Nat, i < ds.length → w.cell? ⟨b, i * 2, none⟩ = some (.string (nth ds i).1) ∧ w.cell? ⟨b, i * 2 + 1, none⟩ = some (.int .i64 (nth ds i).2) := fun _ hi => h.cells hn hi
/-- An enumeration and a text have been drawn. -/
def NameDrawn (w : World) (base g k m : Nat) (e : Ending) (w' : World) : Prop :=
  ∃ v s ds, e = .returned (.tuple #[.agg #[v], .string s]) ∧ Short s ∧ Own w' w.heap.size 68 v ds ∧ Fine m ds ∧ DS w base g 88 k w'
set_option maxRecDepth 100000 in
set_option maxHeartbeats 4000000 in
theorem nameIn_any (base g k : Nat) (w : World) (hr : Rdr w base g 88 (k + 67)) :
    Calls Try.prog 64 #[.pointer (some ⟨g, 0, none⟩)] w (NameDrawn w base g k 25) := by
  have D := (DS.start hr).alloc (.cells #[.slice none 0 0] 28)
  have r := blk1 w #[.slice none 0 0] 28
  have hgl := hr.lt
  clear hr
  go_enter Try.func64, Try.ntmps64
  go_wp2_with fail
  refine (someEnum_any base g (k + 3) _ D.rd).mono ?_
  rintro e w1 ⟨v, ds, rfl, ho, hf, h1⟩
  replace D := D.trans h1
  replace r := r.gr h1.gr (by omega)
  replace ho := ho.base (B' := w.heap.size + 1) (by simp)
  have hw1 : w.heap.size < w1.heap.size := r.lt
  have q := blk1 w1 #[v] 28
  replace r := r.alloc (.cells #[v] 28)
  replace D := D.alloc (.cells #[v] 28)
  replace ho := ho.alloc (.cells #[v] 28)
  have hne1 : ¬ w1.heap.size = w.heap.size := by omega
  have hne2 : ¬ w.heap.size = w1.heap.size := by omega
  have HF := Lib.hid hf
  have hfl := hf.1
  clear h1 hf
  by_cases hn : 0 < ds.length
  · obtain ⟨bb, c, rfl, hb0, hb1, hcc0, hcc1⟩ := ho.some hn
    have c0 := q.cell 0
    go_wp2_with fail
    refine (pick_any base g (k + 2) _ _ D.rd).mono ?_
    rintro e w2 ⟨x, rfl, hx0, hx1, hr, hg⟩
    replace D := D.draw hr hg
    replace q := q.gr hg (by omega)
    replace r := r.gr hg (by omega)
    replace ho := ho.draw hg (by omega)
    replace c0 := q.cell 0
    have hs2 := q.lt
    clear hr hg hx1
    by_cases hx : 0 < x
    · go_wp2_with fail
      replace D := D.drew
      replace q := q.drew
      replace r := r.drew
      replace ho := ho.drew
      have hall := own_all ho rfl
      go_region_held3 (fun w' => w'.cell? ⟨w1.heap.size, 0, none⟩ = some (.slice (some ⟨bb, 0, none⟩) ds.length c) ∧ ∀ i : Nat, i < ds.length → w'.cell? ⟨bb, i * 2, none⟩ = some (.string (nth ds i).1) ∧ w'.cell? ⟨bb, i * 2 + 1, none⟩ = some (.int .i64 (nth ds i).2)) (first | exact ⟨c0, hall⟩ | exact ⟨cell_far c0 (by omega), fun i hi => ⟨cell_far (hall i hi).1 (by omega), cell_far (hall i hi).2 (by omega)⟩⟩)
        (first | (go_at_call 66; refine (pick_any base g (k + 1) _ _ D.rd).mono ?_; rintro e w3 ⟨kk, rfl, hk0, hk1, hr, hg⟩; replace hk1 := hk1 (by omega); obtain ⟨kk, rfl⟩ := Int.eq_ofNat_of_zero_le hk0; replace D := D.draw hr hg; replace q := q.gr hg (by omega); replace r := r.gr hg (by omega); replace ho := ho.draw hg (by omega); replace c0 := q.cell 0; have hkl : kk < ds.length := (by omega); replace hall := own_all ho rfl; have g0 := r.cell 0; have f0 := r.frozen 0; clear hr hg))
      have hs := (HF.out.nth hkl).1
      clear hall
      replace D := D.less (k' := k) (by omega)
      have hne := ho.ne (p := w.heap.size) (.inl (by omega))
      have r2 : Blk (w3.setCell ⟨w.heap.size, 0, none⟩ (.slice (some ⟨bb, 0, none⟩) ds.length c)) w.heap.size 28 #[(.slice (some ⟨bb, 0, none⟩) ds.length c)] := r.set_ 0 (.slice (some ⟨bb, 0, none⟩) ds.length c)
      have d0 := r2.cell 0
      have HH := Lib.hid (And.intro ((ho.far hne (i := 0) (.slice (some ⟨bb, 0, none⟩) ds.length c)).base (B' := w.heap.size) (by omega)) (D.set (i := 0) (Nat.le_refl _) (.slice (some ⟨bb, 0, none⟩) ds.length c)))
      clear q r r2 ho D hne
      go_wp2
      obtain ⟨ho, D⟩ := HH.out
      exact bodyPost_ret (v := .tuple #[.agg #[(.slice (some ⟨bb, 0, none⟩) ds.length c)], .string (nth ds kk).1]) (by simp [results, Try.results64, go_sem, d0]) rfl ⟨_, _, _, rfl, hs, ho, HF.out, D⟩
    · go_wp2_with fail
      replace D := D.drew
      replace q := q.drew
      replace r := r.drew
      replace ho := ho.drew
      go_region_held3 (fun w' => w'.cell? ⟨w1.heap.size, 0, none⟩ = some (.slice (some ⟨bb, 0, none⟩) ds.length c)) (go_keep)
        (first | (go_at_call 52; refine (anyName_any base g k _ D.rd).mono ?_; rintro e w3 ⟨s, rfl, hs, hr, hg⟩; replace D := D.draw hr hg; replace q := q.gr hg (by omega); replace r := r.gr hg (by omega); replace ho := ho.draw hg (by omega); replace c0 := q.cell 0; have g0 := r.cell 0; have f0 := r.frozen 0; clear hr hg))
      have hne := ho.ne (p := w.heap.size) (.inl (by omega))
      have r2 : Blk (w3.setCell ⟨w.heap.size, 0, none⟩ (.slice (some ⟨bb, 0, none⟩) ds.length c)) w.heap.size 28 #[(.slice (some ⟨bb, 0, none⟩) ds.length c)] := r.set_ 0 (.slice (some ⟨bb, 0, none⟩) ds.length c)
      have d0 := r2.cell 0
      have HH := Lib.hid (And.intro ((ho.far hne (i := 0) (.slice (some ⟨bb, 0, none⟩) ds.length c)).base (B' := w.heap.size) (by omega)) (D.set (i := 0) (Nat.le_refl _) (.slice (some ⟨bb, 0, none⟩) ds.length c)))
      clear q r r2 ho D hne
      go_wp2
      obtain ⟨ho, D⟩ := HH.out
      exact bodyPost_ret (v := .tuple #[.agg #[(.slice (some ⟨bb, 0, none⟩) ds.length c)], .string s]) (by simp [results, Try.results64, go_sem, d0]) rfl ⟨_, _, _, rfl, hs, ho, HF.out, D⟩
  · obtain ⟨A, c, rfl⟩ := ho.form
    obtain rfl : ds = [] := List.eq_nil_of_length_eq_zero (by omega)
    replace ho : Own (w1.alloc (.cells #[.slice A 0 c] 28)) (w.heap.size + 1) 68 (.slice A 0 c) [] := ho
    replace q : Blk (w1.alloc (.cells #[.slice A 0 c] 28)) w1.heap.size 28 #[.slice A 0 c] := q
    replace r : Blk (w1.alloc (.cells #[.slice A 0 c] 28)) w.heap.size 28 #[.slice none 0 0] := r
    replace D : DS w base g 88 (k + 2) (w1.alloc (.cells #[.slice A 0 c] 28)) := D.less (by omega)
    clear hn hfl HF
    have c0 := q.cell 0
    go_wp2_with fail
    replace D := D.drew
    replace q := q.drew
    replace r := r.drew
    replace ho := ho.drew
    go_region_held3 (fun w' => w'.cell? ⟨w1.heap.size, 0, none⟩ = some (.slice A 0 c)) (go_keep)
      (first | (go_at_call 52; refine (anyName_any base g k _ D.rd).mono ?_; rintro e w3 ⟨s, rfl, hs, hr, hg⟩; replace D := D.draw hr hg; replace q := q.gr hg (by omega); replace r := r.gr hg (by omega); replace ho := ho.draw hg (by omega); replace c0 := q.cell 0; have g0 := r.cell 0; have f0 := r.frozen 0; clear hr hg))
    have hne := ho.ne (p := w.heap.size) (.inl (by omega))
    have r2 : Blk (w3.setCell ⟨w.heap.size, 0, none⟩ (.slice A 0 c)) w.heap.size 28 #[(.slice A 0 c)] := r.set_ 0 (.slice A 0 c)
    have d0 := r2.cell 0
    have HH := Lib.hid (And.intro ((ho.far hne (i := 0) (.slice A 0 c)).base (B' := w.heap.size) (by omega)) (D.set (i := 0) (Nat.le_refl _) (.slice A 0 c)))
    clear q r r2 ho D hne
    go_wp2
    obtain ⟨ho, D⟩ := HH.out
    exact bodyPost_ret (v := .tuple #[.agg #[(.slice A 0 c)], .string s]) (by simp [results, Try.results64, go_sem, d0]) rfl ⟨_, _, _, rfl, hs, ho, Fine.nil _, D⟩
end Go.Proofs.Ytpnicgagmopilaa
