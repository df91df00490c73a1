/-
  The walk of the draw of an enumeration, a name and another name.
-/
import Derived.Test.YtpnicgagmopilaaWNameIn
namespace Go.Proofs.Ytpnicgagmopilaa
open Go.RowKit
attribute [local go_sem ↓] Go.wp_at_zero Go.wp_at_succ

/-- An enumeration and two texts have come out. -/
def RenOut (w : World) (e : Ending) (w' : World) : Prop :=
  ∃ A c ds s to, e = .returned (.tuple #[.agg #[.slice A ds.length c], .string s, .string to]) ∧ Short s ∧ Short to ∧ Fine 25 ds ∧ Own w' w.heap.size 68 (.slice A ds.length c) ds ∧ Below w.heap.size w w'
set_option maxRecDepth 100000 in
set_option maxHeartbeats 4000000 in
theorem drawRenameDef_any (A : Option Addr) (n c : Nat) (w : World) (hr : RdB w w.heap.size A n c) :
    Calls Try.prog 44 #[.slice A n c] w (RenOut w) := by
  go_enter Try.func44, Try.ntmps44
  have b0 := below1 w (.cells #[.slice none 0 0] 28)
  have r := blk1 w #[.slice none 0 0] 28
  go_wp2_with fail
  refine (newReader_any A n c _ ((hr.below b0).more b0.size)).mono ?_
  rintro e w1 ⟨g, rfl, hr1, hb⟩
  replace r := r.below hb r.lt
  have hrl := r.lt
  have hg0 := hr1.1
  have hg1 := hr1.lt
  have hg2 : w.heap.size < g := by simp at hg0; omega
  replace b0 := Below.on b0 hb b0.size
  clear hb hr
  go_wp2_with fail
  refine (nameIn_any _ g 1 _ (hr1.less (by omega))).mono ?_
  rintro e w2 ⟨v, s, ds, rfl, hs, ho, hf, D⟩
  obtain ⟨A1, c1, rfl⟩ := ho.form
  have hw2 := D.size
  replace r := r.grown D.gr (by omega)
  obtain ⟨w3, hw3⟩ : ∃ w3, w3 = w2.alloc (.cells #[.slice A1 ds.length c1] 28) := ⟨_, rfl⟩
  have q : Blk w3 w2.heap.size 28 #[.slice A1 ds.length c1] := by rw [hw3]; exact blk1 w2 _ _
  replace r : Blk w3 w.heap.size 28 #[.slice none 0 0] := by rw [hw3]; exact r.alloc _
  replace ho : Own w3 w1.heap.size 68 (.slice A1 ds.length c1) ds := by rw [hw3]; exact ho.alloc _
  replace D : DS w1 (w.alloc (.cells #[.slice none 0 0] 28)).heap.size g 88 1 w3 := by rw [hw3]; exact D.alloc _
  have hgq : g < w2.heap.size := by omega
  have hne1 : ¬ w2.heap.size = w.heap.size := by omega
  have hne2 : ¬ w.heap.size = w2.heap.size := by omega
  have c0 := q.cell 0
  have hs3 := q.lt
  go_wp2_with fail
  rw [← hw3]
  clear hw3
  replace D := D.drew
  replace q := q.drew
  replace r := r.drew
  replace ho := ho.drew
  go_region_held3 (fun w' => w'.cell? ⟨w2.heap.size, 0, none⟩ = some (.slice A1 ds.length c1)) (first | exact c0 | exact cell_far c0 (by omega) | exact (q.alloc _).cell 0)
    (first | (go_at_call 72; refine (of_any Short _ g 0 w3.heap.size 6 6 _ (by decide) (by decide) (by omega) (by exact cellsS (blk1 _ _ _) rfl (by rfl)) ((D.less (k' := 0 + 1) (by omega)).alloc _).rd).mono ?_; rintro e w4 ⟨to, rfl, hto, hr, hg⟩; replace D := ((D.less (k' := 0 + 1) (by omega)).alloc _).draw hr hg; replace q := (q.alloc _).gr hg (by omega); replace r := (r.alloc _).grown hg (by omega); replace ho := (ho.alloc _).draw hg (by omega); replace c0 := q.cell 0; have g0 := r.cell 0; have f0 := r.frozen 0; clear hr hg))
  have hne := ho.ne (p := w.heap.size) (.inl hrl)
  replace b0 := b0.trans (grown_below (base := w.heap.size) D.gr (by simp at hg0; omega) (by omega))
  have hrl2 := r.lt
  have r2 : Blk (w4.setCell ⟨w.heap.size, 0, none⟩ (.slice A1 ds.length c1)) w.heap.size 28 #[.slice A1 ds.length c1] := r.set_ 0 (.slice A1 ds.length c1)
  have d0 := r2.cell 0
  have HH := Lib.hid (And.intro ((ho.far hne (i := 0) (.slice A1 ds.length c1)).base (B' := w.heap.size) (by omega)) (b0.setCell (p := ⟨w.heap.size, 0, none⟩) (Nat.le_refl _) (.slice A1 ds.length c1)))
  clear r r2 ho D hne b0 q c0
  go_wp2
  exact bodyPost_ret (v := .tuple #[.agg #[.slice A1 ds.length c1], .string s, .string to]) (by simp [results, Try.results44, go_sem, d0]) rfl ⟨_, _, ds, _, _, rfl, hs, hto, hf, HH.out.1, HH.out.2⟩
end Go.Proofs.Ytpnicgagmopilaa
