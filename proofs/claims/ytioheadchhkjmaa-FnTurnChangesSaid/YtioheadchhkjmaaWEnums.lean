/-
  The walks of the enumerations that are drawn: goodEnum, someEnum, nameIn.
-/
import Derived.Test.YtioheadchhkjmaaWGood
import Derived.Test.YtioheadchhkjmaaMemE
import Derived.Test.YtioheadchhkjmaaMemZ
import Derived.Deep.RegionLaw
import Derived.Deep.RegionHeld3
import Derived.Deep.DrawnRows
namespace Go.Proofs.Ytioheadchhkjmaa
open Go.RowKit
attribute [local go_sem ↓] Go.wp_at_zero Go.wp_at_succ

/-- An enumeration has been drawn. -/
def EnumDrawn (w : World) (base g k m : Nat) (e : Ending) (w' : World) : Prop :=
  ∃ v ds, e = .returned (.agg #[v]) ∧ Own w' w.heap.size 46 v ds ∧ Fine m ds ∧ DS w base g 78 k w'

set_option maxHeartbeats 1000000 in
theorem goodEnum_any (base g k : Nat) (w : World) (hr : Rdr w base g 78 (k + 61)) :
    Calls Try.prog 35 #[.pointer (some ⟨g, 0, none⟩)] w (EnumDrawn w base g k 12) := by
  have D := (DS.start hr).alloc (.cells #[.slice none 0 0] 42)
  have r := blk1 w #[.slice none 0 0] 42
  have hgl := hr.lt
  clear hr
  go_enter Try.func35, Try.ntmps35
  go_wp2_with fail
  refine (goodDefs_any base g k _ D.rd).mono ?_
  rintro e w1 ⟨v, ds, rfl, ho, hf, h1⟩
  replace D := D.trans h1
  replace r := r.gr h1.gr (by omega)
  replace ho := ho.base (B' := w.heap.size + 1) (by simp)
  obtain ⟨A, c, rfl⟩ := ho.form
  have HF := Lib.hid hf
  have q := r
  clear h1 hf
  have g0 := r.cell 0
  have f0 := r.frozen 0
  have c0 := q.cell 0
  have hrl := r.lt
  have r2 : Blk (w1.setCell ⟨w.heap.size, 0, none⟩ (.slice A ds.length c)) w.heap.size 42 #[(.slice A ds.length c)] := r.set_ 0 (.slice A ds.length c)
  have d0 := r2.cell 0
  have hne := ho.ne (p := w.heap.size) (.inl (by omega))
  have HH := Lib.hid (And.intro ((ho.far hne (i := 0) (.slice A ds.length c)).base (B' := w.heap.size) (by omega)) (D.set (i := 0) (Nat.le_refl _) (.slice A ds.length c)))
  clear q r r2 ho D hne
  go_wp2
  obtain ⟨ho, D⟩ := HH.out
  exact bodyPost_ret (v := .agg #[(.slice A ds.length c)]) (by simp [results, Try.results35, go_sem, d0]) rfl ⟨_, ds, rfl, ho, HF.out, D⟩

theorem Fine.zeros {m : Nat} {ds : List D} (h : Fine m ds) : Fine (m + 13) (ds ++ List.replicate 13 noD) := by
  refine ⟨by have := h.1; simp; omega, fun x hx => ?_⟩
  rcases List.mem_append.1 hx with hx | hx
  · exact h.2 x hx
  · rw [List.eq_of_mem_replicate hx]; exact ⟨by decide, by decide, by decide⟩
end Go.Proofs.Ytioheadchhkjmaa
