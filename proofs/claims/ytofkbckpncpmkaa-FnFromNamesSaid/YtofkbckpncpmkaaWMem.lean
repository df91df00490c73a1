/-
  The walks of members, of the program's and of the reference's: a row is made by append.
-/
import Derived.Test.YtofkbckpncpmkaaWSDefs
import Derived.Test.YtofkbckpncpmkaaPlainE
import Derived.Maps.AppendAt
namespace Go.Proofs.Ytofkbckpncpmkaa
open Go.RowKit

theorem Try.infoDef2 : (Try.prog.info? 41).map (fun i => (i.zero, i.size, i.bytes)) = some (some (.agg #[.string ByteArray.empty, .int .i64 0]), 2, 24) := by kernel_rfl

/-- The new block that holds one definition. -/
theorem news_def (w : World) (d : D) (t : TypeId) : ∀ (j : Nat) (u : Value), [Value.string d.1, .int .i64 d.2][j]? = some u → (w.alloc (.cells #[.string d.1, .int .i64 d.2] t)).cell? ((⟨w.heap.size, 0, none⟩ : Addr).add j) = some u := by
  intro j u hj
  have h := (blk1 w #[.string d.1, .int .i64 d.2] t).cell
  match j, hj with
  | 0, hj => simp at hj; subst hj; exact h 0
  | 1, hj => simp at hj; subst hj; exact h 1

theorem ret_slice {A : Option Addr} {n m c : Nat} (h : n = m) : Ending.returned (.slice A n c) = .returned (.slice A m c) := by rw [h]
theorem own_slice {w : World} {base n : Nat} {t : TypeId} {v : Value} {xs : List Value} (h : w.ownsRow base t 2 v n xs) : ∃ A c, v = .slice A n c := by
  rcases h.2 with ⟨hv, h0⟩ | ⟨g, cap, _, hv, _⟩
  · exact ⟨none, 0, by rw [hv, h0]⟩
  · exact ⟨_, cap, hv⟩
theorem own_more {w : World} {base k : Nat} {t : TypeId} {v : Value} {ds : List D} {d : D} (h : w.ownsRow base t 2 v (ds.length + 1) (flat ds ++ [.string d.1, .int .i64 d.2])) (hk : k = (ds ++ [d]).length) : w.ownsRow base t 2 v k (flat (ds ++ [d])) := by
  subst hk
  rw [flat_snoc, List.length_append]
  exact h
theorem own_kept {w w' : World} {base n : Nat} {t : TypeId} {v : Value} {xs : List Value} (h : w.ownsRow base t 2 v n xs) (hb : Below w.heap.size w w') : w'.ownsRow base t 2 v n xs :=
  h.kept ⟨hb.os, hb.tape, hb.output, hb.size, fun i hi _ => hb.block i hi⟩ (row := none) (by cases hv : v.ownBlock <;> simp)

end Go.Proofs.Ytofkbckpncpmkaa
