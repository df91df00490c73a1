/-
  The walks of names that are listed: names, MembersOf.
-/
import Derived.Test.YtofkbckpncpmkaaWMem
import Derived.Test.YtofkbckpncpmkaaMemS
import Derived.Maps.AppendAt
namespace Go.Proofs.Ytofkbckpncpmkaa
open Go.RowKit

theorem Try.infoText : (Try.prog.info? 9).map (fun i => (i.zero, i.size, i.bytes)) = some (some (.string ByteArray.empty), 1, 16) := by kernel_rfl
/-- The names of those of the first k definitions for which p holds. -/
def nmTo (p : D → Bool) (ds : List D) : Nat → List ByteArray
  | 0 => []
  | k + 1 => if p (nth ds k) then nmTo p ds k ++ [(nth ds k).1] else nmTo p ds k
theorem nmTo_yes {p : D → Bool} {ds : List D} {k : Nat} (h : p (nth ds k) = true) : nmTo p ds (k + 1) = nmTo p ds k ++ [(nth ds k).1] := by rw [nmTo, if_pos h]
theorem nmTo_no {p : D → Bool} {ds : List D} {k : Nat} (h : p (nth ds k) = false) : nmTo p ds (k + 1) = nmTo p ds k := by rw [nmTo, h]; rfl
theorem nmTo_length (p : D → Bool) (ds : List D) (k : Nat) : (nmTo p ds k).length ≤ k := by
  induction k with
  | zero => exact Nat.le_refl _
  | succ k ih =>
    unfold nmTo
    split
    · simp; omega
    · omega
theorem nmTo_in {p : D → Bool} {ds : List D} {k : Nat} {s : ByteArray} (h : s ∈ nmTo p ds k) : ∃ j, j < k ∧ s = (nth ds j).1 := by
  induction k with
  | zero => simp [nmTo] at h
  | succ k ih =>
    unfold nmTo at h
    split at h
    · rcases List.mem_append.1 h with h | h
      · obtain ⟨j, hj, e⟩ := ih h; exact ⟨j, by omega, e⟩
      · exact ⟨k, by omega, by simpa using h⟩
    · obtain ⟨j, hj, e⟩ := ih h; exact ⟨j, by omega, e⟩
theorem nmTo_good {p : D → Bool} {ds : List D} {k : Nat} (hg : Good ds) (hk : k ≤ ds.length) : GoodS (nmTo p ds k) := by
  refine ⟨by have := nmTo_length p ds k; have := hg.1; omega, fun s hs => ?_⟩
  obtain ⟨j, hj, rfl⟩ := nmTo_in hs
  exact (hg.nth (by omega)).1
/-- All definitions. -/
def anyD (_ : D) : Bool := true
/-- Texts have come out. -/
def TextsOut (ss : List ByteArray) (w : World) (e : Ending) (w' : World) : Prop :=
  ∃ A c, e = .returned (.slice A ss.length c) ∧ RdS w' w'.heap.size A ss.length c ss ∧ Below w.heap.size w w'
theorem ownS_slice {w : World} {base n : Nat} {t : TypeId} {v : Value} {xs : List Value} (h : w.ownsRow base t 1 v n xs) : ∃ A c, v = .slice A n c := by
  rcases h.2 with ⟨hv, h0⟩ | ⟨g, cap, _, hv, _⟩
  · exact ⟨none, 0, by rw [hv, h0]⟩
  · exact ⟨_, cap, hv⟩
theorem ownS_kept {w w' : World} {base n : Nat} {t : TypeId} {v : Value} {xs : List Value} (h : w.ownsRow base t 1 v n xs) (hb : Below w.heap.size w w') : w'.ownsRow base t 1 v n xs :=
  h.kept (row := none) ⟨hb.os, hb.tape, hb.output, hb.size, fun i hi _ => hb.block i hi⟩ (by cases hv : v.ownBlock <;> simp)

theorem RdS.clip {w : World} {B n c : Nat} {A : Option Addr} {ss : List ByteArray} (h : RdS w B A n c ss) : RdS w B A n n ss := ⟨h.1, Nat.le_refl _, Nat.le_trans h.2.1 h.2.2.1, h.2.2.2⟩
/-- The other names of a value: not the member. -/
def othP (x : Int) (m : ByteArray) (d : D) : Bool := d.2 == x && !eqS d.1 m
/-- The names of the members of a valid enumeration. -/
def membersV (ds : List D) : List ByteArray := if vEnum ds then nmTo anyD (mem ds) (mem ds).length else []
theorem membersV_no {ds : List D} (h : vEnum ds = false) : membersV ds = [] := by unfold membersV; rw [h]; rfl
theorem membersV_yes {ds : List D} (h : vEnum ds = true) : membersV ds = nmTo anyD (mem ds) (mem ds).length := by unfold membersV; rw [h]; rfl
theorem RdS.nil (w : World) (B : Nat) : RdS w B none 0 0 [] := ⟨rfl, Nat.le_refl _, by omega, ⟨by simp, by simp⟩, fun h => absurd h (by omega)⟩
end Go.Proofs.Ytofkbckpncpmkaa
