/-
  Plain words: changes turned round.
-/
import Derived.Test.YtioheadchhkjmaaMemH
namespace Go.Proofs.Ytioheadchhkjmaa
open Go.RowKit

/-- A change turned round. -/
def turnC (c : Ch) : Ch := ⟨if c.kind = 0 then 1 else if c.kind = 1 then 0 else c.kind, c.name, c.will, c.was⟩
/-- Changes turned round: the last one first. -/
def turned (cs : List Ch) : List Ch := (cs.map turnC).reverse
theorem turned_length (cs : List Ch) : (turned cs).length = cs.length := by simp [turned]
theorem turnC_twice (c : Ch) : turnC (turnC c) = c := by
  obtain ⟨k, s, a, b⟩ := c
  unfold turnC
  by_cases h0 : k = 0
  · simp [h0]
  · by_cases h1 : k = 1
    · simp [h1]
    · simp [h0, h1]
theorem turned_twice (cs : List Ch) : turned (turned cs) = cs := by
  unfold turned
  rw [List.map_reverse, List.reverse_reverse, List.map_map]
  rw [show turnC ∘ turnC = id from funext turnC_twice, List.map_id]
theorem turnC_kind (c : Ch) : Fits c.kind → Fits (turnC c).kind := by
  intro h
  unfold turnC
  by_cases h0 : c.kind = 0
  · simp only [h0, if_true]; exact ⟨by omega, by omega⟩
  · by_cases h1 : c.kind = 1
    · simp only [h1]; exact ⟨by decide, by decide⟩
    · simp only [h0, h1, if_false]; exact h
theorem turned_good {cs : List Ch} (h : GoodH cs) : GoodH (turned cs) := by
  refine ⟨by rw [turned_length]; exact h.1, fun c hc => ?_⟩
  unfold turned at hc
  rw [List.mem_reverse] at hc
  obtain ⟨d, hd, rfl⟩ := List.mem_map.1 hc
  obtain ⟨h1, h2, h3, h4⟩ := h.2 d hd
  exact ⟨h1, turnC_kind d h2, h4, h3⟩
/-- The changes that have come when k rounds are over, the last one first, each with its place. -/
def backTo (cs : List Ch) (k : Nat) : List (Nat × Ch) := (List.range k).map fun j => (cs.length - 1 - j, nthH cs (cs.length - 1 - j))
theorem backTo_length (cs : List Ch) (k : Nat) : (backTo cs k).length = k := by simp [backTo]
theorem backTo_succ (cs : List Ch) (k : Nat) : backTo cs (k + 1) = backTo cs k ++ [(cs.length - 1 - k, nthH cs (cs.length - 1 - k))] := by simp [backTo, List.range_succ]
theorem backTo_all (cs : List Ch) : (backTo cs cs.length).map (fun x => turnC x.2) = turned cs := by
  apply List.ext_getElem
  · simp [backTo, turned]
  · intro i h1 h2
    have hi : i < cs.length := by simpa [backTo] using h1
    simp only [backTo, turned, List.getElem_map, List.getElem_range, List.getElem_reverse, List.length_map]
    rw [nthH_get (by omega)]
theorem backTo_prefix (cs : List Ch) (j : Nat) (hj : j < cs.length) : backTo cs (cs.length - (j + 1)) ++ [(j, nthH cs j)] = backTo cs (cs.length - j) := by
  have h := backTo_succ cs (cs.length - (j + 1))
  rw [show cs.length - (j + 1) + 1 = cs.length - j from by omega, show cs.length - 1 - (cs.length - (j + 1)) = j from by omega] at h
  exact h.symm
end Go.Proofs.Ytioheadchhkjmaa
