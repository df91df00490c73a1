/-
  Exact names in plain Lean: the value of the name is the value. No program is in sight.
-/
import Derived.Test.YtofkbckpncpmkaaWExName
import Derived.Test.YtofkbckpncpmkaaWNames
namespace Go.Proofs.Ytofkbckpncpmkaa

theorem vDefsF_ok {ds : List D} {lo hi : Int} (h : vDefs ds lo hi = true) {i : Nat} (hi' : i < ds.length) : okAt ds lo hi i = true := by
  simp only [vDefs, okTo, Bool.and_eq_true, List.all_eq_true, List.mem_range] at h
  exact h.1 i hi'
theorem noneBefore {ds : List D} {lo hi : Int} (h : vDefs ds lo hi = true) {i : Nat} (hi' : i < ds.length) : noneTo (nameIs (nth ds i).1) ds i := by
  have h1 := vDefsF_ok h hi'
  simp only [okAt, Bool.and_eq_true, decide_eq_true_eq] at h1
  have h2 : noneTo (nameIs (nth ds i).1) (ds.take i) (ds.take i).length := by
    rcases ix_cases (nameIs (nth ds i).1) (ds.take i) with ⟨_, ht⟩ | ⟨k, _, hk, _, _⟩
    · exact ht
    · omega
  intro j hj
  have := h2 j (by rw [List.length_take]; omega)
  rwa [nth_take hj] at this
theorem ixName {ds : List D} {lo hi : Int} (h : vDefs ds lo hi = true) {i : Nat} (hi' : i < ds.length) : ix (nameIs (nth ds i).1) ds = i :=
  ix_yes hi' (noneBefore h hi') (by simp [nameIs, eqS])
theorem orV_zero {x : Int} (h : 0 ≤ x) : orV 0 x = x := by
  obtain ⟨a, rfl⟩ := Int.eq_ofNat_of_zero_le h
  simp [orV]
theorem exact_back {ds : List D} {z x : Int} (h : hasFl ds z x = true) : fromOk ds z [exV ds z x] = true ∧ fromV ds z [exV ds z x] = x := by
  have hv : vFlag ds z = true := by
    simp only [hasFl, Bool.and_eq_true] at h
    exact h.1
  have h0 : 0 ≤ ix (valueIs x) ds := by
    simp only [hasFl, Bool.and_eq_true, decide_eq_true_eq] at h
    exact h.2
  rcases ix_cases (valueIs x) ds with ⟨h1, _⟩ | ⟨k, hk, h1, _, hp⟩
  · omega
  · have h2 := (hasFl_yes hv h1).2
    have hx : (nth ds k).2 = x := by simpa [valueIs] using hp
    have hn := ixName (vFlag_defs hv) hk
    have hb := Bits_of (vFlag_defs hv) k hk
    have e0 : nthS [exV ds z x] 0 = (nth ds k).1 := by rw [h2]; rfl
    have h3 := from_step (ss := [exV ds z x]) (k := 0) (show knowsTo ds [exV ds z x] 0 = true from rfl) (j := k) (by rw [e0]; exact hn)
    have h4 := from_yes (ss := [exV ds z x]) hv (k := 1) rfl h3.1
    refine ⟨h4.1, ?_⟩
    rw [h4.2, h3.2, hx]
    exact orV_zero (by omega)
theorem exV_size {ds : List D} (hg : Good ds) (z x : Int) : (exV ds z x).size ≤ 9223372036854775807 := by
  unfold exV
  split
  · rename_i h
    simp only [hasFl, Bool.and_eq_true, decide_eq_true_eq] at h
    rcases ix_cases (valueIs x) ds with ⟨h1, _⟩ | ⟨k, hk, h1, _, _⟩
    · omega
    · rw [h1]
      exact (hg.nth hk).1
  · decide
theorem vFlag_take {ds : List D} {z : Int} (h : vFlag ds z = true) (k : Nat) : vFlag (ds.take k) z = true := by
  have hd := vFlag_defs h
  have hl := vDefs_length hd
  have hk : (ds.take k).length ≤ ds.length := by rw [List.length_take]; omega
  have h2 : vDefs (ds.take k) 0 4095 = true := by
    simp only [vDefs, okTo, Bool.and_eq_true, List.all_eq_true, List.mem_range, decide_eq_true_eq]
    refine ⟨fun i hi' => ?_, by omega⟩
    have hik : i < k := by rw [List.length_take] at hi'; omega
    have := vDefsF_ok hd (i := i) (by omega)
    unfold okAt at this ⊢
    rw [nth_take hik, List.take_take, Nat.min_eq_left (by omega)]
    exact this
  simp only [vFlag, Bool.and_eq_true] at h ⊢
  exact ⟨h2, h.2⟩
end Go.Proofs.Ytofkbckpncpmkaa
