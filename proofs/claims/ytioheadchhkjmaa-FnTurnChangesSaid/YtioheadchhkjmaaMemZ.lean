/-
  What append of a row of zeros does to a row of definitions that the call owns. No program is in sight.
-/
import Derived.Test.YtioheadchhkjmaaMemG
import Derived.Laws.AppendOwn
import Derived.Lib.AppendZeros
namespace Go.Proofs.Ytioheadchhkjmaa
open Go.RowKit

section
variable {P : Program} {w : World} {t tn ty e : TypeId} {i : TypeInfo} {z : Value} {kn : IntKind}
theorem zeros13_room (ht : P.underlying t = some (.slice e)) (htn : P.underlying tn = some (.int kn)) (hi : P.info? e = some i) (hz : i.zero = some z) (hs : i.size = 2) (hb : i.bytes = 24)
    (news : List Value) (hn : (Builtin.zeroCells z.cells 13).toList = news) (hl : news.length = 26) (h1 : ∀ u ∈ news, u.oneCell' = true) (g n cap : Nat) (cur : Array Value) (hg : w.heap[g]? = some (.cells cur e (0, 0))) (hroom : n + 13 ≤ cap) (hfit : n * 2 + 26 ≤ cur.size) :
    (Builtin.append_ #[t, tn] ty #[.slice (some ⟨g, 0, none⟩) n cap, .int .i64 13]).run P w =
      .ok (.slice (some ⟨g, 0, none⟩) (n + 13) cap) (w.setRow g (cur.toList.take (n * 2) ++ news ++ cur.toList.drop (n * 2 + 26)).toArray) := by
  have hst := run_storeCells_at P g (n * 2) e news 0 cur w hg (by rw [hl]; exact hfit) h1
  simp only [Nat.add_zero] at hst
  rw [hl] at hst
  have hw : IntKind.i64.wrap 13 = 13 := by rw [IntKind.wrap_i64]; rfl
  simp [Builtin.append_, run_underlying ht, run_underlying htn, sizeOf, typeInfo, zeroValue, hi, hz, hs, hb, asInt, asIntOf, hw, hroom, Addr.add_lit, hn, hst]
theorem zeros13_grow (ht : P.underlying t = some (.slice e)) (htn : P.underlying tn = some (.int kn)) (hi : P.info? e = some i) (hz : i.zero = some z) (hs : i.size = 2) (hb : i.bytes = 24)
    (g n cap : Nat) (olds : List Value) (hlo : olds.length = n * 2) (holds : ∀ j v, olds[j]? = some v → w.cell? ((⟨g, 0, none⟩ : Addr).add j) = some v)
    (hroom : cap < n + 13) (h63 : ((n + 13 : Nat) : Int) ≤ 9223372036854775807) (hfit : Builtin.nextslicecap (n + 13) cap * 24 ≤ 281474976710656) :
    (Builtin.append_ #[t, tn] ty #[.slice (some ⟨g, 0, none⟩) n cap, .int .i64 13]).run P w =
      .ok (.slice (some ⟨w.heap.size, 0, none⟩) (n + 13) (grownCap w (n + 13) cap e))
        (w.drew.alloc (.cells (olds.toArray ++ (Builtin.zeroCells z.cells 13 ++ Builtin.zeroCells z.cells (grownCap w (n + 13) cap e - (n + 13)))) e)) := by
  have hno : ¬ (n + 13 ≤ cap) := by omega
  have h63' : ¬ (9223372036854775807 < ((n : Int) + max 13 0)) := by omega
  have h48' : ¬ (281474976710656 < Builtin.nextslicecap (n + 13) cap * 24) := by omega
  have hfo := run_firstCells_some (P := P) w.drew i.size n ⟨g, 0, none⟩ n cap olds (by rw [hs]; exact hlo) (by simpa using holds)
  rw [hs] at hfo
  have hw : IntKind.i64.wrap 13 = 13 := by rw [IntKind.wrap_i64]; rfl
  simp [Builtin.append_, run_underlying ht, run_underlying htn, sizeOf, typeInfo, zeroValue, hi, hz, hs, hb, asInt, asIntOf, hw, hno, h63', h48', Question.forced, hfo, newRow, grownCap]
theorem zeros13_cells : (Builtin.zeroCells #[.string ByteArray.empty, .int .i64 0] 13).toList = flat (List.replicate 13 noD) := by
  have h := congrArg Array.toList (made_defs 13)
  simp only [madeCells, Array.toList_map, Array.toList_range] at h
  simp only [Builtin.zeroCells, Array.toList_map, Array.toList_range]
  exact h
/-- 'append(row, make(.., 13)...)' to a row that the call owns. -/
theorem run_zeros13 (ht : P.underlying t = some (.slice e)) (htn : P.underlying tn = some (.int kn)) (hi : P.info? e = some i) (hz : i.zero = some (.agg #[.string ByteArray.empty, .int .i64 0])) (hs : i.size = 2) (hb : i.bytes = 24)
    {B m : Nat} {v : Value} {ds : List D} (ho : Own w B e v ds) (hf : Fine m ds) (hm : m ≤ 1000) (h0 : 0 < ds.length) (hB : B ≤ w.heap.size) :
    ∃ v' w', (Builtin.append_ #[t, tn] ty #[v, .int .i64 13]).run P w = .ok v' w' ∧ Own w' B e v' (ds ++ List.replicate 13 noD) ∧ w.grownBy w' v.ownBlock ∧ (v'.ownBlock = v.ownBlock ∨ v'.ownBlock = some w.heap.size) := by
  have hfl := hf.1
  have hlen : (ds ++ List.replicate 13 noD).length = ds.length + 13 := by simp
  have hfl2 : flat (ds ++ List.replicate 13 noD) = flat ds ++ flat (List.replicate 13 noD) := flat_append _ _
  have h26 : (flat (List.replicate 13 noD)).length = 26 := by rw [flat_length]; simp
  rcases ho.2 with ⟨_, hn⟩ | ⟨g, cap, cur, rfl, hbg, hg, hnc, hcm, hcs, htk⟩
  · omega
  by_cases hroom : ds.length + 13 ≤ cap
  · have hfit : ds.length * 2 + 26 ≤ cur.size := by rw [hcs]; omega
    have hr := zeros13_room (ty := ty) ht htn hi hz hs hb (flat (List.replicate 13 noD)) zeros13_cells h26 (by intro u hu; revert u; decide) g ds.length cap cur hg hroom hfit
    refine ⟨_, _, hr, ⟨by rw [flat_length], .inr ⟨g, cap, _, by rw [hlen], hbg, setRow_heap w g cur _ e _ hg, by omega, hcm, ?_, ?_⟩⟩, ⟨rfl, rfl, rfl, by simp, fun k _ hk => setRow_other w g k _ (fun e => hk (by simp [Value.ownBlock, e]))⟩, .inl rfl⟩
    · simp only [List.size_toArray, List.length_append, List.length_take, List.length_drop, Array.length_toList, h26]
      omega
    · rw [htk, hlen, hfl2]
      have : (ds.length + 13) * 2 = (flat ds ++ flat (List.replicate 13 noD)).length := by rw [List.length_append, h26, flat_length]; omega
      rw [this]
      exact List.take_left
  · have hge := grownCap_ge w (ds.length + 13) cap e
    have hcm2 := grownCap_le_maxLen w (ds.length + 13) cap e (by unfold maxLen; omega)
    have hr := zeros13_grow (ty := ty) ht htn hi hz hs hb g ds.length cap (flat ds) (flat_length ds) (World.ownsRow.cells ho (g := g) rfl) (by omega) (by omega) (growslice_fits (by omega) (by omega))
    refine ⟨_, _, hr, ⟨by rw [flat_length], .inr ⟨w.heap.size, _, _, by rw [hlen], hB, heap_alloc_new w.drew _, by rw [hlen]; exact hge, hcm2, ?_, ?_⟩⟩, ⟨rfl, rfl, rfl, by simp, fun k hk _ => heap_alloc_old w.drew _ k hk⟩, .inr rfl⟩
    · simp only [Array.size_append, List.size_toArray, size_zeroCells, flat_length, Value.cells]
      simp
      omega
    · rw [hlen, hfl2]
      have : (ds.length + 13) * 2 = (flat ds ++ flat (List.replicate 13 noD)).length := by rw [List.length_append, h26, flat_length]; omega
      rw [this]
      simp only [Array.toList_append]
      rw [show (Builtin.zeroCells (Value.agg #[.string ByteArray.empty, .int .i64 0]).cells 13).toList = flat (List.replicate 13 noD) from zeros13_cells, ← List.append_assoc]
      exact List.take_left
end
end Go.Proofs.Ytioheadchhkjmaa
