/-
  From a walk to a row: a law answers true whatever came in, and leaves all that lay below the call as it was. The arguments are opened here: numbers, texts, definitions, enumerations, classes of flags.
-/
import Derived.Test.YtioheadchhkjmaaRows
import Derived.Test.YtioheadchhkjmaaMem
import Derived.ProofKit
import Derived.Deep.Slices
import Derived.Deep.Fields
import Derived.Lib.SmallJoins
import Derived.SizedLaws
import Derived.Carry
namespace Go.Proofs.Ytioheadchhkjmaa
open Go.ChangeShapes Go.WideShapes Go.ChangeAt Go.RowKit Go.Deep Go.Joins

theorem Try.own : ownKnob Try.prog.godebug = none := by kernel_rfl
theorem Try.laidOut : laidOutB Try.prog = true := by kernel_rfl

section
variable {H : Type} {enc : TypeId × Value → H} {P : Program} {w : World}

theorem trodAll_below (hl : laidOutB P = true) : ∀ {ts : List TypeId} {vs : List Value} {ds : List (DataW H)} {ps : List MemPlace}, (∀ t ∈ ts, P.readableRec t = true ∧ t < P.types.size) →
    ∀ {W W' : World}, DataW.TrodAll enc P W 0 (fun _ => true) true ts vs ds ps → Below W.heap.size W W' → (∀ x ∈ ps, x.block < W.heap.size) → DataW.TrodAll enc P W' 0 (fun b => decide (b < W.heap.size)) true ts vs ds ps
  | [], [], [], ps, _, _, _, h, _, _ => h
  | t :: ts, v :: vs, d :: ds, ps, hr, W, W', h, hb, hlt => by
    obtain ⟨p, q, hp, hq, rfl⟩ := h
    exact ⟨p, q, Below.trod hl (hr t (by simp)).1 (hr t (by simp)).2 hp hb (fun x hx => hlt x (by simp [hx])),
      trodAll_below hl (fun t' ht' => hr t' (by simp [ht'])) hq hb (fun x hx => hlt x (by simp [hx])), rfl⟩
  | [], _ :: _, _, _, _, _, _, h, _, _ => by cases h
  | [], [], _ :: _, _, _, _, _, h, _, _ => by cases h
  | _ :: _, [], _, _, _, _, _, h, _, _ => by cases h
  | _ :: _, _ :: _, [], _, _, _, _, h, _, _ => by cases h

theorem trodAll_length {base : Nat} {spare : Nat → Bool} {held : Bool} : ∀ {ts : List TypeId} {vs : List Value} {ds : List (DataW H)} {ps : List MemPlace}, DataW.TrodAll enc P w base spare held ts vs ds ps → ds.length = ts.length
  | [], [], [], _, _ => rfl
  | _ :: _, _ :: _, _ :: _, _, h => by
    obtain ⟨_, _, _, hq, _⟩ := h
    simp [trodAll_length hq]
  | [], _ :: _, _, _, h => by cases h
  | [], [], _ :: _, _, h => by cases h
  | _ :: _, [], _, _, h => by cases h
  | _ :: _, _ :: _, [], _, h => by cases h

/-- What 'post' asks, of a law that answers true. -/
theorem law_post {f : Func} {s : ChangeSpec} {W W' : World} {args : Array Value} {ds gs : List (DataW H)} {before : List MemPlace} {tb : TypeId} (hl : laidOutB P = true) (hr : ∀ t ∈ f.params.toList, P.readableRec t = true ∧ t < P.types.size)
    (hres : f.resultTypes = #[tb]) (htb : P.underlying tb = some .bool) (hvs : s.vars = []) (hfn : (s.fn H (ds ++ [])).results = [.lit (.bool true)] ∧ (s.fn H (ds ++ [])).args = ds ∧ (s.fn H (ds ++ [])).vars = [])
    (hW : DataW.Whole enc P f.params.toList s.vars false W args.toList ds gs before) (hb : Below W.heap.size W W') : s.post enc P f false true false false W args (.bool true) W' := by
  have hlt : ∀ p ∈ before, p.block < W.heap.size := fun p hp => hW.lt p hp
  have hW' := hW
  obtain ⟨p, q, hA, hV, rfl, hfz, _⟩ := hW
  rw [hvs] at hV
  obtain ⟨rfl, rfl⟩ := trodVars_none hV
  obtain ⟨h1, h2, h3⟩ := hfn
  refine ⟨ds, [], p ++ [], [], p, [], hW', ?_, ?_, ?_, hb.frame _, fun h => by cases h⟩
  · rw [hres, h1]
    exact trodAll_mk1 (shut_bool htb true)
  · rw [h2]
    exact trodAll_below hl hr hA hb (fun x hx => hlt x (by simp [hx]))
  · rw [hvs, h3]
    rfl

/-- The lifted statement of a law that answers true. -/
theorem law_lifted {C : Checked} {os : Os} {f : FuncId} {fn : Func} {s : ChangeSpec} {tb : TypeId} (hl : laidOutB C.prog = true) (hr : (fn.params.toList.all fun t => C.prog.readableRec t && decide (t < C.prog.types.size)) = true)
    (own : ownKnob C.prog.godebug = none) (started : os.Started) (noInit : C.prog.inits.idxOf? f = none) (hfn : C.prog.funcs[f]? = some fn)
    (hres : fn.resultTypes = #[tb]) (htb : C.prog.underlying tb = some .bool) (hvs : s.vars = [])
    (hspec : ∀ ds : List (DataW H), ds.length = fn.params.size → (s.fn H (ds ++ [])).results = [.lit (.bool true)] ∧ (s.fn H (ds ++ [])).args = ds ∧ (s.fn H (ds ++ [])).vars = [])
    (witness : ∃ (w : World) (tape : Tape) (i : Input), w.os = os ∧ (w.forCall tape i).Shaped C.prog ∧ i.vars = [] ∧ Input.okWide C.prog (w.forCall tape i) .any w.heap.size f i ∧
      s.pre6 enc C.prog fn [] false (w.forCall tape i).memory i.args ∧ ({} : Assume).holds C.prog (lone (Frame.enter C.prog f i.args .normal) [] (w.forCall tape i)))
    (contract : ∀ (W : World) (base : Nat) (args : Array Value) (ds : List (DataW H)) (p : List MemPlace),
      (∀ (j : Nat) t v, fn.params[j]? = some t → args[j]? = some v → Value.okWide C.prog W .any base t v) →
      DataW.TrodAll enc C.prog W 0 (fun _ => true) true fn.params.toList args.toList ds p →
      (DataW.weightsEach C.prog fn.params.toList ds).all (· ≤ reachBytes) = true →
      Calls C.prog f args W fun e W' => e = .returned (.bool true) ∧ Below W.heap.size W W') :
    ReturnsInHanded {} C os f .any (s.pre6 enc C.prog fn [] false) (s.post enc C.prog fn false true false false) := by
  refine returnsInHanded_of_change_sized own started noInit hfn witness ?_
  intro W base args ds gs before hval hW _ hsz _
  have hW' := hW
  obtain ⟨p, q, hA, hV, rfl, hfz, _⟩ := hW
  rw [hvs] at hV
  obtain ⟨rfl, rfl⟩ := trodVars_none hV
  have hsz' : (DataW.weightsEach C.prog fn.params.toList ds).all (· ≤ reachBytes) = true := by
    have e : s.plain.varTypes C.prog = [] := by
      have : s.plain.vars = [] := hvs
      simp [DataSpec.varTypes, this]
    rw [e] at hsz
    simpa using hsz
  have hlen : ds.length = fn.params.size := by
    simpa using trodAll_length hA
  refine (contract W base args ds p hval hA hsz').mono fun e W' ⟨he, hb⟩ => ?_
  exact ⟨_, he, law_post hl (fun t ht => by simpa using List.all_eq_true.1 hr t ht) hres htb hvs (hspec ds hlen) hW' hb⟩

/-- A cell that is there lies in no spot, and below the heap's end. -/
theorem addr_of_cell {a : Addr} {v : Value} (h : w.cell? a = some v) : ∃ b off, a = ⟨b, off, none⟩ ∧ b < w.heap.size := by
  obtain ⟨b, off, s⟩ := a
  have hb : b < w.heap.size := by
    rcases Nat.lt_or_ge b w.heap.size with h1 | h1
    · exact h1
    · simp [World.cell?, Array.getElem?_eq_none h1] at h
  cases s with
  | none => exact ⟨b, off, rfl, hb⟩
  | some s =>
    unfold World.cell? at h
    split at h
    · simp at h
    · cases h
theorem add_plain (b off n : Nat) : Addr.add ⟨b, off, none⟩ n = ⟨b, off + n, none⟩ := by
  unfold Addr.add
  split
  · subst_vars; rfl
  · rfl

/-- A slice of definitions that came in. -/
theorem open_defs {t e : TypeId} {f0 f1 : Field} {fuel : Nat} {v : Value} {y : DataW H × List MemPlace} (ht : P.underlying t = some (.slice e)) (he : P.underlying e = some (.struct #[f0, f1])) (hone : oneCellFields P #[f0, f1] = true)
    (hC : P.cellsOf e = 2) (h0 : P.underlying f0.type = some .string) (h1 : P.underlying f1.type = some (.int .i64)) (hb : P.bytesOf e = 24)
    (h : DataW.trod enc P w 0 (fun _ => true) true fuel t [v] = some y) (hw : ∀ x ∈ y.1.weights P t, x ≤ reachBytes) : ∃ A n c ds, v = .slice A n c ∧ Rd w w.heap.size A n c ds := by
  rcases open_slice ht h with ⟨hv, _⟩ | ⟨a, n, c, m, k, X, Pl, hv, _, hn, hc, hm, rfl, hi⟩
  · simp only [List.cons.injEq, and_true] at hv
    exact ⟨none, 0, 0, [], hv, rfl, Nat.le_refl _, by omega, ⟨by simp, by simp⟩, fun h => absurd h (by omega)⟩
  · simp only [List.cons.injEq, and_true] at hv
    simp only [if_true] at hm
    subst hm
    rw [hC] at hi
    obtain ⟨o0, k0⟩ := hone_of hone 0 f0 rfl
    obtain ⟨o1, k1⟩ := hone_of hone 1 f1 rfl
    obtain ⟨V, hV⟩ := choose_lt (α := D) (p := fun i d => w.cell? (a.add (i * 2)) = some (.string d.1) ∧ w.cell? ((a.add (i * 2)).add 1) = some (.int .i64 d.2) ∧ d.1.size ≤ maxLen ∧ (Lit.int .i64 d.2).wf = true) (fun i him => by
      obtain ⟨cs, hcs, htr⟩ := hi i him
      obtain ⟨_, hlen, hcell⟩ := World.cells?_some hcs
      obtain ⟨xs, n', _, _, _, hxl, hf⟩ := DataW.trod_struct he htr
      match cs, hlen with
      | [c0, c1], _ =>
        have g0 := hf 0 f0 rfl
        have g1 := hf 1 f1 rfl
        rw [o0, k0] at g0
        rw [o1, k1] at g1
        match xs, hxl with
        | [y0, y1], _ =>
          obtain ⟨s, hs, _, hsl⟩ := DataW.trod_string h0 (x := y0) (by simpa using g0)
          obtain ⟨z, hz, _, hwf⟩ := DataW.trod_int h1 (x := y1) (by simpa using g1)
          have e0 := hcell 0 (by omega)
          have e1 := hcell 1 (by omega)
          simp at hs hz
          subst hs; subst hz
          exact ⟨(s, z), by simpa [Addr.add] using e0, by simpa using e1, hsl, hwf⟩)
    refine ⟨some a, n, m, (List.range n).map V, hv, by simp, hn, ?_, ⟨?_, ?_⟩, fun hn0 => ?_⟩
    · exact hc
    · have := hw ((n + (m - n)) * P.bytesOf e) (by simp [DataW.weights, ht])
      rw [hb] at this
      unfold reachBytes at this
      simp; omega
    · intro d hd
      obtain ⟨i, hi', rfl⟩ := List.mem_map.1 hd
      obtain ⟨_, _, hs, hz⟩ := hV i (by have := List.mem_range.1 hi'; omega)
      simp [Lit.wf, IntKind.min, IntKind.max, IntKind.signed, IntKind.bits] at hz
      unfold maxLen at hs
      exact ⟨hs, by omega, by omega⟩
    · obtain ⟨b, off, rfl, hblt⟩ := addr_of_cell (hV 0 (by omega)).1
      refine ⟨b, off, rfl, hblt, fun i hi' => ?_⟩
      obtain ⟨e0, e1, _, _⟩ := hV i (by omega)
      have en : nth ((List.range n).map V) i = V i := by simp [nth, hi']
      rw [en]
      simp only [add_plain] at e0 e1
      exact ⟨e0, e1⟩

theorem sized_each {ts : List TypeId} {ds : List (DataW H)} (h : (DataW.weightsEach P ts ds).all (· ≤ reachBytes) = true) {j : Nat} {t : TypeId} {d : DataW H} (ht : ts[j]? = some t) (hd : ds[j]? = some d) : ∀ x ∈ d.weights P t, x ≤ reachBytes := fun x hx => by
  simpa using List.all_eq_true.1 h x (DataW.weights_mem_each ht hd x hx)
end

section
variable {H : Type} {enc : TypeId × Value → H} {W : World} {r : Reach} {base fuel : Nat} {v : Value} {d : DataW H} {p : List MemPlace}
set_option maxRecDepth 100000 in
theorem open_lawsDefs {y : DataW H × List MemPlace} (h : DataW.trod enc Try.prog W 0 (fun _ => true) true fuel 33 [v] = some y) (hw : ∀ x ∈ y.1.weights Try.prog 33, x ≤ reachBytes) :
    ∃ A n c ds, v = .slice A n c ∧ Rd W W.heap.size A n c ds :=
  open_defs Try.underlying33 Try.underlying37 (by kernel_rfl) (by kernel_rfl) Try.underlying9 Try.underlying3 (by kernel_rfl) h hw
set_option maxRecDepth 100000 in
theorem open_enum (hv : Value.okWide Try.prog W r base 35 v) (h : DataW.Trod enc Try.prog W 0 (fun _ => true) true 35 v d p) (hw : ∀ x ∈ d.weights Try.prog 35, x ≤ reachBytes) :
    ∃ A n c ds, v = .agg #[.slice A n c] ∧ Rd W W.heap.size A n c ds := by
  obtain ⟨cs, rfl, hsz⟩ := okWide_struct Try.underlying35 hv
  have hC : Try.prog.cellsOf 35 = 1 := by kernel_rfl
  rw [hC] at hsz
  obtain ⟨l⟩ := cs
  match l, hsz with
  | [c0], _ =>
    obtain ⟨fuel, hf⟩ := h
    obtain ⟨xs, n, _, hx, _, hlen, hg⟩ := DataW.trod_struct Try.underlying35 hf
    match xs, hlen with
    | [y0], _ =>
      have g0 := hg 0 _ rfl
      have k0 : Try.prog.cellsOf 33 = 1 := by kernel_rfl
      change DataW.trod enc Try.prog W 0 (fun _ => true) true n 33 (List.take (Try.prog.cellsOf 33) [c0]) = _ at g0
      rw [k0] at g0
      simp only [List.map_cons, List.map_nil, Prod.mk.injEq] at hx
      obtain ⟨A, n, c, ds, rfl, hr⟩ := open_lawsDefs (y := y0) (by simpa using g0) (fun x hx' => hw x (by rw [hx.1]; simp [DataW.weights, DataW.weightsEach, Try.underlying35, hx']))
      exact ⟨A, n, c, ds, rfl, hr⟩
set_option maxRecDepth 100000 in
theorem open_num (hv : Value.okWide Try.prog W r base 3 v) (h : DataW.Trod enc Try.prog W 0 (fun _ => true) true 3 v d p) : ∃ x : Int, v = .int .i64 x ∧ -9223372036854775808 ≤ x ∧ x ≤ 9223372036854775807 := by
  obtain ⟨x, rfl, rfl, rfl, hwf⟩ := open_int Try.underlying3 hv h
  simp [Lit.wf, IntKind.min, IntKind.max, IntKind.signed, IntKind.bits] at hwf
  exact ⟨x, rfl, by omega, by omega⟩
set_option maxRecDepth 100000 in
theorem open_str (hv : Value.okWide Try.prog W r base 9 v) (h : DataW.Trod enc Try.prog W 0 (fun _ => true) true 9 v d p) : ∃ s : ByteArray, v = .string s ∧ s.size ≤ 9223372036854775807 := by
  obtain ⟨s, rfl, rfl, rfl, hs⟩ := Go.ChangeMaps.open_string Try.underlying9 hv h
  exact ⟨s, rfl, hs⟩
set_option maxRecDepth 100000 in
theorem open_lawsDef (hv : Value.okWide Try.prog W r base 37 v) (h : DataW.Trod enc Try.prog W 0 (fun _ => true) true 37 v d p) :
    ∃ x : D, v = .agg #[.string x.1, .int .i64 x.2] ∧ x.1.size ≤ 9223372036854775807 ∧ -9223372036854775808 ≤ x.2 ∧ x.2 ≤ 9223372036854775807 := by
  obtain ⟨c0, c1, y0, y1, m, rfl, rfl, rfl, h0, h1⟩ := open_agg2 Try.underlying37 (by kernel_rfl) (by kernel_rfl) hv h
  obtain ⟨s, hs, _, hl⟩ := DataW.trod_string Try.underlying9 h0
  obtain ⟨z, hz, _, wz⟩ := DataW.trod_int Try.underlying3 h1
  simp at hs hz
  subst hs; subst hz
  simp [Lit.wf, IntKind.min, IntKind.max, IntKind.signed, IntKind.bits] at wz
  exact ⟨(s, z), rfl, hl, by omega, by omega⟩
end
end Go.Proofs.Ytioheadchhkjmaa
