/- What every law's row shares: its arguments read behind the call as they read before where nothing below the heap's old size has turned; small values as the form hands them. No condition. -/
import Derived.Test.YtagmoehjcgjnjaaGreatDoorCfGa
import Derived.Test.YtagmoehjcgjnjaaGreatDoorRows
import Derived.ProofKit
import Derived.OpenShut
import Derived.Carry
import Derived.KernelRfl
namespace Go.Proofs.YtagmoehjcgjnjaaGreatDoor
open Go Go.RowKit Go.ChangeShapes Go.WideShapes Go.ChangeAt

section
variable {H : Type} {enc : TypeId × Value → H} {P : Program}
/-- All arguments read as they did. -/
theorem trodAll_below (hl : laidOutB P = true) {W W' : World} (hb : Below W.heap.size W W') : ∀ {ts : List TypeId} {vs : List Value} {ds : List (DataW H)} {ps : List MemPlace},
    (∀ t ∈ ts, P.readableRec t = true ∧ t < P.types.size) → DataW.TrodAll enc P W 0 (fun _ => true) true ts vs ds ps → (∀ x ∈ ps, x.block < W.heap.size) →
    DataW.TrodAll enc P W' 0 (fun b => decide (b < W.heap.size)) true ts vs ds ps
  | [], vs, ds, ps, _, h, _ => by
    obtain ⟨rfl, rfl, rfl⟩ := trodAll_nil h
    exact trodAll_mk0
  | t :: ts, vs, ds, ps, hr, h, hlt => by
    obtain ⟨v, vs', d, ds', p, q, rfl, rfl, rfl, h0, h1⟩ := trodAll_cons h
    exact trodAll_cons_mk (Below.trod hl (hr t (.head _)).1 (hr t (.head _)).2 h0 hb (fun x hx => hlt x (List.mem_append_left _ hx)))
      (trodAll_below hl hb (fun t' h' => hr t' (.tail _ h')) h1 (fun x hx => hlt x (List.mem_append_right _ hx)))

/-- A law's row, no variables listed: it answers true, and nothing has turned. -/
theorem post_law {f : Func} {s : ChangeSpec} {W W' : World} {args : Array Value} {ds gs : List (DataW H)} {before : List MemPlace} (hl : laidOutB P = true) (tb : TypeId) (htb : P.underlying tb = some .bool)
    (hW : DataW.Whole enc P f.params.toList s.vars false W args.toList ds gs before) (hvars : s.vars = [])
    (hr : f.params.toList.all (fun t => P.readableRec t && decide (t < P.types.size)) = true) (hres : f.resultTypes = #[tb])
    (hspec : s.fn H ds = { results := [.lit (.bool true)], args := ds }) (hb : Below W.heap.size W W') :
    s.post enc P f false true false false W args (.bool true) W' := by
  have hlt := hW.lt
  have hW' := hW
  obtain ⟨p, q, hA, hV, rfl, hfz, hnd⟩ := hW
  rw [hvars] at hV
  obtain ⟨rfl, rfl⟩ := trodVars_none hV
  have hlt' : ∀ x ∈ p, x.block < W.heap.size := fun x hx => hlt x (List.mem_append_left _ hx)
  have hA' := trodAll_below hl hb (fun t ht => by
    have := List.all_eq_true.1 hr t ht
    simpa using this) hA hlt'
  refine ⟨ds, [], p ++ [], [], p, [], hW', ?_, ?_, ?_, ?_, fun h => by cases h⟩
  · rw [hres, List.append_nil, hspec]
    exact trodAll_cons_mk (shut_bool htb _) trodAll_mk0
  · rw [List.append_nil, hspec]
    exact hA'
  · rw [hvars, List.append_nil, hspec]
    rfl
  · exact hb.frame _
end

section
variable {P : Program} {w : World} {r : Reach} {base : Nat}
theorem cell_int {t : TypeId} {v : Value} {k : IntKind} (ht : P.underlying t = some (.int k)) (h : Cell.okWide P w r base t v) : ∃ n, v = .int k n ∧ k.min ≤ n ∧ n ≤ k.max := by
  unfold Cell.okWide at h
  rw [ht] at h
  cases v <;> simp only [Cell.ok, ht] at h
  case int k' n =>
    obtain ⟨rfl, h1, h2⟩ := h
    exact ⟨n, rfl, h1, h2⟩
theorem cell_u32 {t : TypeId} {v : Value} (ht : P.underlying t = some (.int .u32)) (h : Cell.okWide P w r base t v) : ∃ n, v = .int .u32 n ∧ 0 ≤ n ∧ n < 4294967296 := by
  obtain ⟨n, rfl, h1, h2⟩ := cell_int ht h
  have e1 : IntKind.u32.min = 0 := by decide
  have e2 : IntKind.u32.max = 4294967295 := by decide
  rw [e1] at h1
  rw [e2] at h2
  exact ⟨n, rfl, h1, by omega⟩
theorem cell_i64 {t : TypeId} {v : Value} (ht : P.underlying t = some (.int .i64)) (h : Cell.okWide P w r base t v) : ∃ n, v = .int .i64 n ∧ -9223372036854775808 ≤ n ∧ n < 9223372036854775808 := by
  obtain ⟨n, rfl, h1, h2⟩ := cell_int ht h
  have e1 : IntKind.i64.min = -9223372036854775808 := by decide
  have e2 : IntKind.i64.max = 9223372036854775807 := by decide
  rw [e1] at h1
  rw [e2] at h2
  exact ⟨n, rfl, h1, by omega⟩
theorem cell_bool {t : TypeId} {v : Value} (ht : P.underlying t = some .bool) (h : Cell.okWide P w r base t v) : ∃ b, v = .bool b := by
  unfold Cell.okWide at h
  rw [ht] at h
  cases v <;> simp only [Cell.ok, ht] at h
  case bool b => exact ⟨b, rfl⟩
theorem okWide_cell {t : TypeId} {v : Value} (h : Value.okWide P w r base t v) (ht : ∀ fs, P.underlying t ≠ some (.struct fs)) (ha : ∀ n e, P.underlying t ≠ some (.array n e)) : Cell.okWide P w r base t v := by
  unfold Value.okWide at h
  split at h
  · rename_i fs hfs
    exact absurd hfs (ht fs)
  · rename_i n e hfs
    exact absurd hfs (ha n e)
  · exact h
/-- A struct by value: its cells, each of its own type. -/
theorem agg_cells {t : TypeId} {v : Value} {fs : Array Field} {ts : List TypeId} (h : Value.okWide P w r base t v) (ht : P.underlying t = some (.struct fs)) (hts : P.cellTypes P.depth t = some ts) (hc : P.cellsOf t = ts.length) :
    ∃ cs : Array Value, v = .agg cs ∧ cs.size = ts.length ∧ ∀ (i : Nat) (u : TypeId), ts[i]? = some u → ∃ x, cs[i]? = some x ∧ Cell.okWide P w r base u x := by
  unfold Value.okWide at h
  rw [ht] at h
  obtain ⟨cs, rfl, hsz, ts', hts', -, hcell⟩ := h
  rw [hts] at hts'
  injection hts' with hts'
  subst hts'
  refine ⟨cs, rfl, hsz.trans hc, fun i u hu => ?_⟩
  have hi : i < ts.length := by
    rcases Nat.lt_or_ge i ts.length with h' | h'
    · exact h'
    · rw [List.getElem?_eq_none h'] at hu; cases hu
  have hi' : i < cs.size := by omega
  refine ⟨cs[i], Array.getElem?_eq_getElem hi', ?_⟩
  obtain ⟨u', h1, h2⟩ := hcell i cs[i] (Array.getElem?_eq_getElem hi')
  have : (i : Nat) % List.length ts = i := Nat.mod_eq_of_lt hi
  rw [show ts[i % List.length ts]? = ts[i]? by rw [this], hu] at h1
  injection h1 with h1
  subst h1
  exact h2
end
theorem array_of {α : Type} (cs : Array α) (l : List α) (h : cs.size = l.length) (hg : ∀ (i : Nat) (x : α), l[i]? = some x → cs[i]? = some x) : cs = l.toArray := by
  apply Array.ext_getElem?
  intro i
  rcases Nat.lt_or_ge i l.length with hi | hi
  · have := hg i l[i] (List.getElem?_eq_getElem hi)
    rw [this]
    simp [List.getElem?_eq_getElem hi]
  · rw [Array.getElem?_eq_none (by omega)]
    simp [List.getElem?_eq_none hi]
end Go.Proofs.YtagmoehjcgjnjaaGreatDoor
