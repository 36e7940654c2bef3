/- THE STATEMENT DmaDoesSaid, proved: septumlaw14.DmaDoes returns true at every input, and its input reads as it did. No condition beyond the statement's own. -/
import Derived.Test.YtnnlnffdbdpmbaaDoes
import Derived.Test.YtnnlnffdbdpmbaaStopsRow
namespace Go.Proofs.Ytnnlnffdbdpmbaa
open Go Go.RowKit Go.ChangeShapes Go.WideShapes Go.ChangeAt

namespace dmaDoes
theorem spot_of {w : World} {a : Addr} {v : Value} (h : w.cell? a = some v) : a.spot = none ∧ a.block < w.heap.size := by
  unfold World.cell? at h
  split at h
  · rename_i c t f hg
    refine ⟨?_, ?_⟩
    · cases hs : a.spot with
      | none => rfl
      | some x => simp [hs] at h
    · rcases Nat.lt_or_ge a.block w.heap.size with hl | hl
      · exact hl
      · rw [Array.getElem?_eq_none hl] at hg; cases hg
  · cases h

theorem add_plain (b o n : Nat) : Addr.add ⟨b, o, none⟩ n = ⟨b, o + n, none⟩ := by
  unfold Addr.add
  split
  · rename_i h; subst h; rfl
  · rfl

/-- The deeds' list, off the form. -/
theorem deeds_of {H : Type} {enc : TypeId × Value → H} {W : World} {sp : Nat → Bool} {held : Bool} {v : Value} {d : DataW H} {p : List MemPlace} {r : Reach} {base : Nat} (hv : Value.okWide Try.prog W r base 39 v) (h : DataW.Trod enc Try.prog W 0 sp held 39 v d p) :
    ∃ ao len cap, v = .slice ao len cap ∧ (len = 0 ∨ ∃ bk off, ao = some ⟨bk, off, none⟩ ∧ Deeds W bk off len) := by
  obtain ⟨ao, len, cap, rfl⟩ := okWide_slice Try.underlying39 hv
  refine ⟨ao, len, cap, rfl, ?_⟩
  obtain ⟨fuel, hf⟩ := h
  have hC : Try.prog.cellsOf 45 = 4 := by kernel_rfl
  rcases DataW.trod_slice Try.underlying39 hf with ⟨h0, -⟩ | ⟨a, len', cap', elems, rest, n, -, hcs, -, -, -, -, hlen, hel, -, -⟩
  · simp [Value.cells] at h0
    exact .inl h0.2.1
  · simp only [Value.cells, List.cons.injEq, Value.slice.injEq, and_true] at hcs
    obtain ⟨rfl, rfl, rfl⟩ := hcs
    rcases Nat.eq_zero_or_pos len with h0 | hpos
    · exact .inl h0
    · refine .inr ?_
      have one : ∀ k, k < len → ∃ x c v e : Int, W.cell? (a.add (k * 4)) = some (.int .i64 x) ∧ W.cell? ((a.add (k * 4)).add 1) = some (.int .i64 c) ∧ W.cell? ((a.add (k * 4)).add 2) = some (.int .u32 v) ∧ W.cell? ((a.add (k * 4)).add 3) = some (.int .i64 e) ∧ 0 ≤ v ∧ v < 4294967296 := by
        intro k hk
        have hk' := hel k hk
        rw [hC] at hk'
        obtain ⟨x, hx⟩ : ∃ x, elems[k]? = some x := ⟨elems[k]'(by omega), List.getElem?_eq_getElem (by omega)⟩
        rw [hx] at hk'
        obtain ⟨cs, h1, h2⟩ := Option.bind_eq_some_iff.1 hk'
        obtain ⟨-, hcl, hat⟩ := World.cells?_some h1
        obtain ⟨ys, n', -, -, -, hyl, hfs⟩ := DataW.trod_struct Try.underlying45 h2
        match cs, hcl with
        | [u0, u1, u2, u3], _ =>
          match ys, hyl with
          | [y0, y1, y2, y3], _ =>
            obtain ⟨x0, e0, -, -⟩ := DataW.trod_int (k := .i64) (t := 3) (by kernel_rfl) (hfs 0 _ rfl)
            obtain ⟨x1, e1, -, -⟩ := DataW.trod_int (k := .i64) (t := 3) (by kernel_rfl) (hfs 1 _ rfl)
            obtain ⟨x2, e2, -, h5⟩ := DataW.trod_int (k := .u32) (t := 22) (by kernel_rfl) (hfs 2 _ rfl)
            obtain ⟨x3, e3, -, -⟩ := DataW.trod_int (k := .i64) (t := 3) (by kernel_rfl) (hfs 3 _ rfl)
            have g0 := hat 0 (by omega)
            have g1 := hat 1 (by omega)
            have g2 := hat 2 (by omega)
            have g3 := hat 3 (by omega)
            have c1 : Try.prog.cellsOf 3 = 1 := by kernel_rfl
            have c2 : Try.prog.cellsOf 22 = 1 := by kernel_rfl
            have e0' : List.take (Try.prog.cellsOf 3) [u0, u1, u2, u3] = [.int .i64 x0] := e0
            have e1' : List.take (Try.prog.cellsOf 3) [u1, u2, u3] = [.int .i64 x1] := e1
            have e2' : List.take (Try.prog.cellsOf 22) [u2, u3] = [.int .u32 x2] := e2
            have e3' : List.take (Try.prog.cellsOf 3) [u3] = [.int .i64 x3] := e3
            rw [c1] at e0' e1' e3'
            rw [c2] at e2'
            simp only [List.take_succ_cons, List.take_zero, List.cons.injEq, and_true] at e0' e1' e2' e3'
            subst e0' e1' e2' e3'
            refine ⟨x0, x1, x2, x3, by simpa [Addr.add] using g0, g1, g2, g3, ?_⟩
            have h6 : 0 ≤ x2 ∧ x2 ≤ 4294967295 := by simpa [Lit.wf, IntKind.min, IntKind.max, IntKind.signed, IntKind.bits] using h5
            omega
      obtain ⟨_, _, _, _, q0, -⟩ := one 0 hpos
      have hsp : a.spot = none ∧ a.block < W.heap.size := spot_of (a := a) (by simpa [Addr.add] using q0)
      obtain ⟨bk, off, sp'⟩ := a
      obtain ⟨rfl, hbk⟩ := hsp
      refine ⟨bk, off, rfl, hbk, fun k hk => ?_⟩
      obtain ⟨x, c, v, e, q0, q1, q2, q3, q4⟩ := one k hk
      rw [add_plain] at q0 q1 q2 q3
      rw [add_plain] at q1 q2 q3
      exact ⟨x, c, v, e, q0, q1, q2, q3, q4⟩

set_option maxRecDepth 100000 in
theorem lifted (os : Os) (started : os.Started) (H : Type) (enc : TypeId × Value → H) :
    ReturnsInHanded {} Try.checked os 4 .any (Rows.dmaDoesSpec.pre6 enc Try.prog Try.f4 Rows.dmaDoesRow.domain false) (Rows.dmaDoesSpec.post enc Try.prog Try.f4 false true false false) := by
  refine returnsInHanded_of_change (C := Try.checked) dmaStops.own started (by kernel_rfl) Try.func4
    (ChangeSpec.witness6 (enc := enc) (C := Try.checked) false ⟨#[], #[.agg #[.int .u32 0, .int .u32 0, .int .u32 0, .int .u32 0, .bool false, .bool false, .bool false, .bool false, .bool false], .slice none 0 0], []⟩ 8 (by kernel_rfl) (by kernel_rfl) (by kernel_rfl) (by kernel_rfl)) ?_
  intro W base args ds gs before hval0 hW hcnd _
  have hval : ∀ (j : Nat) t v, Try.f4.params[j]? = some t → args[j]? = some v → Value.okWide Try.prog W .any base t v := hval0
  have hA0 := hW
  obtain ⟨p, q, hA0, -, -, -, -⟩ := hA0
  have hA : DataW.TrodAll enc Try.prog W 0 (fun _ => true) true Try.f4.params.toList args.toList ds p := hA0
  rw [Try.params4] at hA hval
  obtain ⟨v0, vs, d0, ds', p0, q0, e0, rfl, rfl, hA1, hA⟩ := trodAll_cons hA
  obtain ⟨v1, vs, d1, ds', p1, q1, rfl, rfl, rfl, hA2, hA⟩ := trodAll_cons hA
  obtain ⟨rfl, rfl, rfl⟩ := trodAll_nil hA
  have hargs : args = #[v0, v1] := by rw [← Array.toArray_toList (xs := args), e0]
  subst hargs
  have hv := hval 1 _ _ rfl rfl
  obtain ⟨s0, rfl, hs0⟩ := dmaStops.state_arg (hval 0 _ _ rfl rfl)
  have hsp : Rows.dmaDoesSpec.fn H [d0, d1] = { results := [.lit (.bool true)], args := [d0, d1] } := rfl
  obtain ⟨ao, len, cap, rfl, hD⟩ := deeds_of hv hA2
  refine (does_any s0 hs0 ao len cap W (fun _ => hD)).mono fun e W' ⟨he, hg⟩ => ⟨_, he, ?_⟩
  exact post_law (by kernel_rfl) 4 Try.underlying4 hW rfl (by kernel_rfl) rfl hsp hg.below

theorem over : Rows.dmaDoesRow.holds Try.pinned (OpenSpec.ofChange Rows.dmaDoesSpec) :=
  OpenClaim.holds_of_wide 4 Try.f4 rfl rfl rfl rfl rfl rfl rfl ⟨rfl, rfl, rfl, rfl, rfl⟩ rfl rfl rfl rfl rfl (by kernel_rfl) Try.func4 (by kernel_rfl)
    (of_decide_eq_true (by kernel_rfl)) (by unfold Func.isWrapper; first | (rw [if_pos (by decide +kernel)]; kernel_rfl) | (rw [if_neg (by decide +kernel)]; exact ⟨rfl, rfl⟩))
    (fun os started H enc _ => lifted os started H enc)

/-- ████ THE STATEMENT ████ -/
theorem proved : Rows.DmaDoesSaid :=
  over
#print axioms proved
end dmaDoes
end Go.Proofs.Ytnnlnffdbdpmbaa
