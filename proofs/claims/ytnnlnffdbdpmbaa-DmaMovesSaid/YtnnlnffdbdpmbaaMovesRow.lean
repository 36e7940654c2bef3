/- THE STATEMENT DmaMovesSaid, proved: septumlaw14.DmaMoves returns true at every input, and its input reads as it did. No condition beyond the statement's own. -/
import Derived.Test.YtnnlnffdbdpmbaaMoves
import Derived.Test.YtnnlnffdbdpmbaaStopsRow
import Derived.ChangeSlices
namespace Go.Proofs.Ytnnlnffdbdpmbaa
open Go Go.RowKit Go.ChangeShapes Go.WideShapes Go.ChangeAt

namespace dmaMoves
set_option maxRecDepth 100000 in
set_option maxHeartbeats 1000000 in
theorem moves_far (fr tt wd dn words : Int) (ao : Option Addr) (len cap : Nat) (w : World) (h : words < 1 ∨ 100 < words) :
    Calls Try.prog 6 #[.int .u32 fr, .int .u32 tt, .int .i64 words, .slice ao len cap, .int .i64 dn, .int .i64 wd] w fun e w' => e = .returned (.bool true) ∧ Only [] w w' := by
  rcases h with h | h
  · have n1 : decide (words < 1) = true := by simpa using h
    go_enter Try.func6, Try.ntmps6
    go_wp2_with fail
    refine (awake_any _).mono ?_
    rintro e w1 ⟨rfl, hO1⟩
    go_wp2_with fail
    go_returns
    exact ⟨rfl, ((((((Only.refl _ _).alloc _).alloc _).alloc _).alloc _).alloc _).trans hO1⟩
  · have n1 : decide (words < 1) = false := by simp; omega
    have n2 : decide (100 < words) = true := by simpa using h
    go_enter Try.func6, Try.ntmps6
    go_wp2_with fail
    refine (awake_any _).mono ?_
    rintro e w1 ⟨rfl, hO1⟩
    go_wp2_with fail
    go_returns
    exact ⟨rfl, ((((((Only.refl _ _).alloc _).alloc _).alloc _).alloc _).alloc _).trans hO1⟩

theorem spot_of {w : World} {a : Addr} {v : Value} (h : w.cell? a = some v) : a.spot = none ∧ a.block < w.heap.size := by
  unfold World.cell? at h
  split at h
  · rename_i c t f hg
    refine ⟨?_, ?_⟩
    · cases hs : a.spot with
      | none => rfl
      | some x => simp [hs] at h
    · rcases Nat.lt_or_ge a.block w.heap.size with hl | hl
      · exact hl
      · rw [Array.getElem?_eq_none hl] at hg; cases hg
  · cases h

theorem add_plain (b o n : Nat) : Addr.add ⟨b, o, none⟩ n = ⟨b, o + n, none⟩ := by
  unfold Addr.add
  split
  · rename_i h; subst h; rfl
  · rfl

/-- The list of words, off the form. -/
theorem words_of {H : Type} {enc : TypeId × Value → H} {W : World} {sp : Nat → Bool} {held : Bool} {v : Value} {d : DataW H} {p : List MemPlace} {r : Reach} {base : Nat} (hv : Value.okWide Try.prog W r base 55 v) (h : DataW.Trod enc Try.prog W 0 sp held 55 v d p) :
    ∃ ao len cap, ∃ f : Nat → Int, v = .slice ao len cap ∧ ∀ k, k < len → k < 100 → ∃ bk off, ao = some ⟨bk, off, none⟩ ∧ bk < W.heap.size ∧ W.cell? ⟨bk, off + k, none⟩ = some (.int .u32 (f k)) := by
  obtain ⟨ao, len, cap, rfl⟩ := okWide_slice Try.underlying55 hv
  obtain ⟨fuel, hf⟩ := h
  rcases open_ints Try.underlying55 Try.underlying22 (by kernel_rfl) hf with ⟨h0, -⟩ | ⟨a, len', cap', zs, hcs, -, hl, -, hz, -, hc, -⟩
  · simp [Value.cells] at h0
    exact ⟨ao, len, cap, fun _ => 0, rfl, fun k hk => by omega⟩
  · simp only [Value.cells, List.cons.injEq, Value.slice.injEq, and_true] at hcs
    obtain ⟨rfl, rfl, rfl⟩ := hcs
    refine ⟨some a, len, cap, fun k => zs.getD k 0, rfl, fun k hk _ => ?_⟩
    have hlen : len ≤ zs.length := by rw [hz]; split <;> omega
    have h1 := hc k (by omega)
    obtain ⟨b, o, s⟩ := a
    have h0 := hc 0 (by omega)
    obtain ⟨q1, q2⟩ := spot_of h0
    have hs : s = none := by simpa [Addr.add] using q1
    subst hs
    rw [add_plain] at h1 q2
    exact ⟨b, o, rfl, q2, h1⟩

set_option maxRecDepth 100000 in
theorem lifted (os : Os) (started : os.Started) (H : Type) (enc : TypeId × Value → H) :
    ReturnsInHanded {} Try.checked os 6 .any (Rows.dmaMovesSpec.pre6 enc Try.prog Try.f6 Rows.dmaMovesRow.domain false) (Rows.dmaMovesSpec.post enc Try.prog Try.f6 false true false false) := by
  refine returnsInHanded_of_change (C := Try.checked) dmaStops.own started (by kernel_rfl) Try.func6
    (ChangeSpec.witness6 (enc := enc) (C := Try.checked) false ⟨#[], #[.int .u32 0, .int .u32 0, .int .i64 0, .slice none 0 0, .int .i64 0, .int .i64 0], []⟩ 8 (by kernel_rfl) (by kernel_rfl) (by kernel_rfl) (by kernel_rfl)) ?_
  intro W base args ds gs before hval0 hW hcnd _
  have hval : ∀ (j : Nat) t v, Try.f6.params[j]? = some t → args[j]? = some v → Value.okWide Try.prog W .any base t v := hval0
  have hA0 := hW
  obtain ⟨p, q, hA0, -, -, -, -⟩ := hA0
  have hA : DataW.TrodAll enc Try.prog W 0 (fun _ => true) true Try.f6.params.toList args.toList ds p := hA0
  rw [Try.params6] at hA hval
  obtain ⟨v0, vs, d0, ds', p0, q0, e0, rfl, rfl, hA1, hA⟩ := trodAll_cons hA
  obtain ⟨v1, vs, d1, ds', p1, q1, rfl, rfl, rfl, hA2, hA⟩ := trodAll_cons hA
  obtain ⟨v2, vs, d2, ds', p2, q2, rfl, rfl, rfl, hA3, hA⟩ := trodAll_cons hA
  obtain ⟨v3, vs, d3, ds', p3, q3, rfl, rfl, rfl, hA4, hA⟩ := trodAll_cons hA
  obtain ⟨v4, vs, d4, ds', p4, q4, rfl, rfl, rfl, hA5, hA⟩ := trodAll_cons hA
  obtain ⟨v5, vs, d5, ds', p5, q5, rfl, rfl, rfl, hA6, hA⟩ := trodAll_cons hA
  obtain ⟨rfl, rfl, rfl⟩ := trodAll_nil hA
  have hargs : args = #[v0, v1, v2, v3, v4, v5] := by rw [← Array.toArray_toList (xs := args), e0]
  subst hargs
  obtain ⟨fr, rfl, a0, b0⟩ := cell_u32 (t := 22) (by kernel_rfl) (okWide_cell (hval 0 _ _ rfl rfl) (fun _ h => by cases h) (fun _ _ h => by cases h))
  obtain ⟨tt, rfl, a1, b1⟩ := cell_u32 (t := 22) (by kernel_rfl) (okWide_cell (hval 1 _ _ rfl rfl) (fun _ h => by cases h) (fun _ _ h => by cases h))
  obtain ⟨words, rfl, a2, b2⟩ := cell_i64 (t := 3) (by kernel_rfl) (okWide_cell (hval 2 _ _ rfl rfl) (fun _ h => by cases h) (fun _ _ h => by cases h))
  obtain ⟨dn, rfl, a4, b4⟩ := cell_i64 (t := 3) (by kernel_rfl) (okWide_cell (hval 4 _ _ rfl rfl) (fun _ h => by cases h) (fun _ _ h => by cases h))
  obtain ⟨wd, rfl, a5, b5⟩ := cell_i64 (t := 3) (by kernel_rfl) (okWide_cell (hval 5 _ _ rfl rfl) (fun _ h => by cases h) (fun _ _ h => by cases h))
  have hsp : Rows.dmaMovesSpec.fn H [d0, d1, d2, d3, d4, d5] = { results := [.lit (.bool true)], args := [d0, d1, d2, d3, d4, d5] } := rfl
  obtain ⟨ao, len, cap, f, rfl, hD⟩ := words_of (hval 3 _ _ rfl rfl) hA4
  have key : Calls Try.prog 6 #[.int .u32 fr, .int .u32 tt, .int .i64 words, .slice ao len cap, .int .i64 dn, .int .i64 wd] W fun e w' => e = .returned (.bool true) ∧ Only [] W w' := by
    by_cases h : words < 1 ∨ 100 < words
    · exact moves_far fr tt wd dn words ao len cap W h
    · obtain ⟨n, rfl⟩ : ∃ n : Nat, words = (n : Int) := ⟨words.toNat, by omega⟩
      exact moves_any fr tt wd dn n ao len cap f W (by omega) (by omega) ⟨a0, b0⟩ ⟨a1, b1⟩ a4 (by omega) hD
  refine key.mono fun e W' ⟨he, hg⟩ => ⟨_, he, ?_⟩
  exact post_law (by kernel_rfl) 4 Try.underlying4 hW rfl (by kernel_rfl) rfl hsp hg.below

theorem over : Rows.dmaMovesRow.holds Try.pinned (OpenSpec.ofChange Rows.dmaMovesSpec) :=
  OpenClaim.holds_of_wide 6 Try.f6 rfl rfl rfl rfl rfl rfl rfl ⟨rfl, rfl, rfl, rfl, rfl⟩ rfl rfl rfl rfl rfl (by kernel_rfl) Try.func6 (by kernel_rfl)
    (of_decide_eq_true (by kernel_rfl)) (by unfold Func.isWrapper; first | (rw [if_pos (by decide +kernel)]; kernel_rfl) | (rw [if_neg (by decide +kernel)]; exact ⟨rfl, rfl⟩))
    (fun os started H enc _ => lifted os started H enc)

/-- ████ THE STATEMENT ████ -/
theorem proved : Rows.DmaMovesSaid :=
  over
#print axioms proved
end dmaMoves
end Go.Proofs.Ytnnlnffdbdpmbaa
