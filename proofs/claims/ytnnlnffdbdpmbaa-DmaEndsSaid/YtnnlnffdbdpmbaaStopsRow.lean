/- THE STATEMENT DmaStopsSaid, proved: septumlaw14.DmaStops returns true at every input, and its input reads as it did. No condition beyond the statement's own. -/
import Derived.Test.YtnnlnffdbdpmbaaStops
import Derived.Test.YtnnlnffdbdpmbaaLaw
import Derived.WalkKit
namespace Go.Proofs.Ytnnlnffdbdpmbaa
open Go Go.RowKit Go.ChangeShapes Go.WideShapes Go.ChangeAt

namespace dmaStops
theorem own : ownKnob Try.prog.godebug = none := by kernel_rfl

theorem state_arg {w : World} {r : Reach} {base : Nat} {v : Value} (h : Value.okWide Try.prog w r base 24 v) : ∃ s : ES, v = s.agg ∧ s.Fits := by
  obtain ⟨cs, rfl, hsz, hc⟩ := agg_cells h Try.underlying24 (ts := [22, 22, 22, 22, 4, 4, 4, 4, 4]) (by kernel_rfl) (by kernel_rfl)
  obtain ⟨x0, e0, h0⟩ := hc 0 _ rfl
  obtain ⟨x1, e1, h1⟩ := hc 1 _ rfl
  obtain ⟨x2, e2, h2⟩ := hc 2 _ rfl
  obtain ⟨x3, e3, h3⟩ := hc 3 _ rfl
  obtain ⟨x4, e4, h4⟩ := hc 4 _ rfl
  obtain ⟨x5, e5, h5⟩ := hc 5 _ rfl
  obtain ⟨x6, e6, h6⟩ := hc 6 _ rfl
  obtain ⟨x7, e7, h7⟩ := hc 7 _ rfl
  obtain ⟨x8, e8, h8⟩ := hc 8 _ rfl
  obtain ⟨f, rfl, a0, b0⟩ := cell_u32 (by kernel_rfl) h0
  obtain ⟨t, rfl, a1, b1⟩ := cell_u32 (by kernel_rfl) h1
  obtain ⟨l, rfl, a2, b2⟩ := cell_u32 (by kernel_rfl) h2
  obtain ⟨h', rfl, a3, b3⟩ := cell_u32 (by kernel_rfl) h3
  obtain ⟨c4, rfl⟩ := cell_bool (by kernel_rfl) h4
  obtain ⟨c5, rfl⟩ := cell_bool (by kernel_rfl) h5
  obtain ⟨c6, rfl⟩ := cell_bool (by kernel_rfl) h6
  obtain ⟨c7, rfl⟩ := cell_bool (by kernel_rfl) h7
  obtain ⟨c8, rfl⟩ := cell_bool (by kernel_rfl) h8
  have hcs := array_of cs [.int .u32 f, .int .u32 t, .int .u32 l, .int .u32 h', .bool c4, .bool c5, .bool c6, .bool c7, .bool c8] hsz (fun i x hx => by
    match i, hx with
    | 0, hx => cases hx; exact e0
    | 1, hx => cases hx; exact e1
    | 2, hx => cases hx; exact e2
    | 3, hx => cases hx; exact e3
    | 4, hx => cases hx; exact e4
    | 5, hx => cases hx; exact e5
    | 6, hx => cases hx; exact e6
    | 7, hx => cases hx; exact e7
    | 8, hx => cases hx; exact e8)
  subst hcs
  exact ⟨⟨f, t, l, h', c4, c5, c6, c7, c8⟩, rfl, ⟨a0, b0⟩, ⟨a1, b1⟩, ⟨a2, b2⟩, ⟨a3, b3⟩⟩

set_option maxRecDepth 100000 in
theorem lifted (os : Os) (started : os.Started) (H : Type) (enc : TypeId × Value → H) :
    ReturnsInHanded {} Try.checked os 3 .any (Rows.dmaStopsSpec.pre6 enc Try.prog Try.f3 Rows.dmaStopsRow.domain false) (Rows.dmaStopsSpec.post enc Try.prog Try.f3 false true false false) := by
  refine returnsInHanded_of_change (C := Try.checked) own started (by kernel_rfl) Try.func3
    (ChangeSpec.witness6 (enc := enc) (C := Try.checked) false ⟨#[], #[.agg #[.int .u32 0, .int .u32 0, .int .u32 0, .int .u32 0, .bool false, .bool false, .bool false, .bool false, .bool false], .int .i64 0, .int .u32 0], []⟩ 8 (by kernel_rfl) (by kernel_rfl) (by kernel_rfl) (by kernel_rfl)) ?_
  intro W base args ds gs before hval0 hW hcnd _
  have hval : ∀ (j : Nat) t v, Try.f3.params[j]? = some t → args[j]? = some v → Value.okWide Try.prog W .any base t v := hval0
  have hA0 := hW
  obtain ⟨p, q, hA0, -, -, -, -⟩ := hA0
  have hA : DataW.TrodAll enc Try.prog W 0 (fun _ => true) true Try.f3.params.toList args.toList ds p := hA0
  rw [Try.params3] at hA hval
  obtain ⟨v0, vs, d0, ds', p0, q0, e0, rfl, rfl, hA1, hA⟩ := trodAll_cons hA
  obtain ⟨v1, vs, d1, ds', p1, q1, rfl, rfl, rfl, hA2, hA⟩ := trodAll_cons hA
  obtain ⟨v2, vs, d2, ds', p2, q2, rfl, rfl, rfl, hA3, hA⟩ := trodAll_cons hA
  obtain ⟨rfl, rfl, rfl⟩ := trodAll_nil hA
  have hargs : args = #[v0, v1, v2] := by rw [← Array.toArray_toList (xs := args), e0]
  subst hargs
  obtain ⟨reg, rfl, -, -⟩ := cell_i64 (t := 3) (by kernel_rfl) (okWide_cell (hval 1 _ _ rfl rfl) (fun _ h => by cases h) (fun _ _ h => by cases h))
  obtain ⟨v, rfl, n1, n2⟩ := cell_u32 (t := 22) (by kernel_rfl) (okWide_cell (hval 2 _ _ rfl rfl) (fun _ h => by cases h) (fun _ _ h => by cases h))
  obtain ⟨s0, rfl, hs0⟩ := state_arg (hval 0 _ _ rfl rfl)
  have hsp : Rows.dmaStopsSpec.fn H [d0, d1, d2] = { results := [.lit (.bool true)], args := [d0, d1, d2] } := rfl
  refine (stops_any s0 hs0 reg v n1 n2 W).mono fun e W' ⟨he, hg⟩ => ⟨_, he, ?_⟩
  exact post_law (by kernel_rfl) 4 Try.underlying4 hW rfl (by kernel_rfl) rfl hsp hg.below

theorem over : Rows.dmaStopsRow.holds Try.pinned (OpenSpec.ofChange Rows.dmaStopsSpec) :=
  OpenClaim.holds_of_wide 3 Try.f3 rfl rfl rfl rfl rfl rfl rfl ⟨rfl, rfl, rfl, rfl, rfl⟩ rfl rfl rfl rfl rfl (by kernel_rfl) Try.func3 (by kernel_rfl)
    (of_decide_eq_true (by kernel_rfl)) (by unfold Func.isWrapper; first | (rw [if_pos (by decide +kernel)]; kernel_rfl) | (rw [if_neg (by decide +kernel)]; exact ⟨rfl, rfl⟩))
    (fun os started H enc _ => lifted os started H enc)

/-- ████ THE STATEMENT ████ -/
theorem proved : Rows.DmaStopsSaid :=
  over
#print axioms proved
end dmaStops
end Go.Proofs.Ytnnlnffdbdpmbaa
