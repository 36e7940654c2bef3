/- THE STATEMENT DmaEndsSaid, proved: septumlaw14.DmaEnds returns true. No condition beyond the statement's own. -/
import Derived.Test.YtnnlnffdbdpmbaaEndsB
import Derived.Test.YtnnlnffdbdpmbaaStopsRow
namespace Go.Proofs.Ytnnlnffdbdpmbaa
open Go Go.RowKit Go.ChangeShapes Go.WideShapes Go.ChangeAt

namespace dmaEnds
set_option maxRecDepth 100000 in
theorem lifted (os : Os) (started : os.Started) (H : Type) (enc : TypeId × Value → H) :
    ReturnsInHanded {} Try.checked os 5 .any (Rows.dmaEndsSpec.pre6 enc Try.prog Try.f5 Rows.dmaEndsRow.domain false) (Rows.dmaEndsSpec.post enc Try.prog Try.f5 false true false false) := by
  refine returnsInHanded_of_change (C := Try.checked) dmaStops.own started (by kernel_rfl) Try.func5
    (ChangeSpec.witness6 (enc := enc) (C := Try.checked) false ⟨#[], #[], []⟩ 8 (by kernel_rfl) (by kernel_rfl) (by kernel_rfl) (by kernel_rfl)) ?_
  intro W base args ds gs before hval0 hW hcnd _
  have hA0 := hW
  obtain ⟨p, q, hA0, -, -, -, -⟩ := hA0
  have hA : DataW.TrodAll enc Try.prog W 0 (fun _ => true) true Try.f5.params.toList args.toList ds p := hA0
  rw [Try.params5] at hA
  obtain ⟨e0, rfl, rfl⟩ := trodAll_nil hA
  have hargs : args = #[] := by rw [← Array.toArray_toList (xs := args), e0]
  subst hargs
  have hsp : Rows.dmaEndsSpec.fn H [] = { results := [.lit (.bool true)], args := [] } := rfl
  refine (ends_any W).mono fun e W' ⟨he, hg⟩ => ⟨_, he, ?_⟩
  exact post_law (by kernel_rfl) 4 Try.underlying4 hW rfl (by kernel_rfl) rfl hsp hg.below

theorem over : Rows.dmaEndsRow.holds Try.pinned (OpenSpec.ofChange Rows.dmaEndsSpec) :=
  OpenClaim.holds_of_wide 5 Try.f5 rfl rfl rfl rfl rfl rfl rfl ⟨rfl, rfl, rfl, rfl, rfl⟩ rfl rfl rfl rfl rfl (by kernel_rfl) Try.func5 (by kernel_rfl)
    (of_decide_eq_true (by kernel_rfl)) (by unfold Func.isWrapper; first | (rw [if_pos (by decide +kernel)]; kernel_rfl) | (rw [if_neg (by decide +kernel)]; exact ⟨rfl, rfl⟩))
    (fun os started H enc _ => lifted os started H enc)

/-- ████ THE STATEMENT ████ -/
theorem proved : Rows.DmaEndsSaid :=
  over
#print axioms proved
end dmaEnds
end Go.Proofs.Ytnnlnffdbdpmbaa
