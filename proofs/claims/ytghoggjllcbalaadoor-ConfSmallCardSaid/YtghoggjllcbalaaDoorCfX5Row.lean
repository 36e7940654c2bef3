/- THE STATEMENT ConfSmallSaid, and its card: septumlaw21.ConfSmall returns true at every input, and its input reads as it did. No condition beyond the statement's own. -/
import Derived.Test.YtghoggjllcbalaaDoorCfX5
import Derived.Test.YtghoggjllcbalaaDoorCfGl
import Derived.Test.YtghoggjllcbalaaDoorCfArg
import Derived.Test.YtghoggjllcbalaaDoorCards
import Derived.Test.YtghoggjllcbalaaDoorTie
import Derived.Deep.DeepHandedRow
import Derived.WalkKit
import Derived.SevenTiedAt
import Derived.Lay
import Derived.LaidMore
namespace Go.Proofs.YtghoggjllcbalaaDoor
open Go Go.RowKit Go.ChangeMaps Go.ChangeShapes Go.WideShapes Go.ChangeAt

namespace confSmall
theorem own : ownKnob Tryd.prog.godebug = none := by kernel_rfl
theorem door_met (os : Os) (args : Array Value) : laidMetH Tryd.prog Rows.confSmallRow.laid ((World.laidAll Tryd.prog os Rows.confSmallRow.laid).forCall (fun _ _ => 0) ⟨#[], args, []⟩).memory :=
  by rw [MakeChecks.laidMetH_plain _ _ _ (by kernel_rfl)]; exact laidMet_laidAll _ (by kernel_rfl) (by kernel_rfl)

set_option maxRecDepth 100000 in
theorem lifted (os : Os) (started : os.Started) (H : Type) (enc : TypeId × Value → H) :
    ReturnsInHanded {} Tryd.checked os 7 .any (fun w args => (Rows.confSmallSpec.pre enc Tryd.prog Tryd.f7 [] false w args ∧ laidMetH Tryd.prog Rows.confSmallRow.laid w) ∧ sizedMet enc Tryd.prog Tryd.f7 (OpenSpec.ofChange Rows.confSmallSpec) false w args)
      (Rows.confSmallSpec.post enc Tryd.prog Tryd.f7 false true false false) := by
  have hrow : (OpenSpec.ofChange Rows.confSmallSpec).preRow enc Tryd.prog Tryd.f7 [] false Rows.confSmallRow.laid ((World.laidAll Tryd.prog os Rows.confSmallRow.laid).forCall (fun _ _ => 0) ⟨#[], #[], []⟩).memory #[] := by
    exact OpenSpec.preRow_of_B rfl 8 (by kernel_rfl) (by kernel_rfl) (door_met os _)
  have := returnsInHanded_of_row (a := {}) (C := Tryd.checked) (enc := enc) (s := OpenSpec.ofChange Rows.confSmallSpec) (F := fun _ _ _ => 0) (conds := []) (apart := false) (fresh := true) (handsOn := false) (again := false) (laid := Rows.confSmallRow.laid) own started (by kernel_rfl) Tryd.func7
    (witness_row_at (enc := enc) (C := Tryd.checked) false (World.laidAll Tryd.prog os Rows.confSmallRow.laid) _ (World.laidAll_os _ _ _) (by kernel_rfl) (by kernel_rfl) (by kernel_rfl) hrow) ?_
  · exact this
  intro W base args ds gs before hval0 hW _ _ _ hL hsh _
  have hval : ∀ (j : Nat) t v, Tryd.f7.params[j]? = some t → args[j]? = some v → Value.okWide Tryd.prog W .any base t v := hval0
  have hA0 := hW
  obtain ⟨p, q, hA0, -, -, -, -⟩ := hA0
  have hA : DataW.TrodAll enc Tryd.prog W 0 (fun _ => true) true Tryd.f7.params.toList args.toList ds p := hA0
  rw [Tryd.params7] at hA hval
  obtain ⟨e0, rfl, rfl⟩ := trodAll_nil hA
  have hargs : args = #[] := by rw [← Array.toArray_toList (xs := args), e0]
  subst hargs
  have hsp : Rows.confSmallSpec.fn H [] = { results := [.lit (.bool true)], args := [] } := rfl
  refine (small_any W (gl_of hL hsh)).mono fun e W' ⟨he, hg⟩ => ⟨_, he, ?_⟩
  exact post_law (by kernel_rfl) 4 Tryd.underlying4 hW rfl (by kernel_rfl) rfl hsp hg.below

theorem over : Rows.ConfSmallSaid :=
  OpenClaim.holds_of_wide 7 Tryd.f7 rfl rfl rfl rfl rfl rfl rfl ⟨rfl, rfl, rfl, rfl, rfl⟩ rfl rfl rfl rfl rfl (by kernel_rfl) Tryd.func7 (by kernel_rfl)
    (of_decide_eq_true (by kernel_rfl)) (by unfold Func.isWrapper; first | (rw [if_pos (by decide +kernel)]; kernel_rfl) | (rw [if_neg (by decide +kernel)]; exact ⟨rfl, rfl⟩))
    (fun os started H enc _ => lifted os started H enc)

/-- ████ THE STATEMENT's CARD ████ -/
theorem proved : Rows.ConfSmallCardSaid :=
  Claim7.holds_tied_plain_at .later [] [.data, .data, .data, .data, .sentinel, .sentinel, .pinned] true (true, "4a95fc87053c15c9191577497d0f300328d9cee7d9b4dc4671765926de7ac749") true
    over (fun _ h => by cases h) (by kernel_rfl) (fun _ h => by cases h) confSmall_row_tie rfl ⟨rfl, rfl⟩ (by kernel_rfl) rfl
    (fun f fn hf hfn => by
      obtain rfl : f = 7 := Option.some.inj ((show Tryd.prog.funcNamed "septum/septumlaw21.ConfSmall" = some 7 by kernel_rfl).symm.trans hf) |>.symm
      obtain rfl : fn = Tryd.f7 := (Option.some.inj (Tryd.func7.symm.trans hfn)).symm
      exact ⟨by kernel_rfl, fun j t ht => by
        rw [Tryd.params7] at ht
        have hm : t ∈ [] := by simpa using Array.mem_of_getElem? ht
        have hall : ([].all fun u => !Tryd.prog.wantsStandIn u) = true := by kernel_rfl
        exact (show Tryd.prog.wantsStandIn t = false by simpa using List.all_eq_true.1 hall t hm)⟩)
    (by kernel_rfl)
#print axioms proved
end confSmall
end Go.Proofs.YtghoggjllcbalaaDoor
