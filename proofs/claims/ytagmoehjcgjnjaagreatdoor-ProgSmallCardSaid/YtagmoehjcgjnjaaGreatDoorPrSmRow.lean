/- THE STATEMENT ProgSmallSaid, and its card: septumlaw23.ProgSmall returns true at every input, and its input reads as it did. No condition beyond the statement's own. -/
import Derived.Test.YtagmoehjcgjnjaaGreatDoorPrSm
import Derived.Test.YtagmoehjcgjnjaaGreatDoorCfGl
import Derived.Test.YtagmoehjcgjnjaaGreatDoorPgArg
import Derived.Test.YtagmoehjcgjnjaaGreatDoorCards
import Derived.Test.YtagmoehjcgjnjaaGreatDoorTie
import Derived.Deep.DeepHandedRow
import Derived.WalkKit
import Derived.SevenTiedAt
import Derived.Lay
import Derived.LaidMore
namespace Go.Proofs.YtagmoehjcgjnjaaGreatDoor
open Go Go.RowKit Go.ChangeMaps Go.ChangeShapes Go.WideShapes Go.ChangeAt

namespace progSmall
theorem own : ownKnob Tryz.prog.godebug = none := by kernel_rfl
theorem door_met (os : Os) (args : Array Value) : laidMetH Tryz.prog Rows.progSmallRow.laid ((World.laidAll Tryz.prog os Rows.progSmallRow.laid).forCall (fun _ _ => 0) ⟨#[], args, []⟩).memory :=
  by rw [MakeChecks.laidMetH_plain _ _ _ (by kernel_rfl)]; exact laidMet_laidAll _ (by kernel_rfl) (by kernel_rfl)

set_option maxRecDepth 100000 in
theorem lifted (os : Os) (started : os.Started) (H : Type) (enc : TypeId × Value → H) :
    ReturnsInHanded {} Tryz.checked os 5 .any (fun w args => (Rows.progSmallSpec.pre enc Tryz.prog Tryz.f5 [] false w args ∧ laidMetH Tryz.prog Rows.progSmallRow.laid w) ∧ sizedMet enc Tryz.prog Tryz.f5 (OpenSpec.ofChange Rows.progSmallSpec) false w args)
      (Rows.progSmallSpec.post enc Tryz.prog Tryz.f5 false true false false) := by
  have hrow : (OpenSpec.ofChange Rows.progSmallSpec).preRow enc Tryz.prog Tryz.f5 [] false Rows.progSmallRow.laid ((World.laidAll Tryz.prog os Rows.progSmallRow.laid).forCall (fun _ _ => 0) ⟨#[], #[], []⟩).memory #[] := by
    exact OpenSpec.preRow_of_B rfl 8 (by kernel_rfl) (by kernel_rfl) (door_met os _)
  have := returnsInHanded_of_row (a := {}) (C := Tryz.checked) (enc := enc) (s := OpenSpec.ofChange Rows.progSmallSpec) (F := fun _ _ _ => 0) (conds := []) (apart := false) (fresh := true) (handsOn := false) (again := false) (laid := Rows.progSmallRow.laid) own started (by kernel_rfl) Tryz.func5
    (witness_row_at (enc := enc) (C := Tryz.checked) false (World.laidAll Tryz.prog os Rows.progSmallRow.laid) _ (World.laidAll_os _ _ _) (by kernel_rfl) (by kernel_rfl) (by kernel_rfl) hrow) ?_
  · exact this
  intro W base args ds gs before hval0 hW _ _ _ hL hsh _
  have hval : ∀ (j : Nat) t v, Tryz.f5.params[j]? = some t → args[j]? = some v → Value.okWide Tryz.prog W .any base t v := hval0
  have hA0 := hW
  obtain ⟨p, q, hA0, -, -, -, -⟩ := hA0
  have hA : DataW.TrodAll enc Tryz.prog W 0 (fun _ => true) true Tryz.f5.params.toList args.toList ds p := hA0
  rw [Tryz.params5] at hA hval
  obtain ⟨e0, rfl, rfl⟩ := trodAll_nil hA
  have hargs : args = #[] := by rw [← Array.toArray_toList (xs := args), e0]
  subst hargs
  have hsp : Rows.progSmallSpec.fn H [] = { results := [.lit (.bool true)], args := [] } := rfl
  refine (psmall_any W (gl_of hL hsh)).mono fun e W' ⟨he, hg⟩ => ⟨_, he, ?_⟩
  exact post_law (by kernel_rfl) 4 Tryz.underlying4 hW rfl (by kernel_rfl) rfl hsp hg.below

theorem over : Rows.ProgSmallSaid :=
  OpenClaim.holds_of_wide 5 Tryz.f5 rfl rfl rfl rfl rfl rfl rfl ⟨rfl, rfl, rfl, rfl, rfl⟩ rfl rfl rfl rfl rfl (by kernel_rfl) Tryz.func5 (by kernel_rfl)
    (of_decide_eq_true (by kernel_rfl)) (by unfold Func.isWrapper; first | (rw [if_pos (by decide +kernel)]; kernel_rfl) | (rw [if_neg (by decide +kernel)]; exact ⟨rfl, rfl⟩))
    (fun os started H enc _ => lifted os started H enc)

/-- ████ THE STATEMENT's CARD ████ -/
theorem proved : Rows.ProgSmallCardSaid :=
  Claim7.holds_tied_plain_at .later [] [.data, .data, .data, .data, .sentinel, .sentinel, .pinned] true (true, "81dd51e7b20bd61e191bd59d90f179876a4ff1fbcc2d8fca7cac5436d6fcbbe1") true
    over (fun _ h => by cases h) (by kernel_rfl) (fun _ h => by cases h) progSmall_row_tie rfl ⟨rfl, rfl⟩ (by kernel_rfl) rfl
    (fun f fn hf hfn => by
      obtain rfl : f = 5 := Option.some.inj ((show Tryz.prog.funcNamed "septum/septumlaw23.ProgSmall" = some 5 by kernel_rfl).symm.trans hf) |>.symm
      obtain rfl : fn = Tryz.f5 := (Option.some.inj (Tryz.func5.symm.trans hfn)).symm
      exact ⟨by kernel_rfl, fun j t ht => by
        rw [Tryz.params5] at ht
        have hm : t ∈ [] := by simpa using Array.mem_of_getElem? ht
        have hall : ([].all fun u => !Tryz.prog.wantsStandIn u) = true := by kernel_rfl
        exact (show Tryz.prog.wantsStandIn t = false by simpa using List.all_eq_true.1 hall t hm)⟩)
    (by kernel_rfl)
#print axioms proved
end progSmall
end Go.Proofs.YtagmoehjcgjnjaaGreatDoor
