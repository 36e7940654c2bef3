/- THE STATEMENT ProgTellsSaid, and its card: septumlaw23.ProgTells returns true at every input, and its input reads as it did. No condition beyond the statement's own. -/
import Derived.Test.YtagmoehjcgjnjaaGreatDoorPrGe
import Derived.Test.YtagmoehjcgjnjaaGreatDoorCfGl
import Derived.Test.YtagmoehjcgjnjaaGreatDoorPgArg
import Derived.Test.YtagmoehjcgjnjaaGreatDoorCards
import Derived.Test.YtagmoehjcgjnjaaGreatDoorTie
import Derived.Deep.DeepHandedRow
import Derived.WalkKit
import Derived.SevenTiedAt
import Derived.Lay
import Derived.LaidMore
namespace Go.Proofs.YtagmoehjcgjnjaaGreatDoor
open Go Go.RowKit Go.ChangeMaps Go.ChangeShapes Go.WideShapes Go.ChangeAt

namespace progTells
theorem own : ownKnob Tryz.prog.godebug = none := by kernel_rfl
theorem door_met (os : Os) (args : Array Value) : laidMetH Tryz.prog Rows.progTellsRow.laid ((World.laidAll Tryz.prog os Rows.progTellsRow.laid).forCall (fun _ _ => 0) ⟨#[], args, []⟩).memory :=
  by rw [MakeChecks.laidMetH_plain _ _ _ (by kernel_rfl)]; exact laidMet_laidAll _ (by kernel_rfl) (by kernel_rfl)

set_option maxRecDepth 100000 in
theorem lifted (os : Os) (started : os.Started) (H : Type) (enc : TypeId × Value → H) :
    ReturnsInHanded {} Tryz.checked os 4 .any (fun w args => (Rows.progTellsSpec.pre enc Tryz.prog Tryz.f4 [] false w args ∧ laidMetH Tryz.prog Rows.progTellsRow.laid w) ∧ sizedMet enc Tryz.prog Tryz.f4 (OpenSpec.ofChange Rows.progTellsSpec) false w args)
      (Rows.progTellsSpec.post enc Tryz.prog Tryz.f4 false true false false) := by
  have hrow : (OpenSpec.ofChange Rows.progTellsSpec).preRow enc Tryz.prog Tryz.f4 [] false Rows.progTellsRow.laid ((World.laidAll Tryz.prog os Rows.progTellsRow.laid).forCall (fun _ _ => 0) ⟨#[], #[.slice none 0 0, .string ⟨#[]⟩], []⟩).memory #[.slice none 0 0, .string ⟨#[]⟩] := by
    exact OpenSpec.preRow_of_B rfl 8 (by kernel_rfl) (by kernel_rfl) (door_met os _)
  have := returnsInHanded_of_row (a := {}) (C := Tryz.checked) (enc := enc) (s := OpenSpec.ofChange Rows.progTellsSpec) (F := fun _ _ _ => 0) (conds := []) (apart := false) (fresh := true) (handsOn := false) (again := false) (laid := Rows.progTellsRow.laid) own started (by kernel_rfl) Tryz.func4
    (witness_row_at (enc := enc) (C := Tryz.checked) false (World.laidAll Tryz.prog os Rows.progTellsRow.laid) _ (World.laidAll_os _ _ _) (by kernel_rfl) (by kernel_rfl) (by kernel_rfl) hrow) ?_
  · exact this
  intro W base args ds gs before hval0 hW _ _ _ hL hsh _
  have hval : ∀ (j : Nat) t v, Tryz.f4.params[j]? = some t → args[j]? = some v → Value.okWide Tryz.prog W .any base t v := hval0
  have hA0 := hW
  obtain ⟨p, q, hA0, -, -, -, -⟩ := hA0
  have hA : DataW.TrodAll enc Tryz.prog W 0 (fun _ => true) true Tryz.f4.params.toList args.toList ds p := hA0
  rw [Tryz.params4] at hA hval
  obtain ⟨v0, vs, d0, ds', p0, q0, e0, rfl, rfl, hA1, hA⟩ := trodAll_cons hA
  obtain ⟨v1, vs, d1, ds', p1, q1, rfl, rfl, rfl, hA2, hA⟩ := trodAll_cons hA
  obtain ⟨rfl, rfl, rfl⟩ := trodAll_nil hA
  have hargs : args = #[v0, v1] := by rw [← Array.toArray_toList (xs := args), e0]
  subst hargs
  obtain ⟨l0, hE0, hf0, hl0⟩ := instrs_of (hval 0 _ _ rfl rfl) hA1
  obtain ⟨t1, rfl, -, -, ht1⟩ := open_string Tryz.underlying9 (hval 1 _ _ rfl rfl) hA2
  have ht1' : t1.data.toList.length < 9223372036854775808 := by
    have : t1.data.toList.length = t1.size := Array.length_toList
    have hmx : maxLen = 9223372036854775807 := by decide
    omega
  have hsp : Rows.progTellsSpec.fn H [d0, d1] = { results := [.lit (.bool true)], args := [d0, d1] } := rfl
  refine (ptells_any l0 hl0 hf0 t1.data.toList ht1' _ W (gl_of hL hsh) hE0).mono fun e W' ⟨he, hg⟩ => ⟨_, he, ?_⟩
  exact post_law (by kernel_rfl) 4 Tryz.underlying4 hW rfl (by kernel_rfl) rfl hsp hg.below

theorem over : Rows.ProgTellsSaid :=
  OpenClaim.holds_of_wide 4 Tryz.f4 rfl rfl rfl rfl rfl rfl rfl ⟨rfl, rfl, rfl, rfl, rfl⟩ rfl rfl rfl rfl rfl (by kernel_rfl) Tryz.func4 (by kernel_rfl)
    (of_decide_eq_true (by kernel_rfl)) (by unfold Func.isWrapper; first | (rw [if_pos (by decide +kernel)]; kernel_rfl) | (rw [if_neg (by decide +kernel)]; exact ⟨rfl, rfl⟩))
    (fun os started H enc _ => lifted os started H enc)

/-- ████ THE STATEMENT's CARD ████ -/
theorem proved : Rows.ProgTellsCardSaid :=
  Claim7.holds_tied_plain_at .later [] [.data, .data, .data, .data, .sentinel, .sentinel, .pinned] true (true, "81dd51e7b20bd61e191bd59d90f179876a4ff1fbcc2d8fca7cac5436d6fcbbe1") true
    over (fun _ h => by cases h) (by kernel_rfl) (fun _ h => by cases h) progTells_row_tie rfl ⟨rfl, rfl⟩ (by kernel_rfl) rfl
    (fun f fn hf hfn => by
      obtain rfl : f = 4 := Option.some.inj ((show Tryz.prog.funcNamed "septum/septumlaw23.ProgTells" = some 4 by kernel_rfl).symm.trans hf) |>.symm
      obtain rfl : fn = Tryz.f4 := (Option.some.inj (Tryz.func4.symm.trans hfn)).symm
      exact ⟨by kernel_rfl, fun j t ht => by
        rw [Tryz.params4] at ht
        have hm : t ∈ [22, 9] := by simpa using Array.mem_of_getElem? ht
        have hall : ([22, 9].all fun u => !Tryz.prog.wantsStandIn u) = true := by kernel_rfl
        exact (show Tryz.prog.wantsStandIn t = false by simpa using List.all_eq_true.1 hall t hm)⟩)
    (by kernel_rfl)
#print axioms proved
end progTells
end Go.Proofs.YtagmoehjcgjnjaaGreatDoor
