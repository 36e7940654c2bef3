/- THE STATEMENT ProgMoreSaid, and its card: septumlaw23.ProgMore returns true at every input, and its input reads as it did. No condition beyond the statement's own. -/
import Derived.Test.YtagmoehjcgjnjaaGreatDoorPgMo
import Derived.Test.YtagmoehjcgjnjaaGreatDoorPgArg2
import Derived.Test.YtagmoehjcgjnjaaGreatDoorCfGl
import Derived.Test.YtagmoehjcgjnjaaGreatDoorPgArg
import Derived.Test.YtagmoehjcgjnjaaGreatDoorCards
import Derived.Test.YtagmoehjcgjnjaaGreatDoorTie
import Derived.Deep.DeepHandedRow
import Derived.WalkKit
import Derived.SevenTiedAt
import Derived.Lay
import Derived.LaidMore
namespace Go.Proofs.YtagmoehjcgjnjaaGreatDoor
open Go Go.RowKit Go.ChangeMaps Go.ChangeShapes Go.WideShapes Go.ChangeAt

namespace progMore
theorem own : ownKnob Tryz.prog.godebug = none := by kernel_rfl
theorem door_met (os : Os) (args : Array Value) : laidMetH Tryz.prog Rows.progMoreRow.laid ((World.laidAll Tryz.prog os Rows.progMoreRow.laid).forCall (fun _ _ => 0) ⟨#[], args, []⟩).memory :=
  by rw [MakeChecks.laidMetH_plain _ _ _ (by kernel_rfl)]; exact laidMet_laidAll _ (by kernel_rfl) (by kernel_rfl)

set_option maxRecDepth 100000 in
theorem lifted (os : Os) (started : os.Started) (H : Type) (enc : TypeId × Value → H) :
    ReturnsInHanded {} Tryz.checked os 3 .any (fun w args => (Rows.progMoreSpec.pre enc Tryz.prog Tryz.f3 [] false w args ∧ laidMetH Tryz.prog Rows.progMoreRow.laid w) ∧ sizedMet enc Tryz.prog Tryz.f3 (OpenSpec.ofChange Rows.progMoreSpec) false w args)
      (Rows.progMoreSpec.post enc Tryz.prog Tryz.f3 false true false false) := by
  have hrow : (OpenSpec.ofChange Rows.progMoreSpec).preRow enc Tryz.prog Tryz.f3 [] false Rows.progMoreRow.laid ((World.laidAll Tryz.prog os Rows.progMoreRow.laid).forCall (fun _ _ => 0) ⟨#[], #[.slice none 0 0, .agg #[.int .i64 0, .int .i64 0, .int .u32 0, .bool false, .int .u32 0, .int .i64 0, .int .i64 0, .int .i64 0, .int .i64 0, .int .i64 0, .bool false, .int .i64 0, .int .u32 0, .int .u32 0, .bool false, .bool false, .int .i64 0, .bool false]], []⟩).memory #[.slice none 0 0, .agg #[.int .i64 0, .int .i64 0, .int .u32 0, .bool false, .int .u32 0, .int .i64 0, .int .i64 0, .int .i64 0, .int .i64 0, .int .i64 0, .bool false, .int .i64 0, .int .u32 0, .int .u32 0, .bool false, .bool false, .int .i64 0, .bool false]] := by
    exact OpenSpec.preRow_of_B rfl 8 (by kernel_rfl) (by kernel_rfl) (door_met os _)
  have := returnsInHanded_of_row (a := {}) (C := Tryz.checked) (enc := enc) (s := OpenSpec.ofChange Rows.progMoreSpec) (F := fun _ _ _ => 0) (conds := []) (apart := false) (fresh := true) (handsOn := false) (again := false) (laid := Rows.progMoreRow.laid) own started (by kernel_rfl) Tryz.func3
    (witness_row_at (enc := enc) (C := Tryz.checked) false (World.laidAll Tryz.prog os Rows.progMoreRow.laid) _ (World.laidAll_os _ _ _) (by kernel_rfl) (by kernel_rfl) (by kernel_rfl) hrow) ?_
  · exact this
  intro W base args ds gs before hval0 hW _ _ _ hL hsh _
  have hval : ∀ (j : Nat) t v, Tryz.f3.params[j]? = some t → args[j]? = some v → Value.okWide Tryz.prog W .any base t v := hval0
  have hA0 := hW
  obtain ⟨p, q, hA0, -, -, -, -⟩ := hA0
  have hA : DataW.TrodAll enc Tryz.prog W 0 (fun _ => true) true Tryz.f3.params.toList args.toList ds p := hA0
  rw [Tryz.params3] at hA hval
  obtain ⟨v0, vs, d0, ds', p0, q0, e0, rfl, rfl, hA1, hA⟩ := trodAll_cons hA
  obtain ⟨v1, vs, d1, ds', p1, q1, rfl, rfl, rfl, hA2, hA⟩ := trodAll_cons hA
  obtain ⟨rfl, rfl, rfl⟩ := trodAll_nil hA
  have hargs : args = #[v0, v1] := by rw [← Array.toArray_toList (xs := args), e0]
  subst hargs
  obtain ⟨l0, hE0, hf0, hl0⟩ := instrs_of (hval 0 _ _ rfl rfl) hA1
  obtain ⟨x1, rfl, hf1⟩ := instr_arg (hval 1 _ _ rfl rfl)
  have hsp : Rows.progMoreSpec.fn H [d0, d1] = { results := [.lit (.bool true)], args := [d0, d1] } := rfl
  refine (pmore_any l0 hl0 hf0 x1 hf1 _ W (gl_of hL hsh) hE0).mono fun e W' ⟨he, hg⟩ => ⟨_, he, ?_⟩
  exact post_law (by kernel_rfl) 4 Tryz.underlying4 hW rfl (by kernel_rfl) rfl hsp hg.below

theorem over : Rows.ProgMoreSaid :=
  OpenClaim.holds_of_wide 3 Tryz.f3 rfl rfl rfl rfl rfl rfl rfl ⟨rfl, rfl, rfl, rfl, rfl⟩ rfl rfl rfl rfl rfl (by kernel_rfl) Tryz.func3 (by kernel_rfl)
    (of_decide_eq_true (by kernel_rfl)) (by unfold Func.isWrapper; first | (rw [if_pos (by decide +kernel)]; kernel_rfl) | (rw [if_neg (by decide +kernel)]; exact ⟨rfl, rfl⟩))
    (fun os started H enc _ => lifted os started H enc)

/-- ████ THE STATEMENT's CARD ████ -/
theorem proved : Rows.ProgMoreCardSaid :=
  Claim7.holds_tied_plain_at .later [] [.data, .data, .data, .data, .sentinel, .sentinel, .pinned] true (true, "81dd51e7b20bd61e191bd59d90f179876a4ff1fbcc2d8fca7cac5436d6fcbbe1") true
    over (fun _ h => by cases h) (by kernel_rfl) (fun _ h => by cases h) progMore_row_tie rfl ⟨rfl, rfl⟩ (by kernel_rfl) rfl
    (fun f fn hf hfn => by
      obtain rfl : f = 3 := Option.some.inj ((show Tryz.prog.funcNamed "septum/septumlaw23.ProgMore" = some 3 by kernel_rfl).symm.trans hf) |>.symm
      obtain rfl : fn = Tryz.f3 := (Option.some.inj (Tryz.func3.symm.trans hfn)).symm
      exact ⟨by kernel_rfl, fun j t ht => by
        rw [Tryz.params3] at ht
        have hm : t ∈ [22, 33] := by simpa using Array.mem_of_getElem? ht
        have hall : ([22, 33].all fun u => !Tryz.prog.wantsStandIn u) = true := by kernel_rfl
        exact (show Tryz.prog.wantsStandIn t = false by simpa using List.all_eq_true.1 hall t hm)⟩)
    (by kernel_rfl)
#print axioms proved
end progMore
end Go.Proofs.YtagmoehjcgjnjaaGreatDoor
