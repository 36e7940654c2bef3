/- THE STATEMENT TraceReadsSaid, and its card: septumlaw28.TraceReads returns true at every input, and its input reads as it did. No condition beyond the statement's own. -/
import Derived.Test.YtojleleohhaigaaDoorTrRd
import Derived.Test.YtojleleohhaigaaDoorCfGl
import Derived.Test.YtojleleohhaigaaDoorTrArg
import Derived.Test.YtojleleohhaigaaDoorCards
import Derived.Test.YtojleleohhaigaaDoorTie
import Derived.Deep.DeepHandedRow
import Derived.WalkKit
import Derived.SevenTiedAt
import Derived.Lay
import Derived.LaidMore
namespace Go.Proofs.YtojleleohhaigaaDoor
open Go Go.RowKit Go.ChangeMaps Go.ChangeShapes Go.WideShapes Go.ChangeAt

namespace traceReads
theorem own : ownKnob Tryd.prog.godebug = none := by kernel_rfl
theorem door_met (os : Os) (args : Array Value) : laidMetH Tryd.prog Rows.traceReadsRow.laid ((World.laidAll Tryd.prog os Rows.traceReadsRow.laid).forCall (fun _ _ => 0) ⟨#[], args, []⟩).memory :=
  by rw [MakeChecks.laidMetH_plain _ _ _ (by kernel_rfl)]; exact laidMet_laidAll _ (by kernel_rfl) (by kernel_rfl)

set_option maxRecDepth 100000 in
theorem lifted (os : Os) (started : os.Started) (H : Type) (enc : TypeId × Value → H) :
    ReturnsInHanded {} Tryd.checked os 3 .any (fun w args => (Rows.traceReadsSpec.pre enc Tryd.prog Tryd.f3 [] false w args ∧ laidMetH Tryd.prog Rows.traceReadsRow.laid w) ∧ sizedMet enc Tryd.prog Tryd.f3 (OpenSpec.ofChange Rows.traceReadsSpec) false w args)
      (Rows.traceReadsSpec.post enc Tryd.prog Tryd.f3 false true false false) := by
  have hrow : (OpenSpec.ofChange Rows.traceReadsSpec).preRow enc Tryd.prog Tryd.f3 [] false Rows.traceReadsRow.laid ((World.laidAll Tryd.prog os Rows.traceReadsRow.laid).forCall (fun _ _ => 0) ⟨#[], #[.string ⟨#[]⟩], []⟩).memory #[.string ⟨#[]⟩] := by
    exact OpenSpec.preRow_of_B rfl 8 (by kernel_rfl) (by kernel_rfl) (door_met os _)
  have := returnsInHanded_of_row (a := {}) (C := Tryd.checked) (enc := enc) (s := OpenSpec.ofChange Rows.traceReadsSpec) (F := fun _ _ _ => 0) (conds := []) (apart := false) (fresh := true) (handsOn := false) (again := false) (laid := Rows.traceReadsRow.laid) own started (by kernel_rfl) Tryd.func3
    (witness_row_at (enc := enc) (C := Tryd.checked) false (World.laidAll Tryd.prog os Rows.traceReadsRow.laid) _ (World.laidAll_os _ _ _) (by kernel_rfl) (by kernel_rfl) (by kernel_rfl) hrow) ?_
  · exact this
  intro W base args ds gs before hval0 hW _ _ _ hL hsh _
  have hval : ∀ (j : Nat) t v, Tryd.f3.params[j]? = some t → args[j]? = some v → Value.okWide Tryd.prog W .any base t v := hval0
  have hA0 := hW
  obtain ⟨p, q, hA0, -, -, -, -⟩ := hA0
  have hA : DataW.TrodAll enc Tryd.prog W 0 (fun _ => true) true Tryd.f3.params.toList args.toList ds p := hA0
  rw [Tryd.params3] at hA hval
  obtain ⟨v0, vs, d0, ds', p0, q0, e0, rfl, rfl, hA1, hA⟩ := trodAll_cons hA
  obtain ⟨rfl, rfl, rfl⟩ := trodAll_nil hA
  have hargs : args = #[v0] := by rw [← Array.toArray_toList (xs := args), e0]
  subst hargs
  obtain ⟨t0, rfl, -, -, ht0⟩ := open_string Tryd.underlying9 (hval 0 _ _ rfl rfl) hA1
  have ht0' : t0.data.toList.length < 9223372036854775808 := by
    have : t0.data.toList.length = t0.size := Array.length_toList
    have hmx : maxLen = 9223372036854775807 := by decide
    omega
  have hsp : Rows.traceReadsSpec.fn H [d0] = { results := [.lit (.bool true)], args := [d0] } := rfl
  refine (reads_any t0.data.toList ht0' W (gl_of hL hsh)).mono fun e W' ⟨he, hg⟩ => ⟨_, he, ?_⟩
  exact post_law (by kernel_rfl) 4 Tryd.underlying4 hW rfl (by kernel_rfl) rfl hsp hg.below

theorem over : Rows.TraceReadsSaid :=
  OpenClaim.holds_of_wide 3 Tryd.f3 rfl rfl rfl rfl rfl rfl rfl ⟨rfl, rfl, rfl, rfl, rfl⟩ rfl rfl rfl rfl rfl (by kernel_rfl) Tryd.func3 (by kernel_rfl)
    (of_decide_eq_true (by kernel_rfl)) (by unfold Func.isWrapper; first | (rw [if_pos (by decide +kernel)]; kernel_rfl) | (rw [if_neg (by decide +kernel)]; exact ⟨rfl, rfl⟩))
    (fun os started H enc _ => lifted os started H enc)

/-- ████ THE STATEMENT's CARD ████ -/
theorem proved : Rows.TraceReadsCardSaid :=
  Claim7.holds_tied_plain_at .later [] [.data, .data, .data, .data, .sentinel, .sentinel, .pinned] true (true, "f75474a97c621663d4ee6cf680a03453e9f63781b147e43e41f4bc33a6cb23e2") true
    over (fun _ h => by cases h) (by kernel_rfl) (fun _ h => by cases h) traceReads_row_tie rfl ⟨rfl, rfl⟩ (by kernel_rfl) rfl
    (fun f fn hf hfn => by
      obtain rfl : f = 3 := Option.some.inj ((show Tryd.prog.funcNamed "septum/septumlaw28.TraceReads" = some 3 by kernel_rfl).symm.trans hf) |>.symm
      obtain rfl : fn = Tryd.f3 := (Option.some.inj (Tryd.func3.symm.trans hfn)).symm
      exact ⟨by kernel_rfl, fun j t ht => by
        rw [Tryd.params3] at ht
        have hm : t ∈ [9] := by simpa using Array.mem_of_getElem? ht
        have hall : ([9].all fun u => !Tryd.prog.wantsStandIn u) = true := by kernel_rfl
        exact (show Tryd.prog.wantsStandIn t = false by simpa using List.all_eq_true.1 hall t hm)⟩)
    (by kernel_rfl)
#print axioms proved
end traceReads
end Go.Proofs.YtojleleohhaigaaDoor
