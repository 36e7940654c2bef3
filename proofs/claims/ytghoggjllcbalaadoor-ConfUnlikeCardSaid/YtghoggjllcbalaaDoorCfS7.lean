/- Show of package conf at a kind of one number. Conditions: the command is right. -/
import Derived.Test.YtghoggjllcbalaaDoorCfS
import Derived.Deep.RegionWith
import Derived.Deep.DeepCutAuto
namespace Go.Proofs.YtghoggjllcbalaaDoor
open Go Go.RowKit

set_option maxRecDepth 100000 in
set_option maxHeartbeats 4000000 in
theorem show_7 (c : Cf) (hc : c = ⟨7, 0, 0, 0, false, 0, 0, 0, false, false, 0, false⟩) (hr : c.right = true) (w : World) (hg : Gl w) :
    Calls Tryd.prog 9 #[c.agg] w fun e w' => e = .returned (.tuple #[str (Lib.join [kindW 7] [32]), .int .i64 0]) ∧ Only [] w w' := by
  have Hr := Lib.hid (right_any c)
  rw [hr] at Hr
  subst hc
  clear hr
  go_enter Tryd.func9, Tryd.ntmps9
  go_wp2_with fail
  refine (Hr.out _).mono ?_
  rintro e w1 ⟨rfl, hO1⟩
  have hE : CfB w1 w.heap.size ⟨7, 0, 0, 0, false, 0, 0, 0, false, false, 0, false⟩ := hO1.cf (Blk.new' rfl rfl) (by simp)
  have hO := ((Only.refl [] w).alloc (.cells #[.int .i64 7, .int .i64 0, .int .i64 0, .int .i64 0, .bool false, .int .i64 0, .int .u32 0, .int .u32 0, .bool false, .bool false, .int .i64 0, .bool false] 29)).trans hO1
  clear hO1 Hr
  have hlt := hE.lt
  obtain ⟨c0, c1, c2, c3, c4, c5, c6, c7, c8, c9, c10, c11, -⟩ := hE.c
  simp only at c0 c1
  clear c2 c3 c4 c5 c6 c7 c8 c9 c10 c11
  go_upto_region 3 with fail
  go_cut [4] (fun s wx => First w1 (kindW 7) s wx)
  case first =>
    have hk : kindsV[7]? = some (.string ⟨#[108, 111, 99, 107]⟩) := rfl
    go_region_with (refine (kinds_any _).mono ?_; rintro e w2 ⟨rfl, rfl⟩)
    all_goals
      go_wp2_with fail
      go_meet
      exact ⟨rowof_one (Blk.new' rfl (by simp)) (by simp), by repeat (first | exact Only.refl _ _ | refine Only.drew ?_ | refine Only.alloc ?_ _)⟩
  case rest =>
    obtain ⟨⟨g, cap, rfl, hgb, hown⟩, hO2⟩ := hcut
    have hE2 := hO2.cf hE (by simp)
    have hg2 := hg.only (hO.trans hO2)
    obtain ⟨c0, c1, c2, c3, c4, c5, c6, c7, c8, c9, c10, c11, -⟩ := hE2.c
    simp only at c0 c1
    clear c2 c3 c4 c5 c6 c7 c8 c9 c10 c11
    have hO4 := hO.trans hO2
    have hlt4 := hE2.lt
    obtain ⟨c0, c1, c2, c3, c4, c5, c6, c7, c8, c9, c10, c11, -⟩ := hE2.c
    simp only at c0 c1 c2 c3 c4 c5 c6 c7 c8 c9 c10 c11
    go_wp2_with fail
    obtain ⟨q1, q2, -, q4⟩ := row_cells (xs := [kindW 7]) hown
    have hl7 : (Lib.join [kindW 7] [32]).length ≤ 140737488355328 := by show 4 ≤ 140737488355328; omega
    have hc7 : [kindW 7].length ≤ cap := q2
    refine (join_any g cap [kindW 7] _ (fun j l hj => by rw [World.cell?_alloc_lt _ _ _ (by exact q1)]; exact q4 j l hj) (by rw [World.size_alloc]; omega) hc7 hl7 (Nat.le_of_ble_eq_true rfl)).mono ?_
    rintro e w5 ⟨rfl, hO5⟩
    go_wp2_with fail
    go_ret2
    exact ⟨rfl, (hO4.alloc _).trans hO5⟩
end Go.Proofs.YtghoggjllcbalaaDoor
