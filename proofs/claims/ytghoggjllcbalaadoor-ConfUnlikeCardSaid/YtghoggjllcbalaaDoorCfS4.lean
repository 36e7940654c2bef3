/- Show of package conf at a kind of one number. Conditions: the command is right. -/
import Derived.Test.YtghoggjllcbalaaDoorCfS
import Derived.Deep.RegionWith
import Derived.Deep.DeepCutAuto
namespace Go.Proofs.YtghoggjllcbalaaDoor
open Go Go.RowKit

set_option maxRecDepth 100000 in
set_option maxHeartbeats 4000000 in
theorem show_4 (ix : Nat) (hi : ix ≤ 999) (c : Cf) (hc : c = ⟨4, ix, 0, 0, false, 0, 0, 0, false, false, 0, false⟩) (hr : c.right = true) (w : World) (hg : Gl w) :
    Calls Tryd.prog 9 #[c.agg] w fun e w' => e = .returned (.tuple #[str (Lib.join [kindW 4, numL 10 ix] [32]), .int .i64 0]) ∧ Only [] w w' := by
  have Hr := Lib.hid (right_any c)
  rw [hr] at Hr
  subst hc
  clear hr
  go_enter Tryd.func9, Tryd.ntmps9
  go_wp2_with fail
  refine (Hr.out _).mono ?_
  rintro e w1 ⟨rfl, hO1⟩
  have hE : CfB w1 w.heap.size ⟨4, ix, 0, 0, false, 0, 0, 0, false, false, 0, false⟩ := hO1.cf (Blk.new' rfl rfl) (by simp)
  have hO := ((Only.refl [] w).alloc (.cells #[.int .i64 4, .int .i64 ix, .int .i64 0, .int .i64 0, .bool false, .int .i64 0, .int .u32 0, .int .u32 0, .bool false, .bool false, .int .i64 0, .bool false] 29)).trans hO1
  clear hO1 Hr
  have hlt := hE.lt
  obtain ⟨c0, c1, c2, c3, c4, c5, c6, c7, c8, c9, c10, c11, -⟩ := hE.c
  simp only at c0 c1
  clear c2 c3 c4 c5 c6 c7 c8 c9 c10 c11
  go_upto_region 3 with fail
  go_cut [4] (fun s wx => First w1 (kindW 4) s wx)
  case first =>
    have hk : kindsV[4]? = some (.string ⟨#[116, 97, 107, 101]⟩) := rfl
    go_region_with (refine (kinds_any _).mono ?_; rintro e w2 ⟨rfl, rfl⟩)
    all_goals
      go_wp2_with fail
      go_meet
      exact ⟨rowof_one (Blk.new' rfl (by simp)) (by simp), by repeat (first | exact Only.refl _ _ | refine Only.drew ?_ | refine Only.alloc ?_ _)⟩
  case rest =>
    obtain ⟨⟨g, cap, rfl, hgb, hown⟩, hO2⟩ := hcut
    have hE2 := hO2.cf hE (by simp)
    have hg2 := hg.only (hO.trans hO2)
    obtain ⟨c0, c1, c2, c3, c4, c5, c6, c7, c8, c9, c10, c11, -⟩ := hE2.c
    simp only at c0 c1
    clear c2 c3 c4 c5 c6 c7 c8 c9 c10 c11
    go_wp2_with fail
    refine (itoa_any ix (by omega) _ hg2).mono ?_
    rintro e w3 ⟨rfl, hO3⟩
    have hown3 := row_only hown hO3 (by simp)
    have hE3 := hO3.cf hE2 (by simp)
    clear c0 c1 hown
    obtain ⟨i0, hi0, hz0, hz1, hz2⟩ := info_parts infoString
    have hsz3 : w1.heap.size ≤ w3.heap.size := Nat.le_trans hO2.size hO3.size
    go_wp2_with (at_builtin; refine wpList_append_own _ rfl _ _ 42 rfl w1.heap.size 9 i0 (.string ⟨#[]⟩) 1 16 Tryd.underlying42 hi0 hz0 hz1 hz2 rfl (by decide) _ 1 _ rfl (hown3.alloc _) ⟨w3.heap.size, 0, none⟩ 1 1 [str (numL 10 ix)] rfl rfl ?c1 ?c2 ?c3 ?c4 ?c5 ?_)
    case c1 => exact news_blk (Blk.new' rfl rfl) rfl
    case c2 => exact one_cell _
    case c3 => decide
    case c4 => decide
    case c5 => simp; omega
    intro v' w4 hown4 hgrow _
    obtain ⟨g2, cap2, rfl, hgb2, -, -⟩ := row_form hown4 (by decide)
    have hOn : Only [g] _ w4 := grown_only hgrow
    have hE4 := hOn.cf (hE3.alloc _) (by simp; omega)
    have hO4 : Only [] w w4 := (((hO.trans hO2).trans hO3).alloc _).trans' hOn (by simp; omega)
    have hlt4 := hE4.lt
    have hg4 := hg.only hO4
    clear hown3 hgrow hOn hO hO2 hO3 hE2 hE3 hsz3 hg2 hz0 hz1 hz2 hi0
    obtain ⟨c0, c1, c2, c3, c4, c5, c6, c7, c8, c9, c10, c11, -⟩ := hE4.c
    simp only at c0 c1 c2 c3 c4 c5 c6 c7 c8 c9 c10 c11
    go_wp2_with fail
    obtain ⟨q1, q2, q3, q4⟩ := row_cells (xs := [kindW 4, numL 10 ix]) hown4
    have hlen : (Lib.join [kindW 4, numL 10 ix] [32]).length ≤ 140737488355328 := by
      have := numL_len 10 (by omega) 2 ix (by omega)
      simp [Lib.join, kindW, List.intercalate]
      omega
    refine (join_any g2 cap2 [kindW 4, numL 10 ix] _ (fun j l hj => by rw [World.cell?_alloc_lt _ _ _ (by exact q1)]; exact q4 j l hj) (by simp; omega) (by simpa using q2) hlen (by simp)).mono ?_
    rintro e w5 ⟨rfl, hO5⟩
    go_wp2_with fail
    go_ret2
    exact ⟨rfl, (hO4.alloc _).trans hO5⟩
end Go.Proofs.YtghoggjllcbalaaDoor
