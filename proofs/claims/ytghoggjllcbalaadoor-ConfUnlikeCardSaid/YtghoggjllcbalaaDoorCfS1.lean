/- Show of package conf at a region. Conditions: the command is right. -/
import Derived.Test.YtghoggjllcbalaaDoorCfS
import Derived.Test.YtghoggjllcbalaaDoorStageT
import Derived.Deep.RegionWith
import Derived.Deep.DeepCutAuto
import Derived.Outline
namespace Go.Proofs.YtghoggjllcbalaaDoor
open Go Go.RowKit

set_option maxRecDepth 100000 in
set_option maxHeartbeats 4000000 in
theorem show_1 (ix rw fr tt rk : Nat) (rd wt lk : Bool) (hi : ix ≤ 999) (hrw : rw ≤ 99) (hfr : fr < 4294967296) (htt : tt < 4294967296) (hrk : rk ≤ 999) (c : Cf) (hc : c = ⟨1, ix, 0, 0, true, rw, fr, tt, rd, wt, rk, lk⟩) (hr : c.right = true) (w : World) (hg : Gl w) :
    Calls Tryd.prog 9 #[c.agg] w fun e w' => e = .returned (.tuple #[str (Lib.join ([kindW 1, numL 10 ix, numL 10 rw, numL 16 fr, numL 16 tt, rightsL rd wt, numL 10 rk] ++ (if lk then [[108, 111, 99, 107, 101, 100]] else [])) [32]), .int .i64 0]) ∧ Only [] w w' := by
  have Hr := Lib.hid (right_any c)
  rw [hr] at Hr
  subst hc
  clear hr
  go_enter Tryd.func9, Tryd.ntmps9
  go_wp2_with fail
  refine (Hr.out _).mono ?_
  rintro e w1 ⟨rfl, hO1⟩
  have hE : CfB w1 w.heap.size ⟨1, ix, 0, 0, true, rw, fr, tt, rd, wt, rk, lk⟩ := hO1.cf (Blk.new' rfl rfl) (by simp)
  have hO := ((Only.refl [] w).alloc (.cells #[.int .i64 1, .int .i64 ix, .int .i64 0, .int .i64 0, .bool true, .int .i64 rw, .int .u32 fr, .int .u32 tt, .bool rd, .bool wt, .int .i64 rk, .bool lk] 29)).trans hO1
  clear hO1 Hr
  have hlt := hE.lt
  obtain ⟨c0, c1, c2, c3, c4, c5, c6, c7, c8, c9, c10, c11, -⟩ := hE.c
  simp only at c0 c1
  clear c2 c3 c4 c5 c6 c7 c8 c9 c10 c11
  go_upto_region 3 with fail
  go_cut [4] (fun s wx => First w1 (kindW 1) s wx)
  case first =>
    have hk : kindsV[1]? = some (.string ⟨#[114, 101, 103, 105, 111, 110]⟩) := rfl
    go_region_with (refine (kinds_any _).mono ?_; rintro e w2 ⟨rfl, rfl⟩)
    all_goals
      go_wp2_with fail
      go_meet
      exact ⟨rowof_one (Blk.new' rfl (by simp)) (by simp), by repeat (first | exact Only.refl _ _ | refine Only.drew ?_ | refine Only.alloc ?_ _)⟩
  case rest =>
    obtain ⟨⟨g, cap, rfl, hgb, hown⟩, hO2⟩ := hcut
    have hE2 := hO2.cf hE (by simp)
    have hg2 := hg.only (hO.trans hO2)
    obtain ⟨c0, c1, c2, c3, c4, c5, c6, c7, c8, c9, c10, c11, -⟩ := hE2.c
    simp only at c0 c1
    clear c2 c3 c4 c5 c6 c7 c8 c9 c10 c11
    go_wp2_with fail
    refine (itoa_any ix (by omega) _ hg2).mono ?_
    rintro e w3 ⟨rfl, hO3⟩
    have hown3 := row_only hown hO3 (by simp)
    have hE3 := hO3.cf hE2 (by simp)
    clear c0 c1 hown
    obtain ⟨i0, hi0, hz0, hz1, hz2⟩ := info_parts infoString
    have hsz3 : w1.heap.size ≤ w3.heap.size := Nat.le_trans hO2.size hO3.size
    go_wp2_with (at_builtin; refine wpList_append_own _ rfl _ _ 42 rfl w1.heap.size 9 i0 (.string ⟨#[]⟩) 1 16 Tryd.underlying42 hi0 hz0 hz1 hz2 rfl (by decide) _ 1 _ rfl (hown3.alloc _) ⟨w3.heap.size, 0, none⟩ 1 1 [str (numL 10 ix)] rfl rfl ?c1 ?c2 ?c3 ?c4 ?c5 ?_)
    case c1 => exact news_blk (Blk.new' rfl rfl) rfl
    case c2 => exact one_cell _
    case c3 => decide
    case c4 => decide
    case c5 => simp; omega
    intro v' w4 hown4 hgrow _
    obtain ⟨g2, cap2, rfl, hgb2, hgl2, -⟩ := row_form hown4 (by decide)
    have hOn : Only [g] _ w4 := grown_only hgrow
    have hE4 := hOn.cf (hE3.alloc _) (by simp; omega)
    have hO4 : Only [] w w4 := (((hO.trans hO2).trans hO3).alloc _).trans' hOn (by simp; omega)
    have hlt4 := hE4.lt
    have hg4 := hg.only hO4
    clear hown3 hgrow hOn hO hO2 hO3 hE2 hE3 hsz3 hg2 hz0 hz1 hz2 hi0
    obtain ⟨c0, c1, c2, c3, c4, c5, c6, c7, c8, c9, c10, c11, -⟩ := hE4.c
    simp only at c0 c1 c2 c3 c4 c5 c6 c7 c8 c9 c10 c11
    go_wp2_with fail
    have hR : Blk (w4.alloc (.cells #[.bool true, .int .i64 rw, .int .u32 fr, .int .u32 tt, .bool rd, .bool wt, .int .i64 rk, .bool lk] 27)) w4.heap.size 27 #[.bool true, .int .i64 rw, .int .u32 fr, .int .u32 tt, .bool rd, .bool wt, .int .i64 rk, .bool lk] := Blk.new' rfl rfl
    have hg5 := hg4.only ((Only.refl [] w4).alloc (.cells #[.bool true, .int .i64 rw, .int .u32 fr, .int .u32 tt, .bool rd, .bool wt, .int .i64 rk, .bool lk] 27))
    have hO5 := hO4.alloc (.cells #[.bool true, .int .i64 rw, .int .u32 fr, .int .u32 tt, .bool rd, .bool wt, .int .i64 rk, .bool lk] 27)
    have hown5 := row_only hown4 ((Only.refl [] _).alloc (.cells #[.bool true, .int .i64 rw, .int .u32 fr, .int .u32 tt, .bool rd, .bool wt, .int .i64 rk, .bool lk] 27)) (by simp)
    have hs5 : w1.heap.size ≤ (w4.alloc (.cells #[.bool true, .int .i64 rw, .int .u32 fr, .int .u32 tt, .bool rd, .bool wt, .int .i64 rk, .bool lk] 27)).heap.size := by simp; omega
    clear c0 c1 c2 c3 c4 c5 c6 c7 c8 c9 c10 c11 hown4 hO4 hE4
    refine wp_region_PT 16 (.slice (some ⟨g2, 0, none⟩) 2 cap2) (Only [] (w4.alloc (.cells #[.bool true, .int .i64 rw, .int .u32 fr, .int .u32 tt, .bool rd, .bool wt, .int .i64 rk, .bool lk] 27))) (by kernel_rfl) (by kernel_rfl) (fun _ _ _ h => h) (.inl ⟨rfl, fun _ => rfl⟩) ((Only.refl _ _).drew) ?_
    simp only [Act.put, List.setIfInBounds_toArray, List.set_cons_succ, List.set_cons_zero, List.take_succ_cons, List.take_zero, List.drop_succ_cons, List.drop_zero]
    repeat (first
      | (refine wpT_step ?_ (stD rfl (fun w' hD => ?_)) ?_
         rotate_left
         · have hR' := hD.blk hR (by simp)
           have r0 : w'.cell? ⟨w4.heap.size, 0, none⟩ = some (.bool true) := hR'.cell 0
           have r1 : w'.cell? ⟨w4.heap.size, 1, none⟩ = some (.int .i64 rw) := hR'.cell 1
           have r2 : w'.cell? ⟨w4.heap.size, 2, none⟩ = some (.int .u32 fr) := hR'.cell 2
           have r3 : w'.cell? ⟨w4.heap.size, 3, none⟩ = some (.int .u32 tt) := hR'.cell 3
           have r4 : w'.cell? ⟨w4.heap.size, 4, none⟩ = some (.bool rd) := hR'.cell 4
           have r5 : w'.cell? ⟨w4.heap.size, 5, none⟩ = some (.bool wt) := hR'.cell 5
           have r6 : w'.cell? ⟨w4.heap.size, 6, none⟩ = some (.int .i64 rk) := hR'.cell 6
           have r7 : w'.cell? ⟨w4.heap.size, 7, none⟩ = some (.bool lk) := hR'.cell 7
           have hg' := hg5.only hD
           go_simp
           first
             | (refine ⟨?_, hD⟩; rfl)
             | (refine (itoa_any rw (by omega) w' hg').mono ?_; rintro e w'' ⟨rfl, h⟩; refine ⟨?_, hD.trans h⟩; rfl)
             | (refine (itoa_any rk (by omega) w' hg').mono ?_; rintro e w'' ⟨rfl, h⟩; refine ⟨?_, hD.trans h⟩; rfl)
             | (refine (hex_any fr hfr w' hg').mono ?_; rintro e w'' ⟨rfl, h⟩; refine ⟨?_, hD.trans h⟩; rfl)
             | (refine (hex_any tt htt w' hg').mono ?_; rintro e w'' ⟨rfl, h⟩; refine ⟨?_, hD.trans h⟩; rfl)
             | (refine (rights_any true rd wt lk rw fr tt rk w').mono ?_; rintro e w'' ⟨rfl, h⟩; refine ⟨?_, hD.trans h⟩; rfl)
         simp only [Act.put, List.setIfInBounds_toArray, List.set_cons_succ, List.set_cons_zero, Nat.reduceAdd])
      | (refine wpT_step _ (stD_skip rfl) ?_
         simp only [Act.put, List.setIfInBounds_toArray, List.set_cons_succ, List.set_cons_zero, Nat.reduceAdd]))
    refine wpT_nil ?_
    intro w6 hD
    have hown6 := row_only hown5 hD (by simp)
    have hO6 := hO5.trans hD
    have hs6 : w1.heap.size ≤ w6.heap.size := Nat.le_trans hs5 hD.size
    have hR6 := hD.blk hR (by simp)
    clear hown5 hD hR hg5 hO5 hs5
    have hbw : ∀ u ∈ [str (numL 10 rw), str (numL 16 fr), str (numL 16 tt), str (rightsL rd wt), str (numL 10 rk)], u.oneCell' = true := by
      intro u hu
      simp only [List.mem_cons, List.not_mem_nil, or_false] at hu
      rcases hu with rfl | rfl | rfl | rfl | rfl <;> rfl
    obtain ⟨i0, hi0, hz0, hz1, hz2⟩ := info_parts infoString
    go_wp2_with (at_builtin; refine wpList_append_own _ rfl _ _ 42 rfl w1.heap.size 9 i0 (.string ⟨#[]⟩) 1 16 Tryd.underlying42 hi0 hz0 hz1 hz2 rfl (by decide) _ 2 _ rfl (hown6.alloc _) ⟨w6.heap.size, 0, none⟩ 5 5 [str (numL 10 rw), str (numL 16 fr), str (numL 16 tt), str (rightsL rd wt), str (numL 10 rk)] rfl rfl ?d1 ?d2 ?d3 ?d4 ?d5 ?_)
    case d1 => exact news_blk (Blk.new' rfl rfl) rfl
    case d2 => exact hbw
    case d3 => decide
    case d4 => decide
    case d5 => simp; omega
    intro v' w7 hown7 hgrow _
    obtain ⟨g3, cap3, rfl, hgb3, hgl3, -⟩ := row_form hown7 (by decide)
    have hOn : Only [g2] _ w7 := grown_only hgrow
    have hO7 : Only [] w w7 := (hO6.alloc _).trans' hOn (by simp; omega)
    have hR7 := hOn.blk (hR6.alloc (.cells #[str (numL 10 rw), str (numL 16 fr), str (numL 16 tt), str (rightsL rd wt), str (numL 10 rk)] 9)) (by simp; omega)
    have r7 : w7.cell? ⟨w4.heap.size, 7, none⟩ = some (.bool lk) := hR7.cell 7
    have hs7 : w1.heap.size ≤ w7.heap.size := by omega
    have b1 := numL_len 10 (by omega) 2 ix (by omega)
    have b2 := numL_len 10 (by omega) 1 rw (by omega)
    have b3 := numL_len 16 (by omega) 7 fr hfr
    have b4 := numL_len 16 (by omega) 7 tt htt
    have b5 := numL_len 10 (by omega) 2 rk (by omega)
    have b6 : (rightsL rd wt).length ≤ 2 := by cases rd <;> cases wt <;> simp [rightsL]
    have B1 := Lib.hid b1
    have B2 := Lib.hid b2
    have B3 := Lib.hid b3
    have B4 := Lib.hid b4
    have B5 := Lib.hid b5
    have B6 := Lib.hid b6
    clear hgrow hown6 hOn hO6 hR6 hR7 hbw hi0 hz0 hz1 hz2 b1 b2 b3 b4 b5 b6
    cases lk
    · go_wp2_with fail
      obtain ⟨q1, q2, -, q4⟩ := row_cells (xs := [kindW 1, numL 10 ix, numL 10 rw, numL 16 fr, numL 16 tt, rightsL rd wt, numL 10 rk]) hown7
      have hlen : (Lib.join [kindW 1, numL 10 ix, numL 10 rw, numL 16 fr, numL 16 tt, rightsL rd wt, numL 10 rk] [32]).length ≤ 140737488355328 := by
        have := B1.out
        have := B2.out
        have := B3.out
        have := B4.out
        have := B5.out
        have := B6.out
        simp [Lib.join, kindW, List.intercalate]
        omega
      refine (join_any g3 cap3 [kindW 1, numL 10 ix, numL 10 rw, numL 16 fr, numL 16 tt, rightsL rd wt, numL 10 rk] _ q4 q1 (by simpa using q2) hlen (by simp)).mono ?_
      rintro e w8 ⟨rfl, hO8⟩
      go_wp2_with fail
      go_ret2
      exact ⟨rfl, hO7.trans hO8⟩
    · obtain ⟨i0, hi0, hz0, hz1, hz2⟩ := info_parts infoString
      go_wp2_with (at_builtin; refine wpList_append_own _ rfl _ _ 42 rfl w1.heap.size 9 i0 (.string ⟨#[]⟩) 1 16 Tryd.underlying42 hi0 hz0 hz1 hz2 rfl (by decide) _ 7 _ rfl (hown7.alloc _) ⟨w7.heap.size, 0, none⟩ 1 1 [str [108, 111, 99, 107, 101, 100]] rfl rfl ?e1 ?e2 ?e3 ?e4 ?e5 ?_)
      case e1 => exact news_blk (Blk.new' rfl rfl) rfl
      case e2 => exact one_cell _
      case e3 => decide
      case e4 => decide
      case e5 => simp; omega
      intro v' w8 hown8 hgrow _
      obtain ⟨g4, cap4, rfl, hgb4, -, -⟩ := row_form hown8 (by decide)
      have hOn : Only [g3] _ w8 := grown_only hgrow
      have hO8 : Only [] w w8 := (hO7.alloc _).trans' hOn (by simp; omega)
      clear hown7 hgrow hOn hO7
      go_wp2_with fail
      obtain ⟨q1, q2, -, q4⟩ := row_cells (xs := [kindW 1, numL 10 ix, numL 10 rw, numL 16 fr, numL 16 tt, rightsL rd wt, numL 10 rk, [108, 111, 99, 107, 101, 100]]) hown8
      have hlen : (Lib.join [kindW 1, numL 10 ix, numL 10 rw, numL 16 fr, numL 16 tt, rightsL rd wt, numL 10 rk, [108, 111, 99, 107, 101, 100]] [32]).length ≤ 140737488355328 := by
        have := B1.out
        have := B2.out
        have := B3.out
        have := B4.out
        have := B5.out
        have := B6.out
        simp [Lib.join, kindW, List.intercalate]
        omega
      refine (join_any g4 cap4 [kindW 1, numL 10 ix, numL 10 rw, numL 16 fr, numL 16 tt, rightsL rd wt, numL 10 rk, [108, 111, 99, 107, 101, 100]] _ q4 q1 (by simpa using q2) hlen (by simp)).mono ?_
      rintro e w9 ⟨rfl, hO9⟩
      go_wp2_with fail
      go_ret2
      exact ⟨rfl, hO8.trans hO9⟩
end Go.Proofs.YtghoggjllcbalaaDoor
