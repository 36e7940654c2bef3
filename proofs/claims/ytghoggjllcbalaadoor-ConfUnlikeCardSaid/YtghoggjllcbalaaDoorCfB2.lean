/- Right of package conf, walked where the index is out of its bounds. Conditions: those of the case. -/
import Derived.Test.YtghoggjllcbalaaDoorCfA
import Derived.Deep.RegionWith
namespace Go.Proofs.YtghoggjllcbalaaDoor
open Go Go.RowKit

attribute [local go_sem ↓] cf_neq24 cf_eql24


set_option maxHeartbeats 4000000 in
theorem right_ix (c : Cf) (w : World) (h1 : 1 ≤ c.kd) (h2 : c.kd ≤ 7) (h3 : c.named = c) (h4 : inB c.ix 999 = false) :
    Calls Tryd.prog 10 #[c.agg] w fun e w' => e = .returned (.bool false) ∧ Only [] w w' := by
  have hb : CfB (w.alloc (.cells #[.int .i64 c.kd, .int .i64 c.ix, .int .i64 c.wo, .int .i64 c.ln, .bool c.on, .int .i64 c.rw, .int .u32 c.fr, .int .u32 c.tt, .bool c.rd, .bool c.wt, .int .i64 c.rk, .bool c.lk] 29)) w.heap.size c := Blk.new' rfl rfl
  have hs : c.same c = true := (Cf.same_iff c c).2 rfl
  have Hn := Lib.hid (named_any c)
  rw [h3] at Hn
  clear h3
  obtain ⟨kd, ix, wo, ln, on, rw, fr, tt, rd, wt, rk, lk⟩ := c
  simp only at h1 h2 h4 hb
  have n1 : decide (kd < 1) = false := by simp; omega
  have n2 : decide (7 < kd) = false := by simp; omega
  clear h1 h2
  have H4 := Lib.hid h4
  clear h4
  go_enter Tryd.func10, Tryd.ntmps10
  go_wp2_with fail
  go_region_with (first
    | (go_at_call 20; refine (Hn.out _).mono ?_; rintro e w1 ⟨rfl, hO1⟩; obtain ⟨c0, c1, c2, c3, c4, c5, c6, c7, c8, c9, c10, c11, -⟩ := (hO1.cf (hb.drew) (by simp)).c)
    | (go_at_call 21; refine (within_any _ _ _ _ (Blk.new' rfl rfl)).mono ?_; rintro e w2 ⟨rfl, hO2⟩; rw [H4.out]))
  all_goals (go_wp2_with fail; go_ret; exact ⟨rfl, (((((Only.refl _ _).alloc _).drew).trans hO1).alloc _).trans hO2⟩)

end Go.Proofs.YtghoggjllcbalaaDoor
