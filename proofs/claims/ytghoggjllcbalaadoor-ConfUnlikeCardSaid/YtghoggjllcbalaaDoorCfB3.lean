/- Right of package conf, walked at a region. Conditions: those of the case. -/
import Derived.Test.YtghoggjllcbalaaDoorCfA
import Derived.Deep.RegionWith
namespace Go.Proofs.YtghoggjllcbalaaDoor
open Go Go.RowKit

attribute [local go_sem ↓] cf_neq24 cf_eql24

set_option maxHeartbeats 8000000 in
theorem right_rg (c : Cf) (w : World) (h1 : c.kd = 1) (h3 : c.named = c) (h4 : inB c.ix 999 = true) :
    Calls Tryd.prog 10 #[c.agg] w fun e w' => e = .returned (.bool (c.on && inB c.rw 99 && inB c.rk 999)) ∧ Only [] w w' := by
  have hb : CfB (w.alloc (.cells #[.int .i64 c.kd, .int .i64 c.ix, .int .i64 c.wo, .int .i64 c.ln, .bool c.on, .int .i64 c.rw, .int .u32 c.fr, .int .u32 c.tt, .bool c.rd, .bool c.wt, .int .i64 c.rk, .bool c.lk] 29)) w.heap.size c := Blk.new' rfl rfl
  have hs : c.same c = true := (Cf.same_iff c c).2 rfl
  have Hn := Lib.hid (named_any c)
  rw [h3] at Hn
  clear h3
  obtain ⟨kd, ix, wo, ln, on, rw, fr, tt, rd, wt, rk, lk⟩ := c
  simp only at h1 h4 hb
  subst h1
  have H4 := Lib.hid h4
  clear h4
  go_enter Tryd.func10, Tryd.ntmps10
  go_wp2_with fail
  go_region_with (first
    | (go_at_call 20; refine (Hn.out _).mono ?_; rintro e w1 ⟨rfl, hO1⟩; obtain ⟨c0, c1, c2, c3, c4, c5, c6, c7, c8, c9, c10, c11, -⟩ := (hO1.cf (hb.drew) (by simp)).c)
    | (go_at_call 21; refine (within_any _ _ _ _ (Blk.new' rfl rfl)).mono ?_; rintro e w2 ⟨rfl, hO2⟩; rw [H4.out]))
  all_goals
    have hE := hO2.cf ((hO1.cf (hb.drew) (by simp)).alloc (.cells #[.int .i64 ix] 3)) (by simp)
    have hO := (((((Only.refl [] w).alloc _).drew).trans hO1).alloc _).trans hO2
    clear c0 c1 c2 c3 c4 c5 c6 c7 c8 c9 c10 c11 hO1 hO2 Hn H4 hb hs
    obtain ⟨c0, c1, c2, c3, c4, c5, c6, c7, c8, c9, c10, c11, -⟩ := hE.c
    simp only at c0 c4 c5 c10
    clear c1 c2 c3 c6 c7 c8 c9 c11
    cases on
    · go_wp2_with fail
      go_ret
      exact ⟨rfl, hO⟩
    · go_wp2_with fail
      refine (within_any _ _ _ _ (Blk.new' rfl rfl)).mono ?_
      rintro e w3 ⟨rfl, hO3⟩
      have hE3 := hO3.cf (hE.alloc (.cells #[.int .i64 rw] 3)) (by simp)
      have hOa := (hO.alloc (.cells #[.int .i64 rw] 3)).trans hO3
      have c10 : w3.cell? ⟨w.heap.size, 10, none⟩ = some (.int .i64 rk) := hE3.c.c10
      clear c0 c4 c5 hE hO3 hO
      cases hy : inB rw 99
      · go_wp2_with fail
        go_ret
        exact ⟨by show Ending.returned (.bool false) = .returned (.bool (true && inB rw 99 && inB rk 999)); rw [hy]; rfl, hOa⟩
      · have Hy := Lib.hid hy
        clear hy
        go_wp2_with fail
        refine (within_any _ _ _ _ (Blk.new' rfl rfl)).mono ?_
        rintro e w4 ⟨rfl, hO4⟩
        go_wp2_with fail
        go_ret
        exact ⟨by show Ending.returned (.bool (inB rk 999)) = .returned (.bool (true && inB rw 99 && inB rk 999)); rw [Hy.out]; rfl, (hOa.alloc _).trans hO4⟩
end Go.Proofs.YtghoggjllcbalaaDoor
