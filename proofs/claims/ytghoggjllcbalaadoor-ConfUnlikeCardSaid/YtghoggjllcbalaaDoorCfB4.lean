/- Right of package conf, walked at the other kinds. Conditions: those of the case. -/
import Derived.Test.YtghoggjllcbalaaDoorCfA
import Derived.Deep.RegionWith
namespace Go.Proofs.YtghoggjllcbalaaDoor
open Go Go.RowKit

attribute [local go_sem ↓] cf_neq24 cf_eql24


set_option maxHeartbeats 8000000 in
theorem right_nr (c : Cf) (w : World) (h1 : 2 ≤ c.kd) (h2 : c.kd ≤ 7) (h3 : c.named = c) (h4 : inB c.ix 999 = true) :
    Calls Tryd.prog 10 #[c.agg] w fun e w' => e = .returned (.bool (inB c.wo 99 && inB (max c.ln 0) 99 && decide (-1 ≤ c.ln))) ∧ Only [] w w' := by
  have hb : CfB (w.alloc (.cells #[.int .i64 c.kd, .int .i64 c.ix, .int .i64 c.wo, .int .i64 c.ln, .bool c.on, .int .i64 c.rw, .int .u32 c.fr, .int .u32 c.tt, .bool c.rd, .bool c.wt, .int .i64 c.rk, .bool c.lk] 29)) w.heap.size c := Blk.new' rfl rfl
  have hs : c.same c = true := (Cf.same_iff c c).2 rfl
  have Hn := Lib.hid (named_any c)
  rw [h3] at Hn
  clear h3
  obtain ⟨kd, ix, wo, ln, on, rw, fr, tt, rd, wt, rk, lk⟩ := c
  simp only at h1 h2 h4 hb
  have n1 : decide (kd < 1) = false := by simp; omega
  have n2 : decide (7 < kd) = false := by simp; omega
  have n3 : (kd == 1) = false := by simp; omega
  clear h1 h2
  have H4 := Lib.hid h4
  clear h4
  go_enter Tryd.func10, Tryd.ntmps10
  go_wp2_with fail
  go_region_with (first
    | (go_at_call 20; refine (Hn.out _).mono ?_; rintro e w1 ⟨rfl, hO1⟩; obtain ⟨c0, c1, c2, c3, c4, c5, c6, c7, c8, c9, c10, c11, -⟩ := (hO1.cf (hb.drew) (by simp)).c)
    | (go_at_call 21; refine (within_any _ _ _ _ (Blk.new' rfl rfl)).mono ?_; rintro e w2 ⟨rfl, hO2⟩; rw [H4.out]))
  all_goals
    have hE := hO2.cf ((hO1.cf (hb.drew) (by simp)).alloc (.cells #[.int .i64 ix] 3)) (by simp)
    have hO := (((((Only.refl [] w).alloc _).drew).trans hO1).alloc _).trans hO2
    clear c0 c1 c2 c3 c4 c5 c6 c7 c8 c9 c10 c11 hO1 hO2 Hn H4 hb hs n1 n2
    obtain ⟨c0, c1, c2, c3, c4, c5, c6, c7, c8, c9, c10, c11, -⟩ := hE.c
    simp only at c0 c2 c3
    clear c1 c4 c5 c6 c7 c8 c9 c10 c11
    go_wp2_with fail
    refine (within_any _ _ _ _ (Blk.new' rfl rfl)).mono ?_
    rintro e w3 ⟨rfl, hO3⟩
    have hE3 := hO3.cf (hE.alloc (.cells #[.int .i64 wo] 3)) (by simp)
    have hOa := (hO.alloc (.cells #[.int .i64 wo] 3)).trans hO3
    have c3 : w3.cell? ⟨w.heap.size, 3, none⟩ = some (.int .i64 ln) := hE3.c.c3
    clear c0 c2 hE hO3 hO
    cases hy : inB wo 99
    · go_wp2_with fail
      go_ret
      exact ⟨by show Ending.returned (.bool false) = .returned (.bool (inB wo 99 && inB (max ln 0) 99 && decide (-1 ≤ ln))); rw [hy]; rfl, hOa⟩
    · have Hy := Lib.hid hy
      clear hy
      rcases (by omega : 0 ≤ ln ∨ ln < 0) with hl | hl
      · have hm : max ln 0 = ln := by omega
        have Hm := Lib.hid hm
        clear hm
        go_wp2_with fail
        refine (within_any _ _ _ _ (Blk.new' rfl rfl)).mono ?_
        rintro e w4 ⟨rfl, hO4⟩
        have hE4 := hO4.cf (hE3.alloc (.cells #[.int .i64 ln] 3)) (by simp)
        have c3 : w4.cell? ⟨w.heap.size, 3, none⟩ = some (.int .i64 ln) := hE4.c.c3
        have hOb := (hOa.alloc (.cells #[.int .i64 ln] 3)).trans hO4
        cases hz : inB ln 99
        · go_wp2_with fail
          go_ret
          exact ⟨by show Ending.returned (.bool false) = .returned (.bool (inB wo 99 && inB (max ln 0) 99 && decide (-1 ≤ ln))); rw [Hy.out, Hm.out, hz]; rfl, hOb⟩
        · have Hz := Lib.hid hz
          clear hz
          go_wp2_with fail
          go_ret
          exact ⟨by show Ending.returned (.bool (decide (-1 ≤ ln))) = .returned (.bool (inB wo 99 && inB (max ln 0) 99 && decide (-1 ≤ ln))); rw [Hy.out, Hm.out, Hz.out]; simp, hOb⟩
      · have hm : max ln 0 = 0 := by omega
        have Hm := Lib.hid hm
        clear hm
        go_wp2_with fail
        refine (within_any _ _ _ _ (Blk.new' rfl rfl)).mono ?_
        rintro e w4 ⟨rfl, hO4⟩
        have hE4 := hO4.cf (hE3.alloc (.cells #[.int .i64 0] 3)) (by simp)
        have c3 : w4.cell? ⟨w.heap.size, 3, none⟩ = some (.int .i64 ln) := hE4.c.c3
        have hOb := (hOa.alloc (.cells #[.int .i64 0] 3)).trans hO4
        have hz : inB 0 99 = true := rfl
        go_wp2_with fail
        go_ret
        exact ⟨by show Ending.returned (.bool (decide (-1 ≤ ln))) = .returned (.bool (inB wo 99 && inB (max ln 0) 99 && decide (-1 ≤ ln))); rw [Hy.out, Hm.out, hz]; simp, hOb⟩
end Go.Proofs.YtghoggjllcbalaaDoor
