/- Right of package conf, walked where the kind is none, or a part is not its own. Conditions: those of the cases. -/
import Derived.Test.YtghoggjllcbalaaDoorCfA
import Derived.Deep.RegionWith
namespace Go.Proofs.YtghoggjllcbalaaDoor
open Go Go.RowKit

attribute [local go_sem ↓] cf_neq24 cf_eql24

/-- Can a command be said? -/
def Cf.right (c : Cf) : Bool :=
  decide (1 ≤ c.kd) && decide (c.kd ≤ 7) && c.same c.named && inB c.ix 999 &&
    (if c.kd = 1 then c.on && inB c.rw 99 && inB c.rk 999 else inB c.wo 99 && inB (max c.ln 0) 99 && decide (-1 ≤ c.ln))

set_option maxHeartbeats 4000000 in
theorem right_lo (c : Cf) (w : World) (h : c.kd < 1 ∨ 7 < c.kd) :
    Calls Tryd.prog 10 #[c.agg] w fun e w' => e = .returned (.bool c.right) ∧ Only [] w w' := by
  have e : c.right = false := by simp [Cf.right]; omega
  rw [e]
  obtain ⟨kd, ix, wo, ln, on, rw, fr, tt, rd, wt, rk, lk⟩ := c
  simp only at h
  clear e
  rcases h with h1 | h1
  · have n1 : decide (kd < 1) = true := by simpa using h1
    go_enter Tryd.func10, Tryd.ntmps10
    go_wp2_with fail
    go_region
    all_goals (go_wp2; go_ret; exact ⟨rfl, ((Only.refl _ _).alloc _).drew⟩)
  · have n1 : decide (kd < 1) = false := by simp; omega
    have n2 : decide (7 < kd) = true := by simpa using h1
    clear h1
    go_enter Tryd.func10, Tryd.ntmps10
    go_wp2_with fail
    go_region
    all_goals (go_wp2; go_ret; exact ⟨rfl, ((Only.refl _ _).alloc _).drew⟩)

set_option maxRecDepth 100000 in
set_option maxHeartbeats 4000000 in
theorem right_un (c d : Cf) (w : World) (h1 : 1 ≤ c.kd) (h2 : c.kd ≤ 7) (hd : c.named = d) (h3 : c.same d = false) :
    Calls Tryd.prog 10 #[c.agg] w fun e w' => e = .returned (.bool false) ∧ Only [] w w' := by
  have hb : CfB (w.alloc (.cells #[.int .i64 c.kd, .int .i64 c.ix, .int .i64 c.wo, .int .i64 c.ln, .bool c.on, .int .i64 c.rw, .int .u32 c.fr, .int .u32 c.tt, .bool c.rd, .bool c.wt, .int .i64 c.rk, .bool c.lk] 29)) w.heap.size c := Blk.new' rfl rfl
  have Hn := Lib.hid (named_any c)
  rw [hd] at Hn
  clear hd
  obtain ⟨kd, ix, wo, ln, on, rw, fr, tt, rd, wt, rk, lk⟩ := c
  obtain ⟨kd', ix', wo', ln', on', rw', fr', tt', rd', wt', rk', lk'⟩ := d
  simp only at h1 h2 hb
  have n1 : decide (kd < 1) = false := by simp; omega
  have n2 : decide (7 < kd) = false := by simp; omega
  clear h1 h2
  go_enter Tryd.func10, Tryd.ntmps10
  go_wp2_with fail
  refine wp_region_D (Only [] (w.alloc (.cells #[.int .i64 kd, .int .i64 ix, .int .i64 wo, .int .i64 ln, .bool on, .int .i64 rw, .int .u32 fr, .int .u32 tt, .bool rd, .bool wt, .int .i64 rk, .bool lk] 29))) (by kernel_rfl) (by kernel_rfl) ((Only.refl _ _).drew) ?_
  repeat (first
    | (refine wpT_step ?_ (stD rfl (fun w' hD => ?_)) ?_
       rotate_left
       · obtain ⟨c0, c1, c2, c3, c4, c5, c6, c7, c8, c9, c10, c11, -⟩ := (hD.cf hb (by simp)).c
         simp only at c0 c1 c2 c3 c4 c5 c6 c7 c8 c9 c10 c11
         go_simp
         first
           | (refine ⟨?_, hD⟩; rfl)
           | (refine (Hn.out w').mono ?_; rintro e w'' ⟨rfl, h⟩; refine ⟨?_, hD.trans h⟩; rfl)
       simp only [Act.put, List.setIfInBounds_toArray, List.set_cons_succ, List.set_cons_zero, Nat.zero_add, Nat.reduceAdd])
    | (refine wpT_step _ (stD_skip rfl) ?_
       simp only [Act.put, List.setIfInBounds_toArray, List.set_cons_succ, List.set_cons_zero, Nat.reduceAdd]))
  refine wpT_nil ?_
  intro w5 hD
  go_wp2_with fail
  go_ret
  exact ⟨rfl, ((Only.refl _ _).alloc _).trans hD⟩
end Go.Proofs.YtghoggjllcbalaaDoor
