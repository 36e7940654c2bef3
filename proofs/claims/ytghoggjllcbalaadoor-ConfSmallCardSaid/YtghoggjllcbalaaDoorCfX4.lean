/- ConfTells of septumlaw21, walked. Conditions: the addresses are uint32; the listed variables are laid. -/
import Derived.Test.YtghoggjllcbalaaDoorCfW
import Derived.Test.YtghoggjllcbalaaDoorCrR
namespace Go.Proofs.YtghoggjllcbalaaDoor
open Go Go.RowKit
attribute [local go_sem ↓] str_eql str_neq cf_neq24 cf_eql24

theorem same_self4 (c : Cf) : c.same c = true := (Cf.same_iff c c).2 rfl
attribute [local go_sem] same_self4

set_option maxRecDepth 100000 in
set_option maxHeartbeats 4000000 in
theorem shows_any (c : Cf) (hf : c.Fits) (w : World) (hg : Gl w) :
    Calls Tryd.prog 12 #[c.agg] w fun e w' => e = .returned (.bool true) ∧ Only [] w w' := by
  have H1 := Lib.hid (show_any c hf)
  have H2 := Lib.hid (rshow_any c hf)
  have H3 := Lib.hid (device_any c)
  have H4 := Lib.hid (rdevice_any c)
  have H5 := Lib.hid (right_any c)
  have H6 := Lib.hid (rright_any c)
  generalize c.shown = tx at *
  generalize c.err = er at *
  generalize c.dev = dv at *
  obtain ⟨d1, d2⟩ := dv
  generalize c.right = r at *
  have ts : (tx == tx) = true := by simp
  go_enter Tryd.func12, Tryd.ntmps12
  go_wp2_with fail
  have hE0 : CfB (w.alloc (.cells #[.int .i64 c.kd, .int .i64 c.ix, .int .i64 c.wo, .int .i64 c.ln, .bool c.on, .int .i64 c.rw, .int .u32 c.fr, .int .u32 c.tt, .bool c.rd, .bool c.wt, .int .i64 c.rk, .bool c.lk] 29)) w.heap.size c := Blk.new' rfl rfl
  have hO0 := (Only.refl [] w).alloc (.cells #[.int .i64 c.kd, .int .i64 c.ix, .int .i64 c.wo, .int .i64 c.ln, .bool c.on, .int .i64 c.rw, .int .u32 c.fr, .int .u32 c.tt, .bool c.rd, .bool c.wt, .int .i64 c.rk, .bool c.lk] 29)
  refine (H1.out _ (hg.only hO0)).mono ?_
  rintro e w1 ⟨rfl, hO1⟩
  have hE1 := hO1.cf hE0 (by simp)
  have hOa := hO0.trans hO1
  clear hE0 hO0 hO1
  obtain ⟨c0, c1, c2, c3, c4, c5, c6, c7, c8, c9, c10, c11, -⟩ := hE1.c
  go_wp2_with fail
  refine (H2.out _).mono ?_
  rintro e w2 ⟨rfl, hO2⟩
  have hE2 := hO2.cf hE1 (by simp)
  have hOb := hOa.trans hO2
  clear hE1 hOa hO2 c0 c1 c2 c3 c4 c5 c6 c7 c8 c9 c10 c11
  obtain ⟨c0, c1, c2, c3, c4, c5, c6, c7, c8, c9, c10, c11, -⟩ := hE2.c
  go_wp2_with fail
  refine (H3.out _).mono ?_
  rintro e w3 ⟨rfl, hO3⟩
  have hE3 := hO3.cf hE2 (by simp)
  have hOc := hOb.trans hO3
  clear hE2 hOb hO3 c0 c1 c2 c3 c4 c5 c6 c7 c8 c9 c10 c11
  obtain ⟨c0, c1, c2, c3, c4, c5, c6, c7, c8, c9, c10, c11, -⟩ := hE3.c
  go_wp2_with fail
  refine (H4.out _).mono ?_
  rintro e w4 ⟨rfl, hO4⟩
  have hE4 := hO4.cf hE3 (by simp)
  have hOd := hOc.trans hO4
  clear hE3 hOc hO4 c0 c1 c2 c3 c4 c5 c6 c7 c8 c9 c10 c11
  go_wp2_with fail
  refine wp_region_D (Only [] w4) (by kernel_rfl) (by kernel_rfl) ((Only.refl _ _).drew) ?_
  repeat (first
    | (refine wpT_step ?_ (stD rfl (fun w' hD => ?_)) ?_
       rotate_left
       · obtain ⟨c0, c1, c2, c3, c4, c5, c6, c7, c8, c9, c10, c11, -⟩ := (hD.cf hE4 (by simp)).c
         go_simp
         first
           | (refine ⟨?_, hD⟩; rfl)
           | (change Calls _ _ _ _ _; (with_reducible refine (H5.out w').mono ?_); rintro e w'' ⟨rfl, h⟩; refine ⟨?_, hD.trans h⟩; rfl)
           | (change Calls _ _ _ _ _; (with_reducible refine (H6.out w').mono ?_); rintro e w'' ⟨rfl, h⟩; refine ⟨?_, hD.trans h⟩; rfl)
       simp only [Act.put, List.setIfInBounds_toArray, List.set_cons_succ, List.set_cons_zero, Nat.zero_add, Nat.reduceAdd])
    | (refine wpT_step _ (stD_skip rfl) ?_
       simp only [Act.put, List.setIfInBounds_toArray, List.set_cons_succ, List.set_cons_zero, Nat.reduceAdd]))
  refine wpT_nil ?_
  intro w5 hD
  go_wp2_with fail
  go_ret
  exact ⟨rfl, hOd.trans hD⟩

set_option maxRecDepth 100000 in
set_option maxHeartbeats 4000000 in
theorem reads_any (s : List UInt8) (hs : s.length < 1000000) (w : World) (hg : Gl w) :
    Calls Tryd.prog 13 #[str s] w fun e w' => e = .returned (.bool true) ∧ Only [] w w' := by
  have H1 := Lib.hid (read_text s hs)
  have H2 := Lib.hid (rread_any s hs)
  generalize readC s (parse s) = c at *
  generalize readE s (parse s) = er at *
  go_enter Tryd.func13, Tryd.ntmps13
  go_wp2_with fail
  refine (H1.out _ hg).mono ?_
  rintro e w1 ⟨rfl, hO1⟩
  go_wp2_with fail
  have hE1 : CfB (w1.alloc (.cells #[.int .i64 c.kd, .int .i64 c.ix, .int .i64 c.wo, .int .i64 c.ln, .bool c.on, .int .i64 c.rw, .int .u32 c.fr, .int .u32 c.tt, .bool c.rd, .bool c.wt, .int .i64 c.rk, .bool c.lk] 29)) w1.heap.size c := Blk.new' rfl rfl
  have hOa := hO1.alloc (.cells #[.int .i64 c.kd, .int .i64 c.ix, .int .i64 c.wo, .int .i64 c.ln, .bool c.on, .int .i64 c.rw, .int .u32 c.fr, .int .u32 c.tt, .bool c.rd, .bool c.wt, .int .i64 c.rk, .bool c.lk] 29)
  refine (H2.out _).mono ?_
  rintro e w2 ⟨rfl, hO2⟩
  have hE2 := hO2.cf hE1 (by simp)
  have hOb := hOa.trans hO2
  have hlt := hE2.lt
  clear hE1 hOa hO2 hO1
  obtain ⟨c0, c1, c2, c3, c4, c5, c6, c7, c8, c9, c10, c11, -⟩ := hE2.c
  go_wp2_with fail
  go_ret
  exact ⟨rfl, by repeat (first | with_reducible exact hOb | with_reducible refine Only.alloc ?_ _)⟩

set_option maxRecDepth 100000 in
set_option maxHeartbeats 4000000 in
theorem tells_any (c : Cf) (hf : c.Fits) (s : List UInt8) (w : World) (hg : Gl w) :
    Calls Tryd.prog 6 #[c.agg, str s] w fun e w' => e = .returned (.bool true) ∧ Only [] w w' := by
  have hE0 : CfB (w.alloc (.cells #[.int .i64 c.kd, .int .i64 c.ix, .int .i64 c.wo, .int .i64 c.ln, .bool c.on, .int .i64 c.rw, .int .u32 c.fr, .int .u32 c.tt, .bool c.rd, .bool c.wt, .int .i64 c.rk, .bool c.lk] 29)) w.heap.size c := Blk.new' rfl rfl
  have hO0 := (Only.refl [] w).alloc (.cells #[.int .i64 c.kd, .int .i64 c.ix, .int .i64 c.wo, .int .i64 c.ln, .bool c.on, .int .i64 c.rw, .int .u32 c.fr, .int .u32 c.tt, .bool c.rd, .bool c.wt, .int .i64 c.rk, .bool c.lk] 29)
  by_cases hl : 400 < s.length
  · have hli : (400 : Int) < (s.length : Int) := by omega
    have HA := Lib.hid awake_any
    clear hl
    go_enter Tryd.func6, Tryd.ntmps6
    go_wp2_with fail
    refine (HA.out _ (hg.only hO0)).mono ?_
    rintro e w1 ⟨rfl, hO1⟩
    go_wp2_with fail
    go_ret
    exact ⟨rfl, hO0.trans hO1⟩
  · have hli : ¬ (400 : Int) < (s.length : Int) := by omega
    have HS := Lib.hid (shows_any c hf)
    have HR := Lib.hid (reads_any s (by omega))
    have HA := Lib.hid awake_any
    clear hl
    obtain ⟨c0, c1, c2, c3, c4, c5, c6, c7, c8, c9, c10, c11, -⟩ := hE0.c
    go_enter Tryd.func6, Tryd.ntmps6
    go_wp2_with fail
    refine (HS.out _ (hg.only hO0)).mono ?_
    rintro e w1 ⟨rfl, hO1⟩
    have hOa := hO0.trans hO1
    go_wp2_with fail
    refine (HR.out _ (hg.only hOa)).mono ?_
    rintro e w2 ⟨rfl, hO2⟩
    have hOb := hOa.trans hO2
    go_wp2_with fail
    refine (HA.out _ (hg.only hOb)).mono ?_
    rintro e w3 ⟨rfl, hO3⟩
    go_wp2_with fail
    go_ret
    exact ⟨rfl, hOb.trans hO3⟩
end Go.Proofs.YtghoggjllcbalaaDoor
