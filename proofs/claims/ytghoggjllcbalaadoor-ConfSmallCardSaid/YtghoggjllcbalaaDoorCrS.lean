/- The document's side of conf: Show, walked. Condition: the addresses are uint32. -/
import Derived.Test.YtghoggjllcbalaaDoorCrN
import Derived.Test.YtghoggjllcbalaaDoorCrA
import Derived.Test.YtghoggjllcbalaaDoorCfGa
namespace Go.Proofs.YtghoggjllcbalaaDoor
open Go Go.RowKit
attribute [local go_sem] str_cat

set_option maxRecDepth 100000 in
set_option maxHeartbeats 8000000 in
theorem rshow_2 (ix : Nat) (hi : ix ≤ 999) (c : Cf) (hc : c = ⟨2, ix, 0, 0, false, 0, 0, 0, false, false, 0, false⟩) (hr : c.right = true) (w : World) :
    Calls Tryd.prog 28 #[c.agg] w fun e w' => e = .returned (.tuple #[str c.text, .int .i64 0]) ∧ Only [] w w' := by
  have Hr := Lib.hid (rright_any c)
  rw [hr] at Hr
  subst hc
  clear hr
  have HT : Hid (Cf.text ⟨2, ix, 0, 0, false, 0, 0, 0, false, false, 0, false⟩ = [99, 108, 101, 97, 114, 32] ++ numL 10 ix) := Lib.hid (by simp [Cf.text, Cf.words, Lib.join, kindW, dec, List.intercalate])
  have HA := Lib.hid (rnumber_10 ix (by omega))
  have lA : (numL 10 ix).length ≤ 16 := rnum_len 10 (by omega) 15 ix (by omega)
  have HB := Lib.hid rnumber_zero
  generalize numL 10 ix = A at *
  go_enter Tryd.func28, Tryd.ntmps28
  go_wp2_with fail
  refine (Hr.out _).mono ?_
  rintro e w1 ⟨rfl, hO1⟩
  have hE : CfB w1 w.heap.size ⟨2, ix, 0, 0, false, 0, 0, 0, false, false, 0, false⟩ := hO1.cf (Blk.new' rfl rfl) (by simp)
  have hO := ((Only.refl [] w).alloc (.cells #[.int .i64 2, .int .i64 ix, .int .i64 0, .int .i64 0, .bool false, .int .i64 0, .int .u32 0, .int .u32 0, .bool false, .bool false, .int .i64 0, .bool false] 29)).trans hO1
  clear hO1 Hr
  go_wp2_with fail
  refine wp_region_D (Only [] w1) (by kernel_rfl) (by kernel_rfl) ((Only.refl _ _).drew) ?_
  repeat (
    refine wpT_step ?_ (stD rfl (fun w' hD => ?_)) ?_
    rotate_left
    · obtain ⟨c0, c1, c2, c3, -⟩ := (hD.cf hE (by simp)).c
      simp only at c0 c1 c2 c3
      go_simp
      first
        | (rw [if_neg (by omega)]; refine ⟨?_, hD⟩; rfl)
        | (refine ⟨?_, hD⟩; rfl)
        | (change Calls _ _ _ _ _; (with_reducible refine (HA.out w').mono ?_); rintro e w'' ⟨rfl, h⟩; refine ⟨?_, hD.trans h⟩; rfl)
        | (change Calls _ _ _ _ _; (with_reducible refine (HB.out w').mono ?_); rintro e w'' ⟨rfl, h⟩; refine ⟨?_, hD.trans h⟩; rfl)
    simp only [Act.put, List.setIfInBounds_toArray, List.set_cons_succ, List.set_cons_zero, Nat.zero_add, Nat.reduceAdd])
  refine wpT_nil ?_
  intro w2 hD
  have hE2 := hD.cf hE (by simp)
  have hO2 := hO.trans hD
  clear hD hE hO
  obtain ⟨c0, c1, c2, c3, c4, c5, c6, c7, c8, c9, c10, c11, -⟩ := hE2.c
  simp only at c0 c1 c2 c3 c4 c5 c6 c7 c8 c9 c10 c11
  go_wp2
  all_goals first
    | (exfalso; omega)
    | (go_ret2
       exact ⟨by rw [HT.out]; simp, hO2⟩)

set_option maxRecDepth 100000 in
set_option maxHeartbeats 8000000 in
theorem rshow_4 (ix : Nat) (hi : ix ≤ 999) (c : Cf) (hc : c = ⟨4, ix, 0, 0, false, 0, 0, 0, false, false, 0, false⟩) (hr : c.right = true) (w : World) :
    Calls Tryd.prog 28 #[c.agg] w fun e w' => e = .returned (.tuple #[str c.text, .int .i64 0]) ∧ Only [] w w' := by
  have Hr := Lib.hid (rright_any c)
  rw [hr] at Hr
  subst hc
  clear hr
  have HT : Hid (Cf.text ⟨4, ix, 0, 0, false, 0, 0, 0, false, false, 0, false⟩ = [116, 97, 107, 101, 32] ++ numL 10 ix) := Lib.hid (by simp [Cf.text, Cf.words, Lib.join, kindW, dec, List.intercalate])
  have HA := Lib.hid (rnumber_10 ix (by omega))
  have lA : (numL 10 ix).length ≤ 16 := rnum_len 10 (by omega) 15 ix (by omega)
  have HB := Lib.hid rnumber_zero
  generalize numL 10 ix = A at *
  go_enter Tryd.func28, Tryd.ntmps28
  go_wp2_with fail
  refine (Hr.out _).mono ?_
  rintro e w1 ⟨rfl, hO1⟩
  have hE : CfB w1 w.heap.size ⟨4, ix, 0, 0, false, 0, 0, 0, false, false, 0, false⟩ := hO1.cf (Blk.new' rfl rfl) (by simp)
  have hO := ((Only.refl [] w).alloc (.cells #[.int .i64 4, .int .i64 ix, .int .i64 0, .int .i64 0, .bool false, .int .i64 0, .int .u32 0, .int .u32 0, .bool false, .bool false, .int .i64 0, .bool false] 29)).trans hO1
  clear hO1 Hr
  go_wp2_with fail
  refine wp_region_D (Only [] w1) (by kernel_rfl) (by kernel_rfl) ((Only.refl _ _).drew) ?_
  repeat (
    refine wpT_step ?_ (stD rfl (fun w' hD => ?_)) ?_
    rotate_left
    · obtain ⟨c0, c1, c2, c3, -⟩ := (hD.cf hE (by simp)).c
      simp only at c0 c1 c2 c3
      go_simp
      first
        | (rw [if_neg (by omega)]; refine ⟨?_, hD⟩; rfl)
        | (refine ⟨?_, hD⟩; rfl)
        | (change Calls _ _ _ _ _; (with_reducible refine (HA.out w').mono ?_); rintro e w'' ⟨rfl, h⟩; refine ⟨?_, hD.trans h⟩; rfl)
        | (change Calls _ _ _ _ _; (with_reducible refine (HB.out w').mono ?_); rintro e w'' ⟨rfl, h⟩; refine ⟨?_, hD.trans h⟩; rfl)
    simp only [Act.put, List.setIfInBounds_toArray, List.set_cons_succ, List.set_cons_zero, Nat.zero_add, Nat.reduceAdd])
  refine wpT_nil ?_
  intro w2 hD
  have hE2 := hD.cf hE (by simp)
  have hO2 := hO.trans hD
  clear hD hE hO
  obtain ⟨c0, c1, c2, c3, c4, c5, c6, c7, c8, c9, c10, c11, -⟩ := hE2.c
  simp only at c0 c1 c2 c3 c4 c5 c6 c7 c8 c9 c10 c11
  go_wp2
  all_goals first
    | (exfalso; omega)
    | (go_ret2
       exact ⟨by rw [HT.out]; simp, hO2⟩)

set_option maxRecDepth 100000 in
set_option maxHeartbeats 8000000 in
theorem rshow_3 (ix wo : Nat) (hi : ix ≤ 999) (hw : wo ≤ 99) (c : Cf) (hc : c = ⟨3, ix, wo, 0, false, 0, 0, 0, false, false, 0, false⟩) (hr : c.right = true) (w : World) :
    Calls Tryd.prog 28 #[c.agg] w fun e w' => e = .returned (.tuple #[str c.text, .int .i64 0]) ∧ Only [] w w' := by
  have Hr := Lib.hid (rright_any c)
  rw [hr] at Hr
  subst hc
  clear hr
  have HT : Hid (Cf.text ⟨3, ix, wo, 0, false, 0, 0, 0, false, false, 0, false⟩ = [103, 105, 118, 101, 32] ++ (numL 10 ix ++ 32 :: numL 10 wo)) := Lib.hid (by simp [Cf.text, Cf.words, Lib.join, kindW, dec, List.intercalate])
  have HA := Lib.hid (rnumber_10 ix (by omega))
  have lA : (numL 10 ix).length ≤ 16 := rnum_len 10 (by omega) 15 ix (by omega)
  have HB := Lib.hid (rnumber_10 wo (by omega))
  have lB : (numL 10 wo).length ≤ 16 := rnum_len 10 (by omega) 15 wo (by omega)
  generalize numL 10 ix = A at *
  generalize numL 10 wo = B at *
  go_enter Tryd.func28, Tryd.ntmps28
  go_wp2_with fail
  refine (Hr.out _).mono ?_
  rintro e w1 ⟨rfl, hO1⟩
  have hE : CfB w1 w.heap.size ⟨3, ix, wo, 0, false, 0, 0, 0, false, false, 0, false⟩ := hO1.cf (Blk.new' rfl rfl) (by simp)
  have hO := ((Only.refl [] w).alloc (.cells #[.int .i64 3, .int .i64 ix, .int .i64 wo, .int .i64 0, .bool false, .int .i64 0, .int .u32 0, .int .u32 0, .bool false, .bool false, .int .i64 0, .bool false] 29)).trans hO1
  clear hO1 Hr
  go_wp2_with fail
  refine wp_region_D (Only [] w1) (by kernel_rfl) (by kernel_rfl) ((Only.refl _ _).drew) ?_
  repeat (
    refine wpT_step ?_ (stD rfl (fun w' hD => ?_)) ?_
    rotate_left
    · obtain ⟨c0, c1, c2, c3, -⟩ := (hD.cf hE (by simp)).c
      simp only at c0 c1 c2 c3
      go_simp
      first
        | (rw [if_neg (by omega)]; refine ⟨?_, hD⟩; rfl)
        | (refine ⟨?_, hD⟩; rfl)
        | (change Calls _ _ _ _ _; (with_reducible refine (HA.out w').mono ?_); rintro e w'' ⟨rfl, h⟩; refine ⟨?_, hD.trans h⟩; rfl)
        | (change Calls _ _ _ _ _; (with_reducible refine (HB.out w').mono ?_); rintro e w'' ⟨rfl, h⟩; refine ⟨?_, hD.trans h⟩; rfl)
    simp only [Act.put, List.setIfInBounds_toArray, List.set_cons_succ, List.set_cons_zero, Nat.zero_add, Nat.reduceAdd])
  refine wpT_nil ?_
  intro w2 hD
  have hE2 := hD.cf hE (by simp)
  have hO2 := hO.trans hD
  clear hD hE hO
  obtain ⟨c0, c1, c2, c3, c4, c5, c6, c7, c8, c9, c10, c11, -⟩ := hE2.c
  simp only at c0 c1 c2 c3 c4 c5 c6 c7 c8 c9 c10 c11
  go_wp2
  all_goals first
    | (exfalso; omega)
    | (go_ret2
       exact ⟨by rw [HT.out]; simp, hO2⟩)

set_option maxRecDepth 100000 in
set_option maxHeartbeats 8000000 in
theorem rshow_5 (ix wo : Nat) (hi : ix ≤ 999) (hw : wo ≤ 99) (c : Cf) (hc : c = ⟨5, ix, wo, 0, false, 0, 0, 0, false, false, 0, false⟩) (hr : c.right = true) (w : World) :
    Calls Tryd.prog 28 #[c.agg] w fun e w' => e = .returned (.tuple #[str c.text, .int .i64 0]) ∧ Only [] w w' := by
  have Hr := Lib.hid (rright_any c)
  rw [hr] at Hr
  subst hc
  clear hr
  have HT : Hid (Cf.text ⟨5, ix, wo, 0, false, 0, 0, 0, false, false, 0, false⟩ = [109, 111, 118, 101, 32] ++ (numL 10 ix ++ 32 :: numL 10 wo)) := Lib.hid (by simp [Cf.text, Cf.words, Lib.join, kindW, dec, List.intercalate])
  have HA := Lib.hid (rnumber_10 ix (by omega))
  have lA : (numL 10 ix).length ≤ 16 := rnum_len 10 (by omega) 15 ix (by omega)
  have HB := Lib.hid (rnumber_10 wo (by omega))
  have lB : (numL 10 wo).length ≤ 16 := rnum_len 10 (by omega) 15 wo (by omega)
  generalize numL 10 ix = A at *
  generalize numL 10 wo = B at *
  go_enter Tryd.func28, Tryd.ntmps28
  go_wp2_with fail
  refine (Hr.out _).mono ?_
  rintro e w1 ⟨rfl, hO1⟩
  have hE : CfB w1 w.heap.size ⟨5, ix, wo, 0, false, 0, 0, 0, false, false, 0, false⟩ := hO1.cf (Blk.new' rfl rfl) (by simp)
  have hO := ((Only.refl [] w).alloc (.cells #[.int .i64 5, .int .i64 ix, .int .i64 wo, .int .i64 0, .bool false, .int .i64 0, .int .u32 0, .int .u32 0, .bool false, .bool false, .int .i64 0, .bool false] 29)).trans hO1
  clear hO1 Hr
  go_wp2_with fail
  refine wp_region_D (Only [] w1) (by kernel_rfl) (by kernel_rfl) ((Only.refl _ _).drew) ?_
  repeat (
    refine wpT_step ?_ (stD rfl (fun w' hD => ?_)) ?_
    rotate_left
    · obtain ⟨c0, c1, c2, c3, -⟩ := (hD.cf hE (by simp)).c
      simp only at c0 c1 c2 c3
      go_simp
      first
        | (rw [if_neg (by omega)]; refine ⟨?_, hD⟩; rfl)
        | (refine ⟨?_, hD⟩; rfl)
        | (change Calls _ _ _ _ _; (with_reducible refine (HA.out w').mono ?_); rintro e w'' ⟨rfl, h⟩; refine ⟨?_, hD.trans h⟩; rfl)
        | (change Calls _ _ _ _ _; (with_reducible refine (HB.out w').mono ?_); rintro e w'' ⟨rfl, h⟩; refine ⟨?_, hD.trans h⟩; rfl)
    simp only [Act.put, List.setIfInBounds_toArray, List.set_cons_succ, List.set_cons_zero, Nat.zero_add, Nat.reduceAdd])
  refine wpT_nil ?_
  intro w2 hD
  have hE2 := hD.cf hE (by simp)
  have hO2 := hO.trans hD
  clear hD hE hO
  obtain ⟨c0, c1, c2, c3, c4, c5, c6, c7, c8, c9, c10, c11, -⟩ := hE2.c
  simp only at c0 c1 c2 c3 c4 c5 c6 c7 c8 c9 c10 c11
  go_wp2
  all_goals first
    | (exfalso; omega)
    | (go_ret2
       exact ⟨by rw [HT.out]; simp, hO2⟩)

set_option maxRecDepth 100000 in
set_option maxHeartbeats 8000000 in
theorem rshow_6 (ix ln : Nat) (hi : ix ≤ 999) (hl : ln ≤ 99) (c : Cf) (hc : c = ⟨6, ix, 0, ln, false, 0, 0, 0, false, false, 0, false⟩) (hr : c.right = true) (w : World) :
    Calls Tryd.prog 28 #[c.agg] w fun e w' => e = .returned (.tuple #[str c.text, .int .i64 0]) ∧ Only [] w w' := by
  have Hr := Lib.hid (rright_any c)
  rw [hr] at Hr
  subst hc
  clear hr
  have HT : Hid (Cf.text ⟨6, ix, 0, ln, false, 0, 0, 0, false, false, 0, false⟩ = [114, 111, 117, 116, 101, 32] ++ (numL 10 ix ++ 32 :: numL 10 ln)) := Lib.hid (by have hq : ¬ ((ln : Int) < 0) := (by omega); simp [Cf.text, Cf.words, Lib.join, kindW, dec, lineL, List.intercalate, hq])
  have HA := Lib.hid (rnumber_10 ix (by omega))
  have lA : (numL 10 ix).length ≤ 16 := rnum_len 10 (by omega) 15 ix (by omega)
  have HB := Lib.hid rnumber_zero
  have HC := Lib.hid (rnumber_10 ln (by omega))
  have lC : (numL 10 ln).length ≤ 16 := rnum_len 10 (by omega) 15 ln (by omega)
  generalize numL 10 ix = A at *
  generalize numL 10 ln = C at *
  go_enter Tryd.func28, Tryd.ntmps28
  go_wp2_with fail
  refine (Hr.out _).mono ?_
  rintro e w1 ⟨rfl, hO1⟩
  have hE : CfB w1 w.heap.size ⟨6, ix, 0, ln, false, 0, 0, 0, false, false, 0, false⟩ := hO1.cf (Blk.new' rfl rfl) (by simp)
  have hO := ((Only.refl [] w).alloc (.cells #[.int .i64 6, .int .i64 ix, .int .i64 0, .int .i64 ln, .bool false, .int .i64 0, .int .u32 0, .int .u32 0, .bool false, .bool false, .int .i64 0, .bool false] 29)).trans hO1
  clear hO1 Hr
  go_wp2_with fail
  refine wp_region_D (Only [] w1) (by kernel_rfl) (by kernel_rfl) ((Only.refl _ _).drew) ?_
  repeat (
    refine wpT_step ?_ (stD rfl (fun w' hD => ?_)) ?_
    rotate_left
    · obtain ⟨c0, c1, c2, c3, -⟩ := (hD.cf hE (by simp)).c
      simp only at c0 c1 c2 c3
      go_simp
      first
        | (rw [if_neg (by omega)]; refine ⟨?_, hD⟩; rfl)
        | (refine ⟨?_, hD⟩; rfl)
        | (change Calls _ _ _ _ _; (with_reducible refine (HA.out w').mono ?_); rintro e w'' ⟨rfl, h⟩; refine ⟨?_, hD.trans h⟩; rfl)
        | (change Calls _ _ _ _ _; (with_reducible refine (HB.out w').mono ?_); rintro e w'' ⟨rfl, h⟩; refine ⟨?_, hD.trans h⟩; rfl)
        | (change Calls _ _ _ _ _; (with_reducible refine (HC.out w').mono ?_); rintro e w'' ⟨rfl, h⟩; refine ⟨?_, hD.trans h⟩; rfl)
    simp only [Act.put, List.setIfInBounds_toArray, List.set_cons_succ, List.set_cons_zero, Nat.zero_add, Nat.reduceAdd])
  refine wpT_nil ?_
  intro w2 hD
  have hE2 := hD.cf hE (by simp)
  have hO2 := hO.trans hD
  clear hD hE hO
  obtain ⟨c0, c1, c2, c3, c4, c5, c6, c7, c8, c9, c10, c11, -⟩ := hE2.c
  simp only at c0 c1 c2 c3 c4 c5 c6 c7 c8 c9 c10 c11
  have hln : ¬ (ln : Int) < 0 := by omega
  go_wp2_with (refine (HC.out _).mono ?_; rintro e w5 ⟨rfl, hO5⟩; have hO2 := hO2.trans hO5)
  all_goals first
    | (exfalso; omega)
    | (go_ret2
       exact ⟨by rw [HT.out]; simp, hO2⟩)

set_option maxRecDepth 100000 in
set_option maxHeartbeats 8000000 in
theorem rshow_6n (ix : Nat) (hi : ix ≤ 999) (c : Cf) (hc : c = ⟨6, ix, 0, -1, false, 0, 0, 0, false, false, 0, false⟩) (hr : c.right = true) (w : World) :
    Calls Tryd.prog 28 #[c.agg] w fun e w' => e = .returned (.tuple #[str c.text, .int .i64 0]) ∧ Only [] w w' := by
  have Hr := Lib.hid (rright_any c)
  rw [hr] at Hr
  subst hc
  clear hr
  have HT : Hid (Cf.text ⟨6, ix, 0, -1, false, 0, 0, 0, false, false, 0, false⟩ = [114, 111, 117, 116, 101, 32] ++ (numL 10 ix ++ [32, 45])) := Lib.hid (by simp [Cf.text, Cf.words, Lib.join, kindW, dec, lineL, List.intercalate])
  have HA := Lib.hid (rnumber_10 ix (by omega))
  have lA : (numL 10 ix).length ≤ 16 := rnum_len 10 (by omega) 15 ix (by omega)
  have HB := Lib.hid rnumber_zero
  generalize numL 10 ix = A at *
  go_enter Tryd.func28, Tryd.ntmps28
  go_wp2_with fail
  refine (Hr.out _).mono ?_
  rintro e w1 ⟨rfl, hO1⟩
  have hE : CfB w1 w.heap.size ⟨6, ix, 0, -1, false, 0, 0, 0, false, false, 0, false⟩ := hO1.cf (Blk.new' rfl rfl) (by simp)
  have hO := ((Only.refl [] w).alloc (.cells #[.int .i64 6, .int .i64 ix, .int .i64 0, .int .i64 (-1), .bool false, .int .i64 0, .int .u32 0, .int .u32 0, .bool false, .bool false, .int .i64 0, .bool false] 29)).trans hO1
  clear hO1 Hr
  go_wp2_with fail
  refine wp_region_D (Only [] w1) (by kernel_rfl) (by kernel_rfl) ((Only.refl _ _).drew) ?_
  repeat (
    refine wpT_step ?_ (stD rfl (fun w' hD => ?_)) ?_
    rotate_left
    · obtain ⟨c0, c1, c2, c3, -⟩ := (hD.cf hE (by simp)).c
      simp only at c0 c1 c2 c3
      go_simp
      first
        | (rw [if_neg (by omega)]; refine ⟨?_, hD⟩; rfl)
        | (refine ⟨?_, hD⟩; rfl)
        | (change Calls _ _ _ _ _; (with_reducible refine (HA.out w').mono ?_); rintro e w'' ⟨rfl, h⟩; refine ⟨?_, hD.trans h⟩; rfl)
        | (change Calls _ _ _ _ _; (with_reducible refine (HB.out w').mono ?_); rintro e w'' ⟨rfl, h⟩; refine ⟨?_, hD.trans h⟩; rfl)
    simp only [Act.put, List.setIfInBounds_toArray, List.set_cons_succ, List.set_cons_zero, Nat.zero_add, Nat.reduceAdd])
  refine wpT_nil ?_
  intro w2 hD
  have hE2 := hD.cf hE (by simp)
  have hO2 := hO.trans hD
  clear hD hE hO
  obtain ⟨c0, c1, c2, c3, c4, c5, c6, c7, c8, c9, c10, c11, -⟩ := hE2.c
  simp only at c0 c1 c2 c3 c4 c5 c6 c7 c8 c9 c10 c11
  go_wp2
  all_goals first
    | (exfalso; omega)
    | (go_ret2
       exact ⟨by rw [HT.out]; simp, hO2⟩)

set_option maxRecDepth 100000 in
set_option maxHeartbeats 8000000 in
theorem rshow_7  (c : Cf) (hc : c = ⟨7, 0, 0, 0, false, 0, 0, 0, false, false, 0, false⟩) (hr : c.right = true) (w : World) :
    Calls Tryd.prog 28 #[c.agg] w fun e w' => e = .returned (.tuple #[str c.text, .int .i64 0]) ∧ Only [] w w' := by
  have Hr := Lib.hid (rright_any c)
  rw [hr] at Hr
  subst hc
  clear hr
  have HT : Hid (Cf.text ⟨7, 0, 0, 0, false, 0, 0, 0, false, false, 0, false⟩ = [108, 111, 99, 107]) := Lib.hid (by simp [Cf.text, Cf.words, Lib.join, kindW, List.intercalate])
  have HA := Lib.hid rnumber_zero
  go_enter Tryd.func28, Tryd.ntmps28
  go_wp2_with fail
  refine (Hr.out _).mono ?_
  rintro e w1 ⟨rfl, hO1⟩
  have hE : CfB w1 w.heap.size ⟨7, 0, 0, 0, false, 0, 0, 0, false, false, 0, false⟩ := hO1.cf (Blk.new' rfl rfl) (by simp)
  have hO := ((Only.refl [] w).alloc (.cells #[.int .i64 7, .int .i64 0, .int .i64 0, .int .i64 0, .bool false, .int .i64 0, .int .u32 0, .int .u32 0, .bool false, .bool false, .int .i64 0, .bool false] 29)).trans hO1
  clear hO1 Hr
  go_wp2_with fail
  refine wp_region_D (Only [] w1) (by kernel_rfl) (by kernel_rfl) ((Only.refl _ _).drew) ?_
  repeat (
    refine wpT_step ?_ (stD rfl (fun w' hD => ?_)) ?_
    rotate_left
    · obtain ⟨c0, c1, c2, c3, -⟩ := (hD.cf hE (by simp)).c
      simp only at c0 c1 c2 c3
      go_simp
      first
        | (rw [if_neg (by omega)]; refine ⟨?_, hD⟩; rfl)
        | (refine ⟨?_, hD⟩; rfl)
        | (change Calls _ _ _ _ _; (with_reducible refine (HA.out w').mono ?_); rintro e w'' ⟨rfl, h⟩; refine ⟨?_, hD.trans h⟩; rfl)
    simp only [Act.put, List.setIfInBounds_toArray, List.set_cons_succ, List.set_cons_zero, Nat.zero_add, Nat.reduceAdd])
  refine wpT_nil ?_
  intro w2 hD
  have hE2 := hD.cf hE (by simp)
  have hO2 := hO.trans hD
  clear hD hE hO
  obtain ⟨c0, c1, c2, c3, c4, c5, c6, c7, c8, c9, c10, c11, -⟩ := hE2.c
  simp only at c0 c1 c2 c3 c4 c5 c6 c7 c8 c9 c10 c11
  go_wp2
  all_goals first
    | (exfalso; omega)
    | (go_ret2
       exact ⟨by rw [HT.out]; simp, hO2⟩)

set_option maxRecDepth 100000 in
set_option maxHeartbeats 8000000 in
theorem rshow_1t (ix rw fr tt rk : Nat) (rd wt : Bool) (hi : ix ≤ 999) (hrw : rw ≤ 99) (hfr : fr < 4294967296) (htt : tt < 4294967296) (hrk : rk ≤ 999) (c : Cf) (hc : c = ⟨1, ix, 0, 0, true, rw, fr, tt, rd, wt, rk, true⟩) (hr : c.right = true) (w : World) :
    Calls Tryd.prog 28 #[c.agg] w fun e w' => e = .returned (.tuple #[str c.text, .int .i64 0]) ∧ Only [] w w' := by
  have Hr := Lib.hid (rright_any c)
  rw [hr] at Hr
  subst hc
  clear hr
  have HT : Hid (Cf.text ⟨1, ix, 0, 0, true, rw, fr, tt, rd, wt, rk, true⟩ = [114, 101, 103, 105, 111, 110, 32] ++ (numL 10 ix ++ 32 :: (numL 10 rw ++ 32 :: (numL 16 fr ++ 32 :: (numL 16 tt ++ 32 :: (rightsL rd wt ++ 32 :: (numL 10 rk ++ [32, 108, 111, 99, 107, 101, 100]))))))) := Lib.hid (by simp [Cf.text, Cf.words, Lib.join, kindW, dec, hexa, List.intercalate])
  have HA := Lib.hid (rnumber_10 ix (by omega))
  have lA : (numL 10 ix).length ≤ 16 := rnum_len 10 (by omega) 15 ix (by omega)
  have HB := Lib.hid rnumber_zero
  have HC := Lib.hid (rnumber_10 rw (by omega))
  have lC : (numL 10 rw).length ≤ 16 := rnum_len 10 (by omega) 15 rw (by omega)
  have HD := Lib.hid (rnumber_16 fr (by omega))
  have lD : (numL 16 fr).length ≤ 16 := rnum_len 16 (by omega) 15 fr (by omega)
  have HE := Lib.hid (rnumber_16 tt (by omega))
  have lE : (numL 16 tt).length ≤ 16 := rnum_len 16 (by omega) 15 tt (by omega)
  have HF := Lib.hid (rnumber_10 rk (by omega))
  have lF : (numL 10 rk).length ≤ 16 := rnum_len 10 (by omega) 15 rk (by omega)
  generalize numL 10 ix = A at *
  generalize numL 10 rw = C at *
  generalize numL 16 fr = D at *
  generalize numL 16 tt = E at *
  generalize numL 10 rk = F at *
  have wf : IntKind.i64.wrap (fr : Int) = (fr : Int) := IntWalk.i64_in _ (by omega)
  have wt2 : IntKind.i64.wrap (tt : Int) = (tt : Int) := IntWalk.i64_in _ (by omega)
  have lR : (rightsL rd wt).length ≤ 2 := by cases rd <;> cases wt <;> simp [rightsL]
  have HG := Lib.hid (rrights_any true rd wt true rw fr tt rk)
  generalize rightsL rd wt = G at *
  go_enter Tryd.func28, Tryd.ntmps28
  go_wp2_with fail
  refine (Hr.out _).mono ?_
  rintro e w1 ⟨rfl, hO1⟩
  have hE : CfB w1 w.heap.size ⟨1, ix, 0, 0, true, rw, fr, tt, rd, wt, rk, true⟩ := hO1.cf (Blk.new' rfl rfl) (by simp)
  have hO := ((Only.refl [] w).alloc (.cells #[.int .i64 1, .int .i64 ix, .int .i64 0, .int .i64 0, .bool true, .int .i64 rw, .int .u32 fr, .int .u32 tt, .bool rd, .bool wt, .int .i64 rk, .bool true] 29)).trans hO1
  clear hO1 Hr
  go_wp2_with fail
  refine wp_region_D (Only [] w1) (by kernel_rfl) (by kernel_rfl) ((Only.refl _ _).drew) ?_
  repeat (
    refine wpT_step ?_ (stD rfl (fun w' hD => ?_)) ?_
    rotate_left
    · obtain ⟨c0, c1, c2, c3, -⟩ := (hD.cf hE (by simp)).c
      simp only at c0 c1 c2 c3
      go_simp
      first
        | (rw [if_neg (by omega)]; refine ⟨?_, hD⟩; rfl)
        | (refine ⟨?_, hD⟩; rfl)
        | (change Calls _ _ _ _ _; (with_reducible refine (HA.out w').mono ?_); rintro e w'' ⟨rfl, h⟩; refine ⟨?_, hD.trans h⟩; rfl)
        | (change Calls _ _ _ _ _; (with_reducible refine (HB.out w').mono ?_); rintro e w'' ⟨rfl, h⟩; refine ⟨?_, hD.trans h⟩; rfl)
        | (change Calls _ _ _ _ _; (with_reducible refine (HC.out w').mono ?_); rintro e w'' ⟨rfl, h⟩; refine ⟨?_, hD.trans h⟩; rfl)
        | (change Calls _ _ _ _ _; (with_reducible refine (HD.out w').mono ?_); rintro e w'' ⟨rfl, h⟩; refine ⟨?_, hD.trans h⟩; rfl)
        | (change Calls _ _ _ _ _; (with_reducible refine (HE.out w').mono ?_); rintro e w'' ⟨rfl, h⟩; refine ⟨?_, hD.trans h⟩; rfl)
        | (change Calls _ _ _ _ _; (with_reducible refine (HF.out w').mono ?_); rintro e w'' ⟨rfl, h⟩; refine ⟨?_, hD.trans h⟩; rfl)
    simp only [Act.put, List.setIfInBounds_toArray, List.set_cons_succ, List.set_cons_zero, Nat.zero_add, Nat.reduceAdd])
  refine wpT_nil ?_
  intro w2 hD
  have hE2 := hD.cf hE (by simp)
  have hO2 := hO.trans hD
  clear hD hE hO
  obtain ⟨c0, c1, c2, c3, c4, c5, c6, c7, c8, c9, c10, c11, -⟩ := hE2.c
  simp only at c0 c1 c2 c3 c4 c5 c6 c7 c8 c9 c10 c11
  go_wp2_with fail
  have hR : Blk (w2.alloc (.cells #[.bool true, .int .i64 rw, .int .u32 fr, .int .u32 tt, .bool rd, .bool wt, .int .i64 rk, .bool true] 27)) w2.heap.size 27 #[.bool true, .int .i64 rw, .int .u32 fr, .int .u32 tt, .bool rd, .bool wt, .int .i64 rk, .bool true] := Blk.new' rfl rfl
  have hO3 := hO2.alloc (.cells #[.bool true, .int .i64 rw, .int .u32 fr, .int .u32 tt, .bool rd, .bool wt, .int .i64 rk, .bool true] 27)
  generalize hW3 : w2.alloc (.cells #[.bool true, .int .i64 rw, .int .u32 fr, .int .u32 tt, .bool rd, .bool wt, .int .i64 rk, .bool true] 27) = W3 at *
  have HW3 := Lib.hid hW3
  clear hW3 c0 c1 c2 c3 c4 c5 c6 c7 c8 c9 c10 c11
  refine wp_region_D (Only [] W3) (by kernel_rfl) (by kernel_rfl) ((Only.refl _ _).drew) ?_
  repeat (
    refine wpT_step ?_ (stD rfl (fun w' hD => ?_)) ?_
    rotate_left
    · have hR' := hD.blk hR (by simp)
      have r0 : w'.cell? ⟨w2.heap.size, 0, none⟩ = some (.bool true) := hR'.cell 0
      have r1 : w'.cell? ⟨w2.heap.size, 1, none⟩ = some (.int .i64 rw) := hR'.cell 1
      have r2 : w'.cell? ⟨w2.heap.size, 2, none⟩ = some (.int .u32 fr) := hR'.cell 2
      have r3 : w'.cell? ⟨w2.heap.size, 3, none⟩ = some (.int .u32 tt) := hR'.cell 3
      have r4 : w'.cell? ⟨w2.heap.size, 4, none⟩ = some (.bool rd) := hR'.cell 4
      have r5 : w'.cell? ⟨w2.heap.size, 5, none⟩ = some (.bool wt) := hR'.cell 5
      have r6 : w'.cell? ⟨w2.heap.size, 6, none⟩ = some (.int .i64 rk) := hR'.cell 6
      have r7 : w'.cell? ⟨w2.heap.size, 7, none⟩ = some (.bool true) := hR'.cell 7
      go_simp
      first
        | (rw [if_neg (by omega)]; refine ⟨?_, hD⟩; rfl)
        | (refine ⟨?_, hD⟩; rfl)
        | (change Calls _ _ _ _ _; (with_reducible refine (HC.out w').mono ?_); rintro e w'' ⟨rfl, h⟩; refine ⟨?_, hD.trans h⟩; rfl)
        | (change Calls _ _ _ _ _; (with_reducible refine (HD.out w').mono ?_); rintro e w'' ⟨rfl, h⟩; refine ⟨?_, hD.trans h⟩; rfl)
        | (change Calls _ _ _ _ _; (with_reducible refine (HE.out w').mono ?_); rintro e w'' ⟨rfl, h⟩; refine ⟨?_, hD.trans h⟩; rfl)
        | (change Calls _ _ _ _ _; (with_reducible refine (HF.out w').mono ?_); rintro e w'' ⟨rfl, h⟩; refine ⟨?_, hD.trans h⟩; rfl)
        | (change Calls _ _ _ _ _; (with_reducible refine (HG.out w').mono ?_); rintro e w'' ⟨rfl, h⟩; refine ⟨?_, hD.trans h⟩; rfl)
    simp only [Act.put, List.setIfInBounds_toArray, List.set_cons_succ, List.set_cons_zero, Nat.zero_add, Nat.reduceAdd])
  refine wpT_nil ?_
  intro w6 hD
  have hR6 := hD.blk hR (by simp)
  have hO2 := hO3.trans hD
  have r7 : w6.cell? ⟨w2.heap.size, 7, none⟩ = some (.bool true) := hR6.cell 7
  clear hD hR hR6 hO3
  go_wp2
  all_goals first
    | (exfalso; omega)
    | (go_ret2
       exact ⟨by rw [HT.out]; simp, hO2⟩)

set_option maxRecDepth 100000 in
set_option maxHeartbeats 8000000 in
theorem rshow_1f (ix rw fr tt rk : Nat) (rd wt : Bool) (hi : ix ≤ 999) (hrw : rw ≤ 99) (hfr : fr < 4294967296) (htt : tt < 4294967296) (hrk : rk ≤ 999) (c : Cf) (hc : c = ⟨1, ix, 0, 0, true, rw, fr, tt, rd, wt, rk, false⟩) (hr : c.right = true) (w : World) :
    Calls Tryd.prog 28 #[c.agg] w fun e w' => e = .returned (.tuple #[str c.text, .int .i64 0]) ∧ Only [] w w' := by
  have Hr := Lib.hid (rright_any c)
  rw [hr] at Hr
  subst hc
  clear hr
  have HT : Hid (Cf.text ⟨1, ix, 0, 0, true, rw, fr, tt, rd, wt, rk, false⟩ = [114, 101, 103, 105, 111, 110, 32] ++ (numL 10 ix ++ 32 :: (numL 10 rw ++ 32 :: (numL 16 fr ++ 32 :: (numL 16 tt ++ 32 :: (rightsL rd wt ++ 32 :: (numL 10 rk ++ []))))))) := Lib.hid (by simp [Cf.text, Cf.words, Lib.join, kindW, dec, hexa, List.intercalate])
  have HA := Lib.hid (rnumber_10 ix (by omega))
  have lA : (numL 10 ix).length ≤ 16 := rnum_len 10 (by omega) 15 ix (by omega)
  have HB := Lib.hid rnumber_zero
  have HC := Lib.hid (rnumber_10 rw (by omega))
  have lC : (numL 10 rw).length ≤ 16 := rnum_len 10 (by omega) 15 rw (by omega)
  have HD := Lib.hid (rnumber_16 fr (by omega))
  have lD : (numL 16 fr).length ≤ 16 := rnum_len 16 (by omega) 15 fr (by omega)
  have HE := Lib.hid (rnumber_16 tt (by omega))
  have lE : (numL 16 tt).length ≤ 16 := rnum_len 16 (by omega) 15 tt (by omega)
  have HF := Lib.hid (rnumber_10 rk (by omega))
  have lF : (numL 10 rk).length ≤ 16 := rnum_len 10 (by omega) 15 rk (by omega)
  generalize numL 10 ix = A at *
  generalize numL 10 rw = C at *
  generalize numL 16 fr = D at *
  generalize numL 16 tt = E at *
  generalize numL 10 rk = F at *
  have wf : IntKind.i64.wrap (fr : Int) = (fr : Int) := IntWalk.i64_in _ (by omega)
  have wt2 : IntKind.i64.wrap (tt : Int) = (tt : Int) := IntWalk.i64_in _ (by omega)
  have lR : (rightsL rd wt).length ≤ 2 := by cases rd <;> cases wt <;> simp [rightsL]
  have HG := Lib.hid (rrights_any true rd wt false rw fr tt rk)
  generalize rightsL rd wt = G at *
  go_enter Tryd.func28, Tryd.ntmps28
  go_wp2_with fail
  refine (Hr.out _).mono ?_
  rintro e w1 ⟨rfl, hO1⟩
  have hE : CfB w1 w.heap.size ⟨1, ix, 0, 0, true, rw, fr, tt, rd, wt, rk, false⟩ := hO1.cf (Blk.new' rfl rfl) (by simp)
  have hO := ((Only.refl [] w).alloc (.cells #[.int .i64 1, .int .i64 ix, .int .i64 0, .int .i64 0, .bool true, .int .i64 rw, .int .u32 fr, .int .u32 tt, .bool rd, .bool wt, .int .i64 rk, .bool false] 29)).trans hO1
  clear hO1 Hr
  go_wp2_with fail
  refine wp_region_D (Only [] w1) (by kernel_rfl) (by kernel_rfl) ((Only.refl _ _).drew) ?_
  repeat (
    refine wpT_step ?_ (stD rfl (fun w' hD => ?_)) ?_
    rotate_left
    · obtain ⟨c0, c1, c2, c3, -⟩ := (hD.cf hE (by simp)).c
      simp only at c0 c1 c2 c3
      go_simp
      first
        | (rw [if_neg (by omega)]; refine ⟨?_, hD⟩; rfl)
        | (refine ⟨?_, hD⟩; rfl)
        | (change Calls _ _ _ _ _; (with_reducible refine (HA.out w').mono ?_); rintro e w'' ⟨rfl, h⟩; refine ⟨?_, hD.trans h⟩; rfl)
        | (change Calls _ _ _ _ _; (with_reducible refine (HB.out w').mono ?_); rintro e w'' ⟨rfl, h⟩; refine ⟨?_, hD.trans h⟩; rfl)
        | (change Calls _ _ _ _ _; (with_reducible refine (HC.out w').mono ?_); rintro e w'' ⟨rfl, h⟩; refine ⟨?_, hD.trans h⟩; rfl)
        | (change Calls _ _ _ _ _; (with_reducible refine (HD.out w').mono ?_); rintro e w'' ⟨rfl, h⟩; refine ⟨?_, hD.trans h⟩; rfl)
        | (change Calls _ _ _ _ _; (with_reducible refine (HE.out w').mono ?_); rintro e w'' ⟨rfl, h⟩; refine ⟨?_, hD.trans h⟩; rfl)
        | (change Calls _ _ _ _ _; (with_reducible refine (HF.out w').mono ?_); rintro e w'' ⟨rfl, h⟩; refine ⟨?_, hD.trans h⟩; rfl)
    simp only [Act.put, List.setIfInBounds_toArray, List.set_cons_succ, List.set_cons_zero, Nat.zero_add, Nat.reduceAdd])
  refine wpT_nil ?_
  intro w2 hD
  have hE2 := hD.cf hE (by simp)
  have hO2 := hO.trans hD
  clear hD hE hO
  obtain ⟨c0, c1, c2, c3, c4, c5, c6, c7, c8, c9, c10, c11, -⟩ := hE2.c
  simp only at c0 c1 c2 c3 c4 c5 c6 c7 c8 c9 c10 c11
  go_wp2_with fail
  have hR : Blk (w2.alloc (.cells #[.bool true, .int .i64 rw, .int .u32 fr, .int .u32 tt, .bool rd, .bool wt, .int .i64 rk, .bool false] 27)) w2.heap.size 27 #[.bool true, .int .i64 rw, .int .u32 fr, .int .u32 tt, .bool rd, .bool wt, .int .i64 rk, .bool false] := Blk.new' rfl rfl
  have hO3 := hO2.alloc (.cells #[.bool true, .int .i64 rw, .int .u32 fr, .int .u32 tt, .bool rd, .bool wt, .int .i64 rk, .bool false] 27)
  generalize hW3 : w2.alloc (.cells #[.bool true, .int .i64 rw, .int .u32 fr, .int .u32 tt, .bool rd, .bool wt, .int .i64 rk, .bool false] 27) = W3 at *
  have HW3 := Lib.hid hW3
  clear hW3 c0 c1 c2 c3 c4 c5 c6 c7 c8 c9 c10 c11
  refine wp_region_D (Only [] W3) (by kernel_rfl) (by kernel_rfl) ((Only.refl _ _).drew) ?_
  repeat (
    refine wpT_step ?_ (stD rfl (fun w' hD => ?_)) ?_
    rotate_left
    · have hR' := hD.blk hR (by simp)
      have r0 : w'.cell? ⟨w2.heap.size, 0, none⟩ = some (.bool true) := hR'.cell 0
      have r1 : w'.cell? ⟨w2.heap.size, 1, none⟩ = some (.int .i64 rw) := hR'.cell 1
      have r2 : w'.cell? ⟨w2.heap.size, 2, none⟩ = some (.int .u32 fr) := hR'.cell 2
      have r3 : w'.cell? ⟨w2.heap.size, 3, none⟩ = some (.int .u32 tt) := hR'.cell 3
      have r4 : w'.cell? ⟨w2.heap.size, 4, none⟩ = some (.bool rd) := hR'.cell 4
      have r5 : w'.cell? ⟨w2.heap.size, 5, none⟩ = some (.bool wt) := hR'.cell 5
      have r6 : w'.cell? ⟨w2.heap.size, 6, none⟩ = some (.int .i64 rk) := hR'.cell 6
      have r7 : w'.cell? ⟨w2.heap.size, 7, none⟩ = some (.bool false) := hR'.cell 7
      go_simp
      first
        | (rw [if_neg (by omega)]; refine ⟨?_, hD⟩; rfl)
        | (refine ⟨?_, hD⟩; rfl)
        | (change Calls _ _ _ _ _; (with_reducible refine (HC.out w').mono ?_); rintro e w'' ⟨rfl, h⟩; refine ⟨?_, hD.trans h⟩; rfl)
        | (change Calls _ _ _ _ _; (with_reducible refine (HD.out w').mono ?_); rintro e w'' ⟨rfl, h⟩; refine ⟨?_, hD.trans h⟩; rfl)
        | (change Calls _ _ _ _ _; (with_reducible refine (HE.out w').mono ?_); rintro e w'' ⟨rfl, h⟩; refine ⟨?_, hD.trans h⟩; rfl)
        | (change Calls _ _ _ _ _; (with_reducible refine (HF.out w').mono ?_); rintro e w'' ⟨rfl, h⟩; refine ⟨?_, hD.trans h⟩; rfl)
        | (change Calls _ _ _ _ _; (with_reducible refine (HG.out w').mono ?_); rintro e w'' ⟨rfl, h⟩; refine ⟨?_, hD.trans h⟩; rfl)
    simp only [Act.put, List.setIfInBounds_toArray, List.set_cons_succ, List.set_cons_zero, Nat.zero_add, Nat.reduceAdd])
  refine wpT_nil ?_
  intro w6 hD
  have hR6 := hD.blk hR (by simp)
  have hO2 := hO3.trans hD
  have r7 : w6.cell? ⟨w2.heap.size, 7, none⟩ = some (.bool false) := hR6.cell 7
  clear hD hR hR6 hO3
  go_wp2
  all_goals first
    | (exfalso; omega)
    | (go_ret2
       exact ⟨by rw [HT.out]; simp, hO2⟩)
end Go.Proofs.YtghoggjllcbalaaDoor
