/- Line of package prog, walked at kinds of right instructions. Conditions: the listed variables are laid; words fit. -/
import Derived.Test.YtagmoehjcgjnjaaGreatDoorPgL
import Derived.Deep.RegionWith
import Derived.Deep.DeepCutAuto
import Derived.Outline
namespace Go.Proofs.YtagmoehjcgjnjaaGreatDoor
open Go Go.RowKit

set_option maxRecDepth 100000 in
set_option maxHeartbeats 4000000 in
theorem line_1 (sz ad : Nat) (h1 : 0 < sz) (h1b : sz < 1000) (h2 : ad < 4294967296) (x : In) (hx : x = ⟨1, sz, ad, false, 0, 0, Cf.zero⟩) (hok : x.ok = true) (w : World) (hg : Gl w) :
    Calls Tryz.prog 17 #[x.agg] w fun e w' => e = .returned (.tuple #[str (Lib.join [[108, 111, 97, 100], numL 10 sz, numL 16 ad] [32]), .int .i64 0]) ∧ Only [] w w' := by
  have HI := Lib.hid (fun W => instr_any x (by subst hx; exact (by decide : (0 : Int) ≤ 4294967295)) W)
  rw [hok] at HI
  have HX := Lib.hid hx
  have hN := Blk.new w 33 x.cs
  have HR := Lib.hid hN.rng
  have HN := Lib.hid hN
  clear hok hN hx
  go_enter Tryz.func17, Tryz.ntmps17
  go_upto_region 3 with (first
    | (refine wpList_ld 33 x w.heap.size 0 _ rfl (.inl rfl) rfl rfl HR.out ?_)
    | (go_at_call 10; refine (HI.out _).mono ?_; rintro e w1 ⟨rfl, hO1⟩))
  have hB1 := hO1.blk HN.out (by simp)
  have hOw1 := ((Only.refl [] w).alloc (.cells x.cs 33)).trans hO1
  clear HN HR HI hO1
  have c0 : w1.cell? ⟨w.heap.size, 0, none⟩ = some (.int .i64 1) := by have := (Blk.in_ hB1).c0; rw [HX.out] at this; exact this
  have l1 := (Look.word 1 (by decide) (.agg #[str [108, 111, 97, 100], .func (.func 39) #[] #[]]) rfl) ((w1.alloc (.map kindsE 10)).drew) w1.heap.size (at_last' rfl)
  have hlt := hB1.lt
  have hfl : ∀ W, (Instr.field 56 (.agg #[str [108, 111, 97, 100], .func (.func 39) #[] #[]]) 0).run Tryz.prog W = .ok (str [108, 111, 97, 100]) W := fun _ => by kernel_rfl
  have HB := Lib.hid (And.intro hB1 hOw1)
  clear hB1 hOw1
  go_cut [4] (fun s wx => LnS w wx x [[108, 111, 97, 100]] s)
  case first =>
    go_region_with (refine (kinds_map _).mono ?_; rintro e w2 ⟨rfl, rfl⟩)
    all_goals
      clear l1 c0 hfl
      go_wp2_with fail
      go_meet
      exact LnS.first HB.out.1 HB.out.2 (by decide) (by repeat (first | exact Only.refl _ _ | refine Only.drew ?_ | refine Only.alloc ?_ _)) (by first | exact Blk.new' rfl (by simp) | exact (Blk.new' rfl (by simp)).drew) (by simp)
  case rest =>
    have hL0 := hcut
    clear l1 c0 HB hcut hlt hfl
    obtain ⟨c0, c1, c2, c3, c4, c5, -⟩ := Blk.in_ hL0.1; rw [HX.out] at c0 c1 c2 c3 c4 c5; simp only at c0 c1 c2 c3 c4 c5
    have h1i : 0 < (sz : Int) := by omega
    go_upto_region 5 with fail
    have HL0 := Lib.hid hL0
    have HG := Lib.hid hg
    clear c0 c1 c2 c3 c4 c5 h1i hL0 hg
    refine wp_region_PT 6 _ (Only [] wc) (by kernel_rfl) (by kernel_rfl) (fun _ _ _ h => h) (.inl ⟨rfl, fun _ => rfl⟩) ((Only.refl _ _).drew) ?_
    simp only [Act.put, List.setIfInBounds_toArray, List.set_cons_succ, List.set_cons_zero, List.take_succ_cons, List.take_zero, List.drop_succ_cons, List.drop_zero]
    repeat (
      refine wpT_step ?_ (stD rfl (fun w' hD => ?_)) ?_
      rotate_left
      · obtain ⟨c0, c1, c2, c3, c4, c5, -⟩ := Blk.in_ (hD.blk HL0.out.1 (by simp))
        rw [HX.out] at c0 c1 c2 c3 c4 c5
        have hgw : Gl w' := HG.out.only (HL0.out.2.2.1.trans hD)
        go_simp
        first
          | (refine ⟨?_, hD⟩; rfl)
          | (change Calls _ _ _ _ _
             with_reducible refine (itoa_any sz (by omega) w' hgw).mono ?_
             rintro e w'' ⟨rfl, h⟩
             refine ⟨?_, hD.trans h⟩
             rfl)
          | (change Calls _ _ _ _ _
             with_reducible refine (hexp_any ad h2 w' hgw).mono ?_
             rintro e w'' ⟨rfl, h⟩
             refine ⟨?_, hD.trans h⟩
             rfl)
      simp only [Act.put, List.setIfInBounds_toArray, List.set_cons_succ, List.set_cons_zero, Nat.reduceAdd])
    refine wpT_nil ?_
    intro w8 hD8
    have hM0 := HL0.out.only hD8
    have hg := HG.out
    clear HL0 HG hD8
    have hb0 : Bnd [numL 10 sz, numL 16 ad] := ⟨Nat.le_of_ble_eq_true rfl, fun y hy => by simp at hy; rcases hy with rfl | rfl <;> first | exact numL_sh (by omega) (by omega) | exact numL_sh (by omega) h2⟩
    go_wp2_with (first
      | (go_at_call 31; refine (ln_join (xs := [[108, 111, 97, 100], numL 10 sz, numL 16 ad]) hL1 (Nat.le_of_ble_eq_true rfl)).mono ?_; rintro e w9 ⟨rfl, hO9⟩)
      | (at_builtin; refine wpList_append_ln rfl _ _ rfl w x [[108, 111, 97, 100]] [numL 10 sz, numL 16 ad] _ rfl (hM0.alloc _) _ _ rfl rfl (Blk.new' rfl rfl) (hb0) (Nat.le_of_ble_eq_true rfl) ?_; intro v1 wz1 hL1; obtain ⟨c0, c1, c2, c3, c4, c5, -⟩ := Blk.in_ hL1.1; rw [HX.out] at c0 c1 c2 c3 c4 c5; simp only at c0 c1 c2 c3 c4 c5))
    go_ret2
    exact ⟨rfl, hL1.2.2.1.trans hO9⟩

set_option maxRecDepth 100000 in
set_option maxHeartbeats 4000000 in
theorem line_1x (sz ad : Nat) (h1 : 0 < sz) (h1b : sz < 1000) (h2 : ad < 4294967296) (x : In) (hx : x = ⟨1, sz, ad, true, 0, 0, Cf.zero⟩) (hok : x.ok = true) (w : World) (hg : Gl w) :
    Calls Tryz.prog 17 #[x.agg] w fun e w' => e = .returned (.tuple #[str (Lib.join [[108, 111, 97, 100], numL 10 sz, numL 16 ad, [43]] [32]), .int .i64 0]) ∧ Only [] w w' := by
  have HI := Lib.hid (fun W => instr_any x (by subst hx; exact (by decide : (0 : Int) ≤ 4294967295)) W)
  rw [hok] at HI
  have HX := Lib.hid hx
  have hN := Blk.new w 33 x.cs
  have HR := Lib.hid hN.rng
  have HN := Lib.hid hN
  clear hok hN hx
  go_enter Tryz.func17, Tryz.ntmps17
  go_upto_region 3 with (first
    | (refine wpList_ld 33 x w.heap.size 0 _ rfl (.inl rfl) rfl rfl HR.out ?_)
    | (go_at_call 10; refine (HI.out _).mono ?_; rintro e w1 ⟨rfl, hO1⟩))
  have hB1 := hO1.blk HN.out (by simp)
  have hOw1 := ((Only.refl [] w).alloc (.cells x.cs 33)).trans hO1
  clear HN HR HI hO1
  have c0 : w1.cell? ⟨w.heap.size, 0, none⟩ = some (.int .i64 1) := by have := (Blk.in_ hB1).c0; rw [HX.out] at this; exact this
  have l1 := (Look.word 1 (by decide) (.agg #[str [108, 111, 97, 100], .func (.func 39) #[] #[]]) rfl) ((w1.alloc (.map kindsE 10)).drew) w1.heap.size (at_last' rfl)
  have hlt := hB1.lt
  have hfl : ∀ W, (Instr.field 56 (.agg #[str [108, 111, 97, 100], .func (.func 39) #[] #[]]) 0).run Tryz.prog W = .ok (str [108, 111, 97, 100]) W := fun _ => by kernel_rfl
  have HB := Lib.hid (And.intro hB1 hOw1)
  clear hB1 hOw1
  go_cut [4] (fun s wx => LnS w wx x [[108, 111, 97, 100]] s)
  case first =>
    go_region_with (refine (kinds_map _).mono ?_; rintro e w2 ⟨rfl, rfl⟩)
    all_goals
      clear l1 c0 hfl
      go_wp2_with fail
      go_meet
      exact LnS.first HB.out.1 HB.out.2 (by decide) (by repeat (first | exact Only.refl _ _ | refine Only.drew ?_ | refine Only.alloc ?_ _)) (by first | exact Blk.new' rfl (by simp) | exact (Blk.new' rfl (by simp)).drew) (by simp)
  case rest =>
    have hL0 := hcut
    clear l1 c0 HB hcut hlt hfl
    obtain ⟨c0, c1, c2, c3, c4, c5, -⟩ := Blk.in_ hL0.1; rw [HX.out] at c0 c1 c2 c3 c4 c5; simp only at c0 c1 c2 c3 c4 c5
    have h1i : 0 < (sz : Int) := by omega
    go_upto_region 5 with fail
    have HL0 := Lib.hid hL0
    have HG := Lib.hid hg
    clear c0 c1 c2 c3 c4 c5 h1i hL0 hg
    refine wp_region_PT 6 _ (Only [] wc) (by kernel_rfl) (by kernel_rfl) (fun _ _ _ h => h) (.inl ⟨rfl, fun _ => rfl⟩) ((Only.refl _ _).drew) ?_
    simp only [Act.put, List.setIfInBounds_toArray, List.set_cons_succ, List.set_cons_zero, List.take_succ_cons, List.take_zero, List.drop_succ_cons, List.drop_zero]
    repeat (
      refine wpT_step ?_ (stD rfl (fun w' hD => ?_)) ?_
      rotate_left
      · obtain ⟨c0, c1, c2, c3, c4, c5, -⟩ := Blk.in_ (hD.blk HL0.out.1 (by simp))
        rw [HX.out] at c0 c1 c2 c3 c4 c5
        have hgw : Gl w' := HG.out.only (HL0.out.2.2.1.trans hD)
        go_simp
        first
          | (refine ⟨?_, hD⟩; rfl)
          | (change Calls _ _ _ _ _
             with_reducible refine (itoa_any sz (by omega) w' hgw).mono ?_
             rintro e w'' ⟨rfl, h⟩
             refine ⟨?_, hD.trans h⟩
             rfl)
          | (change Calls _ _ _ _ _
             with_reducible refine (hexp_any ad h2 w' hgw).mono ?_
             rintro e w'' ⟨rfl, h⟩
             refine ⟨?_, hD.trans h⟩
             rfl)
      simp only [Act.put, List.setIfInBounds_toArray, List.set_cons_succ, List.set_cons_zero, Nat.reduceAdd])
    refine wpT_nil ?_
    intro w8 hD8
    have hM0 := HL0.out.only hD8
    have hg := HG.out
    clear HL0 HG hD8
    have hb0 : Bnd [numL 10 sz, numL 16 ad] := ⟨Nat.le_of_ble_eq_true rfl, fun y hy => by simp at hy; rcases hy with rfl | rfl <;> first | exact numL_sh (by omega) (by omega) | exact numL_sh (by omega) h2⟩
    have hb1 : Bnd [[43]] := ⟨Nat.le_of_ble_eq_true rfl, fun y hy => by simp at hy; subst hy; exact by decide⟩
    go_wp2_with (first
      | (go_at_call 31; refine (ln_join (xs := [[108, 111, 97, 100], numL 10 sz, numL 16 ad, [43]]) hL2 (Nat.le_of_ble_eq_true rfl)).mono ?_; rintro e w9 ⟨rfl, hO9⟩)
      | (at_builtin; refine wpList_append_ln rfl _ _ rfl w x [[108, 111, 97, 100], numL 10 sz, numL 16 ad] [[43]] _ rfl (hL1.alloc _) _ _ rfl rfl (Blk.new' rfl rfl) (hb1) (Nat.le_of_ble_eq_true rfl) ?_; intro v2 wz2 hL2; obtain ⟨c0, c1, c2, c3, c4, c5, -⟩ := Blk.in_ hL2.1; rw [HX.out] at c0 c1 c2 c3 c4 c5; simp only at c0 c1 c2 c3 c4 c5)
      | (at_builtin; refine wpList_append_ln rfl _ _ rfl w x [[108, 111, 97, 100]] [numL 10 sz, numL 16 ad] _ rfl (hM0.alloc _) _ _ rfl rfl (Blk.new' rfl rfl) (hb0) (Nat.le_of_ble_eq_true rfl) ?_; intro v1 wz1 hL1; obtain ⟨c0, c1, c2, c3, c4, c5, -⟩ := Blk.in_ hL1.1; rw [HX.out] at c0 c1 c2 c3 c4 c5; simp only at c0 c1 c2 c3 c4 c5))
    go_ret2
    exact ⟨rfl, hL2.2.2.1.trans hO9⟩

set_option maxRecDepth 100000 in
set_option maxHeartbeats 4000000 in
theorem line_3 (sz ad : Nat) (h1 : 0 < sz) (h1b : sz < 1000) (h2 : ad < 4294967296) (x : In) (hx : x = ⟨3, sz, ad, false, 0, 0, Cf.zero⟩) (hok : x.ok = true) (w : World) (hg : Gl w) :
    Calls Tryz.prog 17 #[x.agg] w fun e w' => e = .returned (.tuple #[str (Lib.join [[112, 117, 116], numL 10 sz, numL 16 ad] [32]), .int .i64 0]) ∧ Only [] w w' := by
  have HI := Lib.hid (fun W => instr_any x (by subst hx; exact (by decide : (0 : Int) ≤ 4294967295)) W)
  rw [hok] at HI
  have HX := Lib.hid hx
  have hN := Blk.new w 33 x.cs
  have HR := Lib.hid hN.rng
  have HN := Lib.hid hN
  clear hok hN hx
  go_enter Tryz.func17, Tryz.ntmps17
  go_upto_region 3 with (first
    | (refine wpList_ld 33 x w.heap.size 0 _ rfl (.inl rfl) rfl rfl HR.out ?_)
    | (go_at_call 10; refine (HI.out _).mono ?_; rintro e w1 ⟨rfl, hO1⟩))
  have hB1 := hO1.blk HN.out (by simp)
  have hOw1 := ((Only.refl [] w).alloc (.cells x.cs 33)).trans hO1
  clear HN HR HI hO1
  have c0 : w1.cell? ⟨w.heap.size, 0, none⟩ = some (.int .i64 3) := by have := (Blk.in_ hB1).c0; rw [HX.out] at this; exact this
  have l1 := (Look.word 3 (by decide) (.agg #[str [112, 117, 116], .func (.func 39) #[] #[]]) rfl) ((w1.alloc (.map kindsE 10)).drew) w1.heap.size (at_last' rfl)
  have hlt := hB1.lt
  have hfl : ∀ W, (Instr.field 56 (.agg #[str [112, 117, 116], .func (.func 39) #[] #[]]) 0).run Tryz.prog W = .ok (str [112, 117, 116]) W := fun _ => by kernel_rfl
  have HB := Lib.hid (And.intro hB1 hOw1)
  clear hB1 hOw1
  go_cut [4] (fun s wx => LnS w wx x [[112, 117, 116]] s)
  case first =>
    go_region_with (refine (kinds_map _).mono ?_; rintro e w2 ⟨rfl, rfl⟩)
    all_goals
      clear l1 c0 hfl
      go_wp2_with fail
      go_meet
      exact LnS.first HB.out.1 HB.out.2 (by decide) (by repeat (first | exact Only.refl _ _ | refine Only.drew ?_ | refine Only.alloc ?_ _)) (by first | exact Blk.new' rfl (by simp) | exact (Blk.new' rfl (by simp)).drew) (by simp)
  case rest =>
    have hL0 := hcut
    clear l1 c0 HB hcut hlt hfl
    obtain ⟨c0, c1, c2, c3, c4, c5, -⟩ := Blk.in_ hL0.1; rw [HX.out] at c0 c1 c2 c3 c4 c5; simp only at c0 c1 c2 c3 c4 c5
    have h1i : 0 < (sz : Int) := by omega
    go_upto_region 5 with fail
    have HL0 := Lib.hid hL0
    have HG := Lib.hid hg
    clear c0 c1 c2 c3 c4 c5 h1i hL0 hg
    refine wp_region_PT 6 _ (Only [] wc) (by kernel_rfl) (by kernel_rfl) (fun _ _ _ h => h) (.inl ⟨rfl, fun _ => rfl⟩) ((Only.refl _ _).drew) ?_
    simp only [Act.put, List.setIfInBounds_toArray, List.set_cons_succ, List.set_cons_zero, List.take_succ_cons, List.take_zero, List.drop_succ_cons, List.drop_zero]
    repeat (
      refine wpT_step ?_ (stD rfl (fun w' hD => ?_)) ?_
      rotate_left
      · obtain ⟨c0, c1, c2, c3, c4, c5, -⟩ := Blk.in_ (hD.blk HL0.out.1 (by simp))
        rw [HX.out] at c0 c1 c2 c3 c4 c5
        have hgw : Gl w' := HG.out.only (HL0.out.2.2.1.trans hD)
        go_simp
        first
          | (refine ⟨?_, hD⟩; rfl)
          | (change Calls _ _ _ _ _
             with_reducible refine (itoa_any sz (by omega) w' hgw).mono ?_
             rintro e w'' ⟨rfl, h⟩
             refine ⟨?_, hD.trans h⟩
             rfl)
          | (change Calls _ _ _ _ _
             with_reducible refine (hexp_any ad h2 w' hgw).mono ?_
             rintro e w'' ⟨rfl, h⟩
             refine ⟨?_, hD.trans h⟩
             rfl)
      simp only [Act.put, List.setIfInBounds_toArray, List.set_cons_succ, List.set_cons_zero, Nat.reduceAdd])
    refine wpT_nil ?_
    intro w8 hD8
    have hM0 := HL0.out.only hD8
    have hg := HG.out
    clear HL0 HG hD8
    have hb0 : Bnd [numL 10 sz, numL 16 ad] := ⟨Nat.le_of_ble_eq_true rfl, fun y hy => by simp at hy; rcases hy with rfl | rfl <;> first | exact numL_sh (by omega) (by omega) | exact numL_sh (by omega) h2⟩
    go_wp2_with (first
      | (go_at_call 31; refine (ln_join (xs := [[112, 117, 116], numL 10 sz, numL 16 ad]) hL1 (Nat.le_of_ble_eq_true rfl)).mono ?_; rintro e w9 ⟨rfl, hO9⟩)
      | (at_builtin; refine wpList_append_ln rfl _ _ rfl w x [[112, 117, 116]] [numL 10 sz, numL 16 ad] _ rfl (hM0.alloc _) _ _ rfl rfl (Blk.new' rfl rfl) (hb0) (Nat.le_of_ble_eq_true rfl) ?_; intro v1 wz1 hL1; obtain ⟨c0, c1, c2, c3, c4, c5, -⟩ := Blk.in_ hL1.1; rw [HX.out] at c0 c1 c2 c3 c4 c5; simp only at c0 c1 c2 c3 c4 c5))
    go_ret2
    exact ⟨rfl, hL1.2.2.1.trans hO9⟩

set_option maxRecDepth 100000 in
set_option maxHeartbeats 4000000 in
theorem line_3x (sz ad : Nat) (h1 : 0 < sz) (h1b : sz < 1000) (h2 : ad < 4294967296) (x : In) (hx : x = ⟨3, sz, ad, true, 0, 0, Cf.zero⟩) (hok : x.ok = true) (w : World) (hg : Gl w) :
    Calls Tryz.prog 17 #[x.agg] w fun e w' => e = .returned (.tuple #[str (Lib.join [[112, 117, 116], numL 10 sz, numL 16 ad, [43]] [32]), .int .i64 0]) ∧ Only [] w w' := by
  have HI := Lib.hid (fun W => instr_any x (by subst hx; exact (by decide : (0 : Int) ≤ 4294967295)) W)
  rw [hok] at HI
  have HX := Lib.hid hx
  have hN := Blk.new w 33 x.cs
  have HR := Lib.hid hN.rng
  have HN := Lib.hid hN
  clear hok hN hx
  go_enter Tryz.func17, Tryz.ntmps17
  go_upto_region 3 with (first
    | (refine wpList_ld 33 x w.heap.size 0 _ rfl (.inl rfl) rfl rfl HR.out ?_)
    | (go_at_call 10; refine (HI.out _).mono ?_; rintro e w1 ⟨rfl, hO1⟩))
  have hB1 := hO1.blk HN.out (by simp)
  have hOw1 := ((Only.refl [] w).alloc (.cells x.cs 33)).trans hO1
  clear HN HR HI hO1
  have c0 : w1.cell? ⟨w.heap.size, 0, none⟩ = some (.int .i64 3) := by have := (Blk.in_ hB1).c0; rw [HX.out] at this; exact this
  have l1 := (Look.word 3 (by decide) (.agg #[str [112, 117, 116], .func (.func 39) #[] #[]]) rfl) ((w1.alloc (.map kindsE 10)).drew) w1.heap.size (at_last' rfl)
  have hlt := hB1.lt
  have hfl : ∀ W, (Instr.field 56 (.agg #[str [112, 117, 116], .func (.func 39) #[] #[]]) 0).run Tryz.prog W = .ok (str [112, 117, 116]) W := fun _ => by kernel_rfl
  have HB := Lib.hid (And.intro hB1 hOw1)
  clear hB1 hOw1
  go_cut [4] (fun s wx => LnS w wx x [[112, 117, 116]] s)
  case first =>
    go_region_with (refine (kinds_map _).mono ?_; rintro e w2 ⟨rfl, rfl⟩)
    all_goals
      clear l1 c0 hfl
      go_wp2_with fail
      go_meet
      exact LnS.first HB.out.1 HB.out.2 (by decide) (by repeat (first | exact Only.refl _ _ | refine Only.drew ?_ | refine Only.alloc ?_ _)) (by first | exact Blk.new' rfl (by simp) | exact (Blk.new' rfl (by simp)).drew) (by simp)
  case rest =>
    have hL0 := hcut
    clear l1 c0 HB hcut hlt hfl
    obtain ⟨c0, c1, c2, c3, c4, c5, -⟩ := Blk.in_ hL0.1; rw [HX.out] at c0 c1 c2 c3 c4 c5; simp only at c0 c1 c2 c3 c4 c5
    have h1i : 0 < (sz : Int) := by omega
    go_upto_region 5 with fail
    have HL0 := Lib.hid hL0
    have HG := Lib.hid hg
    clear c0 c1 c2 c3 c4 c5 h1i hL0 hg
    refine wp_region_PT 6 _ (Only [] wc) (by kernel_rfl) (by kernel_rfl) (fun _ _ _ h => h) (.inl ⟨rfl, fun _ => rfl⟩) ((Only.refl _ _).drew) ?_
    simp only [Act.put, List.setIfInBounds_toArray, List.set_cons_succ, List.set_cons_zero, List.take_succ_cons, List.take_zero, List.drop_succ_cons, List.drop_zero]
    repeat (
      refine wpT_step ?_ (stD rfl (fun w' hD => ?_)) ?_
      rotate_left
      · obtain ⟨c0, c1, c2, c3, c4, c5, -⟩ := Blk.in_ (hD.blk HL0.out.1 (by simp))
        rw [HX.out] at c0 c1 c2 c3 c4 c5
        have hgw : Gl w' := HG.out.only (HL0.out.2.2.1.trans hD)
        go_simp
        first
          | (refine ⟨?_, hD⟩; rfl)
          | (change Calls _ _ _ _ _
             with_reducible refine (itoa_any sz (by omega) w' hgw).mono ?_
             rintro e w'' ⟨rfl, h⟩
             refine ⟨?_, hD.trans h⟩
             rfl)
          | (change Calls _ _ _ _ _
             with_reducible refine (hexp_any ad h2 w' hgw).mono ?_
             rintro e w'' ⟨rfl, h⟩
             refine ⟨?_, hD.trans h⟩
             rfl)
      simp only [Act.put, List.setIfInBounds_toArray, List.set_cons_succ, List.set_cons_zero, Nat.reduceAdd])
    refine wpT_nil ?_
    intro w8 hD8
    have hM0 := HL0.out.only hD8
    have hg := HG.out
    clear HL0 HG hD8
    have hb0 : Bnd [numL 10 sz, numL 16 ad] := ⟨Nat.le_of_ble_eq_true rfl, fun y hy => by simp at hy; rcases hy with rfl | rfl <;> first | exact numL_sh (by omega) (by omega) | exact numL_sh (by omega) h2⟩
    have hb1 : Bnd [[43]] := ⟨Nat.le_of_ble_eq_true rfl, fun y hy => by simp at hy; subst hy; exact by decide⟩
    go_wp2_with (first
      | (go_at_call 31; refine (ln_join (xs := [[112, 117, 116], numL 10 sz, numL 16 ad, [43]]) hL2 (Nat.le_of_ble_eq_true rfl)).mono ?_; rintro e w9 ⟨rfl, hO9⟩)
      | (at_builtin; refine wpList_append_ln rfl _ _ rfl w x [[112, 117, 116], numL 10 sz, numL 16 ad] [[43]] _ rfl (hL1.alloc _) _ _ rfl rfl (Blk.new' rfl rfl) (hb1) (Nat.le_of_ble_eq_true rfl) ?_; intro v2 wz2 hL2; obtain ⟨c0, c1, c2, c3, c4, c5, -⟩ := Blk.in_ hL2.1; rw [HX.out] at c0 c1 c2 c3 c4 c5; simp only at c0 c1 c2 c3 c4 c5)
      | (at_builtin; refine wpList_append_ln rfl _ _ rfl w x [[112, 117, 116]] [numL 10 sz, numL 16 ad] _ rfl (hM0.alloc _) _ _ rfl rfl (Blk.new' rfl rfl) (hb0) (Nat.le_of_ble_eq_true rfl) ?_; intro v1 wz1 hL1; obtain ⟨c0, c1, c2, c3, c4, c5, -⟩ := Blk.in_ hL1.1; rw [HX.out] at c0 c1 c2 c3 c4 c5; simp only at c0 c1 c2 c3 c4 c5))
    go_ret2
    exact ⟨rfl, hL2.2.2.1.trans hO9⟩

set_option maxRecDepth 100000 in
set_option maxHeartbeats 4000000 in
theorem line_2 (sz ad dt : Nat) (h1 : 0 < sz) (h1b : sz < 1000) (h2 : ad < 4294967296) (h3 : dt < 4294967296) (x : In) (hx : x = ⟨2, sz, ad, false, dt, 0, Cf.zero⟩) (hok : x.ok = true) (w : World) (hg : Gl w) :
    Calls Tryz.prog 17 #[x.agg] w fun e w' => e = .returned (.tuple #[str (Lib.join [[115, 116, 111, 114, 101], numL 10 sz, numL 16 ad, numL 16 dt] [32]), .int .i64 0]) ∧ Only [] w w' := by
  have HI := Lib.hid (fun W => instr_any x (by subst hx; simp only; omega) W)
  rw [hok] at HI
  have HX := Lib.hid hx
  have hN := Blk.new w 33 x.cs
  have HR := Lib.hid hN.rng
  have HN := Lib.hid hN
  clear hok hN hx
  go_enter Tryz.func17, Tryz.ntmps17
  go_upto_region 3 with (first
    | (refine wpList_ld 33 x w.heap.size 0 _ rfl (.inl rfl) rfl rfl HR.out ?_)
    | (go_at_call 10; refine (HI.out _).mono ?_; rintro e w1 ⟨rfl, hO1⟩))
  have hB1 := hO1.blk HN.out (by simp)
  have hOw1 := ((Only.refl [] w).alloc (.cells x.cs 33)).trans hO1
  clear HN HR HI hO1
  have c0 : w1.cell? ⟨w.heap.size, 0, none⟩ = some (.int .i64 2) := by have := (Blk.in_ hB1).c0; rw [HX.out] at this; exact this
  have l1 := (Look.word 2 (by decide) (.agg #[str [115, 116, 111, 114, 101], .func (.func 40) #[] #[]]) rfl) ((w1.alloc (.map kindsE 10)).drew) w1.heap.size (at_last' rfl)
  have hlt := hB1.lt
  have hfl : ∀ W, (Instr.field 56 (.agg #[str [115, 116, 111, 114, 101], .func (.func 40) #[] #[]]) 0).run Tryz.prog W = .ok (str [115, 116, 111, 114, 101]) W := fun _ => by kernel_rfl
  have HB := Lib.hid (And.intro hB1 hOw1)
  clear hB1 hOw1
  go_cut [4] (fun s wx => LnS w wx x [[115, 116, 111, 114, 101]] s)
  case first =>
    go_region_with (refine (kinds_map _).mono ?_; rintro e w2 ⟨rfl, rfl⟩)
    all_goals
      clear l1 c0 hfl
      go_wp2_with fail
      go_meet
      exact LnS.first HB.out.1 HB.out.2 (by decide) (by repeat (first | exact Only.refl _ _ | refine Only.drew ?_ | refine Only.alloc ?_ _)) (by first | exact Blk.new' rfl (by simp) | exact (Blk.new' rfl (by simp)).drew) (by simp)
  case rest =>
    have hL0 := hcut
    clear l1 c0 HB hcut hlt hfl
    obtain ⟨c0, c1, c2, c3, c4, c5, -⟩ := Blk.in_ hL0.1; rw [HX.out] at c0 c1 c2 c3 c4 c5; simp only at c0 c1 c2 c3 c4 c5
    have h1i : 0 < (sz : Int) := by omega
    go_upto_region 5 with fail
    have HL0 := Lib.hid hL0
    have HG := Lib.hid hg
    clear c0 c1 c2 c3 c4 c5 h1i hL0 hg
    refine wp_region_PT 6 _ (Only [] wc) (by kernel_rfl) (by kernel_rfl) (fun _ _ _ h => h) (.inl ⟨rfl, fun _ => rfl⟩) ((Only.refl _ _).drew) ?_
    simp only [Act.put, List.setIfInBounds_toArray, List.set_cons_succ, List.set_cons_zero, List.take_succ_cons, List.take_zero, List.drop_succ_cons, List.drop_zero]
    repeat (
      refine wpT_step ?_ (stD rfl (fun w' hD => ?_)) ?_
      rotate_left
      · obtain ⟨c0, c1, c2, c3, c4, c5, -⟩ := Blk.in_ (hD.blk HL0.out.1 (by simp))
        rw [HX.out] at c0 c1 c2 c3 c4 c5
        have hgw : Gl w' := HG.out.only (HL0.out.2.2.1.trans hD)
        go_simp
        first
          | (refine ⟨?_, hD⟩; rfl)
          | (change Calls _ _ _ _ _
             with_reducible refine (itoa_any sz (by omega) w' hgw).mono ?_
             rintro e w'' ⟨rfl, h⟩
             refine ⟨?_, hD.trans h⟩
             rfl)
          | (change Calls _ _ _ _ _
             with_reducible refine (hexp_any ad h2 w' hgw).mono ?_
             rintro e w'' ⟨rfl, h⟩
             refine ⟨?_, hD.trans h⟩
             rfl)
      simp only [Act.put, List.setIfInBounds_toArray, List.set_cons_succ, List.set_cons_zero, Nat.reduceAdd])
    refine wpT_nil ?_
    intro w8 hD8
    have hM0 := HL0.out.only hD8
    have hg := HG.out
    clear HL0 HG hD8
    have hb0 : Bnd [numL 10 sz, numL 16 ad] := ⟨Nat.le_of_ble_eq_true rfl, fun y hy => by simp at hy; rcases hy with rfl | rfl <;> first | exact numL_sh (by omega) (by omega) | exact numL_sh (by omega) h2⟩
    have hb1 : Bnd [numL 16 dt] := ⟨Nat.le_of_ble_eq_true rfl, fun y hy => by simp at hy; subst hy; exact numL_sh (by omega) h3⟩
    go_wp2_with (first
      | (go_at_call 31; refine (ln_join (xs := [[115, 116, 111, 114, 101], numL 10 sz, numL 16 ad, numL 16 dt]) hL2 (Nat.le_of_ble_eq_true rfl)).mono ?_; rintro e w9 ⟨rfl, hO9⟩)
      | (at_builtin; refine wpList_append_ln rfl _ _ rfl w x [[115, 116, 111, 114, 101], numL 10 sz, numL 16 ad] [numL 16 dt] _ rfl (hM1.alloc _) _ _ rfl rfl (Blk.new' rfl rfl) (hb1) (Nat.le_of_ble_eq_true rfl) ?_; intro v2 wz2 hL2; obtain ⟨c0, c1, c2, c3, c4, c5, -⟩ := Blk.in_ hL2.1; rw [HX.out] at c0 c1 c2 c3 c4 c5; simp only at c0 c1 c2 c3 c4 c5)
      | (go_at_call 36; refine (hexp_any dt h3 _ (hg.only hL1.2.2.1)).mono ?_; rintro e wq1 ⟨rfl, hOq1⟩; have hM1 := hL1.only hOq1)
      | (at_builtin; refine wpList_append_ln rfl _ _ rfl w x [[115, 116, 111, 114, 101]] [numL 10 sz, numL 16 ad] _ rfl (hM0.alloc _) _ _ rfl rfl (Blk.new' rfl rfl) (hb0) (Nat.le_of_ble_eq_true rfl) ?_; intro v1 wz1 hL1; obtain ⟨c0, c1, c2, c3, c4, c5, -⟩ := Blk.in_ hL1.1; rw [HX.out] at c0 c1 c2 c3 c4 c5; simp only at c0 c1 c2 c3 c4 c5))
    go_ret2
    exact ⟨rfl, hL2.2.2.1.trans hO9⟩

set_option maxRecDepth 100000 in
set_option maxHeartbeats 4000000 in
theorem line_2x (sz ad dt : Nat) (h1 : 0 < sz) (h1b : sz < 1000) (h2 : ad < 4294967296) (h3 : dt < 4294967296) (x : In) (hx : x = ⟨2, sz, ad, true, dt, 0, Cf.zero⟩) (hok : x.ok = true) (w : World) (hg : Gl w) :
    Calls Tryz.prog 17 #[x.agg] w fun e w' => e = .returned (.tuple #[str (Lib.join [[115, 116, 111, 114, 101], numL 10 sz, numL 16 ad, [43], numL 16 dt] [32]), .int .i64 0]) ∧ Only [] w w' := by
  have HI := Lib.hid (fun W => instr_any x (by subst hx; simp only; omega) W)
  rw [hok] at HI
  have HX := Lib.hid hx
  have hN := Blk.new w 33 x.cs
  have HR := Lib.hid hN.rng
  have HN := Lib.hid hN
  clear hok hN hx
  go_enter Tryz.func17, Tryz.ntmps17
  go_upto_region 3 with (first
    | (refine wpList_ld 33 x w.heap.size 0 _ rfl (.inl rfl) rfl rfl HR.out ?_)
    | (go_at_call 10; refine (HI.out _).mono ?_; rintro e w1 ⟨rfl, hO1⟩))
  have hB1 := hO1.blk HN.out (by simp)
  have hOw1 := ((Only.refl [] w).alloc (.cells x.cs 33)).trans hO1
  clear HN HR HI hO1
  have c0 : w1.cell? ⟨w.heap.size, 0, none⟩ = some (.int .i64 2) := by have := (Blk.in_ hB1).c0; rw [HX.out] at this; exact this
  have l1 := (Look.word 2 (by decide) (.agg #[str [115, 116, 111, 114, 101], .func (.func 40) #[] #[]]) rfl) ((w1.alloc (.map kindsE 10)).drew) w1.heap.size (at_last' rfl)
  have hlt := hB1.lt
  have hfl : ∀ W, (Instr.field 56 (.agg #[str [115, 116, 111, 114, 101], .func (.func 40) #[] #[]]) 0).run Tryz.prog W = .ok (str [115, 116, 111, 114, 101]) W := fun _ => by kernel_rfl
  have HB := Lib.hid (And.intro hB1 hOw1)
  clear hB1 hOw1
  go_cut [4] (fun s wx => LnS w wx x [[115, 116, 111, 114, 101]] s)
  case first =>
    go_region_with (refine (kinds_map _).mono ?_; rintro e w2 ⟨rfl, rfl⟩)
    all_goals
      clear l1 c0 hfl
      go_wp2_with fail
      go_meet
      exact LnS.first HB.out.1 HB.out.2 (by decide) (by repeat (first | exact Only.refl _ _ | refine Only.drew ?_ | refine Only.alloc ?_ _)) (by first | exact Blk.new' rfl (by simp) | exact (Blk.new' rfl (by simp)).drew) (by simp)
  case rest =>
    have hL0 := hcut
    clear l1 c0 HB hcut hlt hfl
    obtain ⟨c0, c1, c2, c3, c4, c5, -⟩ := Blk.in_ hL0.1; rw [HX.out] at c0 c1 c2 c3 c4 c5; simp only at c0 c1 c2 c3 c4 c5
    have h1i : 0 < (sz : Int) := by omega
    go_upto_region 5 with fail
    have HL0 := Lib.hid hL0
    have HG := Lib.hid hg
    clear c0 c1 c2 c3 c4 c5 h1i hL0 hg
    refine wp_region_PT 6 _ (Only [] wc) (by kernel_rfl) (by kernel_rfl) (fun _ _ _ h => h) (.inl ⟨rfl, fun _ => rfl⟩) ((Only.refl _ _).drew) ?_
    simp only [Act.put, List.setIfInBounds_toArray, List.set_cons_succ, List.set_cons_zero, List.take_succ_cons, List.take_zero, List.drop_succ_cons, List.drop_zero]
    repeat (
      refine wpT_step ?_ (stD rfl (fun w' hD => ?_)) ?_
      rotate_left
      · obtain ⟨c0, c1, c2, c3, c4, c5, -⟩ := Blk.in_ (hD.blk HL0.out.1 (by simp))
        rw [HX.out] at c0 c1 c2 c3 c4 c5
        have hgw : Gl w' := HG.out.only (HL0.out.2.2.1.trans hD)
        go_simp
        first
          | (refine ⟨?_, hD⟩; rfl)
          | (change Calls _ _ _ _ _
             with_reducible refine (itoa_any sz (by omega) w' hgw).mono ?_
             rintro e w'' ⟨rfl, h⟩
             refine ⟨?_, hD.trans h⟩
             rfl)
          | (change Calls _ _ _ _ _
             with_reducible refine (hexp_any ad h2 w' hgw).mono ?_
             rintro e w'' ⟨rfl, h⟩
             refine ⟨?_, hD.trans h⟩
             rfl)
      simp only [Act.put, List.setIfInBounds_toArray, List.set_cons_succ, List.set_cons_zero, Nat.reduceAdd])
    refine wpT_nil ?_
    intro w8 hD8
    have hM0 := HL0.out.only hD8
    have hg := HG.out
    clear HL0 HG hD8
    have hb0 : Bnd [numL 10 sz, numL 16 ad] := ⟨Nat.le_of_ble_eq_true rfl, fun y hy => by simp at hy; rcases hy with rfl | rfl <;> first | exact numL_sh (by omega) (by omega) | exact numL_sh (by omega) h2⟩
    have hb1 : Bnd [[43]] := ⟨Nat.le_of_ble_eq_true rfl, fun y hy => by simp at hy; subst hy; exact by decide⟩
    have hb2 : Bnd [numL 16 dt] := ⟨Nat.le_of_ble_eq_true rfl, fun y hy => by simp at hy; subst hy; exact numL_sh (by omega) h3⟩
    go_wp2_with (first
      | (go_at_call 31; refine (ln_join (xs := [[115, 116, 111, 114, 101], numL 10 sz, numL 16 ad, [43], numL 16 dt]) hL3 (Nat.le_of_ble_eq_true rfl)).mono ?_; rintro e w9 ⟨rfl, hO9⟩)
      | (at_builtin; refine wpList_append_ln rfl _ _ rfl w x [[115, 116, 111, 114, 101], numL 10 sz, numL 16 ad, [43]] [numL 16 dt] _ rfl (hM2.alloc _) _ _ rfl rfl (Blk.new' rfl rfl) (hb2) (Nat.le_of_ble_eq_true rfl) ?_; intro v3 wz3 hL3; obtain ⟨c0, c1, c2, c3, c4, c5, -⟩ := Blk.in_ hL3.1; rw [HX.out] at c0 c1 c2 c3 c4 c5; simp only at c0 c1 c2 c3 c4 c5)
      | (go_at_call 36; refine (hexp_any dt h3 _ (hg.only hL2.2.2.1)).mono ?_; rintro e wq2 ⟨rfl, hOq2⟩; have hM2 := hL2.only hOq2)
      | (at_builtin; refine wpList_append_ln rfl _ _ rfl w x [[115, 116, 111, 114, 101], numL 10 sz, numL 16 ad] [[43]] _ rfl (hL1.alloc _) _ _ rfl rfl (Blk.new' rfl rfl) (hb1) (Nat.le_of_ble_eq_true rfl) ?_; intro v2 wz2 hL2; obtain ⟨c0, c1, c2, c3, c4, c5, -⟩ := Blk.in_ hL2.1; rw [HX.out] at c0 c1 c2 c3 c4 c5; simp only at c0 c1 c2 c3 c4 c5)
      | (at_builtin; refine wpList_append_ln rfl _ _ rfl w x [[115, 116, 111, 114, 101]] [numL 10 sz, numL 16 ad] _ rfl (hM0.alloc _) _ _ rfl rfl (Blk.new' rfl rfl) (hb0) (Nat.le_of_ble_eq_true rfl) ?_; intro v1 wz1 hL1; obtain ⟨c0, c1, c2, c3, c4, c5, -⟩ := Blk.in_ hL1.1; rw [HX.out] at c0 c1 c2 c3 c4 c5; simp only at c0 c1 c2 c3 c4 c5))
    go_ret2
    exact ⟨rfl, hL3.2.2.1.trans hO9⟩
end Go.Proofs.YtagmoehjcgjnjaaGreatDoor
