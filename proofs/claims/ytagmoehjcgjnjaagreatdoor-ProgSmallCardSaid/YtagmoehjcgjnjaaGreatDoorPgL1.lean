/- Line of package prog, walked at kinds of right instructions. Conditions: the listed variables are laid; words fit. -/
import Derived.Test.YtagmoehjcgjnjaaGreatDoorPgL
import Derived.Deep.RegionWith
import Derived.Deep.DeepCutAuto
import Derived.Outline
namespace Go.Proofs.YtagmoehjcgjnjaaGreatDoor
open Go Go.RowKit

set_option maxRecDepth 100000 in
set_option maxHeartbeats 4000000 in
theorem line_4  (x : In) (hx : x = ⟨4, 0, 0, false, 0, 0, Cf.zero⟩) (hok : x.ok = true) (w : World) (_hg : Gl w) :
    Calls Tryz.prog 17 #[x.agg] w fun e w' => e = .returned (.tuple #[str (Lib.join [[119, 97, 105, 116]] [32]), .int .i64 0]) ∧ Only [] w w' := by
  have HI := Lib.hid (fun W => instr_any x (by subst hx; exact (by decide : (0 : Int) ≤ 4294967295)) W)
  rw [hok] at HI
  have HX := Lib.hid hx
  have hN := Blk.new w 33 x.cs
  have HR := Lib.hid hN.rng
  have HN := Lib.hid hN
  clear hok hN hx
  go_enter Tryz.func17, Tryz.ntmps17
  go_upto_region 3 with (first
    | (refine wpList_ld 33 x w.heap.size 0 _ rfl (.inl rfl) rfl rfl HR.out ?_)
    | (go_at_call 10; refine (HI.out _).mono ?_; rintro e w1 ⟨rfl, hO1⟩))
  have hB1 := hO1.blk HN.out (by simp)
  have hOw1 := ((Only.refl [] w).alloc (.cells x.cs 33)).trans hO1
  clear HN HR HI hO1
  have c0 : w1.cell? ⟨w.heap.size, 0, none⟩ = some (.int .i64 4) := by have := (Blk.in_ hB1).c0; rw [HX.out] at this; exact this
  have l1 := (Look.word 4 (by decide) (.agg #[str [119, 97, 105, 116], .func (.func 41) #[] #[]]) rfl) ((w1.alloc (.map kindsE 10)).drew) w1.heap.size (at_last' rfl)
  have hlt := hB1.lt
  have hfl : ∀ W, (Instr.field 56 (.agg #[str [119, 97, 105, 116], .func (.func 41) #[] #[]]) 0).run Tryz.prog W = .ok (str [119, 97, 105, 116]) W := fun _ => by kernel_rfl
  have HB := Lib.hid (And.intro hB1 hOw1)
  clear hB1 hOw1
  go_cut [4] (fun s wx => LnS w wx x [[119, 97, 105, 116]] s)
  case first =>
    go_region_with (refine (kinds_map _).mono ?_; rintro e w2 ⟨rfl, rfl⟩)
    all_goals
      clear l1 c0 hfl
      go_wp2_with fail
      go_meet
      exact LnS.first HB.out.1 HB.out.2 (by decide) (by repeat (first | exact Only.refl _ _ | refine Only.drew ?_ | refine Only.alloc ?_ _)) (by first | exact Blk.new' rfl (by simp) | exact (Blk.new' rfl (by simp)).drew) (by simp)
  case rest =>
    have hL0 := hcut
    clear l1 c0 HB hcut hlt hfl
    obtain ⟨c0, c1, c2, c3, c4, c5, -⟩ := Blk.in_ hL0.1; rw [HX.out] at c0 c1 c2 c3 c4 c5; simp only at c0 c1 c2 c3 c4 c5
    go_wp2_with (first
      | (go_at_call 31; refine (ln_join (xs := [[119, 97, 105, 116]]) hL0 (Nat.le_of_ble_eq_true rfl)).mono ?_; rintro e w9 ⟨rfl, hO9⟩))
    go_ret2
    exact ⟨rfl, hL0.2.2.1.trans hO9⟩

set_option maxRecDepth 100000 in
set_option maxHeartbeats 4000000 in
theorem line_10  (x : In) (hx : x = ⟨10, 0, 0, false, 0, 0, Cf.zero⟩) (hok : x.ok = true) (w : World) (_hg : Gl w) :
    Calls Tryz.prog 17 #[x.agg] w fun e w' => e = .returned (.tuple #[str (Lib.join [[104, 97, 108, 116]] [32]), .int .i64 0]) ∧ Only [] w w' := by
  have HI := Lib.hid (fun W => instr_any x (by subst hx; exact (by decide : (0 : Int) ≤ 4294967295)) W)
  rw [hok] at HI
  have HX := Lib.hid hx
  have hN := Blk.new w 33 x.cs
  have HR := Lib.hid hN.rng
  have HN := Lib.hid hN
  clear hok hN hx
  go_enter Tryz.func17, Tryz.ntmps17
  go_upto_region 3 with (first
    | (refine wpList_ld 33 x w.heap.size 0 _ rfl (.inl rfl) rfl rfl HR.out ?_)
    | (go_at_call 10; refine (HI.out _).mono ?_; rintro e w1 ⟨rfl, hO1⟩))
  have hB1 := hO1.blk HN.out (by simp)
  have hOw1 := ((Only.refl [] w).alloc (.cells x.cs 33)).trans hO1
  clear HN HR HI hO1
  have c0 : w1.cell? ⟨w.heap.size, 0, none⟩ = some (.int .i64 10) := by have := (Blk.in_ hB1).c0; rw [HX.out] at this; exact this
  have l1 := (Look.word 10 (by decide) (.agg #[str [104, 97, 108, 116], .func (.func 41) #[] #[]]) rfl) ((w1.alloc (.map kindsE 10)).drew) w1.heap.size (at_last' rfl)
  have hlt := hB1.lt
  have hfl : ∀ W, (Instr.field 56 (.agg #[str [104, 97, 108, 116], .func (.func 41) #[] #[]]) 0).run Tryz.prog W = .ok (str [104, 97, 108, 116]) W := fun _ => by kernel_rfl
  have HB := Lib.hid (And.intro hB1 hOw1)
  clear hB1 hOw1
  go_cut [4] (fun s wx => LnS w wx x [[104, 97, 108, 116]] s)
  case first =>
    go_region_with (refine (kinds_map _).mono ?_; rintro e w2 ⟨rfl, rfl⟩)
    all_goals
      clear l1 c0 hfl
      go_wp2_with fail
      go_meet
      exact LnS.first HB.out.1 HB.out.2 (by decide) (by repeat (first | exact Only.refl _ _ | refine Only.drew ?_ | refine Only.alloc ?_ _)) (by first | exact Blk.new' rfl (by simp) | exact (Blk.new' rfl (by simp)).drew) (by simp)
  case rest =>
    have hL0 := hcut
    clear l1 c0 HB hcut hlt hfl
    obtain ⟨c0, c1, c2, c3, c4, c5, -⟩ := Blk.in_ hL0.1; rw [HX.out] at c0 c1 c2 c3 c4 c5; simp only at c0 c1 c2 c3 c4 c5
    go_wp2_with (first
      | (go_at_call 31; refine (ln_join (xs := [[104, 97, 108, 116]]) hL0 (Nat.le_of_ble_eq_true rfl)).mono ?_; rintro e w9 ⟨rfl, hO9⟩))
    go_ret2
    exact ⟨rfl, hL0.2.2.1.trans hO9⟩

set_option maxRecDepth 100000 in
set_option maxHeartbeats 4000000 in
theorem line_6 (tg : Nat) (h4 : tg < 1000) (x : In) (hx : x = ⟨6, 0, 0, false, 0, tg, Cf.zero⟩) (hok : x.ok = true) (w : World) (hg : Gl w) :
    Calls Tryz.prog 17 #[x.agg] w fun e w' => e = .returned (.tuple #[str (Lib.join [[106, 117, 109, 112], numL 10 tg] [32]), .int .i64 0]) ∧ Only [] w w' := by
  have HI := Lib.hid (fun W => instr_any x (by subst hx; exact (by decide : (0 : Int) ≤ 4294967295)) W)
  rw [hok] at HI
  have HX := Lib.hid hx
  have hN := Blk.new w 33 x.cs
  have HR := Lib.hid hN.rng
  have HN := Lib.hid hN
  clear hok hN hx
  go_enter Tryz.func17, Tryz.ntmps17
  go_upto_region 3 with (first
    | (refine wpList_ld 33 x w.heap.size 0 _ rfl (.inl rfl) rfl rfl HR.out ?_)
    | (go_at_call 10; refine (HI.out _).mono ?_; rintro e w1 ⟨rfl, hO1⟩))
  have hB1 := hO1.blk HN.out (by simp)
  have hOw1 := ((Only.refl [] w).alloc (.cells x.cs 33)).trans hO1
  clear HN HR HI hO1
  have c0 : w1.cell? ⟨w.heap.size, 0, none⟩ = some (.int .i64 6) := by have := (Blk.in_ hB1).c0; rw [HX.out] at this; exact this
  have l1 := (Look.word 6 (by decide) (.agg #[str [106, 117, 109, 112], .func (.func 43) #[] #[]]) rfl) ((w1.alloc (.map kindsE 10)).drew) w1.heap.size (at_last' rfl)
  have hlt := hB1.lt
  have hfl : ∀ W, (Instr.field 56 (.agg #[str [106, 117, 109, 112], .func (.func 43) #[] #[]]) 0).run Tryz.prog W = .ok (str [106, 117, 109, 112]) W := fun _ => by kernel_rfl
  have HB := Lib.hid (And.intro hB1 hOw1)
  clear hB1 hOw1
  go_cut [4] (fun s wx => LnS w wx x [[106, 117, 109, 112]] s)
  case first =>
    go_region_with (refine (kinds_map _).mono ?_; rintro e w2 ⟨rfl, rfl⟩)
    all_goals
      clear l1 c0 hfl
      go_wp2_with fail
      go_meet
      exact LnS.first HB.out.1 HB.out.2 (by decide) (by repeat (first | exact Only.refl _ _ | refine Only.drew ?_ | refine Only.alloc ?_ _)) (by first | exact Blk.new' rfl (by simp) | exact (Blk.new' rfl (by simp)).drew) (by simp)
  case rest =>
    have hL0 := hcut
    clear l1 c0 HB hcut hlt hfl
    obtain ⟨c0, c1, c2, c3, c4, c5, -⟩ := Blk.in_ hL0.1; rw [HX.out] at c0 c1 c2 c3 c4 c5; simp only at c0 c1 c2 c3 c4 c5
    have hb0 : Bnd [numL 10 tg] := ⟨Nat.le_of_ble_eq_true rfl, fun y hy => by simp at hy; subst hy; exact numL_sh (by omega) (by omega)⟩
    go_wp2_with (first
      | (go_at_call 31; refine (ln_join (xs := [[106, 117, 109, 112], numL 10 tg]) hL1 (Nat.le_of_ble_eq_true rfl)).mono ?_; rintro e w9 ⟨rfl, hO9⟩)
      | (at_builtin; refine wpList_append_ln rfl _ _ rfl w x [[106, 117, 109, 112]] [numL 10 tg] _ rfl (hM0.alloc _) _ _ rfl rfl (Blk.new' rfl rfl) (hb0) (Nat.le_of_ble_eq_true rfl) ?_; intro v1 wz1 hL1; obtain ⟨c0, c1, c2, c3, c4, c5, -⟩ := Blk.in_ hL1.1; rw [HX.out] at c0 c1 c2 c3 c4 c5; simp only at c0 c1 c2 c3 c4 c5)
      | (go_at_call 35; refine (itoa_any tg (by omega) _ (hg.only hL0.2.2.1)).mono ?_; rintro e wq0 ⟨rfl, hOq0⟩; have hM0 := hL0.only hOq0))
    go_ret2
    exact ⟨rfl, hL1.2.2.1.trans hO9⟩

set_option maxRecDepth 100000 in
set_option maxHeartbeats 4000000 in
theorem line_5 (dt tg : Nat) (h3 : dt < 4294967296) (h4 : tg < 1000) (x : In) (hx : x = ⟨5, 0, 0, false, dt, tg, Cf.zero⟩) (hok : x.ok = true) (w : World) (hg : Gl w) :
    Calls Tryz.prog 17 #[x.agg] w fun e w' => e = .returned (.tuple #[str (Lib.join [[98, 114, 97, 110, 99, 104], numL 16 dt, numL 10 tg] [32]), .int .i64 0]) ∧ Only [] w w' := by
  have HI := Lib.hid (fun W => instr_any x (by subst hx; simp only; omega) W)
  rw [hok] at HI
  have HX := Lib.hid hx
  have hN := Blk.new w 33 x.cs
  have HR := Lib.hid hN.rng
  have HN := Lib.hid hN
  clear hok hN hx
  go_enter Tryz.func17, Tryz.ntmps17
  go_upto_region 3 with (first
    | (refine wpList_ld 33 x w.heap.size 0 _ rfl (.inl rfl) rfl rfl HR.out ?_)
    | (go_at_call 10; refine (HI.out _).mono ?_; rintro e w1 ⟨rfl, hO1⟩))
  have hB1 := hO1.blk HN.out (by simp)
  have hOw1 := ((Only.refl [] w).alloc (.cells x.cs 33)).trans hO1
  clear HN HR HI hO1
  have c0 : w1.cell? ⟨w.heap.size, 0, none⟩ = some (.int .i64 5) := by have := (Blk.in_ hB1).c0; rw [HX.out] at this; exact this
  have l1 := (Look.word 5 (by decide) (.agg #[str [98, 114, 97, 110, 99, 104], .func (.func 42) #[] #[]]) rfl) ((w1.alloc (.map kindsE 10)).drew) w1.heap.size (at_last' rfl)
  have hlt := hB1.lt
  have hfl : ∀ W, (Instr.field 56 (.agg #[str [98, 114, 97, 110, 99, 104], .func (.func 42) #[] #[]]) 0).run Tryz.prog W = .ok (str [98, 114, 97, 110, 99, 104]) W := fun _ => by kernel_rfl
  have HB := Lib.hid (And.intro hB1 hOw1)
  clear hB1 hOw1
  go_cut [4] (fun s wx => LnS w wx x [[98, 114, 97, 110, 99, 104]] s)
  case first =>
    go_region_with (refine (kinds_map _).mono ?_; rintro e w2 ⟨rfl, rfl⟩)
    all_goals
      clear l1 c0 hfl
      go_wp2_with fail
      go_meet
      exact LnS.first HB.out.1 HB.out.2 (by decide) (by repeat (first | exact Only.refl _ _ | refine Only.drew ?_ | refine Only.alloc ?_ _)) (by first | exact Blk.new' rfl (by simp) | exact (Blk.new' rfl (by simp)).drew) (by simp)
  case rest =>
    have hL0 := hcut
    clear l1 c0 HB hcut hlt hfl
    obtain ⟨c0, c1, c2, c3, c4, c5, -⟩ := Blk.in_ hL0.1; rw [HX.out] at c0 c1 c2 c3 c4 c5; simp only at c0 c1 c2 c3 c4 c5
    have hb0 : Bnd [numL 16 dt] := ⟨Nat.le_of_ble_eq_true rfl, fun y hy => by simp at hy; subst hy; exact numL_sh (by omega) h3⟩
    have hb1 : Bnd [numL 10 tg] := ⟨Nat.le_of_ble_eq_true rfl, fun y hy => by simp at hy; subst hy; exact numL_sh (by omega) (by omega)⟩
    go_wp2_with (first
      | (go_at_call 31; refine (ln_join (xs := [[98, 114, 97, 110, 99, 104], numL 16 dt, numL 10 tg]) hL2 (Nat.le_of_ble_eq_true rfl)).mono ?_; rintro e w9 ⟨rfl, hO9⟩)
      | (at_builtin; refine wpList_append_ln rfl _ _ rfl w x [[98, 114, 97, 110, 99, 104], numL 16 dt] [numL 10 tg] _ rfl (hM1.alloc _) _ _ rfl rfl (Blk.new' rfl rfl) (hb1) (Nat.le_of_ble_eq_true rfl) ?_; intro v2 wz2 hL2; obtain ⟨c0, c1, c2, c3, c4, c5, -⟩ := Blk.in_ hL2.1; rw [HX.out] at c0 c1 c2 c3 c4 c5; simp only at c0 c1 c2 c3 c4 c5)
      | (go_at_call 35; refine (itoa_any tg (by omega) _ (hg.only hL1.2.2.1)).mono ?_; rintro e wq1 ⟨rfl, hOq1⟩; have hM1 := hL1.only hOq1)
      | (at_builtin; refine wpList_append_ln rfl _ _ rfl w x [[98, 114, 97, 110, 99, 104]] [numL 16 dt] _ rfl (hM0.alloc _) _ _ rfl rfl (Blk.new' rfl rfl) (hb0) (Nat.le_of_ble_eq_true rfl) ?_; intro v1 wz1 hL1; obtain ⟨c0, c1, c2, c3, c4, c5, -⟩ := Blk.in_ hL1.1; rw [HX.out] at c0 c1 c2 c3 c4 c5; simp only at c0 c1 c2 c3 c4 c5)
      | (go_at_call 36; refine (hexp_any dt h3 _ (hg.only hL0.2.2.1)).mono ?_; rintro e wq0 ⟨rfl, hOq0⟩; have hM0 := hL0.only hOq0))
    go_ret2
    exact ⟨rfl, hL2.2.2.1.trans hO9⟩

set_option maxRecDepth 100000 in
set_option maxHeartbeats 4000000 in
theorem line_7 (dt : Nat) (h3 : dt < 4294967296) (x : In) (hx : x = ⟨7, 0, 0, false, dt, 0, Cf.zero⟩) (hok : x.ok = true) (w : World) (hg : Gl w) :
    Calls Tryz.prog 17 #[x.agg] w fun e w' => e = .returned (.tuple #[str (Lib.join [[105, 100, 108, 101], numL 10 dt] [32]), .int .i64 0]) ∧ Only [] w w' := by
  have HI := Lib.hid (fun W => instr_any x (by subst hx; simp only; omega) W)
  rw [hok] at HI
  have HX := Lib.hid hx
  have hN := Blk.new w 33 x.cs
  have HR := Lib.hid hN.rng
  have HN := Lib.hid hN
  clear hok hN hx
  go_enter Tryz.func17, Tryz.ntmps17
  go_upto_region 3 with (first
    | (refine wpList_ld 33 x w.heap.size 0 _ rfl (.inl rfl) rfl rfl HR.out ?_)
    | (go_at_call 10; refine (HI.out _).mono ?_; rintro e w1 ⟨rfl, hO1⟩))
  have hB1 := hO1.blk HN.out (by simp)
  have hOw1 := ((Only.refl [] w).alloc (.cells x.cs 33)).trans hO1
  clear HN HR HI hO1
  have c0 : w1.cell? ⟨w.heap.size, 0, none⟩ = some (.int .i64 7) := by have := (Blk.in_ hB1).c0; rw [HX.out] at this; exact this
  have l1 := (Look.word 7 (by decide) (.agg #[str [105, 100, 108, 101], .func (.func 44) #[] #[]]) rfl) ((w1.alloc (.map kindsE 10)).drew) w1.heap.size (at_last' rfl)
  have hlt := hB1.lt
  have hfl : ∀ W, (Instr.field 56 (.agg #[str [105, 100, 108, 101], .func (.func 44) #[] #[]]) 0).run Tryz.prog W = .ok (str [105, 100, 108, 101]) W := fun _ => by kernel_rfl
  have HB := Lib.hid (And.intro hB1 hOw1)
  clear hB1 hOw1
  go_cut [4] (fun s wx => LnS w wx x [[105, 100, 108, 101]] s)
  case first =>
    go_region_with (refine (kinds_map _).mono ?_; rintro e w2 ⟨rfl, rfl⟩)
    all_goals
      clear l1 c0 hfl
      go_wp2_with fail
      go_meet
      exact LnS.first HB.out.1 HB.out.2 (by decide) (by repeat (first | exact Only.refl _ _ | refine Only.drew ?_ | refine Only.alloc ?_ _)) (by first | exact Blk.new' rfl (by simp) | exact (Blk.new' rfl (by simp)).drew) (by simp)
  case rest =>
    have hL0 := hcut
    clear l1 c0 HB hcut hlt hfl
    obtain ⟨c0, c1, c2, c3, c4, c5, -⟩ := Blk.in_ hL0.1; rw [HX.out] at c0 c1 c2 c3 c4 c5; simp only at c0 c1 c2 c3 c4 c5
    have hb0 : Bnd [numL 10 dt] := ⟨Nat.le_of_ble_eq_true rfl, fun y hy => by simp at hy; subst hy; exact numL_sh (by omega) h3⟩
    have hwd : IntKind.i64.wrap (dt : Int) = dt := IntWalk.i64_in _ (by omega)
    go_wp2_with (first
      | (go_at_call 31; refine (ln_join (xs := [[105, 100, 108, 101], numL 10 dt]) hL1 (Nat.le_of_ble_eq_true rfl)).mono ?_; rintro e w9 ⟨rfl, hO9⟩)
      | (at_builtin; refine wpList_append_ln rfl _ _ rfl w x [[105, 100, 108, 101]] [numL 10 dt] _ rfl (hM0.alloc _) _ _ rfl rfl (Blk.new' rfl rfl) (hb0) (Nat.le_of_ble_eq_true rfl) ?_; intro v1 wz1 hL1; obtain ⟨c0, c1, c2, c3, c4, c5, -⟩ := Blk.in_ hL1.1; rw [HX.out] at c0 c1 c2 c3 c4 c5; simp only at c0 c1 c2 c3 c4 c5)
      | (go_at_call 35; refine (itoa_any dt (by omega) _ (hg.only hL0.2.2.1)).mono ?_; rintro e wq0 ⟨rfl, hOq0⟩; have hM0 := hL0.only hOq0))
    go_ret2
    exact ⟨rfl, hL1.2.2.1.trans hO9⟩

set_option maxRecDepth 100000 in
set_option maxHeartbeats 4000000 in
theorem line_8 (dt : Nat) (h3 : dt < 4294967296) (x : In) (hx : x = ⟨8, 0, 0, false, dt, 0, Cf.zero⟩) (hok : x.ok = true) (w : World) (hg : Gl w) :
    Calls Tryz.prog 17 #[x.agg] w fun e w' => e = .returned (.tuple #[str (Lib.join [[109, 97, 115, 107], numL 16 dt] [32]), .int .i64 0]) ∧ Only [] w w' := by
  have HI := Lib.hid (fun W => instr_any x (by subst hx; simp only; omega) W)
  rw [hok] at HI
  have HX := Lib.hid hx
  have hN := Blk.new w 33 x.cs
  have HR := Lib.hid hN.rng
  have HN := Lib.hid hN
  clear hok hN hx
  go_enter Tryz.func17, Tryz.ntmps17
  go_upto_region 3 with (first
    | (refine wpList_ld 33 x w.heap.size 0 _ rfl (.inl rfl) rfl rfl HR.out ?_)
    | (go_at_call 10; refine (HI.out _).mono ?_; rintro e w1 ⟨rfl, hO1⟩))
  have hB1 := hO1.blk HN.out (by simp)
  have hOw1 := ((Only.refl [] w).alloc (.cells x.cs 33)).trans hO1
  clear HN HR HI hO1
  have c0 : w1.cell? ⟨w.heap.size, 0, none⟩ = some (.int .i64 8) := by have := (Blk.in_ hB1).c0; rw [HX.out] at this; exact this
  have l1 := (Look.word 8 (by decide) (.agg #[str [109, 97, 115, 107], .func (.func 45) #[] #[]]) rfl) ((w1.alloc (.map kindsE 10)).drew) w1.heap.size (at_last' rfl)
  have hlt := hB1.lt
  have hfl : ∀ W, (Instr.field 56 (.agg #[str [109, 97, 115, 107], .func (.func 45) #[] #[]]) 0).run Tryz.prog W = .ok (str [109, 97, 115, 107]) W := fun _ => by kernel_rfl
  have HB := Lib.hid (And.intro hB1 hOw1)
  clear hB1 hOw1
  go_cut [4] (fun s wx => LnS w wx x [[109, 97, 115, 107]] s)
  case first =>
    go_region_with (refine (kinds_map _).mono ?_; rintro e w2 ⟨rfl, rfl⟩)
    all_goals
      clear l1 c0 hfl
      go_wp2_with fail
      go_meet
      exact LnS.first HB.out.1 HB.out.2 (by decide) (by repeat (first | exact Only.refl _ _ | refine Only.drew ?_ | refine Only.alloc ?_ _)) (by first | exact Blk.new' rfl (by simp) | exact (Blk.new' rfl (by simp)).drew) (by simp)
  case rest =>
    have hL0 := hcut
    clear l1 c0 HB hcut hlt hfl
    obtain ⟨c0, c1, c2, c3, c4, c5, -⟩ := Blk.in_ hL0.1; rw [HX.out] at c0 c1 c2 c3 c4 c5; simp only at c0 c1 c2 c3 c4 c5
    have hb0 : Bnd [numL 16 dt] := ⟨Nat.le_of_ble_eq_true rfl, fun y hy => by simp at hy; subst hy; exact numL_sh (by omega) h3⟩
    go_wp2_with (first
      | (go_at_call 31; refine (ln_join (xs := [[109, 97, 115, 107], numL 16 dt]) hL1 (Nat.le_of_ble_eq_true rfl)).mono ?_; rintro e w9 ⟨rfl, hO9⟩)
      | (at_builtin; refine wpList_append_ln rfl _ _ rfl w x [[109, 97, 115, 107]] [numL 16 dt] _ rfl (hM0.alloc _) _ _ rfl rfl (Blk.new' rfl rfl) (hb0) (Nat.le_of_ble_eq_true rfl) ?_; intro v1 wz1 hL1; obtain ⟨c0, c1, c2, c3, c4, c5, -⟩ := Blk.in_ hL1.1; rw [HX.out] at c0 c1 c2 c3 c4 c5; simp only at c0 c1 c2 c3 c4 c5)
      | (go_at_call 36; refine (hexp_any dt h3 _ (hg.only hL0.2.2.1)).mono ?_; rintro e wq0 ⟨rfl, hOq0⟩; have hM0 := hL0.only hOq0))
    go_ret2
    exact ⟨rfl, hL1.2.2.1.trans hO9⟩

set_option maxRecDepth 100000 in
set_option maxHeartbeats 4000000 in
theorem line_9 (c : Cf) (hcf : c.Fits) (hr : c.right = true) (hsl : c.shown.length ≤ 100) (x : In) (hx : x = ⟨9, 0, 0, false, 0, 0, c⟩) (hok : x.ok = true) (w : World) (hg : Gl w) :
    Calls Tryz.prog 17 #[x.agg] w fun e w' => e = .returned (.tuple #[str (Lib.join [[99, 111, 110, 102], c.shown] [32]), .int .i64 0]) ∧ Only [] w w' := by
  have HI := Lib.hid (fun W => instr_any x (by subst hx; exact (by decide : (0 : Int) ≤ 4294967295)) W)
  rw [hok] at HI
  have HX := Lib.hid hx
  have hN := Blk.new w 33 x.cs
  have HR := Lib.hid hN.rng
  have HN := Lib.hid hN
  clear hok hN hx
  go_enter Tryz.func17, Tryz.ntmps17
  go_upto_region 3 with (first
    | (refine wpList_ld 33 x w.heap.size 0 _ rfl (.inl rfl) rfl rfl HR.out ?_)
    | (go_at_call 10; refine (HI.out _).mono ?_; rintro e w1 ⟨rfl, hO1⟩))
  have hB1 := hO1.blk HN.out (by simp)
  have hOw1 := ((Only.refl [] w).alloc (.cells x.cs 33)).trans hO1
  clear HN HR HI hO1
  have c0 : w1.cell? ⟨w.heap.size, 0, none⟩ = some (.int .i64 9) := by have := (Blk.in_ hB1).c0; rw [HX.out] at this; exact this
  have l1 := (Look.word 9 (by decide) (.agg #[str [99, 111, 110, 102], .func (.func 46) #[] #[]]) rfl) ((w1.alloc (.map kindsE 10)).drew) w1.heap.size (at_last' rfl)
  have hlt := hB1.lt
  have hfl : ∀ W, (Instr.field 56 (.agg #[str [99, 111, 110, 102], .func (.func 46) #[] #[]]) 0).run Tryz.prog W = .ok (str [99, 111, 110, 102]) W := fun _ => by kernel_rfl
  have HB := Lib.hid (And.intro hB1 hOw1)
  clear hB1 hOw1
  go_cut [4] (fun s wx => LnS w wx x [[99, 111, 110, 102]] s)
  case first =>
    go_region_with (refine (kinds_map _).mono ?_; rintro e w2 ⟨rfl, rfl⟩)
    all_goals
      clear l1 c0 hfl
      go_wp2_with fail
      go_meet
      exact LnS.first HB.out.1 HB.out.2 (by decide) (by repeat (first | exact Only.refl _ _ | refine Only.drew ?_ | refine Only.alloc ?_ _)) (by first | exact Blk.new' rfl (by simp) | exact (Blk.new' rfl (by simp)).drew) (by simp)
  case rest =>
    have hL0 := hcut
    clear l1 c0 HB hcut hlt hfl
    obtain ⟨c0, c1, c2, c3, c4, c5, -⟩ := Blk.in_ hL0.1; rw [HX.out] at c0 c1 c2 c3 c4 c5; simp only at c0 c1 c2 c3 c4 c5
    have hb0 : Bnd [c.shown] := ⟨Nat.le_of_ble_eq_true rfl, fun y hy => by simp at hy; subst hy; exact hsl⟩
    have HRc : Hid (wc.rangeAt w.heap.size 6 c.list) := Lib.hid (by have := Blk.rngC hL0.1; rw [HX.out] at this; exact this)
    have herr : c.err = 0 := by unfold Cf.err; rw [hr]; rfl
    clear hr
    go_wp2_with (first
      | (go_at_call 31; refine (ln_join (xs := [[99, 111, 110, 102], c.shown]) hL1 (Nat.le_of_ble_eq_true rfl)).mono ?_; rintro e w9 ⟨rfl, hO9⟩)
      | (refine wpList_ldc c w.heap.size 6 _ rfl rfl rfl HRc.out ?_)
      | (at_builtin; refine wpList_append_ln rfl _ _ rfl w x [[99, 111, 110, 102]] [c.shown] _ rfl (hM0.alloc _) _ _ rfl rfl (Blk.new' rfl rfl) (hb0) (Nat.le_of_ble_eq_true rfl) ?_; intro v1 wz1 hL1; obtain ⟨c0, c1, c2, c3, c4, c5, -⟩ := Blk.in_ hL1.1; rw [HX.out] at c0 c1 c2 c3 c4 c5; simp only at c0 c1 c2 c3 c4 c5)
      | (go_at_call 37; refine (show_any c hcf _ (hg.only hL0.2.2.1)).mono ?_; rintro e wq0 ⟨rfl, hOq0⟩; have hM0 := hL0.only hOq0))
    go_ret2
    exact ⟨rfl, hL1.2.2.1.trans hO9⟩
end Go.Proofs.YtagmoehjcgjnjaaGreatDoor
