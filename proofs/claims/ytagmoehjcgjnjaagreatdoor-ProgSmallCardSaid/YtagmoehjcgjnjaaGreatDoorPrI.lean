/- The document's Instr of prog, walked: whether an instruction is right. Condition: its words fit. -/
import Derived.Test.YtagmoehjcgjnjaaGreatDoorPgR
import Derived.Test.YtagmoehjcgjnjaaGreatDoorCrG
import Derived.Deep.DeepCutAuto
import Derived.Outline
namespace Go.Proofs.YtagmoehjcgjnjaaGreatDoor
open Go Go.RowKit
attribute [local go_sem ↓] in_eql36 in_neq36

theorem setL_cf (x : In) : setL (In.only x.op).cs 6 x.cf.list = (In.mk x.op 0 0 false 0 0 x.cf).cs := by
  simp [setL]

set_option maxRecDepth 100000 in
set_option maxHeartbeats 4000000 in
theorem rinstr_1 (x : In) (_q1 : (x.op == 1) = true) (_q2 : (x.op == 2) = false) (_q3 : (x.op == 3) = false) (_q4 : (x.op == 4) = false) (_q5 : (x.op == 5) = false) (_q6 : (x.op == 6) = false) (_q7 : (x.op == 7) = false) (_q8 : (x.op == 8) = false) (_q9 : (x.op == 9) = false) (_q10 : (x.op == 10) = false) (w : World) :
    Calls Tryz.prog 27 #[x.agg] w fun e w' => e = .returned (.bool (x.same ⟨x.op, x.sz, x.ad, x.ix, 0, 0, Cf.zero⟩ && x.at_)) ∧ Only [] w w' := by
  have HN := Lib.hid ((Blk.new w 33 x.cs).alloc (.cells (In.only 0).cs 33))
  go_enter Tryz.func27, Tryz.ntmps27
  go_upto_region 2 with (refine wpList_st 33 (In.only x.op).cs.toList (w.heap.size + 1) 0 _ _ rfl (by kernel_rfl) rfl rfl rfl rfl (Blk.new' rfl (by simp) : Blk _ (w.heap.size + 1) 33 (In.only 0).cs) (Nat.le_of_ble_eq_true rfl) ?_; intro w3 hB3 hO3)
  have hX := hO3.blk HN.out (by simp)
  rw [show setL (In.only 0).cs 0 (In.only x.op).cs.toList = (In.only x.op).cs by simp [setL]] at hB3
  have HB := Lib.hid (And.intro hX hB3)
  have HO := Lib.hid ((((Only.refl [] w).alloc (.cells x.cs 33)).alloc (.cells (In.only 0).cs 33)).trans' hO3 (by intro z hz hlt; simp at hz; omega))
  obtain ⟨c0, c1, c2, c3, c4, c5, c6, c7, c8, c9, c10, c11, c12, c13, c14, c15, c16, c17, cf⟩ := Blk.in_ hX
  clear HN hX hB3 hO3 cf
  have hne : w.heap.size + 1 ≠ w.heap.size := by omega
  simp only [Act.put]
  go_cut [4] (fun s wx => s = .bool x.at_ ∧ w3 = wx)
  case first =>
    clear HB HO c0 c2 c3 c4 c5 c6 c7 c8 c9 c10 c11 c12 c13 c14 c15 c16 c17
    have ha : (x.sz == 1) = true ∨ ((x.sz == 1) = false ∧ (x.sz == 2) = true) ∨ ((x.sz == 1) = false ∧ (x.sz == 2) = false) := by
      cases (x.sz == 1) <;> cases (x.sz == 2) <;> simp
    rcases ha with h1 | ⟨h1, h2⟩ | ⟨h1, h2⟩
    · go_wp2
      go_meet
      exact ⟨by simp [In.at_, h1], rfl⟩
    · go_wp2
      go_meet
      exact ⟨by simp [In.at_, h1, h2], rfl⟩
    · go_wp2
      go_meet
      exact ⟨by simp [In.at_, h1, h2], rfl⟩
  case rest =>
    obtain ⟨rfl, rfl⟩ := hcut
    go_upto_region 3 with fail
    go_cut [5] (fun s wx => s = .bool x.goes ∧ w3 = wx)
    case first =>
      clear HB HO c0 c1 c2 c3 c4 c6 c7 c8 c9 c10 c11 c12 c13 c14 c15 c16 c17
      have ha : decide (0 ≤ x.to) = true ∨ decide (0 ≤ x.to) = false := by
        cases decide (0 ≤ x.to) <;> simp
      rcases ha with h1 | h1
      · have h2 : 0 ≤ x.to := by simpa using h1
        clear h1
        go_wp2
        go_meet
        exact ⟨by simp [In.goes, h2], rfl⟩
      · have h2 : ¬ 0 ≤ x.to := by simpa using h1
        have HG := Lib.hid (show x.goes = false by simp [In.goes, h2])
        clear h1
        go_wp2
        go_meet
        exact ⟨by rw [HG.out], rfl⟩
    case rest =>
      obtain ⟨rfl, rfl⟩ := hcut
      have hne2 : w.heap.size ≠ w.heap.size + 1 := by omega
      obtain ⟨d0, d1, d2, d3, d4, d5, d6, d7, d8, d9, d10, d11, d12, d13, d14, d15, d16, d17, df⟩ := Blk.in_ HB.out.2
      have f1 := df 1
      have f2 := df 2
      have f3 := df 3
      clear df d0 d4 d5 d6 d7 d8 d9 d10 d11 d12 d13 d14 d15 d16 d17
      go_upto_region 10 with fail
      have HA := Lib.hid (Blk.rng (((HB.out.1.far (p := ⟨w.heap.size + 1, 1, none⟩) hne2 (.int .i64 x.sz)).far (p := ⟨w.heap.size + 1, 2, none⟩) hne2 (.int .u32 x.ad)).far (p := ⟨w.heap.size + 1, 3, none⟩) hne2 (.bool x.ix)))
      have HC := Lib.hid (Blk.rng (((HB.out.2.set_ 1 (.int .i64 x.sz)).set_ 2 (.int .u32 x.ad)).set_ 3 (.bool x.ix)) : World.rangeAt _ _ _ (In.cs ⟨x.op, x.sz, x.ad, x.ix, 0, 0, Cf.zero⟩).toList)
      have HP := Lib.hid (((((((HO.out).setCell (p := ⟨w.heap.size + 1, 1, none⟩) (.inr (by simp)) (.int .i64 x.sz))).setCell (p := ⟨w.heap.size + 1, 2, none⟩) (.inr (by simp)) (.int .u32 x.ad))).setCell (p := ⟨w.heap.size + 1, 3, none⟩) (.inr (by simp)) (.bool x.ix)))
      clear HB HO d1 f1 d2 f2 d3 f3 hne hne2 c1 c2 c3 c4 c5 c6 c7 c8 c9 c10 c11 c12 c13 c14 c15 c16 c17
      go_wp2_with (first
        | (refine wpList_ld 33 x w.heap.size 0 _ rfl (.inl rfl) rfl rfl HA.out ?_)
        | (refine wpList_ld 33 ⟨x.op, x.sz, x.ad, x.ix, 0, 0, Cf.zero⟩ (w.heap.size + 1) 0 _ rfl (.inl rfl) rfl rfl HC.out ?_))
      all_goals
        go_returns
        exact ⟨by first | rfl | simp_all, HP.out⟩

set_option maxRecDepth 100000 in
set_option maxHeartbeats 4000000 in
theorem rinstr_3 (x : In) (_q1 : (x.op == 1) = false) (_q2 : (x.op == 2) = false) (_q3 : (x.op == 3) = true) (_q4 : (x.op == 4) = false) (_q5 : (x.op == 5) = false) (_q6 : (x.op == 6) = false) (_q7 : (x.op == 7) = false) (_q8 : (x.op == 8) = false) (_q9 : (x.op == 9) = false) (_q10 : (x.op == 10) = false) (w : World) :
    Calls Tryz.prog 27 #[x.agg] w fun e w' => e = .returned (.bool (x.same ⟨x.op, x.sz, x.ad, x.ix, 0, 0, Cf.zero⟩ && x.at_)) ∧ Only [] w w' := by
  have HN := Lib.hid ((Blk.new w 33 x.cs).alloc (.cells (In.only 0).cs 33))
  go_enter Tryz.func27, Tryz.ntmps27
  go_upto_region 2 with (refine wpList_st 33 (In.only x.op).cs.toList (w.heap.size + 1) 0 _ _ rfl (by kernel_rfl) rfl rfl rfl rfl (Blk.new' rfl (by simp) : Blk _ (w.heap.size + 1) 33 (In.only 0).cs) (Nat.le_of_ble_eq_true rfl) ?_; intro w3 hB3 hO3)
  have hX := hO3.blk HN.out (by simp)
  rw [show setL (In.only 0).cs 0 (In.only x.op).cs.toList = (In.only x.op).cs by simp [setL]] at hB3
  have HB := Lib.hid (And.intro hX hB3)
  have HO := Lib.hid ((((Only.refl [] w).alloc (.cells x.cs 33)).alloc (.cells (In.only 0).cs 33)).trans' hO3 (by intro z hz hlt; simp at hz; omega))
  obtain ⟨c0, c1, c2, c3, c4, c5, c6, c7, c8, c9, c10, c11, c12, c13, c14, c15, c16, c17, cf⟩ := Blk.in_ hX
  clear HN hX hB3 hO3 cf
  have hne : w.heap.size + 1 ≠ w.heap.size := by omega
  simp only [Act.put]
  go_cut [4] (fun s wx => s = .bool x.at_ ∧ w3 = wx)
  case first =>
    clear HB HO c0 c2 c3 c4 c5 c6 c7 c8 c9 c10 c11 c12 c13 c14 c15 c16 c17
    have ha : (x.sz == 1) = true ∨ ((x.sz == 1) = false ∧ (x.sz == 2) = true) ∨ ((x.sz == 1) = false ∧ (x.sz == 2) = false) := by
      cases (x.sz == 1) <;> cases (x.sz == 2) <;> simp
    rcases ha with h1 | ⟨h1, h2⟩ | ⟨h1, h2⟩
    · go_wp2
      go_meet
      exact ⟨by simp [In.at_, h1], rfl⟩
    · go_wp2
      go_meet
      exact ⟨by simp [In.at_, h1, h2], rfl⟩
    · go_wp2
      go_meet
      exact ⟨by simp [In.at_, h1, h2], rfl⟩
  case rest =>
    obtain ⟨rfl, rfl⟩ := hcut
    go_upto_region 3 with fail
    go_cut [5] (fun s wx => s = .bool x.goes ∧ w3 = wx)
    case first =>
      clear HB HO c0 c1 c2 c3 c4 c6 c7 c8 c9 c10 c11 c12 c13 c14 c15 c16 c17
      have ha : decide (0 ≤ x.to) = true ∨ decide (0 ≤ x.to) = false := by
        cases decide (0 ≤ x.to) <;> simp
      rcases ha with h1 | h1
      · have h2 : 0 ≤ x.to := by simpa using h1
        clear h1
        go_wp2
        go_meet
        exact ⟨by simp [In.goes, h2], rfl⟩
      · have h2 : ¬ 0 ≤ x.to := by simpa using h1
        have HG := Lib.hid (show x.goes = false by simp [In.goes, h2])
        clear h1
        go_wp2
        go_meet
        exact ⟨by rw [HG.out], rfl⟩
    case rest =>
      obtain ⟨rfl, rfl⟩ := hcut
      have hne2 : w.heap.size ≠ w.heap.size + 1 := by omega
      obtain ⟨d0, d1, d2, d3, d4, d5, d6, d7, d8, d9, d10, d11, d12, d13, d14, d15, d16, d17, df⟩ := Blk.in_ HB.out.2
      have f1 := df 1
      have f2 := df 2
      have f3 := df 3
      clear df d0 d4 d5 d6 d7 d8 d9 d10 d11 d12 d13 d14 d15 d16 d17
      go_upto_region 10 with fail
      have HA := Lib.hid (Blk.rng (((HB.out.1.far (p := ⟨w.heap.size + 1, 1, none⟩) hne2 (.int .i64 x.sz)).far (p := ⟨w.heap.size + 1, 2, none⟩) hne2 (.int .u32 x.ad)).far (p := ⟨w.heap.size + 1, 3, none⟩) hne2 (.bool x.ix)))
      have HC := Lib.hid (Blk.rng (((HB.out.2.set_ 1 (.int .i64 x.sz)).set_ 2 (.int .u32 x.ad)).set_ 3 (.bool x.ix)) : World.rangeAt _ _ _ (In.cs ⟨x.op, x.sz, x.ad, x.ix, 0, 0, Cf.zero⟩).toList)
      have HP := Lib.hid (((((((HO.out).setCell (p := ⟨w.heap.size + 1, 1, none⟩) (.inr (by simp)) (.int .i64 x.sz))).setCell (p := ⟨w.heap.size + 1, 2, none⟩) (.inr (by simp)) (.int .u32 x.ad))).setCell (p := ⟨w.heap.size + 1, 3, none⟩) (.inr (by simp)) (.bool x.ix)))
      clear HB HO d1 f1 d2 f2 d3 f3 hne hne2 c1 c2 c3 c4 c5 c6 c7 c8 c9 c10 c11 c12 c13 c14 c15 c16 c17
      go_wp2_with (first
        | (refine wpList_ld 33 x w.heap.size 0 _ rfl (.inl rfl) rfl rfl HA.out ?_)
        | (refine wpList_ld 33 ⟨x.op, x.sz, x.ad, x.ix, 0, 0, Cf.zero⟩ (w.heap.size + 1) 0 _ rfl (.inl rfl) rfl rfl HC.out ?_))
      all_goals
        go_returns
        exact ⟨by first | rfl | simp_all, HP.out⟩

set_option maxRecDepth 100000 in
set_option maxHeartbeats 4000000 in
theorem rinstr_2 (x : In) (_q1 : (x.op == 1) = false) (_q2 : (x.op == 2) = true) (_q3 : (x.op == 3) = false) (_q4 : (x.op == 4) = false) (_q5 : (x.op == 5) = false) (_q6 : (x.op == 6) = false) (_q7 : (x.op == 7) = false) (_q8 : (x.op == 8) = false) (_q9 : (x.op == 9) = false) (_q10 : (x.op == 10) = false) (w : World) :
    Calls Tryz.prog 27 #[x.agg] w fun e w' => e = .returned (.bool (x.same ⟨x.op, x.sz, x.ad, x.ix, x.dt, 0, Cf.zero⟩ && x.at_)) ∧ Only [] w w' := by
  have HN := Lib.hid ((Blk.new w 33 x.cs).alloc (.cells (In.only 0).cs 33))
  go_enter Tryz.func27, Tryz.ntmps27
  go_upto_region 2 with (refine wpList_st 33 (In.only x.op).cs.toList (w.heap.size + 1) 0 _ _ rfl (by kernel_rfl) rfl rfl rfl rfl (Blk.new' rfl (by simp) : Blk _ (w.heap.size + 1) 33 (In.only 0).cs) (Nat.le_of_ble_eq_true rfl) ?_; intro w3 hB3 hO3)
  have hX := hO3.blk HN.out (by simp)
  rw [show setL (In.only 0).cs 0 (In.only x.op).cs.toList = (In.only x.op).cs by simp [setL]] at hB3
  have HB := Lib.hid (And.intro hX hB3)
  have HO := Lib.hid ((((Only.refl [] w).alloc (.cells x.cs 33)).alloc (.cells (In.only 0).cs 33)).trans' hO3 (by intro z hz hlt; simp at hz; omega))
  obtain ⟨c0, c1, c2, c3, c4, c5, c6, c7, c8, c9, c10, c11, c12, c13, c14, c15, c16, c17, cf⟩ := Blk.in_ hX
  clear HN hX hB3 hO3 cf
  have hne : w.heap.size + 1 ≠ w.heap.size := by omega
  simp only [Act.put]
  go_cut [4] (fun s wx => s = .bool x.at_ ∧ w3 = wx)
  case first =>
    clear HB HO c0 c2 c3 c4 c5 c6 c7 c8 c9 c10 c11 c12 c13 c14 c15 c16 c17
    have ha : (x.sz == 1) = true ∨ ((x.sz == 1) = false ∧ (x.sz == 2) = true) ∨ ((x.sz == 1) = false ∧ (x.sz == 2) = false) := by
      cases (x.sz == 1) <;> cases (x.sz == 2) <;> simp
    rcases ha with h1 | ⟨h1, h2⟩ | ⟨h1, h2⟩
    · go_wp2
      go_meet
      exact ⟨by simp [In.at_, h1], rfl⟩
    · go_wp2
      go_meet
      exact ⟨by simp [In.at_, h1, h2], rfl⟩
    · go_wp2
      go_meet
      exact ⟨by simp [In.at_, h1, h2], rfl⟩
  case rest =>
    obtain ⟨rfl, rfl⟩ := hcut
    go_upto_region 3 with fail
    go_cut [5] (fun s wx => s = .bool x.goes ∧ w3 = wx)
    case first =>
      clear HB HO c0 c1 c2 c3 c4 c6 c7 c8 c9 c10 c11 c12 c13 c14 c15 c16 c17
      have ha : decide (0 ≤ x.to) = true ∨ decide (0 ≤ x.to) = false := by
        cases decide (0 ≤ x.to) <;> simp
      rcases ha with h1 | h1
      · have h2 : 0 ≤ x.to := by simpa using h1
        clear h1
        go_wp2
        go_meet
        exact ⟨by simp [In.goes, h2], rfl⟩
      · have h2 : ¬ 0 ≤ x.to := by simpa using h1
        have HG := Lib.hid (show x.goes = false by simp [In.goes, h2])
        clear h1
        go_wp2
        go_meet
        exact ⟨by rw [HG.out], rfl⟩
    case rest =>
      obtain ⟨rfl, rfl⟩ := hcut
      have hne2 : w.heap.size ≠ w.heap.size + 1 := by omega
      obtain ⟨d0, d1, d2, d3, d4, d5, d6, d7, d8, d9, d10, d11, d12, d13, d14, d15, d16, d17, df⟩ := Blk.in_ HB.out.2
      have f1 := df 1
      have f2 := df 2
      have f3 := df 3
      have f4 := df 4
      clear df d0 d5 d6 d7 d8 d9 d10 d11 d12 d13 d14 d15 d16 d17
      go_upto_region 16 with fail
      have HA := Lib.hid (Blk.rng ((((HB.out.1.far (p := ⟨w.heap.size + 1, 1, none⟩) hne2 (.int .i64 x.sz)).far (p := ⟨w.heap.size + 1, 2, none⟩) hne2 (.int .u32 x.ad)).far (p := ⟨w.heap.size + 1, 3, none⟩) hne2 (.bool x.ix)).far (p := ⟨w.heap.size + 1, 4, none⟩) hne2 (.int .u32 x.dt)))
      have HC := Lib.hid (Blk.rng ((((HB.out.2.set_ 1 (.int .i64 x.sz)).set_ 2 (.int .u32 x.ad)).set_ 3 (.bool x.ix)).set_ 4 (.int .u32 x.dt)) : World.rangeAt _ _ _ (In.cs ⟨x.op, x.sz, x.ad, x.ix, x.dt, 0, Cf.zero⟩).toList)
      have HP := Lib.hid (((((((((HO.out).setCell (p := ⟨w.heap.size + 1, 1, none⟩) (.inr (by simp)) (.int .i64 x.sz))).setCell (p := ⟨w.heap.size + 1, 2, none⟩) (.inr (by simp)) (.int .u32 x.ad))).setCell (p := ⟨w.heap.size + 1, 3, none⟩) (.inr (by simp)) (.bool x.ix))).setCell (p := ⟨w.heap.size + 1, 4, none⟩) (.inr (by simp)) (.int .u32 x.dt)))
      clear HB HO d1 f1 d2 f2 d3 f3 d4 f4 hne hne2 c1 c2 c3 c4 c5 c6 c7 c8 c9 c10 c11 c12 c13 c14 c15 c16 c17
      go_wp2_with (first
        | (refine wpList_ld 33 x w.heap.size 0 _ rfl (.inl rfl) rfl rfl HA.out ?_)
        | (refine wpList_ld 33 ⟨x.op, x.sz, x.ad, x.ix, x.dt, 0, Cf.zero⟩ (w.heap.size + 1) 0 _ rfl (.inl rfl) rfl rfl HC.out ?_))
      all_goals
        go_returns
        exact ⟨by first | rfl | simp_all, HP.out⟩

set_option maxRecDepth 100000 in
set_option maxHeartbeats 4000000 in
theorem rinstr_4 (x : In) (_q1 : (x.op == 1) = false) (_q2 : (x.op == 2) = false) (_q3 : (x.op == 3) = false) (_q4 : (x.op == 4) = true) (_q5 : (x.op == 5) = false) (_q6 : (x.op == 6) = false) (_q7 : (x.op == 7) = false) (_q8 : (x.op == 8) = false) (_q9 : (x.op == 9) = false) (_q10 : (x.op == 10) = false) (w : World) :
    Calls Tryz.prog 27 #[x.agg] w fun e w' => e = .returned (.bool (x.same ⟨x.op, 0, 0, false, 0, 0, Cf.zero⟩)) ∧ Only [] w w' := by
  have HN := Lib.hid ((Blk.new w 33 x.cs).alloc (.cells (In.only 0).cs 33))
  go_enter Tryz.func27, Tryz.ntmps27
  go_upto_region 2 with (refine wpList_st 33 (In.only x.op).cs.toList (w.heap.size + 1) 0 _ _ rfl (by kernel_rfl) rfl rfl rfl rfl (Blk.new' rfl (by simp) : Blk _ (w.heap.size + 1) 33 (In.only 0).cs) (Nat.le_of_ble_eq_true rfl) ?_; intro w3 hB3 hO3)
  have hX := hO3.blk HN.out (by simp)
  rw [show setL (In.only 0).cs 0 (In.only x.op).cs.toList = (In.only x.op).cs by simp [setL]] at hB3
  have HB := Lib.hid (And.intro hX hB3)
  have HO := Lib.hid ((((Only.refl [] w).alloc (.cells x.cs 33)).alloc (.cells (In.only 0).cs 33)).trans' hO3 (by intro z hz hlt; simp at hz; omega))
  obtain ⟨c0, c1, c2, c3, c4, c5, c6, c7, c8, c9, c10, c11, c12, c13, c14, c15, c16, c17, cf⟩ := Blk.in_ hX
  clear HN hX hB3 hO3 cf
  have hne : w.heap.size + 1 ≠ w.heap.size := by omega
  simp only [Act.put]
  go_cut [4] (fun s wx => s = .bool x.at_ ∧ w3 = wx)
  case first =>
    clear HB HO c0 c2 c3 c4 c5 c6 c7 c8 c9 c10 c11 c12 c13 c14 c15 c16 c17
    have ha : (x.sz == 1) = true ∨ ((x.sz == 1) = false ∧ (x.sz == 2) = true) ∨ ((x.sz == 1) = false ∧ (x.sz == 2) = false) := by
      cases (x.sz == 1) <;> cases (x.sz == 2) <;> simp
    rcases ha with h1 | ⟨h1, h2⟩ | ⟨h1, h2⟩
    · go_wp2
      go_meet
      exact ⟨by simp [In.at_, h1], rfl⟩
    · go_wp2
      go_meet
      exact ⟨by simp [In.at_, h1, h2], rfl⟩
    · go_wp2
      go_meet
      exact ⟨by simp [In.at_, h1, h2], rfl⟩
  case rest =>
    obtain ⟨rfl, rfl⟩ := hcut
    go_upto_region 3 with fail
    go_cut [5] (fun s wx => s = .bool x.goes ∧ w3 = wx)
    case first =>
      clear HB HO c0 c1 c2 c3 c4 c6 c7 c8 c9 c10 c11 c12 c13 c14 c15 c16 c17
      have ha : decide (0 ≤ x.to) = true ∨ decide (0 ≤ x.to) = false := by
        cases decide (0 ≤ x.to) <;> simp
      rcases ha with h1 | h1
      · have h2 : 0 ≤ x.to := by simpa using h1
        clear h1
        go_wp2
        go_meet
        exact ⟨by simp [In.goes, h2], rfl⟩
      · have h2 : ¬ 0 ≤ x.to := by simpa using h1
        have HG := Lib.hid (show x.goes = false by simp [In.goes, h2])
        clear h1
        go_wp2
        go_meet
        exact ⟨by rw [HG.out], rfl⟩
    case rest =>
      obtain ⟨rfl, rfl⟩ := hcut
      have hne2 : w.heap.size ≠ w.heap.size + 1 := by omega
      obtain ⟨d0, d1, d2, d3, d4, d5, d6, d7, d8, d9, d10, d11, d12, d13, d14, d15, d16, d17, df⟩ := Blk.in_ HB.out.2
      clear df d0 d1 d2 d3 d4 d5 d6 d7 d8 d9 d10 d11 d12 d13 d14 d15 d16 d17
      go_upto_region 19 with fail
      have HA := Lib.hid (Blk.rng HB.out.1)
      have HC := Lib.hid (Blk.rng HB.out.2 : World.rangeAt _ _ _ (In.cs ⟨x.op, 0, 0, false, 0, 0, Cf.zero⟩).toList)
      have HP := Lib.hid (HO.out)
      clear HB HO  hne hne2 c1 c2 c3 c4 c5 c6 c7 c8 c9 c10 c11 c12 c13 c14 c15 c16 c17
      go_wp2_with (first
        | (refine wpList_ld 33 x w.heap.size 0 _ rfl (.inl rfl) rfl rfl HA.out ?_)
        | (refine wpList_ld 33 ⟨x.op, 0, 0, false, 0, 0, Cf.zero⟩ (w.heap.size + 1) 0 _ rfl (.inl rfl) rfl rfl HC.out ?_))
      all_goals
        go_returns
        exact ⟨by first | rfl | simp_all, HP.out⟩

set_option maxRecDepth 100000 in
set_option maxHeartbeats 4000000 in
theorem rinstr_10 (x : In) (_q1 : (x.op == 1) = false) (_q2 : (x.op == 2) = false) (_q3 : (x.op == 3) = false) (_q4 : (x.op == 4) = false) (_q5 : (x.op == 5) = false) (_q6 : (x.op == 6) = false) (_q7 : (x.op == 7) = false) (_q8 : (x.op == 8) = false) (_q9 : (x.op == 9) = false) (_q10 : (x.op == 10) = true) (w : World) :
    Calls Tryz.prog 27 #[x.agg] w fun e w' => e = .returned (.bool (x.same ⟨x.op, 0, 0, false, 0, 0, Cf.zero⟩)) ∧ Only [] w w' := by
  have HN := Lib.hid ((Blk.new w 33 x.cs).alloc (.cells (In.only 0).cs 33))
  go_enter Tryz.func27, Tryz.ntmps27
  go_upto_region 2 with (refine wpList_st 33 (In.only x.op).cs.toList (w.heap.size + 1) 0 _ _ rfl (by kernel_rfl) rfl rfl rfl rfl (Blk.new' rfl (by simp) : Blk _ (w.heap.size + 1) 33 (In.only 0).cs) (Nat.le_of_ble_eq_true rfl) ?_; intro w3 hB3 hO3)
  have hX := hO3.blk HN.out (by simp)
  rw [show setL (In.only 0).cs 0 (In.only x.op).cs.toList = (In.only x.op).cs by simp [setL]] at hB3
  have HB := Lib.hid (And.intro hX hB3)
  have HO := Lib.hid ((((Only.refl [] w).alloc (.cells x.cs 33)).alloc (.cells (In.only 0).cs 33)).trans' hO3 (by intro z hz hlt; simp at hz; omega))
  obtain ⟨c0, c1, c2, c3, c4, c5, c6, c7, c8, c9, c10, c11, c12, c13, c14, c15, c16, c17, cf⟩ := Blk.in_ hX
  clear HN hX hB3 hO3 cf
  have hne : w.heap.size + 1 ≠ w.heap.size := by omega
  simp only [Act.put]
  go_cut [4] (fun s wx => s = .bool x.at_ ∧ w3 = wx)
  case first =>
    clear HB HO c0 c2 c3 c4 c5 c6 c7 c8 c9 c10 c11 c12 c13 c14 c15 c16 c17
    have ha : (x.sz == 1) = true ∨ ((x.sz == 1) = false ∧ (x.sz == 2) = true) ∨ ((x.sz == 1) = false ∧ (x.sz == 2) = false) := by
      cases (x.sz == 1) <;> cases (x.sz == 2) <;> simp
    rcases ha with h1 | ⟨h1, h2⟩ | ⟨h1, h2⟩
    · go_wp2
      go_meet
      exact ⟨by simp [In.at_, h1], rfl⟩
    · go_wp2
      go_meet
      exact ⟨by simp [In.at_, h1, h2], rfl⟩
    · go_wp2
      go_meet
      exact ⟨by simp [In.at_, h1, h2], rfl⟩
  case rest =>
    obtain ⟨rfl, rfl⟩ := hcut
    go_upto_region 3 with fail
    go_cut [5] (fun s wx => s = .bool x.goes ∧ w3 = wx)
    case first =>
      clear HB HO c0 c1 c2 c3 c4 c6 c7 c8 c9 c10 c11 c12 c13 c14 c15 c16 c17
      have ha : decide (0 ≤ x.to) = true ∨ decide (0 ≤ x.to) = false := by
        cases decide (0 ≤ x.to) <;> simp
      rcases ha with h1 | h1
      · have h2 : 0 ≤ x.to := by simpa using h1
        clear h1
        go_wp2
        go_meet
        exact ⟨by simp [In.goes, h2], rfl⟩
      · have h2 : ¬ 0 ≤ x.to := by simpa using h1
        have HG := Lib.hid (show x.goes = false by simp [In.goes, h2])
        clear h1
        go_wp2
        go_meet
        exact ⟨by rw [HG.out], rfl⟩
    case rest =>
      obtain ⟨rfl, rfl⟩ := hcut
      have hne2 : w.heap.size ≠ w.heap.size + 1 := by omega
      obtain ⟨d0, d1, d2, d3, d4, d5, d6, d7, d8, d9, d10, d11, d12, d13, d14, d15, d16, d17, df⟩ := Blk.in_ HB.out.2
      clear df d0 d1 d2 d3 d4 d5 d6 d7 d8 d9 d10 d11 d12 d13 d14 d15 d16 d17
      go_upto_region 19 with fail
      have HA := Lib.hid (Blk.rng HB.out.1)
      have HC := Lib.hid (Blk.rng HB.out.2 : World.rangeAt _ _ _ (In.cs ⟨x.op, 0, 0, false, 0, 0, Cf.zero⟩).toList)
      have HP := Lib.hid (HO.out)
      clear HB HO  hne hne2 c1 c2 c3 c4 c5 c6 c7 c8 c9 c10 c11 c12 c13 c14 c15 c16 c17
      go_wp2_with (first
        | (refine wpList_ld 33 x w.heap.size 0 _ rfl (.inl rfl) rfl rfl HA.out ?_)
        | (refine wpList_ld 33 ⟨x.op, 0, 0, false, 0, 0, Cf.zero⟩ (w.heap.size + 1) 0 _ rfl (.inl rfl) rfl rfl HC.out ?_))
      all_goals
        go_returns
        exact ⟨by first | rfl | simp_all, HP.out⟩

set_option maxRecDepth 100000 in
set_option maxHeartbeats 4000000 in
theorem rinstr_5 (x : In) (_q1 : (x.op == 1) = false) (_q2 : (x.op == 2) = false) (_q3 : (x.op == 3) = false) (_q4 : (x.op == 4) = false) (_q5 : (x.op == 5) = true) (_q6 : (x.op == 6) = false) (_q7 : (x.op == 7) = false) (_q8 : (x.op == 8) = false) (_q9 : (x.op == 9) = false) (_q10 : (x.op == 10) = false) (w : World) :
    Calls Tryz.prog 27 #[x.agg] w fun e w' => e = .returned (.bool (x.same ⟨x.op, 0, 0, false, x.dt, x.to, Cf.zero⟩ && x.goes)) ∧ Only [] w w' := by
  have HN := Lib.hid ((Blk.new w 33 x.cs).alloc (.cells (In.only 0).cs 33))
  go_enter Tryz.func27, Tryz.ntmps27
  go_upto_region 2 with (refine wpList_st 33 (In.only x.op).cs.toList (w.heap.size + 1) 0 _ _ rfl (by kernel_rfl) rfl rfl rfl rfl (Blk.new' rfl (by simp) : Blk _ (w.heap.size + 1) 33 (In.only 0).cs) (Nat.le_of_ble_eq_true rfl) ?_; intro w3 hB3 hO3)
  have hX := hO3.blk HN.out (by simp)
  rw [show setL (In.only 0).cs 0 (In.only x.op).cs.toList = (In.only x.op).cs by simp [setL]] at hB3
  have HB := Lib.hid (And.intro hX hB3)
  have HO := Lib.hid ((((Only.refl [] w).alloc (.cells x.cs 33)).alloc (.cells (In.only 0).cs 33)).trans' hO3 (by intro z hz hlt; simp at hz; omega))
  obtain ⟨c0, c1, c2, c3, c4, c5, c6, c7, c8, c9, c10, c11, c12, c13, c14, c15, c16, c17, cf⟩ := Blk.in_ hX
  clear HN hX hB3 hO3 cf
  have hne : w.heap.size + 1 ≠ w.heap.size := by omega
  simp only [Act.put]
  go_cut [4] (fun s wx => s = .bool x.at_ ∧ w3 = wx)
  case first =>
    clear HB HO c0 c2 c3 c4 c5 c6 c7 c8 c9 c10 c11 c12 c13 c14 c15 c16 c17
    have ha : (x.sz == 1) = true ∨ ((x.sz == 1) = false ∧ (x.sz == 2) = true) ∨ ((x.sz == 1) = false ∧ (x.sz == 2) = false) := by
      cases (x.sz == 1) <;> cases (x.sz == 2) <;> simp
    rcases ha with h1 | ⟨h1, h2⟩ | ⟨h1, h2⟩
    · go_wp2
      go_meet
      exact ⟨by simp [In.at_, h1], rfl⟩
    · go_wp2
      go_meet
      exact ⟨by simp [In.at_, h1, h2], rfl⟩
    · go_wp2
      go_meet
      exact ⟨by simp [In.at_, h1, h2], rfl⟩
  case rest =>
    obtain ⟨rfl, rfl⟩ := hcut
    go_upto_region 3 with fail
    go_cut [5] (fun s wx => s = .bool x.goes ∧ w3 = wx)
    case first =>
      clear HB HO c0 c1 c2 c3 c4 c6 c7 c8 c9 c10 c11 c12 c13 c14 c15 c16 c17
      have ha : decide (0 ≤ x.to) = true ∨ decide (0 ≤ x.to) = false := by
        cases decide (0 ≤ x.to) <;> simp
      rcases ha with h1 | h1
      · have h2 : 0 ≤ x.to := by simpa using h1
        clear h1
        go_wp2
        go_meet
        exact ⟨by simp [In.goes, h2], rfl⟩
      · have h2 : ¬ 0 ≤ x.to := by simpa using h1
        have HG := Lib.hid (show x.goes = false by simp [In.goes, h2])
        clear h1
        go_wp2
        go_meet
        exact ⟨by rw [HG.out], rfl⟩
    case rest =>
      obtain ⟨rfl, rfl⟩ := hcut
      have hne2 : w.heap.size ≠ w.heap.size + 1 := by omega
      obtain ⟨d0, d1, d2, d3, d4, d5, d6, d7, d8, d9, d10, d11, d12, d13, d14, d15, d16, d17, df⟩ := Blk.in_ HB.out.2
      have f4 := df 4
      have f5 := df 5
      clear df d0 d1 d2 d3 d6 d7 d8 d9 d10 d11 d12 d13 d14 d15 d16 d17
      go_upto_region 23 with fail
      have HA := Lib.hid (Blk.rng ((HB.out.1.far (p := ⟨w.heap.size + 1, 4, none⟩) hne2 (.int .u32 x.dt)).far (p := ⟨w.heap.size + 1, 5, none⟩) hne2 (.int .i64 x.to)))
      have HC := Lib.hid (Blk.rng ((HB.out.2.set_ 4 (.int .u32 x.dt)).set_ 5 (.int .i64 x.to)) : World.rangeAt _ _ _ (In.cs ⟨x.op, 0, 0, false, x.dt, x.to, Cf.zero⟩).toList)
      have HP := Lib.hid (((((HO.out).setCell (p := ⟨w.heap.size + 1, 4, none⟩) (.inr (by simp)) (.int .u32 x.dt))).setCell (p := ⟨w.heap.size + 1, 5, none⟩) (.inr (by simp)) (.int .i64 x.to)))
      clear HB HO d4 f4 d5 f5 hne hne2 c1 c2 c3 c4 c5 c6 c7 c8 c9 c10 c11 c12 c13 c14 c15 c16 c17
      go_wp2_with (first
        | (refine wpList_ld 33 x w.heap.size 0 _ rfl (.inl rfl) rfl rfl HA.out ?_)
        | (refine wpList_ld 33 ⟨x.op, 0, 0, false, x.dt, x.to, Cf.zero⟩ (w.heap.size + 1) 0 _ rfl (.inl rfl) rfl rfl HC.out ?_))
      all_goals
        go_returns
        exact ⟨by first | rfl | simp_all, HP.out⟩

set_option maxRecDepth 100000 in
set_option maxHeartbeats 4000000 in
theorem rinstr_6 (x : In) (_q1 : (x.op == 1) = false) (_q2 : (x.op == 2) = false) (_q3 : (x.op == 3) = false) (_q4 : (x.op == 4) = false) (_q5 : (x.op == 5) = false) (_q6 : (x.op == 6) = true) (_q7 : (x.op == 7) = false) (_q8 : (x.op == 8) = false) (_q9 : (x.op == 9) = false) (_q10 : (x.op == 10) = false) (w : World) :
    Calls Tryz.prog 27 #[x.agg] w fun e w' => e = .returned (.bool (x.same ⟨x.op, 0, 0, false, 0, x.to, Cf.zero⟩ && x.goes)) ∧ Only [] w w' := by
  have HN := Lib.hid ((Blk.new w 33 x.cs).alloc (.cells (In.only 0).cs 33))
  go_enter Tryz.func27, Tryz.ntmps27
  go_upto_region 2 with (refine wpList_st 33 (In.only x.op).cs.toList (w.heap.size + 1) 0 _ _ rfl (by kernel_rfl) rfl rfl rfl rfl (Blk.new' rfl (by simp) : Blk _ (w.heap.size + 1) 33 (In.only 0).cs) (Nat.le_of_ble_eq_true rfl) ?_; intro w3 hB3 hO3)
  have hX := hO3.blk HN.out (by simp)
  rw [show setL (In.only 0).cs 0 (In.only x.op).cs.toList = (In.only x.op).cs by simp [setL]] at hB3
  have HB := Lib.hid (And.intro hX hB3)
  have HO := Lib.hid ((((Only.refl [] w).alloc (.cells x.cs 33)).alloc (.cells (In.only 0).cs 33)).trans' hO3 (by intro z hz hlt; simp at hz; omega))
  obtain ⟨c0, c1, c2, c3, c4, c5, c6, c7, c8, c9, c10, c11, c12, c13, c14, c15, c16, c17, cf⟩ := Blk.in_ hX
  clear HN hX hB3 hO3 cf
  have hne : w.heap.size + 1 ≠ w.heap.size := by omega
  simp only [Act.put]
  go_cut [4] (fun s wx => s = .bool x.at_ ∧ w3 = wx)
  case first =>
    clear HB HO c0 c2 c3 c4 c5 c6 c7 c8 c9 c10 c11 c12 c13 c14 c15 c16 c17
    have ha : (x.sz == 1) = true ∨ ((x.sz == 1) = false ∧ (x.sz == 2) = true) ∨ ((x.sz == 1) = false ∧ (x.sz == 2) = false) := by
      cases (x.sz == 1) <;> cases (x.sz == 2) <;> simp
    rcases ha with h1 | ⟨h1, h2⟩ | ⟨h1, h2⟩
    · go_wp2
      go_meet
      exact ⟨by simp [In.at_, h1], rfl⟩
    · go_wp2
      go_meet
      exact ⟨by simp [In.at_, h1, h2], rfl⟩
    · go_wp2
      go_meet
      exact ⟨by simp [In.at_, h1, h2], rfl⟩
  case rest =>
    obtain ⟨rfl, rfl⟩ := hcut
    go_upto_region 3 with fail
    go_cut [5] (fun s wx => s = .bool x.goes ∧ w3 = wx)
    case first =>
      clear HB HO c0 c1 c2 c3 c4 c6 c7 c8 c9 c10 c11 c12 c13 c14 c15 c16 c17
      have ha : decide (0 ≤ x.to) = true ∨ decide (0 ≤ x.to) = false := by
        cases decide (0 ≤ x.to) <;> simp
      rcases ha with h1 | h1
      · have h2 : 0 ≤ x.to := by simpa using h1
        clear h1
        go_wp2
        go_meet
        exact ⟨by simp [In.goes, h2], rfl⟩
      · have h2 : ¬ 0 ≤ x.to := by simpa using h1
        have HG := Lib.hid (show x.goes = false by simp [In.goes, h2])
        clear h1
        go_wp2
        go_meet
        exact ⟨by rw [HG.out], rfl⟩
    case rest =>
      obtain ⟨rfl, rfl⟩ := hcut
      have hne2 : w.heap.size ≠ w.heap.size + 1 := by omega
      obtain ⟨d0, d1, d2, d3, d4, d5, d6, d7, d8, d9, d10, d11, d12, d13, d14, d15, d16, d17, df⟩ := Blk.in_ HB.out.2
      have f5 := df 5
      clear df d0 d1 d2 d3 d4 d6 d7 d8 d9 d10 d11 d12 d13 d14 d15 d16 d17
      go_upto_region 26 with fail
      have HA := Lib.hid (Blk.rng (HB.out.1.far (p := ⟨w.heap.size + 1, 5, none⟩) hne2 (.int .i64 x.to)))
      have HC := Lib.hid (Blk.rng (HB.out.2.set_ 5 (.int .i64 x.to)) : World.rangeAt _ _ _ (In.cs ⟨x.op, 0, 0, false, 0, x.to, Cf.zero⟩).toList)
      have HP := Lib.hid (((HO.out).setCell (p := ⟨w.heap.size + 1, 5, none⟩) (.inr (by simp)) (.int .i64 x.to)))
      clear HB HO d5 f5 hne hne2 c1 c2 c3 c4 c5 c6 c7 c8 c9 c10 c11 c12 c13 c14 c15 c16 c17
      go_wp2_with (first
        | (refine wpList_ld 33 x w.heap.size 0 _ rfl (.inl rfl) rfl rfl HA.out ?_)
        | (refine wpList_ld 33 ⟨x.op, 0, 0, false, 0, x.to, Cf.zero⟩ (w.heap.size + 1) 0 _ rfl (.inl rfl) rfl rfl HC.out ?_))
      all_goals
        go_returns
        exact ⟨by first | rfl | simp_all, HP.out⟩

set_option maxRecDepth 100000 in
set_option maxHeartbeats 4000000 in
theorem rinstr_7 (x : In) (_q1 : (x.op == 1) = false) (_q2 : (x.op == 2) = false) (_q3 : (x.op == 3) = false) (_q4 : (x.op == 4) = false) (_q5 : (x.op == 5) = false) (_q6 : (x.op == 6) = false) (_q7 : (x.op == 7) = true) (_q8 : (x.op == 8) = false) (_q9 : (x.op == 9) = false) (_q10 : (x.op == 10) = false) (w : World) :
    Calls Tryz.prog 27 #[x.agg] w fun e w' => e = .returned (.bool (x.same ⟨x.op, 0, 0, false, x.dt, 0, Cf.zero⟩ && decide (x.dt ≤ 9999))) ∧ Only [] w w' := by
  have HN := Lib.hid ((Blk.new w 33 x.cs).alloc (.cells (In.only 0).cs 33))
  go_enter Tryz.func27, Tryz.ntmps27
  go_upto_region 2 with (refine wpList_st 33 (In.only x.op).cs.toList (w.heap.size + 1) 0 _ _ rfl (by kernel_rfl) rfl rfl rfl rfl (Blk.new' rfl (by simp) : Blk _ (w.heap.size + 1) 33 (In.only 0).cs) (Nat.le_of_ble_eq_true rfl) ?_; intro w3 hB3 hO3)
  have hX := hO3.blk HN.out (by simp)
  rw [show setL (In.only 0).cs 0 (In.only x.op).cs.toList = (In.only x.op).cs by simp [setL]] at hB3
  have HB := Lib.hid (And.intro hX hB3)
  have HO := Lib.hid ((((Only.refl [] w).alloc (.cells x.cs 33)).alloc (.cells (In.only 0).cs 33)).trans' hO3 (by intro z hz hlt; simp at hz; omega))
  obtain ⟨c0, c1, c2, c3, c4, c5, c6, c7, c8, c9, c10, c11, c12, c13, c14, c15, c16, c17, cf⟩ := Blk.in_ hX
  clear HN hX hB3 hO3 cf
  have hne : w.heap.size + 1 ≠ w.heap.size := by omega
  simp only [Act.put]
  go_cut [4] (fun s wx => s = .bool x.at_ ∧ w3 = wx)
  case first =>
    clear HB HO c0 c2 c3 c4 c5 c6 c7 c8 c9 c10 c11 c12 c13 c14 c15 c16 c17
    have ha : (x.sz == 1) = true ∨ ((x.sz == 1) = false ∧ (x.sz == 2) = true) ∨ ((x.sz == 1) = false ∧ (x.sz == 2) = false) := by
      cases (x.sz == 1) <;> cases (x.sz == 2) <;> simp
    rcases ha with h1 | ⟨h1, h2⟩ | ⟨h1, h2⟩
    · go_wp2
      go_meet
      exact ⟨by simp [In.at_, h1], rfl⟩
    · go_wp2
      go_meet
      exact ⟨by simp [In.at_, h1, h2], rfl⟩
    · go_wp2
      go_meet
      exact ⟨by simp [In.at_, h1, h2], rfl⟩
  case rest =>
    obtain ⟨rfl, rfl⟩ := hcut
    go_upto_region 3 with fail
    go_cut [5] (fun s wx => s = .bool x.goes ∧ w3 = wx)
    case first =>
      clear HB HO c0 c1 c2 c3 c4 c6 c7 c8 c9 c10 c11 c12 c13 c14 c15 c16 c17
      have ha : decide (0 ≤ x.to) = true ∨ decide (0 ≤ x.to) = false := by
        cases decide (0 ≤ x.to) <;> simp
      rcases ha with h1 | h1
      · have h2 : 0 ≤ x.to := by simpa using h1
        clear h1
        go_wp2
        go_meet
        exact ⟨by simp [In.goes, h2], rfl⟩
      · have h2 : ¬ 0 ≤ x.to := by simpa using h1
        have HG := Lib.hid (show x.goes = false by simp [In.goes, h2])
        clear h1
        go_wp2
        go_meet
        exact ⟨by rw [HG.out], rfl⟩
    case rest =>
      obtain ⟨rfl, rfl⟩ := hcut
      have hne2 : w.heap.size ≠ w.heap.size + 1 := by omega
      obtain ⟨d0, d1, d2, d3, d4, d5, d6, d7, d8, d9, d10, d11, d12, d13, d14, d15, d16, d17, df⟩ := Blk.in_ HB.out.2
      have f4 := df 4
      clear df d0 d1 d2 d3 d5 d6 d7 d8 d9 d10 d11 d12 d13 d14 d15 d16 d17
      go_upto_region 29 with fail
      have HA := Lib.hid (Blk.rng (HB.out.1.far (p := ⟨w.heap.size + 1, 4, none⟩) hne2 (.int .u32 x.dt)))
      have HC := Lib.hid (Blk.rng (HB.out.2.set_ 4 (.int .u32 x.dt)) : World.rangeAt _ _ _ (In.cs ⟨x.op, 0, 0, false, x.dt, 0, Cf.zero⟩).toList)
      have HP := Lib.hid (((HO.out).setCell (p := ⟨w.heap.size + 1, 4, none⟩) (.inr (by simp)) (.int .u32 x.dt)))
      clear HB HO d4 f4  c1 c2 c3 c5 c6 c7 c8 c9 c10 c11 c12 c13 c14 c15 c16 c17
      go_wp2_with (first
        | (refine wpList_ld 33 x w.heap.size 0 _ rfl (.inl rfl) rfl rfl HA.out ?_)
        | (refine wpList_ld 33 ⟨x.op, 0, 0, false, x.dt, 0, Cf.zero⟩ (w.heap.size + 1) 0 _ rfl (.inl rfl) rfl rfl HC.out ?_))
      all_goals
        go_returns
        exact ⟨by first | rfl | simp_all, HP.out⟩

set_option maxRecDepth 100000 in
set_option maxHeartbeats 4000000 in
theorem rinstr_8 (x : In) (_q1 : (x.op == 1) = false) (_q2 : (x.op == 2) = false) (_q3 : (x.op == 3) = false) (_q4 : (x.op == 4) = false) (_q5 : (x.op == 5) = false) (_q6 : (x.op == 6) = false) (_q7 : (x.op == 7) = false) (_q8 : (x.op == 8) = true) (_q9 : (x.op == 9) = false) (_q10 : (x.op == 10) = false) (w : World) :
    Calls Tryz.prog 27 #[x.agg] w fun e w' => e = .returned (.bool (x.same ⟨x.op, 0, 0, false, x.dt, 0, Cf.zero⟩ && decide (x.dt ≤ 255))) ∧ Only [] w w' := by
  have HN := Lib.hid ((Blk.new w 33 x.cs).alloc (.cells (In.only 0).cs 33))
  go_enter Tryz.func27, Tryz.ntmps27
  go_upto_region 2 with (refine wpList_st 33 (In.only x.op).cs.toList (w.heap.size + 1) 0 _ _ rfl (by kernel_rfl) rfl rfl rfl rfl (Blk.new' rfl (by simp) : Blk _ (w.heap.size + 1) 33 (In.only 0).cs) (Nat.le_of_ble_eq_true rfl) ?_; intro w3 hB3 hO3)
  have hX := hO3.blk HN.out (by simp)
  rw [show setL (In.only 0).cs 0 (In.only x.op).cs.toList = (In.only x.op).cs by simp [setL]] at hB3
  have HB := Lib.hid (And.intro hX hB3)
  have HO := Lib.hid ((((Only.refl [] w).alloc (.cells x.cs 33)).alloc (.cells (In.only 0).cs 33)).trans' hO3 (by intro z hz hlt; simp at hz; omega))
  obtain ⟨c0, c1, c2, c3, c4, c5, c6, c7, c8, c9, c10, c11, c12, c13, c14, c15, c16, c17, cf⟩ := Blk.in_ hX
  clear HN hX hB3 hO3 cf
  have hne : w.heap.size + 1 ≠ w.heap.size := by omega
  simp only [Act.put]
  go_cut [4] (fun s wx => s = .bool x.at_ ∧ w3 = wx)
  case first =>
    clear HB HO c0 c2 c3 c4 c5 c6 c7 c8 c9 c10 c11 c12 c13 c14 c15 c16 c17
    have ha : (x.sz == 1) = true ∨ ((x.sz == 1) = false ∧ (x.sz == 2) = true) ∨ ((x.sz == 1) = false ∧ (x.sz == 2) = false) := by
      cases (x.sz == 1) <;> cases (x.sz == 2) <;> simp
    rcases ha with h1 | ⟨h1, h2⟩ | ⟨h1, h2⟩
    · go_wp2
      go_meet
      exact ⟨by simp [In.at_, h1], rfl⟩
    · go_wp2
      go_meet
      exact ⟨by simp [In.at_, h1, h2], rfl⟩
    · go_wp2
      go_meet
      exact ⟨by simp [In.at_, h1, h2], rfl⟩
  case rest =>
    obtain ⟨rfl, rfl⟩ := hcut
    go_upto_region 3 with fail
    go_cut [5] (fun s wx => s = .bool x.goes ∧ w3 = wx)
    case first =>
      clear HB HO c0 c1 c2 c3 c4 c6 c7 c8 c9 c10 c11 c12 c13 c14 c15 c16 c17
      have ha : decide (0 ≤ x.to) = true ∨ decide (0 ≤ x.to) = false := by
        cases decide (0 ≤ x.to) <;> simp
      rcases ha with h1 | h1
      · have h2 : 0 ≤ x.to := by simpa using h1
        clear h1
        go_wp2
        go_meet
        exact ⟨by simp [In.goes, h2], rfl⟩
      · have h2 : ¬ 0 ≤ x.to := by simpa using h1
        have HG := Lib.hid (show x.goes = false by simp [In.goes, h2])
        clear h1
        go_wp2
        go_meet
        exact ⟨by rw [HG.out], rfl⟩
    case rest =>
      obtain ⟨rfl, rfl⟩ := hcut
      have hne2 : w.heap.size ≠ w.heap.size + 1 := by omega
      obtain ⟨d0, d1, d2, d3, d4, d5, d6, d7, d8, d9, d10, d11, d12, d13, d14, d15, d16, d17, df⟩ := Blk.in_ HB.out.2
      have f4 := df 4
      clear df d0 d1 d2 d3 d5 d6 d7 d8 d9 d10 d11 d12 d13 d14 d15 d16 d17
      go_upto_region 32 with fail
      have HA := Lib.hid (Blk.rng (HB.out.1.far (p := ⟨w.heap.size + 1, 4, none⟩) hne2 (.int .u32 x.dt)))
      have HC := Lib.hid (Blk.rng (HB.out.2.set_ 4 (.int .u32 x.dt)) : World.rangeAt _ _ _ (In.cs ⟨x.op, 0, 0, false, x.dt, 0, Cf.zero⟩).toList)
      have HP := Lib.hid (((HO.out).setCell (p := ⟨w.heap.size + 1, 4, none⟩) (.inr (by simp)) (.int .u32 x.dt)))
      clear HB HO d4 f4  c1 c2 c3 c5 c6 c7 c8 c9 c10 c11 c12 c13 c14 c15 c16 c17
      go_wp2_with (first
        | (refine wpList_ld 33 x w.heap.size 0 _ rfl (.inl rfl) rfl rfl HA.out ?_)
        | (refine wpList_ld 33 ⟨x.op, 0, 0, false, x.dt, 0, Cf.zero⟩ (w.heap.size + 1) 0 _ rfl (.inl rfl) rfl rfl HC.out ?_))
      all_goals
        go_returns
        exact ⟨by first | rfl | simp_all, HP.out⟩

set_option maxRecDepth 100000 in
set_option maxHeartbeats 4000000 in
theorem rinstr_0 (x : In) (_q1 : (x.op == 1) = false) (_q2 : (x.op == 2) = false) (_q3 : (x.op == 3) = false) (_q4 : (x.op == 4) = false) (_q5 : (x.op == 5) = false) (_q6 : (x.op == 6) = false) (_q7 : (x.op == 7) = false) (_q8 : (x.op == 8) = false) (_q9 : (x.op == 9) = false) (_q10 : (x.op == 10) = false) (w : World) :
    Calls Tryz.prog 27 #[x.agg] w fun e w' => e = .returned (.bool (false)) ∧ Only [] w w' := by
  have HN := Lib.hid ((Blk.new w 33 x.cs).alloc (.cells (In.only 0).cs 33))
  go_enter Tryz.func27, Tryz.ntmps27
  go_upto_region 2 with (refine wpList_st 33 (In.only x.op).cs.toList (w.heap.size + 1) 0 _ _ rfl (by kernel_rfl) rfl rfl rfl rfl (Blk.new' rfl (by simp) : Blk _ (w.heap.size + 1) 33 (In.only 0).cs) (Nat.le_of_ble_eq_true rfl) ?_; intro w3 hB3 hO3)
  have hX := hO3.blk HN.out (by simp)
  rw [show setL (In.only 0).cs 0 (In.only x.op).cs.toList = (In.only x.op).cs by simp [setL]] at hB3
  have HB := Lib.hid (And.intro hX hB3)
  have HO := Lib.hid ((((Only.refl [] w).alloc (.cells x.cs 33)).alloc (.cells (In.only 0).cs 33)).trans' hO3 (by intro z hz hlt; simp at hz; omega))
  obtain ⟨c0, c1, c2, c3, c4, c5, c6, c7, c8, c9, c10, c11, c12, c13, c14, c15, c16, c17, cf⟩ := Blk.in_ hX
  clear HN hX hB3 hO3 cf
  have hne : w.heap.size + 1 ≠ w.heap.size := by omega
  simp only [Act.put]
  go_cut [4] (fun s wx => s = .bool x.at_ ∧ w3 = wx)
  case first =>
    clear HB HO c0 c2 c3 c4 c5 c6 c7 c8 c9 c10 c11 c12 c13 c14 c15 c16 c17
    have ha : (x.sz == 1) = true ∨ ((x.sz == 1) = false ∧ (x.sz == 2) = true) ∨ ((x.sz == 1) = false ∧ (x.sz == 2) = false) := by
      cases (x.sz == 1) <;> cases (x.sz == 2) <;> simp
    rcases ha with h1 | ⟨h1, h2⟩ | ⟨h1, h2⟩
    · go_wp2
      go_meet
      exact ⟨by simp [In.at_, h1], rfl⟩
    · go_wp2
      go_meet
      exact ⟨by simp [In.at_, h1, h2], rfl⟩
    · go_wp2
      go_meet
      exact ⟨by simp [In.at_, h1, h2], rfl⟩
  case rest =>
    obtain ⟨rfl, rfl⟩ := hcut
    go_upto_region 3 with fail
    go_cut [5] (fun s wx => s = .bool x.goes ∧ w3 = wx)
    case first =>
      clear HB HO c0 c1 c2 c3 c4 c6 c7 c8 c9 c10 c11 c12 c13 c14 c15 c16 c17
      have ha : decide (0 ≤ x.to) = true ∨ decide (0 ≤ x.to) = false := by
        cases decide (0 ≤ x.to) <;> simp
      rcases ha with h1 | h1
      · have h2 : 0 ≤ x.to := by simpa using h1
        clear h1
        go_wp2
        go_meet
        exact ⟨by simp [In.goes, h2], rfl⟩
      · have h2 : ¬ 0 ≤ x.to := by simpa using h1
        have HG := Lib.hid (show x.goes = false by simp [In.goes, h2])
        clear h1
        go_wp2
        go_meet
        exact ⟨by rw [HG.out], rfl⟩
    case rest =>
      obtain ⟨rfl, rfl⟩ := hcut
      clear HB c1 c2 c3 c4 c5 c6 c7 c8 c9 c10 c11 c12 c13 c14 c15 c16 c17
      go_wp2_with fail
      go_returns
      exact ⟨rfl, HO.out⟩

set_option maxRecDepth 100000 in
set_option maxHeartbeats 4000000 in
theorem rinstr_9 (x : In) (_q1 : (x.op == 1) = false) (_q2 : (x.op == 2) = false) (_q3 : (x.op == 3) = false) (_q4 : (x.op == 4) = false) (_q5 : (x.op == 5) = false) (_q6 : (x.op == 6) = false) (_q7 : (x.op == 7) = false) (_q8 : (x.op == 8) = false) (_q9 : (x.op == 9) = true) (_q10 : (x.op == 10) = false) (w : World) :
    Calls Tryz.prog 27 #[x.agg] w fun e w' => e = .returned (.bool (x.same ⟨x.op, 0, 0, false, 0, 0, x.cf⟩ && x.cf.right)) ∧ Only [] w w' := by
  have HN := Lib.hid ((Blk.new w 33 x.cs).alloc (.cells (In.only 0).cs 33))
  go_enter Tryz.func27, Tryz.ntmps27
  go_upto_region 2 with (refine wpList_st 33 (In.only x.op).cs.toList (w.heap.size + 1) 0 _ _ rfl (by kernel_rfl) rfl rfl rfl rfl (Blk.new' rfl (by simp) : Blk _ (w.heap.size + 1) 33 (In.only 0).cs) (Nat.le_of_ble_eq_true rfl) ?_; intro w3 hB3 hO3)
  have hX := hO3.blk HN.out (by simp)
  rw [show setL (In.only 0).cs 0 (In.only x.op).cs.toList = (In.only x.op).cs by simp [setL]] at hB3
  have HB := Lib.hid (And.intro hX hB3)
  have HO := Lib.hid ((((Only.refl [] w).alloc (.cells x.cs 33)).alloc (.cells (In.only 0).cs 33)).trans' hO3 (by intro z hz hlt; simp at hz; omega))
  obtain ⟨c0, c1, c2, c3, c4, c5, c6, c7, c8, c9, c10, c11, c12, c13, c14, c15, c16, c17, cf⟩ := Blk.in_ hX
  clear HN hX hB3 hO3 cf
  have hne : w.heap.size + 1 ≠ w.heap.size := by omega
  simp only [Act.put]
  go_cut [4] (fun s wx => s = .bool x.at_ ∧ w3 = wx)
  case first =>
    clear HB HO c0 c2 c3 c4 c5 c6 c7 c8 c9 c10 c11 c12 c13 c14 c15 c16 c17
    have ha : (x.sz == 1) = true ∨ ((x.sz == 1) = false ∧ (x.sz == 2) = true) ∨ ((x.sz == 1) = false ∧ (x.sz == 2) = false) := by
      cases (x.sz == 1) <;> cases (x.sz == 2) <;> simp
    rcases ha with h1 | ⟨h1, h2⟩ | ⟨h1, h2⟩
    · go_wp2
      go_meet
      exact ⟨by simp [In.at_, h1], rfl⟩
    · go_wp2
      go_meet
      exact ⟨by simp [In.at_, h1, h2], rfl⟩
    · go_wp2
      go_meet
      exact ⟨by simp [In.at_, h1, h2], rfl⟩
  case rest =>
    obtain ⟨rfl, rfl⟩ := hcut
    go_upto_region 3 with fail
    go_cut [5] (fun s wx => s = .bool x.goes ∧ w3 = wx)
    case first =>
      clear HB HO c0 c1 c2 c3 c4 c6 c7 c8 c9 c10 c11 c12 c13 c14 c15 c16 c17
      have ha : decide (0 ≤ x.to) = true ∨ decide (0 ≤ x.to) = false := by
        cases decide (0 ≤ x.to) <;> simp
      rcases ha with h1 | h1
      · have h2 : 0 ≤ x.to := by simpa using h1
        clear h1
        go_wp2
        go_meet
        exact ⟨by simp [In.goes, h2], rfl⟩
      · have h2 : ¬ 0 ≤ x.to := by simpa using h1
        have HG := Lib.hid (show x.goes = false by simp [In.goes, h2])
        clear h1
        go_wp2
        go_meet
        exact ⟨by rw [HG.out], rfl⟩
    case rest =>
      obtain ⟨rfl, rfl⟩ := hcut
      have HR0 := Lib.hid HB.out.1.rngC
      have HP := Lib.hid (rright_any x.cf)
      clear c1 c2 c3 c4 c5 c6 c7 c8 c9 c10 c11 c12 c13 c14 c15 c16 c17 hne
      go_upto_region 35 with (first
        | (refine wpList_ldc x.cf w.heap.size 6 _ rfl rfl rfl HR0.out ?_)
        | (refine wpList_st 31 x.cf.list (w.heap.size + 1) 6 _ _ rfl (by kernel_rfl) rfl rfl rfl rfl HB.out.2 (Nat.le_of_ble_eq_true rfl) ?_; intro w4 hB4 hO4))
      have hX4 : Blk w4 w.heap.size 33 x.cs := hO4.blk HB.out.1 (by simp)
      have HA := Lib.hid (Blk.rng hX4)
      have HA2 := Lib.hid (Blk.rngC hX4)
      rw [setL_cf] at hB4
      have HC := Lib.hid (Blk.rng hB4)
      have HQ := Lib.hid (HO.out.trans' hO4 (by intro z hz hlt; simp at hz; omega))
      clear HB HO hX4 hB4 hO4 HR0
      go_wp2_with (first
        | (refine wpList_ld 33 x w.heap.size 0 _ rfl (.inl rfl) rfl rfl HA.out ?_)
        | (refine wpList_ld 33 ⟨x.op, 0, 0, false, 0, 0, x.cf⟩ (w.heap.size + 1) 0 _ rfl (.inl rfl) rfl rfl HC.out ?_)
        | (refine wpList_ldc x.cf w.heap.size 6 _ rfl rfl rfl HA2.out ?_)
        | (go_at_call 50; refine (HP.out _).mono ?_; rintro e w5 ⟨rfl, hO5⟩))
      all_goals
        go_returns
        first
          | exact ⟨rfl, HQ.out⟩
          | exact ⟨rfl, HQ.out.trans hO5⟩
          | (have e : x.same ⟨x.op, 0, 0, false, 0, 0, x.cf⟩ = true := by assumption
             exact ⟨by rw [e, Bool.true_and]; rfl, HQ.out.trans hO5⟩)
          | (have e : x.same ⟨x.op, 0, 0, false, 0, 0, x.cf⟩ = false := by assumption
             exact ⟨by rw [e, Bool.false_and]; rfl, HQ.out⟩)
          | (have e : ¬ x.same ⟨x.op, 0, 0, false, 0, 0, x.cf⟩ = true := by assumption
             exact ⟨by rw [Bool.eq_false_iff.2 e, Bool.false_and]; rfl, HQ.out⟩)

theorem rinstr_any (x : In) (w : World) : Calls Tryz.prog 27 #[x.agg] w fun e w' => e = .returned (.bool x.ok) ∧ Only [] w w' := by
  have hy : ∀ n : Int, x.op = n → (x.op == n) = true := fun n h => by simpa using h
  have hn : ∀ n : Int, x.op ≠ n → (x.op == n) = false := fun n h => by simpa using h
  have key : ∀ r r', r = r' → (Calls Tryz.prog 27 #[x.agg] w fun e w' => e = .returned (.bool r) ∧ Only [] w w') → Calls Tryz.prog 27 #[x.agg] w fun e w' => e = .returned (.bool r') ∧ Only [] w w' := fun r r' h k => by rw [← h]; exact k
  by_cases h1 : x.op = 1
  · refine key _ _ ?_ (rinstr_1 x (hy 1 (by omega)) (hn 2 (by omega)) (hn 3 (by omega)) (hn 4 (by omega)) (hn 5 (by omega)) (hn 6 (by omega)) (hn 7 (by omega)) (hn 8 (by omega)) (hn 9 (by omega)) (hn 10 (by omega)) w)
    unfold In.ok
    simp only [h1]
    simp [In.load, In.none_, In.noAt, In.same, h1]
    try (rw [Bool.eq_iff_iff]; simp; try (constructor <;> (intros; simp_all)))
  by_cases h2 : x.op = 2
  · refine key _ _ ?_ (rinstr_2 x (hn 1 (by omega)) (hy 2 (by omega)) (hn 3 (by omega)) (hn 4 (by omega)) (hn 5 (by omega)) (hn 6 (by omega)) (hn 7 (by omega)) (hn 8 (by omega)) (hn 9 (by omega)) (hn 10 (by omega)) w)
    unfold In.ok
    simp only [h2]
    simp [In.store, In.none_, In.noAt, In.noDt, In.same, h2]
    try (rw [Bool.eq_iff_iff]; simp; try (constructor <;> (intros; simp_all)))
  by_cases h3 : x.op = 3
  · refine key _ _ ?_ (rinstr_3 x (hn 1 (by omega)) (hn 2 (by omega)) (hy 3 (by omega)) (hn 4 (by omega)) (hn 5 (by omega)) (hn 6 (by omega)) (hn 7 (by omega)) (hn 8 (by omega)) (hn 9 (by omega)) (hn 10 (by omega)) w)
    unfold In.ok
    simp only [h3]
    simp [In.load, In.none_, In.noAt, In.same, h3]
    try (rw [Bool.eq_iff_iff]; simp; try (constructor <;> (intros; simp_all)))
  by_cases h4 : x.op = 4
  · refine key _ _ ?_ (rinstr_4 x (hn 1 (by omega)) (hn 2 (by omega)) (hn 3 (by omega)) (hy 4 (by omega)) (hn 5 (by omega)) (hn 6 (by omega)) (hn 7 (by omega)) (hn 8 (by omega)) (hn 9 (by omega)) (hn 10 (by omega)) w)
    unfold In.ok
    simp only [h4]
    simp [In.none_, In.same, h4]
    try (rw [Bool.eq_iff_iff]; simp; try (constructor <;> (intros; simp_all)))
  by_cases h5 : x.op = 5
  · refine key _ _ ?_ (rinstr_5 x (hn 1 (by omega)) (hn 2 (by omega)) (hn 3 (by omega)) (hn 4 (by omega)) (hy 5 (by omega)) (hn 6 (by omega)) (hn 7 (by omega)) (hn 8 (by omega)) (hn 9 (by omega)) (hn 10 (by omega)) w)
    unfold In.ok
    simp only [h5]
    simp [In.branch, In.none_, In.noDt, In.noTo, In.same, h5]
    try (rw [Bool.eq_iff_iff]; simp; try (constructor <;> (intros; simp_all)))
  by_cases h6 : x.op = 6
  · refine key _ _ ?_ (rinstr_6 x (hn 1 (by omega)) (hn 2 (by omega)) (hn 3 (by omega)) (hn 4 (by omega)) (hn 5 (by omega)) (hy 6 (by omega)) (hn 7 (by omega)) (hn 8 (by omega)) (hn 9 (by omega)) (hn 10 (by omega)) w)
    unfold In.ok
    simp only [h6]
    simp [In.jump, In.none_, In.noTo, In.same, h6]
    try (rw [Bool.eq_iff_iff]; simp; try (constructor <;> (intros; simp_all)))
  by_cases h7 : x.op = 7
  · refine key _ _ ?_ (rinstr_7 x (hn 1 (by omega)) (hn 2 (by omega)) (hn 3 (by omega)) (hn 4 (by omega)) (hn 5 (by omega)) (hn 6 (by omega)) (hy 7 (by omega)) (hn 8 (by omega)) (hn 9 (by omega)) (hn 10 (by omega)) w)
    unfold In.ok
    simp only [h7]
    simp [In.idle, In.none_, In.noDt, In.same, h7]
    try (rw [Bool.eq_iff_iff]; simp; try (constructor <;> (intros; simp_all)))
  by_cases h8 : x.op = 8
  · refine key _ _ ?_ (rinstr_8 x (hn 1 (by omega)) (hn 2 (by omega)) (hn 3 (by omega)) (hn 4 (by omega)) (hn 5 (by omega)) (hn 6 (by omega)) (hn 7 (by omega)) (hy 8 (by omega)) (hn 9 (by omega)) (hn 10 (by omega)) w)
    unfold In.ok
    simp only [h8]
    simp [In.mask, In.none_, In.noDt, In.same, h8]
    try (rw [Bool.eq_iff_iff]; simp; try (constructor <;> (intros; simp_all)))
  by_cases h9 : x.op = 9
  · refine key _ _ ?_ (rinstr_9 x (hn 1 (by omega)) (hn 2 (by omega)) (hn 3 (by omega)) (hn 4 (by omega)) (hn 5 (by omega)) (hn 6 (by omega)) (hn 7 (by omega)) (hn 8 (by omega)) (hy 9 (by omega)) (hn 10 (by omega)) w)
    unfold In.ok
    simp only [h9]
    simp [In.conf, In.none_, In.noCf, In.same, h9]
    try (rw [Bool.eq_iff_iff]; simp; try (constructor <;> (intros; simp_all)))
  by_cases h10 : x.op = 10
  · refine key _ _ ?_ (rinstr_10 x (hn 1 (by omega)) (hn 2 (by omega)) (hn 3 (by omega)) (hn 4 (by omega)) (hn 5 (by omega)) (hn 6 (by omega)) (hn 7 (by omega)) (hn 8 (by omega)) (hn 9 (by omega)) (hy 10 (by omega)) w)
    unfold In.ok
    simp only [h10]
    simp [In.none_, In.same, h10]
    try (rw [Bool.eq_iff_iff]; simp; try (constructor <;> (intros; simp_all)))
  refine key _ _ ?_ (rinstr_0 x (hn 1 (by omega)) (hn 2 (by omega)) (hn 3 (by omega)) (hn 4 (by omega)) (hn 5 (by omega)) (hn 6 (by omega)) (hn 7 (by omega)) (hn 8 (by omega)) (hn 9 (by omega)) (hn 10 (by omega)) w)
  unfold In.ok
  rw [if_neg (by omega), if_neg (by omega), if_neg (by omega), if_neg (by omega), if_neg (by omega), if_neg (by omega), if_neg (by omega), if_neg (by omega)]
end Go.Proofs.YtagmoehjcgjnjaaGreatDoor
