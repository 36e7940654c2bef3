/- ConfParts of septumlaw21, walked. Conditions: the addresses are uint32; the listed variables are laid. -/
import Derived.Test.YtghoggjllcbalaaDoorCfGd
import Derived.Test.YtghoggjllcbalaaDoorCfGi
import Derived.Test.YtghoggjllcbalaaDoorCfGf
import Derived.Test.YtghoggjllcbalaaDoorCfGa
import Derived.Deep.RegionWith
import Derived.Deep.DeepCutAuto
import Derived.Outline
import Derived.LoopTactic
namespace Go.Proofs.YtghoggjllcbalaaDoor
open Go Go.RowKit
attribute [local go_sem ↓] str_eql str_neq cf_neq24 cf_eql24

/-- Four copies of a command. -/
def Four (c : Cf) (w0 : World) (v6 v7 v8 v9 : Value) (wx : World) : Prop :=
  ∃ b6 b7 b8 b9 : Nat, v6 = .pointer (some ⟨b6, 0, none⟩) ∧ v7 = .pointer (some ⟨b7, 0, none⟩) ∧ v8 = .pointer (some ⟨b8, 0, none⟩) ∧ v9 = .pointer (some ⟨b9, 0, none⟩) ∧
    CfB wx b6 c ∧ CfB wx b7 c ∧ CfB wx b8 c ∧ CfB wx b9 c ∧ (b6 ≠ b7 ∧ b6 ≠ b8 ∧ b6 ≠ b9 ∧ b7 ≠ b8 ∧ b7 ≠ b9 ∧ b8 ≠ b9) ∧ (w0.heap.size ≤ b6 ∧ w0.heap.size ≤ b7 ∧ w0.heap.size ≤ b8 ∧ w0.heap.size ≤ b9) ∧ Only [] w0 wx

theorem cf_sets12 {w : World} {b : Nat} (c : Cf) (h : CfB w b .none) :
    CfB ((((((((((((w.setCell ⟨b, 0, none⟩ (.int .i64 c.kd)).setCell ⟨b, 1, none⟩ (.int .i64 c.ix)).setCell ⟨b, 2, none⟩ (.int .i64 c.wo)).setCell ⟨b, 3, none⟩ (.int .i64 c.ln)).setCell ⟨b, 4, none⟩ (.bool c.on)).setCell ⟨b, 5, none⟩ (.int .i64 c.rw)).setCell ⟨b, 6, none⟩ (.int .u32 c.fr)).setCell ⟨b, 7, none⟩ (.int .u32 c.tt)).setCell ⟨b, 8, none⟩ (.bool c.rd)).setCell ⟨b, 9, none⟩ (.bool c.wt)).setCell ⟨b, 10, none⟩ (.int .i64 c.rk)).setCell ⟨b, 11, none⟩ (.bool c.lk)) b c ∧
    Only [b] w ((((((((((((w.setCell ⟨b, 0, none⟩ (.int .i64 c.kd)).setCell ⟨b, 1, none⟩ (.int .i64 c.ix)).setCell ⟨b, 2, none⟩ (.int .i64 c.wo)).setCell ⟨b, 3, none⟩ (.int .i64 c.ln)).setCell ⟨b, 4, none⟩ (.bool c.on)).setCell ⟨b, 5, none⟩ (.int .i64 c.rw)).setCell ⟨b, 6, none⟩ (.int .u32 c.fr)).setCell ⟨b, 7, none⟩ (.int .u32 c.tt)).setCell ⟨b, 8, none⟩ (.bool c.rd)).setCell ⟨b, 9, none⟩ (.bool c.wt)).setCell ⟨b, 10, none⟩ (.int .i64 c.rk)).setCell ⟨b, 11, none⟩ (.bool c.lk)) := by
  have hOs := (Only.set1 (Only.set1 (Only.set1 (Only.set1 (Only.set1 (Only.set1 (Only.set1 (Only.set1 (Only.set1 (Only.set1 (Only.set1 (Only.set1 (Only.refl [b] w) (b := b) (by simp) 0 (.int .i64 c.kd)) (b := b) (by simp) 1 (.int .i64 c.ix)) (b := b) (by simp) 2 (.int .i64 c.wo)) (b := b) (by simp) 3 (.int .i64 c.ln)) (b := b) (by simp) 4 (.bool c.on)) (b := b) (by simp) 5 (.int .i64 c.rw)) (b := b) (by simp) 6 (.int .u32 c.fr)) (b := b) (by simp) 7 (.int .u32 c.tt)) (b := b) (by simp) 8 (.bool c.rd)) (b := b) (by simp) 9 (.bool c.wt)) (b := b) (by simp) 10 (.int .i64 c.rk)) (b := b) (by simp) 11 (.bool c.lk))
  have hB := (Blk.set_ (Blk.set_ (Blk.set_ (Blk.set_ (Blk.set_ (Blk.set_ (Blk.set_ (Blk.set_ (Blk.set_ (Blk.set_ (Blk.set_ (Blk.set_ h 0 (.int .i64 c.kd)) 1 (.int .i64 c.ix)) 2 (.int .i64 c.wo)) 3 (.int .i64 c.ln)) 4 (.bool c.on)) 5 (.int .i64 c.rw)) 6 (.int .u32 c.fr)) 7 (.int .u32 c.tt)) 8 (.bool c.rd)) 9 (.bool c.wt)) 10 (.int .i64 c.rk)) 11 (.bool c.lk))
  simp only [List.setIfInBounds_toArray, List.set_cons_succ, List.set_cons_zero] at hB
  exact ⟨hB, hOs⟩
theorem cfb_ix {w : World} {b : Nat} {c : Cf} (n : Int) (h : CfB w b c) : CfB (w.setCell ⟨b, 1, none⟩ (.int .i64 n)) b (c.withIx n) := by
  have hB := Blk.set_ h 1 (.int .i64 n)
  simp only [List.setIfInBounds_toArray, List.set_cons_succ, List.set_cons_zero] at hB
  exact hB
theorem cfb_wo {w : World} {b : Nat} {c : Cf} (n : Int) (h : CfB w b c) : CfB (w.setCell ⟨b, 2, none⟩ (.int .i64 n)) b (c.withWo n) := by
  have hB := Blk.set_ h 2 (.int .i64 n)
  simp only [List.setIfInBounds_toArray, List.set_cons_succ, List.set_cons_zero] at hB
  exact hB
theorem cfb_ln {w : World} {b : Nat} {c : Cf} (n : Int) (h : CfB w b c) : CfB (w.setCell ⟨b, 3, none⟩ (.int .i64 n)) b (c.withLn n) := by
  have hB := Blk.set_ h 3 (.int .i64 n)
  simp only [List.setIfInBounds_toArray, List.set_cons_succ, List.set_cons_zero] at hB
  exact hB
theorem cfb_rk {w : World} {b : Nat} {c : Cf} (n : Int) (h : CfB w b c) : CfB (w.setCell ⟨b, 10, none⟩ (.int .i64 n)) b (c.withRk n) := by
  have hB := Blk.set_ h 10 (.int .i64 n)
  simp only [List.setIfInBounds_toArray, List.set_cons_succ, List.set_cons_zero] at hB
  exact hB
theorem cfb_kd {w : World} {b : Nat} {c : Cf} (n : Int) (h : CfB w b c) : CfB (w.setCell ⟨b, 0, none⟩ (.int .i64 n)) b (c.withKd n) := by
  have hB := Blk.set_ h 0 (.int .i64 n)
  simp only [List.setIfInBounds_toArray, List.set_cons_zero] at hB
  exact hB

set_option maxRecDepth 100000 in
set_option maxHeartbeats 16000000 in
theorem parts_any (c : Cf) (hf : c.Fits) (n : Int) (w : World) (hg : Gl w) (HA : Hid (∀ w, Gl w → Calls Tryd.prog 8 #[] w fun e w' => e = .returned (.bool true) ∧ Only [] w w')) :
    Calls Tryd.prog 5 #[c.agg, .int .i64 n] w fun e w' => e = .returned (.bool true) ∧ Only [] w w' := by
  have HR := Lib.hid (right_any c)
  by_cases hr : c.right = false
  · rw [hr] at HR
    clear hr
    go_enter Tryd.func5, Tryd.ntmps5
    go_wp2_with fail
    have hE0 : CfB (w.alloc (.cells #[.int .i64 c.kd, .int .i64 c.ix, .int .i64 c.wo, .int .i64 c.ln, .bool c.on, .int .i64 c.rw, .int .u32 c.fr, .int .u32 c.tt, .bool c.rd, .bool c.wt, .int .i64 c.rk, .bool c.lk] 29)) w.heap.size c := Blk.new' rfl rfl
    have hO0 := (Only.refl [] w).alloc (.cells #[.int .i64 c.kd, .int .i64 c.ix, .int .i64 c.wo, .int .i64 c.ln, .bool c.on, .int .i64 c.rw, .int .u32 c.fr, .int .u32 c.tt, .bool c.rd, .bool c.wt, .int .i64 c.rk, .bool c.lk] 29)
    refine (HA.out _ (hg.only hO0)).mono ?_
    rintro e w1 ⟨rfl, hO1⟩
    have hE1 := hO1.cf hE0 (by simp)
    have hOa := hO0.trans hO1
    clear hE0 hO0 hO1
    obtain ⟨c0, c1, c2, c3, c4, c5, c6, c7, c8, c9, c10, c11, -⟩ := hE1.c
    go_wp2_with fail
    refine (HR.out _).mono ?_
    rintro e w2 ⟨rfl, hO2⟩
    go_wp2_with fail
    go_ret
    exact ⟨rfl, hOa.trans hO2⟩
  rw [Bool.not_eq_false] at hr
  have hS := Shape.of c hf hr
  rw [hr] at HR
  clear hr
  by_cases hn : n = 0
  · subst hn
    clear hS
    go_enter Tryd.func5, Tryd.ntmps5
    go_wp2_with fail
    have hE0 : CfB (w.alloc (.cells #[.int .i64 c.kd, .int .i64 c.ix, .int .i64 c.wo, .int .i64 c.ln, .bool c.on, .int .i64 c.rw, .int .u32 c.fr, .int .u32 c.tt, .bool c.rd, .bool c.wt, .int .i64 c.rk, .bool c.lk] 29)) w.heap.size c := Blk.new' rfl rfl
    have hO0 := (Only.refl [] w).alloc (.cells #[.int .i64 c.kd, .int .i64 c.ix, .int .i64 c.wo, .int .i64 c.ln, .bool c.on, .int .i64 c.rw, .int .u32 c.fr, .int .u32 c.tt, .bool c.rd, .bool c.wt, .int .i64 c.rk, .bool c.lk] 29)
    refine (HA.out _ (hg.only hO0)).mono ?_
    rintro e w1 ⟨rfl, hO1⟩
    have hE1 := hO1.cf hE0 (by simp)
    have hOa := hO0.trans hO1
    clear hE0 hO0 hO1
    obtain ⟨c0, c1, c2, c3, c4, c5, c6, c7, c8, c9, c10, c11, -⟩ := hE1.c
    go_wp2_with fail
    refine (HR.out _).mono ?_
    rintro e w2 ⟨rfl, hO2⟩
    go_wp2_with fail
    go_ret
    exact ⟨rfl, hOa.trans hO2⟩
  have n0 : (n == 0) = false := by simpa using hn
  have HI := Lib.hid (And.intro (fun h => more_ix hS hn h) (And.intro (fun h h' => more_wo hS hn h h') (And.intro (fun h => more_ln hS hn h) (fun h => more_rk hS hn h))))
  have HJ := Lib.hid (fun j h h' => other_kd hS (j := j) h h')
  clear hS hn
  go_enter Tryd.func5, Tryd.ntmps5
  go_wp2_with fail
  have hE0 : CfB (w.alloc (.cells #[.int .i64 c.kd, .int .i64 c.ix, .int .i64 c.wo, .int .i64 c.ln, .bool c.on, .int .i64 c.rw, .int .u32 c.fr, .int .u32 c.tt, .bool c.rd, .bool c.wt, .int .i64 c.rk, .bool c.lk] 29)) w.heap.size c := Blk.new' rfl rfl
  have hO0 := (Only.refl [] w).alloc (.cells #[.int .i64 c.kd, .int .i64 c.ix, .int .i64 c.wo, .int .i64 c.ln, .bool c.on, .int .i64 c.rw, .int .u32 c.fr, .int .u32 c.tt, .bool c.rd, .bool c.wt, .int .i64 c.rk, .bool c.lk] 29)
  refine (HA.out _ (hg.only hO0)).mono ?_
  rintro e w1 ⟨rfl, hO1⟩
  have hE1 := hO1.cf hE0 (by simp)
  have hOa := hO0.trans hO1
  clear hE0 hO0 hO1
  obtain ⟨c0, c1, c2, c3, c4, c5, c6, c7, c8, c9, c10, c11, -⟩ := hE1.c
  go_wp2_with fail
  refine (HR.out _).mono ?_
  rintro e w2 ⟨rfl, hO2⟩
  have hE2 := hO2.cf hE1 (by simp)
  have hOb := hOa.trans hO2
  clear hE1 hOa hO2 c0 c1 c2 c3 c4 c5 c6 c7 c8 c9 c10 c11
  obtain ⟨c0, c1, c2, c3, c4, c5, c6, c7, c8, c9, c10, c11, -⟩ := hE2.c
  have hlt2 := hE2.lt
  have hltw := hg.lt
  go_upto_region 6 with fail
  go_cut [6, 7, 8, 9] (fun v6 v7 v8 v9 wx => Four c w2 v6 v7 v8 v9 wx)
  case first =>
    refine wp_copiesF 4 29 w.heap.size c.agg #[.int .i64 c.kd, .int .i64 c.ix, .int .i64 c.wo, .int .i64 c.ln, .bool c.on, .int .i64 c.rw, .int .u32 c.fr, .int .u32 c.tt, .bool c.rd, .bool c.wt, .int .i64 c.rk, .bool c.lk]
      #[.int .i64 0, .int .i64 0, .int .i64 0, .int .i64 0, .bool false, .int .i64 0, .int .u32 0, .int .u32 0, .bool false, .bool false, .int .i64 0, .bool false]
      (by kernel_rfl) rfl (by kernel_rfl) (by simp only [mkF, Act.put, List.setIfInBounds_toArray, List.set_cons_succ, List.set_cons_zero, List.take_succ_cons, List.take_zero, Nat.reduceMul]) hE2 ?_ ?_ ?_ ?_ ?_ ?_ ?_ ?_
    · intro o ho
      simp only [List.mem_cons, List.not_mem_nil, or_false] at ho
      rcases ho with rfl | rfl | rfl | rfl | rfl | rfl | rfl | rfl | rfl | rfl | rfl | rfl <;> rfl
    · intro i o hi ho f v
      have : i = 0 ∨ i = 1 ∨ i = 2 ∨ i = 3 ∨ i = 4 ∨ i = 5 ∨ i = 6 ∨ i = 7 := by omega
      rcases this with rfl | rfl | rfl | rfl | rfl | rfl | rfl | rfl <;> (cases ho; simp [mkF, Act.put])
    · intro i o hi ho
      have : i = 0 ∨ i = 1 ∨ i = 2 ∨ i = 3 := by omega
      rcases this with rfl | rfl | rfl | rfl <;> (cases ho; rfl)
    · intro i o hi ho
      have : i = 0 ∨ i = 1 ∨ i = 2 ∨ i = 3 := by omega
      rcases this with rfl | rfl | rfl | rfl <;> (cases ho; simp [Region.binds])
    · intro i o hi ho f w' hB
      obtain ⟨d0, d1, d2, d3, d4, d5, d6, d7, d8, d9, d10, d11, -⟩ := CfB.c (s := c) hB
      have : i = 0 ∨ i = 1 ∨ i = 2 ∨ i = 3 := by omega
      rcases this with rfl | rfl | rfl | rfl <;> (cases ho; simp only [mkF, Act.put, List.setIfInBounds_toArray, List.set_cons_succ, List.set_cons_zero, List.take_succ_cons, List.take_zero, Nat.reduceMul]; go_simp)
    · intro i o hi ho f w'
      have : i = 0 ∨ i = 1 ∨ i = 2 ∨ i = 3 := by omega
      rcases this with rfl | rfl | rfl | rfl <;> (cases ho; simp only [mkF, Act.put, List.setIfInBounds_toArray, List.set_cons_succ, List.set_cons_zero, List.take_succ_cons, List.take_zero, Nat.reduceMul]; go_simp)
    · intro i o hi ho f b w' hfi hfb hB
      have HB := Lib.hid (cf_sets12 c (w := w') (b := b) hB)
      obtain ⟨d0, d1, d2, d3, d4, d5, d6, d7, d8, d9, d10, d11, df⟩ := CfB.c (s := .none) hB
      simp only [Cf.none] at d0 d1 d2 d3 d4 d5 d6 d7 d8 d9 d10 d11
      clear hB
      have : i = 0 ∨ i = 1 ∨ i = 2 ∨ i = 3 := by omega
      rcases this with rfl | rfl | rfl | rfl <;> (cases ho; simp only [mkF, Act.put, List.setIfInBounds_toArray, List.set_cons_succ, List.set_cons_zero, List.take_succ_cons, List.take_zero, Nat.reduceMul]; go_simp; exact HB.out)
    · intro f w' hC
      obtain ⟨b6, b7, b8, b9, ⟨v0, v1, v2, v3⟩, ⟨v4, v5, v6, v7⟩, ⟨B6, B7, B8, B9⟩, hne, hle, hO⟩ := hC.four
      have HH := Lib.hid (show Four c w2 (.pointer (some ⟨b6, 0, none⟩)) (.pointer (some ⟨b7, 0, none⟩)) (.pointer (some ⟨b8, 0, none⟩)) (.pointer (some ⟨b9, 0, none⟩)) w' from ⟨b6, b7, b8, b9, rfl, rfl, rfl, rfl, B6, B7, B8, B9, hne, hle, hO⟩)
      simp only [mkF, Act.put, List.setIfInBounds_toArray, List.set_cons_succ, List.set_cons_zero, List.take_succ_cons, List.take_zero, Nat.reduceMul, Nat.zero_add, Nat.reduceAdd, v0, v1, v2, v3, v4, v5, v6, v7]
      clear hC B6 B7 B8 B9 hne hle hO v0 v1 v2 v3 v4 v5 v6 v7
      go_wp2_with fail
      go_meet
      exact HH.out
  case rest =>
    obtain ⟨b6, b7, b8, b9, rfl, rfl, rfl, rfl, h6, h7, h8, h9, ⟨n67, n68, n69, n78, n79, n89⟩, ⟨l6, l7, l8, l9⟩, hO3⟩ := hcut
    have hEc := hO3.cf hE2 (by simp)
    have hOc := hOb.trans hO3
    clear hE2 hOb hO3 c0 c1 c2 c3 c4 c5 c6 c7 c8 c9 c10 c11
    have g6 := h6.c.c1
    have q6 := h6.c.fr 1
    have g7 := h7.c.c2
    have q7 := h7.c.fr 2
    have g8 := h8.c.c3
    have q8 := h8.c.fr 3
    have g9 := h9.c.c10
    have q9 := h9.c.fr 10
    go_upto_region 11 with fail
    have e1 := Only.set1 (Only.refl [b6] wc) (b := b6) (by simp) 1 (.int .i64 n)
    have f6 := cfb_ix n h6
    have f7 := e1.cf h7 (by simp; omega)
    have f8 := e1.cf h8 (by simp; omega)
    have f9 := e1.cf h9 (by simp; omega)
    have fE := e1.cf hEc (by simp; omega)
    have e2 := Only.set1 (Only.refl [b7] (wc.setCell ⟨b6, 1, none⟩ (.int .i64 n))) (b := b7) (by simp) 2 (.int .i64 n)
    have f6 := e2.cf f6 (by simp; omega)
    have f7 := cfb_wo n f7
    have f8 := e2.cf f8 (by simp; omega)
    have f9 := e2.cf f9 (by simp; omega)
    have fE := e2.cf fE (by simp; omega)
    have e3 := Only.set1 (Only.refl [b8] ((wc.setCell ⟨b6, 1, none⟩ (.int .i64 n)).setCell ⟨b7, 2, none⟩ (.int .i64 n))) (b := b8) (by simp) 3 (.int .i64 n)
    have f6 := e3.cf f6 (by simp; omega)
    have f7 := e3.cf f7 (by simp; omega)
    have f8 := cfb_ln n f8
    have f9 := e3.cf f9 (by simp; omega)
    have fE := e3.cf fE (by simp; omega)
    have e4 := Only.set1 (Only.refl [b9] (((wc.setCell ⟨b6, 1, none⟩ (.int .i64 n)).setCell ⟨b7, 2, none⟩ (.int .i64 n)).setCell ⟨b8, 3, none⟩ (.int .i64 n))) (b := b9) (by simp) 10 (.int .i64 n)
    have f6 := e4.cf f6 (by simp; omega)
    have f7 := e4.cf f7 (by simp; omega)
    have f8 := e4.cf f8 (by simp; omega)
    have f9 := cfb_rk n f9
    have fE := e4.cf fE (by simp; omega)
    have hO := (((hOc.trans' e1 (by intro x hx; simp at hx; omega)).trans' e2 (by intro x hx; simp at hx; omega)).trans' e3 (by intro x hx; simp at hx; omega)).trans' e4 (by intro x hx; simp at hx; omega)
    have HF := Lib.hid (And.intro f6 (And.intro f7 (And.intro f8 (And.intro f9 (And.intro fE hO)))))
    clear e1 e2 e3 e4 f6 f7 f8 f9 fE hO h6 h7 h8 h9 hEc hOc g6 q6 g7 q7 g8 q8 g9 q9 n67 n68 n69 n78 n79 n89
    generalize ((((wc.setCell ⟨b6, 1, none⟩ (.int .i64 n)).setCell ⟨b7, 2, none⟩ (.int .i64 n)).setCell ⟨b8, 3, none⟩ (.int .i64 n)).setCell ⟨b9, 10, none⟩ (.int .i64 n)) = wd at *
    obtain ⟨h6, h7, h8, h9, hE, hO⟩ := HF.out
    clear HF
    have hltd := hE.lt
    go_cut [69] (fun v wx => v = .bool false ∧ CfB wx w.heap.size c ∧ Only [] w wx)
    case first =>
      obtain ⟨i1, i2, i3, i4⟩ := HI.out
      have r6 := Lib.hid (right_any (c.withIx n))
      have r7 := Lib.hid (right_any (c.withWo n))
      have r8 := Lib.hid (right_any (c.withLn n))
      have r9 := Lib.hid (right_any (c.withRk n))
      by_cases k7 : c.kd = 7
      · rw [i1 k7] at r6
        rw [i2 (by omega) (by omega)] at r7
        rw [i3 (by omega)] at r8
        rw [i4 (by omega)] at r9
        have t7 : (c.kd == 7) = true := by simp; omega
        have n7 : (c.kd != 7) = false := by simp; omega
        have t3 : (c.kd == 3) = false := by simp; omega
        have n3 : (c.kd != 3) = true := by simp; omega
        have t5 : (c.kd == 5) = false := by simp; omega
        have n5 : (c.kd != 5) = true := by simp; omega
        have t6 : (c.kd == 6) = false := by simp; omega
        have n6 : (c.kd != 6) = true := by simp; omega
        have t1 : (c.kd == 1) = false := by simp; omega
        have n1 : (c.kd != 1) = true := by simp; omega
        clear i1 i2 i3 i4 HI k7 
        obtain ⟨d0, d1, d2, d3, d4, d5, d6, d7, d8, d9, d10, d11, -⟩ := h6.c
        simp only [Cf.withIx] at d0 d1 d2 d3 d4 d5 d6 d7 d8 d9 d10 d11
        go_wp2_with fail
        refine (r6.out _).mono ?_
        rintro e w3 ⟨rfl, hO3⟩
        have h7 := hO3.cf h7 (by simp)
        have h8 := hO3.cf h8 (by simp)
        have h9 := hO3.cf h9 (by simp)
        have hE := hO3.cf hE (by simp)
        have hO := hO.trans hO3
        clear d0 d1 d2 d3 d4 d5 d6 d7 d8 d9 d10 d11 hO3
        obtain ⟨d0, d1, d2, d3, d4, d5, d6, d7, d8, d9, d10, d11, -⟩ := h7.c
        simp only [Cf.withWo] at d0 d1 d2 d3 d4 d5 d6 d7 d8 d9 d10 d11
        go_wp2_with fail
        refine (r7.out _).mono ?_
        rintro e w4 ⟨rfl, hO3⟩
        have h8 := hO3.cf h8 (by simp)
        have h9 := hO3.cf h9 (by simp)
        have hE := hO3.cf hE (by simp)
        have hO := hO.trans hO3
        clear d0 d1 d2 d3 d4 d5 d6 d7 d8 d9 d10 d11 hO3
        obtain ⟨d0, d1, d2, d3, d4, d5, d6, d7, d8, d9, d10, d11, -⟩ := h8.c
        simp only [Cf.withLn] at d0 d1 d2 d3 d4 d5 d6 d7 d8 d9 d10 d11
        go_wp2_with fail
        refine (r8.out _).mono ?_
        rintro e w5 ⟨rfl, hO3⟩
        have h9 := hO3.cf h9 (by simp)
        have hE := hO3.cf hE (by simp)
        have hO := hO.trans hO3
        clear d0 d1 d2 d3 d4 d5 d6 d7 d8 d9 d10 d11 hO3
        obtain ⟨d0, d1, d2, d3, d4, d5, d6, d7, d8, d9, d10, d11, -⟩ := h9.c
        simp only [Cf.withRk] at d0 d1 d2 d3 d4 d5 d6 d7 d8 d9 d10 d11
        go_wp2_with fail
        refine (r9.out _).mono ?_
        rintro e w6 ⟨rfl, hO3⟩
        have hE := hO3.cf hE (by simp)
        have hO := hO.trans hO3
        clear d0 d1 d2 d3 d4 d5 d6 d7 d8 d9 d10 d11 hO3
        go_wp2_with fail
        go_meet
        exact ⟨rfl, hE, hO⟩
      by_cases k3 : c.kd = 3
      · rw [i3 (by omega)] at r8
        rw [i4 (by omega)] at r9
        have t7 : (c.kd == 7) = false := by simp; omega
        have n7 : (c.kd != 7) = true := by simp; omega
        have t3 : (c.kd == 3) = true := by simp; omega
        have n3 : (c.kd != 3) = false := by simp; omega
        have t5 : (c.kd == 5) = false := by simp; omega
        have n5 : (c.kd != 5) = true := by simp; omega
        have t6 : (c.kd == 6) = false := by simp; omega
        have n6 : (c.kd != 6) = true := by simp; omega
        have t1 : (c.kd == 1) = false := by simp; omega
        have n1 : (c.kd != 1) = true := by simp; omega
        clear i1 i2 i3 i4 HI k7 k3 
        obtain ⟨d0, d1, d2, d3, d4, d5, d6, d7, d8, d9, d10, d11, -⟩ := h8.c
        simp only [Cf.withLn] at d0 d1 d2 d3 d4 d5 d6 d7 d8 d9 d10 d11
        go_wp2_with fail
        refine (r8.out _).mono ?_
        rintro e w3 ⟨rfl, hO3⟩
        have h9 := hO3.cf h9 (by simp)
        have hE := hO3.cf hE (by simp)
        have hO := hO.trans hO3
        clear d0 d1 d2 d3 d4 d5 d6 d7 d8 d9 d10 d11 hO3
        obtain ⟨d0, d1, d2, d3, d4, d5, d6, d7, d8, d9, d10, d11, -⟩ := h9.c
        simp only [Cf.withRk] at d0 d1 d2 d3 d4 d5 d6 d7 d8 d9 d10 d11
        go_wp2_with fail
        refine (r9.out _).mono ?_
        rintro e w4 ⟨rfl, hO3⟩
        have hE := hO3.cf hE (by simp)
        have hO := hO.trans hO3
        clear d0 d1 d2 d3 d4 d5 d6 d7 d8 d9 d10 d11 hO3
        go_wp2_with fail
        go_meet
        exact ⟨rfl, hE, hO⟩
      by_cases k5 : c.kd = 5
      · rw [i3 (by omega)] at r8
        rw [i4 (by omega)] at r9
        have t7 : (c.kd == 7) = false := by simp; omega
        have n7 : (c.kd != 7) = true := by simp; omega
        have t3 : (c.kd == 3) = false := by simp; omega
        have n3 : (c.kd != 3) = true := by simp; omega
        have t5 : (c.kd == 5) = true := by simp; omega
        have n5 : (c.kd != 5) = false := by simp; omega
        have t6 : (c.kd == 6) = false := by simp; omega
        have n6 : (c.kd != 6) = true := by simp; omega
        have t1 : (c.kd == 1) = false := by simp; omega
        have n1 : (c.kd != 1) = true := by simp; omega
        clear i1 i2 i3 i4 HI k7 k3 k5 
        obtain ⟨d0, d1, d2, d3, d4, d5, d6, d7, d8, d9, d10, d11, -⟩ := h8.c
        simp only [Cf.withLn] at d0 d1 d2 d3 d4 d5 d6 d7 d8 d9 d10 d11
        go_wp2_with fail
        refine (r8.out _).mono ?_
        rintro e w3 ⟨rfl, hO3⟩
        have h9 := hO3.cf h9 (by simp)
        have hE := hO3.cf hE (by simp)
        have hO := hO.trans hO3
        clear d0 d1 d2 d3 d4 d5 d6 d7 d8 d9 d10 d11 hO3
        obtain ⟨d0, d1, d2, d3, d4, d5, d6, d7, d8, d9, d10, d11, -⟩ := h9.c
        simp only [Cf.withRk] at d0 d1 d2 d3 d4 d5 d6 d7 d8 d9 d10 d11
        go_wp2_with fail
        refine (r9.out _).mono ?_
        rintro e w4 ⟨rfl, hO3⟩
        have hE := hO3.cf hE (by simp)
        have hO := hO.trans hO3
        clear d0 d1 d2 d3 d4 d5 d6 d7 d8 d9 d10 d11 hO3
        go_wp2_with fail
        go_meet
        exact ⟨rfl, hE, hO⟩
      by_cases k6 : c.kd = 6
      · rw [i2 (by omega) (by omega)] at r7
        rw [i4 (by omega)] at r9
        have t7 : (c.kd == 7) = false := by simp; omega
        have n7 : (c.kd != 7) = true := by simp; omega
        have t3 : (c.kd == 3) = false := by simp; omega
        have n3 : (c.kd != 3) = true := by simp; omega
        have t5 : (c.kd == 5) = false := by simp; omega
        have n5 : (c.kd != 5) = true := by simp; omega
        have t6 : (c.kd == 6) = true := by simp; omega
        have n6 : (c.kd != 6) = false := by simp; omega
        have t1 : (c.kd == 1) = false := by simp; omega
        have n1 : (c.kd != 1) = true := by simp; omega
        clear i1 i2 i3 i4 HI k7 k3 k5 k6 
        obtain ⟨d0, d1, d2, d3, d4, d5, d6, d7, d8, d9, d10, d11, -⟩ := h7.c
        simp only [Cf.withWo] at d0 d1 d2 d3 d4 d5 d6 d7 d8 d9 d10 d11
        go_wp2_with fail
        refine (r7.out _).mono ?_
        rintro e w3 ⟨rfl, hO3⟩
        have h9 := hO3.cf h9 (by simp)
        have hE := hO3.cf hE (by simp)
        have hO := hO.trans hO3
        clear d0 d1 d2 d3 d4 d5 d6 d7 d8 d9 d10 d11 hO3
        obtain ⟨d0, d1, d2, d3, d4, d5, d6, d7, d8, d9, d10, d11, -⟩ := h9.c
        simp only [Cf.withRk] at d0 d1 d2 d3 d4 d5 d6 d7 d8 d9 d10 d11
        go_wp2_with fail
        refine (r9.out _).mono ?_
        rintro e w4 ⟨rfl, hO3⟩
        have hE := hO3.cf hE (by simp)
        have hO := hO.trans hO3
        clear d0 d1 d2 d3 d4 d5 d6 d7 d8 d9 d10 d11 hO3
        go_wp2_with fail
        go_meet
        exact ⟨rfl, hE, hO⟩
      by_cases k1 : c.kd = 1
      · rw [i2 (by omega) (by omega)] at r7
        rw [i3 (by omega)] at r8
        have t7 : (c.kd == 7) = false := by simp; omega
        have n7 : (c.kd != 7) = true := by simp; omega
        have t3 : (c.kd == 3) = false := by simp; omega
        have n3 : (c.kd != 3) = true := by simp; omega
        have t5 : (c.kd == 5) = false := by simp; omega
        have n5 : (c.kd != 5) = true := by simp; omega
        have t6 : (c.kd == 6) = false := by simp; omega
        have n6 : (c.kd != 6) = true := by simp; omega
        have t1 : (c.kd == 1) = true := by simp; omega
        have n1 : (c.kd != 1) = false := by simp; omega
        clear i1 i2 i3 i4 HI k7 k3 k5 k6 k1
        obtain ⟨d0, d1, d2, d3, d4, d5, d6, d7, d8, d9, d10, d11, -⟩ := h7.c
        simp only [Cf.withWo] at d0 d1 d2 d3 d4 d5 d6 d7 d8 d9 d10 d11
        go_wp2_with fail
        refine (r7.out _).mono ?_
        rintro e w3 ⟨rfl, hO3⟩
        have h8 := hO3.cf h8 (by simp)
        have hE := hO3.cf hE (by simp)
        have hO := hO.trans hO3
        clear d0 d1 d2 d3 d4 d5 d6 d7 d8 d9 d10 d11 hO3
        obtain ⟨d0, d1, d2, d3, d4, d5, d6, d7, d8, d9, d10, d11, -⟩ := h8.c
        simp only [Cf.withLn] at d0 d1 d2 d3 d4 d5 d6 d7 d8 d9 d10 d11
        go_wp2_with fail
        refine (r8.out _).mono ?_
        rintro e w4 ⟨rfl, hO3⟩
        have hE := hO3.cf hE (by simp)
        have hO := hO.trans hO3
        clear d0 d1 d2 d3 d4 d5 d6 d7 d8 d9 d10 d11 hO3
        go_wp2_with fail
        go_meet
        exact ⟨rfl, hE, hO⟩
      rw [i2 (by omega) (by omega)] at r7
      rw [i3 (by omega)] at r8
      rw [i4 (by omega)] at r9
      have t7 : (c.kd == 7) = false := by simp; omega
      have n7 : (c.kd != 7) = true := by simp; omega
      have t3 : (c.kd == 3) = false := by simp; omega
      have n3 : (c.kd != 3) = true := by simp; omega
      have t5 : (c.kd == 5) = false := by simp; omega
      have n5 : (c.kd != 5) = true := by simp; omega
      have t6 : (c.kd == 6) = false := by simp; omega
      have n6 : (c.kd != 6) = true := by simp; omega
      have t1 : (c.kd == 1) = false := by simp; omega
      have n1 : (c.kd != 1) = true := by simp; omega
      clear i1 i2 i3 i4 HI k7 k3 k5 k6 k1
      obtain ⟨d0, d1, d2, d3, d4, d5, d6, d7, d8, d9, d10, d11, -⟩ := h7.c
      simp only [Cf.withWo] at d0 d1 d2 d3 d4 d5 d6 d7 d8 d9 d10 d11
      go_wp2_with fail
      refine (r7.out _).mono ?_
      rintro e w3 ⟨rfl, hO3⟩
      have h8 := hO3.cf h8 (by simp)
      have h9 := hO3.cf h9 (by simp)
      have hE := hO3.cf hE (by simp)
      have hO := hO.trans hO3
      clear d0 d1 d2 d3 d4 d5 d6 d7 d8 d9 d10 d11 hO3
      obtain ⟨d0, d1, d2, d3, d4, d5, d6, d7, d8, d9, d10, d11, -⟩ := h8.c
      simp only [Cf.withLn] at d0 d1 d2 d3 d4 d5 d6 d7 d8 d9 d10 d11
      go_wp2_with fail
      refine (r8.out _).mono ?_
      rintro e w4 ⟨rfl, hO3⟩
      have h9 := hO3.cf h9 (by simp)
      have hE := hO3.cf hE (by simp)
      have hO := hO.trans hO3
      clear d0 d1 d2 d3 d4 d5 d6 d7 d8 d9 d10 d11 hO3
      obtain ⟨d0, d1, d2, d3, d4, d5, d6, d7, d8, d9, d10, d11, -⟩ := h9.c
      simp only [Cf.withRk] at d0 d1 d2 d3 d4 d5 d6 d7 d8 d9 d10 d11
      go_wp2_with fail
      refine (r9.out _).mono ?_
      rintro e w5 ⟨rfl, hO3⟩
      have hE := hO3.cf hE (by simp)
      have hO := hO.trans hO3
      clear d0 d1 d2 d3 d4 d5 d6 d7 d8 d9 d10 d11 hO3
      go_wp2_with fail
      go_meet
      exact ⟨rfl, hE, hO⟩
    case rest =>
      obtain ⟨rfl, hE2, hO2⟩ := hcut
      clear hE hO h6 h7 h8 h9 HI
      obtain ⟨d0, d1, d2, d3, d4, d5, d6, d7, d8, d9, d10, d11, -⟩ := hE2.c
      have hltE := hE2.lt
      go_wp2_with fail
      have hB : CfB (wc.alloc (.cells #[.int .i64 c.kd, .int .i64 c.ix, .int .i64 c.wo, .int .i64 c.ln, .bool c.on, .int .i64 c.rw, .int .u32 c.fr, .int .u32 c.tt, .bool c.rd, .bool c.wt, .int .i64 c.rk, .bool c.lk] 29)) wc.heap.size (c.withKd c.kd) := Blk.new' rfl rfl
      have hE3 := hE2.alloc (.cells #[.int .i64 c.kd, .int .i64 c.ix, .int .i64 c.wo, .int .i64 c.ln, .bool c.on, .int .i64 c.rw, .int .u32 c.fr, .int .u32 c.tt, .bool c.rd, .bool c.wt, .int .i64 c.rk, .bool c.lk] 29)
      have hO3 := hO2.alloc (.cells #[.int .i64 c.kd, .int .i64 c.ix, .int .i64 c.wo, .int .i64 c.ln, .bool c.on, .int .i64 c.rw, .int .u32 c.fr, .int .u32 c.tt, .bool c.rd, .bool c.wt, .int .i64 c.rk, .bool c.lk] 29)
      clear d0 d1 d2 d3 d4 d5 d6 d7 d8 d9 d10 d11 hE2 hO2
      have hne : w.heap.size ≠ wc.heap.size := by omega
      have hsz : w.heap.size ≤ wc.heap.size := by omega
      generalize wc.heap.size = B at *
      go_loopw [11] (fun i wr => ∃ j : Int, -1 ≤ j ∧ j ≤ 10 ∧ i = .int .i64 j ∧ (∃ kd, CfB wr B (c.withKd kd)) ∧ CfB wr w.heap.size c ∧ Only [] w wr) (fun i _ => (10 - intOf i).toNat)
      case atStart => exact ⟨-1, by omega, by omega, rfl, ⟨_, hB⟩, hE3, hO3⟩
      case round =>
        clear hB hE3 hO3
        obtain ⟨j, hj1, hj2, rfl, ⟨kd, hB⟩, hE, hO⟩ := hrel
        by_cases hlt : j < 10
        · have hB2 : CfB (wr.setCell ⟨B, 0, none⟩ (.int .i64 j)) B (c.withKd j) := cfb_kd (c := c.withKd kd) j hB
          have hs1 := Only.set1 (Only.refl [B] wr) (b := B) (by simp) 0 (.int .i64 j)
          have hE2 := hs1.cf hE (by simpa using hne)
          have hO2 : Only [] w (wr.setCell ⟨B, 0, none⟩ (.int .i64 j)) := hO.trans' hs1 (by intro x hx; simp only [List.mem_cons, List.not_mem_nil, or_false] at hx; intro h; omega)
          have d0 := hB.c.c0
          have df := hB.c.fr 0
          have HP := Lib.hid (And.intro hB2 (And.intro hE2 hO2))
          clear hB hE hO hs1 hB2 hE2 hO2
          go_upto_region 18 with fail
          obtain ⟨hB2, hE2, hO2⟩ := HP.out
          clear HP d0 df
          generalize wr.setCell ⟨B, 0, none⟩ (.int .i64 j) = ws at *
          have HR2 := Lib.hid (right_any (c.withKd j))
          obtain ⟨d0, d1, d2, d3, d4, d5, d6, d7, d8, d9, d10, d11, -⟩ := hB2.c
          simp only [Cf.withKd] at d0 d1 d2 d3 d4 d5 d6 d7 d8 d9 d10 d11
          cases hr : (c.withKd j).right
          · rw [hr] at HR2
            clear hr
            go_wp2_with fail
            refine (HR2.out _).mono ?_
            rintro e w5 ⟨rfl, hO5⟩
            have hB5 := hO5.cf hB2 (by simp)
            have hE5 := hO5.cf hE2 (by simp)
            have hO6 := hO2.trans hO5
            clear hB2 hE2 hO2 hO5 d0 d1 d2 d3 d4 d5 d6 d7 d8 d9 d10 d11
            go_wp2_with fail
            refine ⟨⟨j + 1, by omega, by omega, by go_num, ⟨_, hB5⟩, hE5, hO6⟩, ?_⟩
            simp [intOf]
            omega
          · rw [hr] at HR2
            go_wp2_with fail
            refine (HR2.out _).mono ?_
            rintro e w5 ⟨rfl, hO5⟩
            have hB5 := hO5.cf hB2 (by simp)
            have hE5 := hO5.cf hE2 (by simp)
            have hO6 := hO2.trans hO5
            clear hB2 hE2 hO2 hO5 d0 d1 d2 d3 d4 d5 d6 d7 d8 d9 d10 d11
            have d0 := hB5.c.c0
            simp only [Cf.withKd] at d0
            by_cases hk : j = c.kd
            · have hk' : (j == c.kd) = true := by simpa using hk
              clear hk hr
              go_wp2_with fail
              refine ⟨⟨j + 1, by omega, by omega, by go_num, ⟨_, hB5⟩, hE5, hO6⟩, ?_⟩
              simp [intOf]
              omega
            · have hk' : (j == c.kd) = false := by simpa using hk
              obtain ⟨a1, a2, a3, a4, a5, a6, a7⟩ := HJ.out j hr hk
              clear hk hr HJ
              obtain ⟨-, e1, e2, e3, e4, -⟩ := hE5.c
              rw [a6] at e4
              have b1 : ¬ j < 1 := by omega
              have b2 : ¬ 7 < j := by omega
              have b3 : (j == 1) = false := by simp; omega
              have HE := Lib.hid (And.intro hB5 (And.intro hE5 hO6))
              clear hB5 hE5 hO6
              have hcase : (c.wo = 0 ∧ c.ln = 0 ∧ c.ix = 0) ∨ (c.wo = 0 ∧ c.ln = 0 ∧ c.ix ≠ 0 ∧ j ≠ 7) ∨ (c.wo = 0 ∧ c.ln ≠ 0 ∧ j = 6) ∨ (c.wo ≠ 0 ∧ c.ln = 0 ∧ j = 3) ∨ (c.wo ≠ 0 ∧ c.ln = 0 ∧ j = 5) := by omega
              clear a3 a4 a5 a6 a7
              rcases hcase with ⟨x1, x2, x3⟩ | ⟨x1, x2, x3, x4⟩ | ⟨x1, x2, x3⟩ | ⟨x1, x2, x3⟩ | ⟨x1, x2, x3⟩
              · have y1 : (c.wo == 0) = true := by simpa using x1
                have z1 : (c.wo != 0) = false := by simpa using x1
                have y2 : (c.ln == 0) = true := by simpa using x2
                have z2 : (c.ln != 0) = false := by simpa using x2
                have y3 : (c.ix == 0) = true := by simpa using x3
                have z3 : (c.ix != 0) = false := by simpa using x3
                clear x1 x2 x3
                go_wp2_with fail
                obtain ⟨hB5, hE5, hO6⟩ := HE.out
                refine ⟨⟨j + 1, by omega, by omega, by go_num, ⟨_, hB5⟩, hE5, hO6⟩, ?_⟩
                simp [intOf]
                omega
              · have y1 : (c.wo == 0) = true := by simpa using x1
                have z1 : (c.wo != 0) = false := by simpa using x1
                have y2 : (c.ln == 0) = true := by simpa using x2
                have z2 : (c.ln != 0) = false := by simpa using x2
                have y3 : (c.ix == 0) = false := by simpa using x3
                have z3 : (c.ix != 0) = true := by simpa using x3
                have y4 : (j == 7) = false := by simpa using x4
                clear x1 x2 x3 x4
                go_wp2_with fail
                obtain ⟨hB5, hE5, hO6⟩ := HE.out
                refine ⟨⟨j + 1, by omega, by omega, by go_num, ⟨_, hB5⟩, hE5, hO6⟩, ?_⟩
                simp [intOf]
                omega
              · have y1 : (c.wo == 0) = true := by simpa using x1
                have z1 : (c.wo != 0) = false := by simpa using x1
                have y2 : (c.ln == 0) = false := by simpa using x2
                have z2 : (c.ln != 0) = true := by simpa using x2
                have m3 : (j == 3) = false := by simp; omega
                have k3 : (j != 3) = true := by simp; omega
                have m5 : (j == 5) = false := by simp; omega
                have k5 : (j != 5) = true := by simp; omega
                have m6 : (j == 6) = true := by simp; omega
                have k6 : (j != 6) = false := by simp; omega
                have m7 : (j == 7) = false := by simp; omega
                have k7 : (j != 7) = true := by simp; omega
                by_cases x4 : c.ix = 0
                · have y4 : (c.ix == 0) = true := by simpa using x4
                  have z4 : (c.ix != 0) = false := by simpa using x4
                  clear x1 x2 x3 x4
                  go_wp2_with fail
                  obtain ⟨hB5, hE5, hO6⟩ := HE.out
                  refine ⟨⟨j + 1, by omega, by omega, by go_num, ⟨_, hB5⟩, hE5, hO6⟩, ?_⟩
                  simp [intOf]
                  omega
                · have y4 : (c.ix == 0) = false := by simpa using x4
                  have z4 : (c.ix != 0) = true := by simpa using x4
                  clear x1 x2 x3 x4
                  go_wp2_with fail
                  obtain ⟨hB5, hE5, hO6⟩ := HE.out
                  refine ⟨⟨j + 1, by omega, by omega, by go_num, ⟨_, hB5⟩, hE5, hO6⟩, ?_⟩
                  simp [intOf]
                  omega
              · have y1 : (c.wo == 0) = false := by simpa using x1
                have z1 : (c.wo != 0) = true := by simpa using x1
                have y2 : (c.ln == 0) = true := by simpa using x2
                have z2 : (c.ln != 0) = false := by simpa using x2
                have m3 : (j == 3) = true := by simp; omega
                have k3 : (j != 3) = false := by simp; omega
                have m5 : (j == 5) = false := by simp; omega
                have k5 : (j != 5) = true := by simp; omega
                have m6 : (j == 6) = false := by simp; omega
                have k6 : (j != 6) = true := by simp; omega
                have m7 : (j == 7) = false := by simp; omega
                have k7 : (j != 7) = true := by simp; omega
                by_cases x4 : c.ix = 0
                · have y4 : (c.ix == 0) = true := by simpa using x4
                  have z4 : (c.ix != 0) = false := by simpa using x4
                  clear x1 x2 x3 x4
                  go_wp2_with fail
                  obtain ⟨hB5, hE5, hO6⟩ := HE.out
                  refine ⟨⟨j + 1, by omega, by omega, by go_num, ⟨_, hB5⟩, hE5, hO6⟩, ?_⟩
                  simp [intOf]
                  omega
                · have y4 : (c.ix == 0) = false := by simpa using x4
                  have z4 : (c.ix != 0) = true := by simpa using x4
                  clear x1 x2 x3 x4
                  go_wp2_with fail
                  obtain ⟨hB5, hE5, hO6⟩ := HE.out
                  refine ⟨⟨j + 1, by omega, by omega, by go_num, ⟨_, hB5⟩, hE5, hO6⟩, ?_⟩
                  simp [intOf]
                  omega
              · have y1 : (c.wo == 0) = false := by simpa using x1
                have z1 : (c.wo != 0) = true := by simpa using x1
                have y2 : (c.ln == 0) = true := by simpa using x2
                have z2 : (c.ln != 0) = false := by simpa using x2
                have m3 : (j == 3) = false := by simp; omega
                have k3 : (j != 3) = true := by simp; omega
                have m5 : (j == 5) = true := by simp; omega
                have k5 : (j != 5) = false := by simp; omega
                have m6 : (j == 6) = false := by simp; omega
                have k6 : (j != 6) = true := by simp; omega
                have m7 : (j == 7) = false := by simp; omega
                have k7 : (j != 7) = true := by simp; omega
                by_cases x4 : c.ix = 0
                · have y4 : (c.ix == 0) = true := by simpa using x4
                  have z4 : (c.ix != 0) = false := by simpa using x4
                  clear x1 x2 x3 x4
                  go_wp2_with fail
                  obtain ⟨hB5, hE5, hO6⟩ := HE.out
                  refine ⟨⟨j + 1, by omega, by omega, by go_num, ⟨_, hB5⟩, hE5, hO6⟩, ?_⟩
                  simp [intOf]
                  omega
                · have y4 : (c.ix == 0) = false := by simpa using x4
                  have z4 : (c.ix != 0) = true := by simpa using x4
                  clear x1 x2 x3 x4
                  go_wp2_with fail
                  obtain ⟨hB5, hE5, hO6⟩ := HE.out
                  refine ⟨⟨j + 1, by omega, by omega, by go_num, ⟨_, hB5⟩, hE5, hO6⟩, ?_⟩
                  simp [intOf]
                  omega
        · go_wp2_with fail
          go_ret
          exact ⟨rfl, hO⟩
end Go.Proofs.YtghoggjllcbalaaDoor
