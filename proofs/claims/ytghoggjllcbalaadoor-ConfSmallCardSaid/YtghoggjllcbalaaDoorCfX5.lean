/- ConfSmall of septumlaw21, walked. Condition: the listed variables are laid. -/
import Derived.Test.YtghoggjllcbalaaDoorCfX4
import Derived.Deep.CutBlock
namespace Go.Proofs.YtghoggjllcbalaaDoor
open Go Go.RowKit
attribute [local go_sem ↓] str_eql str_neq
attribute [local go_sem] str_cat

def smallE : List Int := [-9223372036854775808, -2, -1, 0, 1, 7, 99, 100, 999, 1000, 9223372036854775807]
def smallL : List (List UInt8) := [[114, 101, 103, 105, 111, 110, 32, 51, 32, 49, 32, 49, 48, 48, 32, 102, 102, 102, 102, 102, 102, 102, 102, 32, 114, 119, 32, 53, 32, 108, 111, 99, 107, 101, 100], [114, 101, 103, 105, 111, 110, 32, 48, 32, 57, 57, 32, 48, 32, 48, 32, 45, 32, 57, 57, 57], [114, 101, 103, 105, 111, 110, 32, 57, 57, 57, 32, 48, 32, 97, 32, 49, 102, 102, 32, 114, 32, 48], [114, 101, 103, 105, 111, 110, 32, 49, 32, 50, 32, 51, 32, 52, 32, 119, 32, 53], [99, 108, 101, 97, 114, 32, 49, 50], [103, 105, 118, 101, 32, 50, 32, 53], [116, 97, 107, 101, 32, 57, 57, 57], [109, 111, 118, 101, 32, 48, 32, 57, 57], [114, 111, 117, 116, 101, 32, 50, 32, 45], [114, 111, 117, 116, 101, 32, 50, 32, 57, 57], [108, 111, 99, 107], [114, 111, 117, 116, 101, 32, 50, 32, 45, 49], [114, 101, 103, 105, 111, 110, 32, 49, 32, 50, 32, 51, 32, 52, 32, 119, 114, 32, 53], [114, 101, 103, 105, 111, 110, 32, 49, 32, 50, 32, 51, 32, 52, 32, 114, 119, 32, 53, 32, 117, 110, 108, 111, 99, 107, 101, 100], [114, 101, 103, 105, 111, 110, 32, 49, 32, 50, 32, 51, 32, 49, 102, 102, 102, 102, 102, 102, 102, 102, 32, 114, 119, 32, 53], [114, 101, 103, 105, 111, 110, 32, 49, 32, 50, 32, 51, 32, 52, 32, 114, 119], [103, 105, 118, 101, 32, 50, 32, 45], [116, 97, 107, 101, 32, 49, 48, 48, 48], [109, 111, 118, 101, 32, 49, 32, 49, 48, 48], [99, 108, 101, 97, 114, 32, 43, 49], [108, 111, 99, 107, 32, 49], [76, 111, 99, 107], [], [32]]
def smallS : List UInt8 := [48, 32, 49, 45, 114, 119, 9, 108, 70, 43]
theorem smallL_len : ∀ i, i < 24 → (smallL.getD i []).length ≤ 60 := by decide
theorem smallL_at : ∀ i, i < 24 → (smallL.map str)[i]? = some (str (smallL.getD i [])) := by
  intro i hi
  have h : i < smallL.length := hi
  rw [List.getElem?_map, List.getElem?_eq_getElem h, List.getD_eq_getElem?_getD, List.getElem?_eq_getElem h]
  rfl
theorem smallE_at : ∀ i, i < 11 → (smallE.map fun n => Value.int .i64 n)[i]? = some (.int .i64 (smallE.getD i 0)) := by
  intro i hi
  have h : i < smallE.length := hi
  rw [List.getElem?_map, List.getElem?_eq_getElem h, List.getD_eq_getElem?_getD, List.getElem?_eq_getElem h]
  rfl
theorem cut_lo (s : List UInt8) (k : Nat) : (ByteArray.mk s.toArray).extract 0 k = ⟨(s.take k).toArray⟩ := by
  apply ByteArray.ext
  simp [ByteArray.data_extract]
theorem cut_hi (s : List UInt8) (k : Nat) : (ByteArray.mk s.toArray).extract k s.length = ⟨(s.drop k).toArray⟩ := by
  apply ByteArray.ext
  simp only [ByteArray.data_extract]
  apply Array.ext'
  simp
  exact List.take_of_length_le (by simp)
theorem some_at : ∀ m, m < 10 → (ByteArray.mk #[48, 32, 49, 45, 114, 119, 9, 108, 70, 43]).extract m (m + 1) = ⟨#[smallS.getD m 0]⟩ := by decide

theorem cfr_regOn {w : World} {b : Nat} {c : Cf} (a0 : Bool) (a1 a2 a3 : Int) (a4 a5 : Bool) (a6 : Int) (a7 : Bool) (h : CfB w b c) :
    CfB ((((((((w.setCell ⟨b, 4, none⟩ (.bool a0)).setCell ⟨b, 5, none⟩ (.int .i64 a1)).setCell ⟨b, 6, none⟩ (.int .u32 a2)).setCell ⟨b, 7, none⟩ (.int .u32 a3)).setCell ⟨b, 8, none⟩ (.bool a4)).setCell ⟨b, 9, none⟩ (.bool a5)).setCell ⟨b, 10, none⟩ (.int .i64 a6)).setCell ⟨b, 11, none⟩ (.bool a7)) b ⟨c.kd, c.ix, c.wo, c.ln, a0, a1, a2, a3, a4, a5, a6, a7⟩ := by
  have hB := (Blk.set_ (Blk.set_ (Blk.set_ (Blk.set_ (Blk.set_ (Blk.set_ (Blk.set_ (Blk.set_ h 4 (.bool a0)) 5 (.int .i64 a1)) 6 (.int .u32 a2)) 7 (.int .u32 a3)) 8 (.bool a4)) 9 (.bool a5)) 10 (.int .i64 a6)) 11 (.bool a7))
  simp only [List.setIfInBounds_toArray, List.set_cons_succ, List.set_cons_zero] at hB
  exact hB
theorem cfr_on {w : World} {b : Nat} {c : Cf} (a : Bool) (h : CfB w b c) : CfB (w.setCell ⟨b, 4, none⟩ (.bool a)) b { c with on := a } := by
  have hB := Blk.set_ h 4 (.bool a)
  simp only [List.setIfInBounds_toArray, List.set_cons_succ, List.set_cons_zero] at hB
  exact hB

attribute [local go_sem] cut_lo cut_hi
set_option maxRecDepth 100000 in
set_option maxHeartbeats 16000000 in
theorem small_any (w : World) (hg : Gl w) :
    Calls Tryd.prog 7 #[] w fun e w' => e = .returned (.bool true) ∧ Only [] w w' := by
  have HA := Lib.hid awake_any
  have HG := Lib.hid (fun (wx : World) (h : Only [] w wx) => hg.only h)
  have hEb : Blk (w.alloc (.cells (smallE.map fun n => Value.int .i64 n).toArray 3)) w.heap.size 3 (smallE.map fun n => Value.int .i64 n).toArray := Blk.new' rfl rfl
  have hOb := (Only.refl [] w).alloc (.cells (smallE.map fun n => Value.int .i64 n).toArray 3)
  clear hg
  go_enter Tryd.func7, Tryd.ntmps7
  go_wp2_with fail
  generalize hE : w.heap.size = E at *
  have hEl : w.heap.size ≤ E := by omega
  clear hE
  go_loopw [2] (fun k wr => ∃ k' : Int, k = .int .i64 k' ∧ -1 ≤ k' ∧ k' ≤ 10 ∧ Blk wr E 3 (smallE.map fun n => Value.int .i64 n).toArray ∧ Only [] w wr) (fun k _ => (10 - intOf k).toNat)
  case atStart => exact ⟨-1, rfl, by omega, by omega, hEb, hOb⟩
  case round =>
    clear hEb hOb
    obtain ⟨k, rfl, hk1, hk2, hEb, hOb⟩ := hrel
    by_cases hk : k < 10
    · go_wp2_with fail
      go_loopw [3] (fun i wr => ∃ i' : Nat, i = .int .i64 i' ∧ i' ≤ 11 ∧ Blk wr E 3 (smallE.map fun n => Value.int .i64 n).toArray ∧ Only [] w wr) (fun i _ => 11 - (intOf i).toNat)
      case atStart => exact ⟨0, rfl, by omega, hEb, hOb⟩
      case round =>
        clear hEb hOb
        obtain ⟨i, rfl, hi, hEb, hOb⟩ := hrel
        by_cases hil : i < 11
        · have hii : (i : Int) < 11 := by omega
          go_wp2_with fail
          go_loopw [4] (fun j wr => ∃ j' : Nat, j = .int .i64 j' ∧ j' ≤ 5 ∧ Blk wr E 3 (smallE.map fun n => Value.int .i64 n).toArray ∧ Only [] w wr) (fun j _ => 5 - (intOf j).toNat)
          case atStart => exact ⟨0, rfl, by omega, hEb, hOb⟩
          case round =>
            clear hEb hOb
            obtain ⟨j, rfl, hj, hEb, hOb⟩ := hrel
            by_cases hjl : j < 5
            · have hji : (j : Int) < 5 := by omega
              have ci := hEb.cell i
              rw [List.getElem?_toArray, smallE_at i hil] at ci
              generalize smallE.getD i 0 = n at *
              have hww : w.heap.size ≤ wr.heap.size := hOb.size
              have hne : E ≠ wr.heap.size := by have := hEb.lt; omega
              have hEl2 := hEb.lt
              have hi0 : (0 : Int) ≤ (i : Int) := by omega
              have HH := Lib.hid (And.intro hOb hEb)
              clear hEb hOb
              have hj5 : j = 0 ∨ j = 1 ∨ j = 2 ∨ j = 3 ∨ j = 4 := by omega
              rcases hj5 with hjj | hjj | hjj | hjj | hjj
              · have t0 : ((j : Int) == 0) = true := by simp; omega
                have t1 : ((j : Int) == 1) = false := by simp; omega
                have t2 : ((j : Int) == 2) = false := by simp; omega
                have t3 : ((j : Int) == 3) = false := by simp; omega
                have t4 : ((j : Int) == 4) = false := by simp; omega
                clear hjj
                go_wp2_with fail
                obtain ⟨hO2, hEb2⟩ := HH.out
                refine (shows_any ⟨_, _, _, _, _, _, _, _, _, _, _, _⟩ ⟨⟨by (try dsimp only); first | omega | (rw [IntKind.wrap_u32]; omega), by (try dsimp only); first | omega | (rw [IntKind.wrap_u32]; omega)⟩, ⟨by (try dsimp only); first | omega | (rw [IntKind.wrap_u32]; omega), by (try dsimp only); first | omega | (rw [IntKind.wrap_u32]; omega)⟩⟩ _ (HG.out _ (by repeat (first | with_reducible exact hO2 | with_reducible refine Only.alloc ?_ _ | with_reducible refine Only.setCell ?_ (.inr hww) _)))).mono ?_
                rintro e w5 ⟨rfl, hO5⟩
                have hO3 : Only [] w w5 := Only.trans (by repeat (first | with_reducible exact hO2 | with_reducible refine Only.alloc ?_ _ | with_reducible refine Only.setCell ?_ (.inr hww) _)) hO5
                have hEb3 := hO5.blk (g := E) (t := 3) (cs := (smallE.map fun n => Value.int .i64 n).toArray) (by repeat (first | with_reducible exact hEb2 | with_reducible refine Blk.alloc ?_ _ | with_reducible refine Blk.far ?_ hne _)) (by simp)
                obtain ⟨cc, hE1, hf1⟩ : ∃ cc : Cf, CfB w5 wr.heap.size cc ∧ cc.Fits := by
                  exact ⟨⟨_, _, _, _, _, _, _, _, _, _, _, _⟩, hO5.cf (Blk.new' rfl rfl) (by simp), ⟨⟨by (try dsimp only); first | omega | (rw [IntKind.wrap_u32]; omega), by (try dsimp only); first | omega | (rw [IntKind.wrap_u32]; omega)⟩, ⟨by (try dsimp only); first | omega | (rw [IntKind.wrap_u32]; omega), by (try dsimp only); first | omega | (rw [IntKind.wrap_u32]; omega)⟩⟩⟩
                clear hO2 hEb2 hO5
                obtain ⟨d0, d1, d2, d3, d4, d5, d6, d7, d8, d9, d10, d11, df⟩ := hE1.c
                have f1 := df 1
                have f4 := df 4
                clear df hE1
                go_wp2_with fail
                refine (shows_any ⟨cc.kd, 999, cc.wo, cc.ln, true, cc.rw, cc.fr, cc.tt, cc.rd, cc.wt, cc.rk, cc.lk⟩ ⟨hf1.fr, hf1.tt⟩ _ (HG.out _ (by repeat (first | with_reducible exact hO3 | with_reducible refine Only.setCell ?_ (.inr hww) _)))).mono ?_
                rintro e w7 ⟨rfl, hO7⟩
                have hO8 : Only [] w w7 := Only.trans (by repeat (first | with_reducible exact hO3 | with_reducible refine Only.setCell ?_ (.inr hww) _)) hO7
                have hEb4 := hO7.blk (g := E) (t := 3) (cs := (smallE.map fun n => Value.int .i64 n).toArray) (by repeat (first | with_reducible exact hEb3 | with_reducible refine Blk.far ?_ hne _)) (by simp)
                clear hO7 hO3 hEb3 d0 d1 d2 d3 d4 d5 d6 d7 d8 d9 d10 d11 f1 f4
                go_wp2_with fail
                refine ⟨⟨j + 1, by go_num, by omega, hEb4, hO8⟩, ?_⟩
                simp [intOf]
                omega
              · have t0 : ((j : Int) == 0) = false := by simp; omega
                have t1 : ((j : Int) == 1) = true := by simp; omega
                have t2 : ((j : Int) == 2) = false := by simp; omega
                have t3 : ((j : Int) == 3) = false := by simp; omega
                have t4 : ((j : Int) == 4) = false := by simp; omega
                clear hjj
                go_wp2_with fail
                obtain ⟨hO2, hEb2⟩ := HH.out
                refine (shows_any ⟨_, _, _, _, _, _, _, _, _, _, _, _⟩ ⟨⟨by (try dsimp only); first | omega | (rw [IntKind.wrap_u32]; omega), by (try dsimp only); first | omega | (rw [IntKind.wrap_u32]; omega)⟩, ⟨by (try dsimp only); first | omega | (rw [IntKind.wrap_u32]; omega), by (try dsimp only); first | omega | (rw [IntKind.wrap_u32]; omega)⟩⟩ _ (HG.out _ (by repeat (first | with_reducible exact hO2 | with_reducible refine Only.alloc ?_ _ | with_reducible refine Only.setCell ?_ (.inr hww) _)))).mono ?_
                rintro e w5 ⟨rfl, hO5⟩
                have hO3 : Only [] w w5 := Only.trans (by repeat (first | with_reducible exact hO2 | with_reducible refine Only.alloc ?_ _ | with_reducible refine Only.setCell ?_ (.inr hww) _)) hO5
                have hEb3 := hO5.blk (g := E) (t := 3) (cs := (smallE.map fun n => Value.int .i64 n).toArray) (by repeat (first | with_reducible exact hEb2 | with_reducible refine Blk.alloc ?_ _ | with_reducible refine Blk.far ?_ hne _)) (by simp)
                obtain ⟨cc, hE1, hf1⟩ : ∃ cc : Cf, CfB w5 wr.heap.size cc ∧ cc.Fits := by
                  exact ⟨⟨_, _, _, _, _, _, _, _, _, _, _, _⟩, hO5.cf (Blk.new' rfl rfl) (by simp), ⟨⟨by (try dsimp only); first | omega | (rw [IntKind.wrap_u32]; omega), by (try dsimp only); first | omega | (rw [IntKind.wrap_u32]; omega)⟩, ⟨by (try dsimp only); first | omega | (rw [IntKind.wrap_u32]; omega), by (try dsimp only); first | omega | (rw [IntKind.wrap_u32]; omega)⟩⟩⟩
                clear hO2 hEb2 hO5
                obtain ⟨d0, d1, d2, d3, d4, d5, d6, d7, d8, d9, d10, d11, df⟩ := hE1.c
                have f1 := df 1
                have f4 := df 4
                clear df hE1
                go_wp2_with fail
                refine (shows_any ⟨cc.kd, 999, cc.wo, cc.ln, true, cc.rw, cc.fr, cc.tt, cc.rd, cc.wt, cc.rk, cc.lk⟩ ⟨hf1.fr, hf1.tt⟩ _ (HG.out _ (by repeat (first | with_reducible exact hO3 | with_reducible refine Only.setCell ?_ (.inr hww) _)))).mono ?_
                rintro e w7 ⟨rfl, hO7⟩
                have hO8 : Only [] w w7 := Only.trans (by repeat (first | with_reducible exact hO3 | with_reducible refine Only.setCell ?_ (.inr hww) _)) hO7
                have hEb4 := hO7.blk (g := E) (t := 3) (cs := (smallE.map fun n => Value.int .i64 n).toArray) (by repeat (first | with_reducible exact hEb3 | with_reducible refine Blk.far ?_ hne _)) (by simp)
                clear hO7 hO3 hEb3 d0 d1 d2 d3 d4 d5 d6 d7 d8 d9 d10 d11 f1 f4
                go_wp2_with fail
                refine ⟨⟨j + 1, by go_num, by omega, hEb4, hO8⟩, ?_⟩
                simp [intOf]
                omega
              · have t0 : ((j : Int) == 0) = false := by simp; omega
                have t1 : ((j : Int) == 1) = false := by simp; omega
                have t2 : ((j : Int) == 2) = true := by simp; omega
                have t3 : ((j : Int) == 3) = false := by simp; omega
                have t4 : ((j : Int) == 4) = false := by simp; omega
                clear hjj
                go_wp2_with fail
                obtain ⟨hO2, hEb2⟩ := HH.out
                refine (shows_any ⟨_, _, _, _, _, _, _, _, _, _, _, _⟩ ⟨⟨by (try dsimp only); first | omega | (rw [IntKind.wrap_u32]; omega), by (try dsimp only); first | omega | (rw [IntKind.wrap_u32]; omega)⟩, ⟨by (try dsimp only); first | omega | (rw [IntKind.wrap_u32]; omega), by (try dsimp only); first | omega | (rw [IntKind.wrap_u32]; omega)⟩⟩ _ (HG.out _ (by repeat (first | with_reducible exact hO2 | with_reducible refine Only.alloc ?_ _ | with_reducible refine Only.setCell ?_ (.inr hww) _)))).mono ?_
                rintro e w5 ⟨rfl, hO5⟩
                have hO3 : Only [] w w5 := Only.trans (by repeat (first | with_reducible exact hO2 | with_reducible refine Only.alloc ?_ _ | with_reducible refine Only.setCell ?_ (.inr hww) _)) hO5
                have hEb3 := hO5.blk (g := E) (t := 3) (cs := (smallE.map fun n => Value.int .i64 n).toArray) (by repeat (first | with_reducible exact hEb2 | with_reducible refine Blk.alloc ?_ _ | with_reducible refine Blk.far ?_ hne _)) (by simp)
                obtain ⟨cc, hE1, hf1⟩ : ∃ cc : Cf, CfB w5 wr.heap.size cc ∧ cc.Fits := by
                  exact ⟨⟨_, _, _, _, _, _, _, _, _, _, _, _⟩, hO5.cf (Blk.new' rfl rfl) (by simp), ⟨⟨by (try dsimp only); first | omega | (rw [IntKind.wrap_u32]; omega), by (try dsimp only); first | omega | (rw [IntKind.wrap_u32]; omega)⟩, ⟨by (try dsimp only); first | omega | (rw [IntKind.wrap_u32]; omega), by (try dsimp only); first | omega | (rw [IntKind.wrap_u32]; omega)⟩⟩⟩
                clear hO2 hEb2 hO5
                obtain ⟨d0, d1, d2, d3, d4, d5, d6, d7, d8, d9, d10, d11, df⟩ := hE1.c
                have f1 := df 1
                have f4 := df 4
                clear df hE1
                go_wp2_with fail
                refine (shows_any ⟨cc.kd, 999, cc.wo, cc.ln, true, cc.rw, cc.fr, cc.tt, cc.rd, cc.wt, cc.rk, cc.lk⟩ ⟨hf1.fr, hf1.tt⟩ _ (HG.out _ (by repeat (first | with_reducible exact hO3 | with_reducible refine Only.setCell ?_ (.inr hww) _)))).mono ?_
                rintro e w7 ⟨rfl, hO7⟩
                have hO8 : Only [] w w7 := Only.trans (by repeat (first | with_reducible exact hO3 | with_reducible refine Only.setCell ?_ (.inr hww) _)) hO7
                have hEb4 := hO7.blk (g := E) (t := 3) (cs := (smallE.map fun n => Value.int .i64 n).toArray) (by repeat (first | with_reducible exact hEb3 | with_reducible refine Blk.far ?_ hne _)) (by simp)
                clear hO7 hO3 hEb3 d0 d1 d2 d3 d4 d5 d6 d7 d8 d9 d10 d11 f1 f4
                go_wp2_with fail
                refine ⟨⟨j + 1, by go_num, by omega, hEb4, hO8⟩, ?_⟩
                simp [intOf]
                omega
              · have t0 : ((j : Int) == 0) = false := by simp; omega
                have t1 : ((j : Int) == 1) = false := by simp; omega
                have t2 : ((j : Int) == 2) = false := by simp; omega
                have t3 : ((j : Int) == 3) = true := by simp; omega
                have t4 : ((j : Int) == 4) = false := by simp; omega
                clear hjj
                go_wp2_with fail
                obtain ⟨hO2, hEb2⟩ := HH.out
                refine (shows_any ⟨_, _, _, _, _, _, _, _, _, _, _, _⟩ ⟨⟨by (try dsimp only); first | omega | (rw [IntKind.wrap_u32]; omega), by (try dsimp only); first | omega | (rw [IntKind.wrap_u32]; omega)⟩, ⟨by (try dsimp only); first | omega | (rw [IntKind.wrap_u32]; omega), by (try dsimp only); first | omega | (rw [IntKind.wrap_u32]; omega)⟩⟩ _ (HG.out _ (by repeat (first | with_reducible exact hO2 | with_reducible refine Only.alloc ?_ _ | with_reducible refine Only.setCell ?_ (.inr hww) _)))).mono ?_
                rintro e w5 ⟨rfl, hO5⟩
                have hO3 : Only [] w w5 := Only.trans (by repeat (first | with_reducible exact hO2 | with_reducible refine Only.alloc ?_ _ | with_reducible refine Only.setCell ?_ (.inr hww) _)) hO5
                have hEb3 := hO5.blk (g := E) (t := 3) (cs := (smallE.map fun n => Value.int .i64 n).toArray) (by repeat (first | with_reducible exact hEb2 | with_reducible refine Blk.alloc ?_ _ | with_reducible refine Blk.far ?_ hne _)) (by simp)
                obtain ⟨cc, hE1, hf1⟩ : ∃ cc : Cf, CfB w5 wr.heap.size cc ∧ cc.Fits := by
                  exact ⟨⟨_, _, _, _, _, _, _, _, _, _, _, _⟩, hO5.cf (Blk.new' rfl rfl) (by simp), ⟨⟨by (try dsimp only); first | omega | (rw [IntKind.wrap_u32]; omega), by (try dsimp only); first | omega | (rw [IntKind.wrap_u32]; omega)⟩, ⟨by (try dsimp only); first | omega | (rw [IntKind.wrap_u32]; omega), by (try dsimp only); first | omega | (rw [IntKind.wrap_u32]; omega)⟩⟩⟩
                clear hO2 hEb2 hO5
                obtain ⟨d0, d1, d2, d3, d4, d5, d6, d7, d8, d9, d10, d11, df⟩ := hE1.c
                have f1 := df 1
                have f4 := df 4
                clear df hE1
                go_wp2_with fail
                refine (shows_any ⟨cc.kd, 999, cc.wo, cc.ln, true, cc.rw, cc.fr, cc.tt, cc.rd, cc.wt, cc.rk, cc.lk⟩ ⟨hf1.fr, hf1.tt⟩ _ (HG.out _ (by repeat (first | with_reducible exact hO3 | with_reducible refine Only.setCell ?_ (.inr hww) _)))).mono ?_
                rintro e w7 ⟨rfl, hO7⟩
                have hO8 : Only [] w w7 := Only.trans (by repeat (first | with_reducible exact hO3 | with_reducible refine Only.setCell ?_ (.inr hww) _)) hO7
                have hEb4 := hO7.blk (g := E) (t := 3) (cs := (smallE.map fun n => Value.int .i64 n).toArray) (by repeat (first | with_reducible exact hEb3 | with_reducible refine Blk.far ?_ hne _)) (by simp)
                clear hO7 hO3 hEb3 d0 d1 d2 d3 d4 d5 d6 d7 d8 d9 d10 d11 f1 f4
                go_wp2_with fail
                refine ⟨⟨j + 1, by go_num, by omega, hEb4, hO8⟩, ?_⟩
                simp [intOf]
                omega
              · have t0 : ((j : Int) == 0) = false := by simp; omega
                have t1 : ((j : Int) == 1) = false := by simp; omega
                have t2 : ((j : Int) == 2) = false := by simp; omega
                have t3 : ((j : Int) == 3) = false := by simp; omega
                have t4 : ((j : Int) == 4) = true := by simp; omega
                clear hjj
                go_wp2_with fail
                obtain ⟨hO2, hEb2⟩ := HH.out
                refine (shows_any ⟨_, _, _, _, _, _, _, _, _, _, _, _⟩ ⟨⟨by (try dsimp only); first | omega | (rw [IntKind.wrap_u32]; omega), by (try dsimp only); first | omega | (rw [IntKind.wrap_u32]; omega)⟩, ⟨by (try dsimp only); first | omega | (rw [IntKind.wrap_u32]; omega), by (try dsimp only); first | omega | (rw [IntKind.wrap_u32]; omega)⟩⟩ _ (HG.out _ (by repeat (first | with_reducible exact hO2 | with_reducible refine Only.alloc ?_ _ | with_reducible refine Only.setCell ?_ (.inr hww) _)))).mono ?_
                rintro e w5 ⟨rfl, hO5⟩
                have hO3 : Only [] w w5 := Only.trans (by repeat (first | with_reducible exact hO2 | with_reducible refine Only.alloc ?_ _ | with_reducible refine Only.setCell ?_ (.inr hww) _)) hO5
                have hEb3 := hO5.blk (g := E) (t := 3) (cs := (smallE.map fun n => Value.int .i64 n).toArray) (by repeat (first | with_reducible exact hEb2 | with_reducible refine Blk.alloc ?_ _ | with_reducible refine Blk.far ?_ hne _)) (by simp)
                obtain ⟨cc, hE1, hf1⟩ : ∃ cc : Cf, CfB w5 wr.heap.size cc ∧ cc.Fits := by
                  exact ⟨⟨_, _, _, _, _, _, _, _, _, _, _, _⟩, hO5.cf (Blk.new' rfl rfl) (by simp), ⟨⟨by (try dsimp only); first | omega | (rw [IntKind.wrap_u32]; omega), by (try dsimp only); first | omega | (rw [IntKind.wrap_u32]; omega)⟩, ⟨by (try dsimp only); first | omega | (rw [IntKind.wrap_u32]; omega), by (try dsimp only); first | omega | (rw [IntKind.wrap_u32]; omega)⟩⟩⟩
                clear hO2 hEb2 hO5
                obtain ⟨d0, d1, d2, d3, d4, d5, d6, d7, d8, d9, d10, d11, df⟩ := hE1.c
                have f1 := df 1
                have f4 := df 4
                clear df hE1
                go_wp2_with fail
                refine (shows_any ⟨cc.kd, 999, cc.wo, cc.ln, true, cc.rw, cc.fr, cc.tt, cc.rd, cc.wt, cc.rk, cc.lk⟩ ⟨hf1.fr, hf1.tt⟩ _ (HG.out _ (by repeat (first | with_reducible exact hO3 | with_reducible refine Only.setCell ?_ (.inr hww) _)))).mono ?_
                rintro e w7 ⟨rfl, hO7⟩
                have hO8 : Only [] w w7 := Only.trans (by repeat (first | with_reducible exact hO3 | with_reducible refine Only.setCell ?_ (.inr hww) _)) hO7
                have hEb4 := hO7.blk (g := E) (t := 3) (cs := (smallE.map fun n => Value.int .i64 n).toArray) (by repeat (first | with_reducible exact hEb3 | with_reducible refine Blk.far ?_ hne _)) (by simp)
                clear hO7 hO3 hEb3 d0 d1 d2 d3 d4 d5 d6 d7 d8 d9 d10 d11 f1 f4
                go_wp2_with fail
                refine ⟨⟨j + 1, by go_num, by omega, hEb4, hO8⟩, ?_⟩
                simp [intOf]
                omega
            · have hji : ¬ (j : Int) < 5 := by omega
              go_wp2_with fail
              refine ⟨⟨i + 1, by go_num, by omega, hEb, hOb⟩, ?_⟩
              simp [intOf]
              omega
        · have hii : ¬ (i : Int) < 11 := by omega
          go_wp2_with fail
          refine ⟨⟨k + 1, by go_num, by omega, by omega, hEb, hOb⟩, ?_⟩
          simp [intOf]
          omega
    · have hki : ¬ k < 10 := hk
      have hTb : Blk (wr.alloc (.cells (smallL.map str).toArray 9)) wr.heap.size 9 (smallL.map str).toArray := Blk.new' rfl rfl
      have hOc := hOb.alloc (.cells (smallL.map str).toArray 9)
      clear hEb
      go_wp2_with fail
      generalize wr.heap.size = T at *
      go_loopw [9] (fun i wx => ∃ i' : Nat, i = .int .i64 i' ∧ i' ≤ 24 ∧ Blk wx T 9 (smallL.map str).toArray ∧ Only [] w wx) (fun i _ => 24 - (intOf i).toNat)
      case atStart => exact ⟨0, rfl, by omega, hTb, hOc⟩
      case round =>
        clear hTb hOc
        obtain ⟨i, rfl, hi, hTb, hO⟩ := hrel
        by_cases hil : i < 24
        · have hii : (i : Int) < 24 := by omega
          have ci := hTb.cell i
          rw [List.getElem?_toArray, smallL_at i hil] at ci
          have hlen := smallL_len i hil
          generalize smallL.getD i [] = s at *
          go_wp2_with fail
          go_loopw [11] (fun q wx => ∃ q' : Nat, q = .int .i64 q' ∧ q' ≤ s.length + 1 ∧ Blk wx T 9 (smallL.map str).toArray ∧ Only [] w wx) (fun q _ => s.length + 1 - (intOf q).toNat)
          case atStart => exact ⟨0, rfl, by omega, hTb, hO⟩
          case round =>
            clear hTb hO ci
            obtain ⟨q, rfl, hq, hTb, hO⟩ := hrel
            by_cases hql : q ≤ s.length
            · have hqi : (q : Int) ≤ (s.length : Int) := by omega
              have hq0 : (0 : Int) ≤ (q : Int) := by omega
              have hw1 : IntKind.i64.wrap ((q : Int) + 1) = (q : Int) + 1 := IntWalk.i64_in _ (by omega)
              have hn1 : ((q : Int) + 1).toNat = q + 1 := by omega
              obtain ⟨wq, hwq⟩ : ∃ x, x = wr := ⟨_, rfl⟩
              subst hwq
              go_upto_region 39 with fail
              go_cut [127] (fun v wx => v = .bool false ∧ Only [] wq wx)
              case first =>
                by_cases hlt : q < s.length
                · have hlti : (q : Int) < (s.length : Int) := by omega
                  have hlti1 : (q : Int) + 1 ≤ (s.length : Int) := by omega
                  have hq1 : (0 : Int) ≤ (q : Int) + 1 := by omega
                  refine wp_region_D (Only [] wq) (by kernel_rfl) (by kernel_rfl) ((Only.refl _ _).drew) ?_
                  repeat (first
                    | (refine wpT_step ?_ (stD rfl (fun w' hD => ?_)) ?_
                       rotate_left
                       · go_simp
                         first
                           | (rw [if_neg (by simp; omega)]; refine ⟨?_, hD⟩; rfl)
                           | (refine ⟨?_, hD⟩; rfl)
                           | (change Calls _ _ _ _ _; refine (reads_any _ (by simp; omega) _ (HG.out _ (hO.trans hD))).mono ?_; rintro e w'' ⟨rfl, h⟩; refine ⟨?_, hD.trans h⟩; rfl)
                       simp only [Act.put, List.setIfInBounds_toArray, List.set_cons_succ, List.set_cons_zero, Nat.reduceAdd])
                    | (refine wpT_step _ (stD_skip rfl) ?_
                       simp only [Act.put, List.setIfInBounds_toArray, List.set_cons_succ, List.set_cons_zero, Nat.reduceAdd]))
                  refine wpT_nil ?_
                  intro w6 hD
                  go_wp2_with fail
                  go_meet
                  exact ⟨rfl, hD⟩
                · have hlti : ¬ (q : Int) < (s.length : Int) := by omega
                  refine wp_region_D (Only [] wq) (by kernel_rfl) (by kernel_rfl) ((Only.refl _ _).drew) ?_
                  repeat (first
                    | (refine wpT_step ?_ (stD rfl (fun w' hD => ?_)) ?_
                       rotate_left
                       · go_simp
                         first
                           | (rw [if_neg (by simp; omega)]; refine ⟨?_, hD⟩; rfl)
                           | (refine ⟨?_, hD⟩; rfl)
                           | (change Calls _ _ _ _ _; refine (reads_any _ (by simp; omega) _ (HG.out _ (hO.trans hD))).mono ?_; rintro e w'' ⟨rfl, h⟩; refine ⟨?_, hD.trans h⟩; rfl)
                       simp only [Act.put, List.setIfInBounds_toArray, List.set_cons_succ, List.set_cons_zero, Nat.reduceAdd])
                    | (refine wpT_step _ (stD_skip rfl) ?_
                       simp only [Act.put, List.setIfInBounds_toArray, List.set_cons_succ, List.set_cons_zero, Nat.reduceAdd]))
                  refine wpT_nil ?_
                  intro w6 hD
                  go_wp2_with fail
                  go_meet
                  exact ⟨rfl, hD⟩
              case rest =>
                obtain ⟨rfl, hO2⟩ := hcut
                have hTb2 := hO2.blk hTb (by simp)
                have hOw := hO.trans hO2
                clear hTb hO hO2
                go_wp2_with fail
                go_loopw [12] (fun m wx => ∃ m' : Nat, m = .int .i64 m' ∧ m' ≤ 10 ∧ Blk wx T 9 (smallL.map str).toArray ∧ Only [] w wx) (fun m _ => 10 - (intOf m).toNat)
                case atStart => exact ⟨0, rfl, by omega, hTb2, hOw⟩
                case round =>
                  clear hTb2 hOw
                  obtain ⟨m, rfl, hm, hTb, hO⟩ := hrel
                  by_cases hml : m < 10
                  · have hmi : (m : Int) < 10 := by omega
                    have hm0 : (0 : Int) ≤ (m : Int) := by omega
                    have hm1 : (m : Int) + 1 ≤ 10 := by omega
                    have hm2 : (m : Int) ≤ (m : Int) + 1 := by omega
                    have hwm : IntKind.i64.wrap ((m : Int) + 1) = (m : Int) + 1 := IntWalk.i64_in _ (by omega)
                    have hnm : ((m : Int) + 1).toNat = m + 1 := by omega
                    have hcm := some_at m hml
                    generalize smallS.getD m 0 = cm at *
                    go_wp2_with fail
                    refine wp_region_D (Only [] wr) (by kernel_rfl) (by kernel_rfl) ((Only.refl _ _).drew) ?_
                    repeat (first
                      | (refine wpT_step ?_ (stD rfl (fun w' hD => ?_)) ?_
                         rotate_left
                         · go_simp
                           first
                             | (rw [if_neg (by simp; omega)]; refine ⟨?_, hD⟩; rfl)
                             | (refine ⟨?_, hD⟩; rfl)
                             | (change Calls _ _ _ _ _; refine (reads_any _ (by simp; omega) _ (HG.out _ (hO.trans hD))).mono ?_; rintro e w'' ⟨rfl, h⟩; refine ⟨?_, hD.trans h⟩; rfl)
                         simp only [Act.put, List.setIfInBounds_toArray, List.set_cons_succ, List.set_cons_zero, Nat.reduceAdd])
                      | (refine wpT_step _ (stD_skip rfl) ?_
                         simp only [Act.put, List.setIfInBounds_toArray, List.set_cons_succ, List.set_cons_zero, Nat.reduceAdd]))
                    refine wpT_nil ?_
                    intro w6 hD
                    go_wp2_with fail
                    refine ⟨⟨m + 1, by go_num, by omega, hD.blk hTb (by simp), hO.trans hD⟩, ?_⟩
                    simp [intOf]
                    omega
                  · have hmi : ¬ (m : Int) < 10 := by omega
                    go_wp2_with fail
                    refine ⟨⟨q + 1, by go_num, by omega, hTb, hO⟩, ?_⟩
                    simp [intOf]
                    omega
            · have hqi : ¬ (q : Int) ≤ (s.length : Int) := by omega
              go_wp2_with fail
              refine ⟨⟨i + 1, by go_num, by omega, hTb, hO⟩, ?_⟩
              simp [intOf]
              omega
        · have hii : ¬ (i : Int) < 24 := by omega
          clear hTb
          go_wp2_with fail
          refine (HA.out _ (HG.out _ hO)).mono ?_
          rintro e w9 ⟨rfl, hO9⟩
          go_wp2_with fail
          go_ret
          exact ⟨rfl, hO.trans hO9⟩
end Go.Proofs.YtghoggjllcbalaaDoor
