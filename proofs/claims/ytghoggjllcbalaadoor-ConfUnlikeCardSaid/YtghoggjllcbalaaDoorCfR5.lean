/- Read of package conf: what its walk leans on. No condition. -/
import Derived.Test.YtghoggjllcbalaaDoorCfR4
import Derived.Test.YtghoggjllcbalaaDoorCfD
namespace Go.Proofs.YtghoggjllcbalaaDoor
open Go Go.RowKit

theorem index_any (w : World) (b : Nat) (l : List UInt8) (hb : Blk w b 9 kindsV) :
    Calls Tryd.prog 23 #[.slice (some ⟨b, 0, none⟩) 8 8, str l] w fun e w' => e = .returned (.int .i64 (kindOf l)) ∧ w = w' := by
  refine (Tryd.slices_Index_string b 0 8 8 kindsB ⟨l.toArray⟩ w (by decide) (by decide) (fun j hj => ?_)).mono ?_
  · have hj' : j < 8 := hj
    rw [Nat.zero_add, hb.cell j]
    have : j = 0 ∨ j = 1 ∨ j = 2 ∨ j = 3 ∨ j = 4 ∨ j = 5 ∨ j = 6 ∨ j = 7 := by omega
    rcases this with rfl | rfl | rfl | rfl | rfl | rfl | rfl | rfl <;> rfl
  · rintro e w' ⟨rfl, rfl⟩
    exact ⟨rfl, rfl⟩

/-- What the first two statements leave. -/
def Begun (w0 : World) (rb sb : Nat) (p : Rds) (k : Int) (v : Value) (wx : World) : Prop :=
  ∃ b, v = .pointer (some ⟨b, 0, none⟩) ∧ w0.heap.size ≤ b ∧ CfB wx b ⟨k, 0, 0, 0, false, 0, 0, 0, false, false, 0, false⟩ ∧ RdP wx rb sb p ∧ Only [rb] w0 wx

theorem Cf.fits0 {c : Cf} (h1 : c.fr = 0) (h2 : c.tt = 0) : c.Fits := ⟨⟨by omega, by omega⟩, ⟨by omega, by omega⟩⟩
theorem sets8 (w : World) (b : Nat) (v0 v1 v2 v3 v4 v5 v6 v7 : Value) : Only [b] w ((((((((w.setCell ⟨b, 4, none⟩ v0).setCell ⟨b, 5, none⟩ v1).setCell ⟨b, 6, none⟩ v2).setCell ⟨b, 7, none⟩ v3).setCell ⟨b, 8, none⟩ v4).setCell ⟨b, 9, none⟩ v5).setCell ⟨b, 10, none⟩ v6).setCell ⟨b, 11, none⟩ v7) := (Only.set1 (Only.set1 (Only.set1 (Only.set1 (Only.set1 (Only.set1 (Only.set1 (Only.set1 (Only.refl [b] w) (b := b) (by simp) 4 v0) (b := b) (by simp) 5 v1) (b := b) (by simp) 6 v2) (b := b) (by simp) 7 v3) (b := b) (by simp) 8 v4) (b := b) (by simp) 9 v5) (b := b) (by simp) 10 v6) (b := b) (by simp) 11 v7)
theorem cf_region {w : World} {b : Nat} {k ix : Int} (a1 a2 a3 : Nat) (a4 a5 : Bool) (a6 : Nat) (a7 : Bool) (h : CfB w b ⟨k, ix, 0, 0, false, 0, 0, 0, false, false, 0, false⟩) :
    CfB ((((((((w.setCell ⟨b, 4, none⟩ (.bool true)).setCell ⟨b, 5, none⟩ (.int .i64 a1)).setCell ⟨b, 6, none⟩ (.int .u32 a2)).setCell ⟨b, 7, none⟩ (.int .u32 a3)).setCell ⟨b, 8, none⟩ (.bool a4)).setCell ⟨b, 9, none⟩ (.bool a5)).setCell ⟨b, 10, none⟩ (.int .i64 a6)).setCell ⟨b, 11, none⟩ (.bool a7)) b ⟨k, ix, 0, 0, true, a1, a2, a3, a4, a5, a6, a7⟩ := by
  have hB := (Blk.set_ (Blk.set_ (Blk.set_ (Blk.set_ (Blk.set_ (Blk.set_ (Blk.set_ (Blk.set_ h 4 (.bool true)) 5 (.int .i64 a1)) 6 (.int .u32 a2)) 7 (.int .u32 a3)) 8 (.bool a4)) 9 (.bool a5)) 10 (.int .i64 a6)) 11 (.bool a7))
  simp only [List.setIfInBounds_toArray, List.set_cons_succ, List.set_cons_zero] at hB
  exact hB
theorem cf_ix {w : World} {b : Nat} {k : Int} (a : Int) (h : CfB w b ⟨k, 0, 0, 0, false, 0, 0, 0, false, false, 0, false⟩) : CfB (w.setCell ⟨b, 1, none⟩ (.int .i64 a)) b ⟨k, a, 0, 0, false, 0, 0, 0, false, false, 0, false⟩ := by
  have hB := Blk.set_ h 1 (.int .i64 a)
  simp only [List.setIfInBounds_toArray, List.set_cons_succ, List.set_cons_zero] at hB
  exact hB
theorem cf_wo {w : World} {b : Nat} {k ix : Int} (a : Int) (h : CfB w b ⟨k, ix, 0, 0, false, 0, 0, 0, false, false, 0, false⟩) : CfB (w.setCell ⟨b, 2, none⟩ (.int .i64 a)) b ⟨k, ix, a, 0, false, 0, 0, 0, false, false, 0, false⟩ := by
  have hB := Blk.set_ h 2 (.int .i64 a)
  simp only [List.setIfInBounds_toArray, List.set_cons_succ, List.set_cons_zero] at hB
  exact hB
theorem cf_ln {w : World} {b : Nat} {k ix : Int} (a : Int) (h : CfB w b ⟨k, ix, 0, 0, false, 0, 0, 0, false, false, 0, false⟩) : CfB (w.setCell ⟨b, 3, none⟩ (.int .i64 a)) b ⟨k, ix, 0, a, false, 0, 0, 0, false, false, 0, false⟩ := by
  have hB := Blk.set_ h 3 (.int .i64 a)
  simp only [List.setIfInBounds_toArray, List.set_cons_succ, List.set_cons_zero] at hB
  exact hB

theorem begun_set (W2 w3 : World) (rb sb b : Nat) (p : Rds) (k : Int) (h : CfB w3 b ⟨0, 0, 0, 0, false, 0, 0, 0, false, false, 0, false⟩) (hR : RdP w3 rb sb p) (hO : Only [rb] W2 w3) (hb : W2.heap.size ≤ b) (h1 : rb < W2.heap.size) (h2 : sb < W2.heap.size) :
    Begun W2 rb sb p k (.pointer (some ⟨b, 0, none⟩)) ((((((((((((w3.setCell ⟨b, 0, none⟩ (.int .i64 k)).setCell ⟨b, 1, none⟩ (.int .i64 0)).setCell ⟨b, 2, none⟩ (.int .i64 0)).setCell ⟨b, 3, none⟩ (.int .i64 0)).setCell ⟨b, 4, none⟩ (.bool false)).setCell ⟨b, 5, none⟩ (.int .i64 0)).setCell ⟨b, 6, none⟩ (.int .u32 0)).setCell ⟨b, 7, none⟩ (.int .u32 0)).setCell ⟨b, 8, none⟩ (.bool false)).setCell ⟨b, 9, none⟩ (.bool false)).setCell ⟨b, 10, none⟩ (.int .i64 0)).setCell ⟨b, 11, none⟩ (.bool false)) := by
  have hOs := (Only.set1 (Only.set1 (Only.set1 (Only.set1 (Only.set1 (Only.set1 (Only.set1 (Only.set1 (Only.set1 (Only.set1 (Only.set1 (Only.set1 (Only.refl [b] w3) (b := b) (by simp) 0 (.int .i64 k)) (b := b) (by simp) 1 (.int .i64 0)) (b := b) (by simp) 2 (.int .i64 0)) (b := b) (by simp) 3 (.int .i64 0)) (b := b) (by simp) 4 (.bool false)) (b := b) (by simp) 5 (.int .i64 0)) (b := b) (by simp) 6 (.int .u32 0)) (b := b) (by simp) 7 (.int .u32 0)) (b := b) (by simp) 8 (.bool false)) (b := b) (by simp) 9 (.bool false)) (b := b) (by simp) 10 (.int .i64 0)) (b := b) (by simp) 11 (.bool false))
  have hB := (Blk.set_ (Blk.set_ (Blk.set_ (Blk.set_ (Blk.set_ (Blk.set_ (Blk.set_ (Blk.set_ (Blk.set_ (Blk.set_ (Blk.set_ (Blk.set_ h 0 (.int .i64 k)) 1 (.int .i64 0)) 2 (.int .i64 0)) 3 (.int .i64 0)) 4 (.bool false)) 5 (.int .i64 0)) 6 (.int .u32 0)) 7 (.int .u32 0)) 8 (.bool false)) 9 (.bool false)) 10 (.int .i64 0)) 11 (.bool false))
  simp only [List.setIfInBounds_toArray, List.set_cons_succ, List.set_cons_zero] at hB
  exact ⟨b, rfl, hb, hB, hR.only hOs (by simp; omega) (by simp; omega), hO.trans' hOs (by simp; omega)⟩
theorem begun_new (W2 w3 : World) (rb sb : Nat) (p : Rds) (k : Int) (hR : RdP w3 rb sb p) (hO : Only [rb] W2 w3) :
    Begun W2 rb sb p k (.pointer (some ⟨w3.heap.size, 0, none⟩)) (w3.alloc (.cells #[.int .i64 k, .int .i64 0, .int .i64 0, .int .i64 0, .bool false, .int .i64 0, .int .u32 0, .int .u32 0, .bool false, .bool false, .int .i64 0, .bool false] 29)) :=
  ⟨_, rfl, hO.size, Blk.new' rfl rfl, hR.only ((Only.refl [] w3).alloc _) (by simp) (by simp), hO.alloc _⟩

end Go.Proofs.YtghoggjllcbalaaDoor
