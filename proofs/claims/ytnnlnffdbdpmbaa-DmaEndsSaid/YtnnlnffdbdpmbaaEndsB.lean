/- The law DmaEnds, walked: it answers true. No condition. -/
import Derived.Test.YtnnlnffdbdpmbaaEnds
namespace Go.Proofs.Ytnnlnffdbdpmbaa
open Go Go.RowKit

def endRegs : Array Value := #[.int .i64 (-9223372036854775808), .int .i64 (-1), .int .i64 0, .int .i64 1, .int .i64 2, .int .i64 3, .int .i64 4, .int .i64 5, .int .i64 8, .int .i64 9223372036854775807]
theorem endRegs_at (k : Nat) (h : k < 10) : ∃ x : Int, endRegs[k]? = some (.int .i64 x) := by
  have : k = 0 ∨ k = 1 ∨ k = 2 ∨ k = 3 ∨ k = 4 ∨ k = 5 ∨ k = 6 ∨ k = 7 ∨ k = 8 ∨ k = 9 := by omega
  rcases this with rfl | rfl | rfl | rfl | rfl | rfl | rfl | rfl | rfl | rfl <;> exact ⟨_, rfl⟩

set_option maxRecDepth 100000 in
set_option maxHeartbeats 4000000 in
theorem ends_any (w : World) :
    Calls Try.prog 5 #[] w fun e w' => e = .returned (.bool true) ∧ Only [] w w' := by
  go_enter Try.func5, Try.ntmps5
  go_wp2_with fail
  have hR : Blk (w.alloc (.cells endRegs 3)) w.heap.size 3 endRegs := Blk.new' rfl rfl
  have hO1 : Only [] w (w.alloc (.cells endRegs 3)) := (Only.refl _ _).alloc _
  unfold endRegs at hR hO1
  go_loopw [2] (fun i wr => ∃ k : Nat, k ≤ 96 ∧ i = .int .i64 k ∧ Blk wr w.heap.size 3 endRegs ∧ Only [] w wr) (fun i _ => 96 - (intOf i).toNat)
  case atStart => exact ⟨0, by omega, rfl, hR, hO1⟩
  case round =>
    clear hR hO1
    obtain ⟨n, hn, rfl, hR, hO⟩ := hrel
    by_cases hlt : n < 96
    · obtain ⟨l, hl, hl0, hl1⟩ : ∃ l : Int, (n : Int) % 3 = l ∧ 0 ≤ l ∧ l < 3 := ⟨_, rfl, by omega, by omega⟩
      have hl2 : l % 4294967296 = l := by omega
      obtain ⟨b1, hb1⟩ : ∃ b, ((n : Int) / 3 % 2 == 1) = b := ⟨_, rfl⟩
      obtain ⟨b2, hb2⟩ : ∃ b, ((n : Int) / 6 % 2 == 1) = b := ⟨_, rfl⟩
      obtain ⟨b3, hb3⟩ : ∃ b, ((n : Int) / 12 % 2 == 1) = b := ⟨_, rfl⟩
      obtain ⟨b4, hb4⟩ : ∃ b, ((n : Int) / 24 % 2 == 1) = b := ⟨_, rfl⟩
      obtain ⟨b5, hb5⟩ : ∃ b, ((n : Int) / 48 == 1) = b := ⟨_, rfl⟩
      have hlt' : (n : Int) < 96 := by omega
      have hn2 : (n : Int) % 4294967296 = (n : Int) := by omega
      go_wp2_with fail
      have hS : StB (wr.alloc (.cells #[.int .u32 4294967292, .int .u32 4294967288, .int .u32 l, .int .u32 5, .bool b1, .bool b2, .bool b3, .bool b4, .bool b5] 24)) wr.heap.size ⟨4294967292, 4294967288, l, 5, b1, b2, b3, b4, b5⟩ := Blk.new' rfl rfl
      have hfit : ES.Fits ⟨4294967292, 4294967288, l, 5, b1, b2, b3, b4, b5⟩ := ⟨by simp, by simp, ⟨hl0, by simp only; omega⟩, by simp⟩
      have hR1 := hR.alloc (.cells #[.int .u32 4294967292, .int .u32 4294967288, .int .u32 l, .int .u32 5, .bool b1, .bool b2, .bool b3, .bool b4, .bool b5] 24)
      have hO1 := hO.alloc (.cells #[.int .u32 4294967292, .int .u32 4294967288, .int .u32 l, .int .u32 5, .bool b1, .bool b2, .bool b3, .bool b4, .bool b5] 24)
      have Hfit := Lib.hid hfit
      clear hl hb1 hb2 hb3 hb4 hb5 hl2 hR hO hl0 hl1 hfit
      obtain ⟨wo, rfl⟩ : ∃ wo : World, wo = wr := ⟨_, rfl⟩
      go_loopw [4] (fun i wq => ∃ k : Nat, k ≤ 10 ∧ i = .int .i64 k ∧ Blk wq w.heap.size 3 endRegs ∧ StB wq wo.heap.size ⟨4294967292, 4294967288, l, 5, b1, b2, b3, b4, b5⟩ ∧ Only [] w wq) (fun i _ => 10 - (intOf i).toNat)
      case atStart => exact ⟨0, by omega, rfl, hR1, hS, hO1⟩
      case round =>
        clear hR1 hO1 hS
        obtain ⟨k, hk, rfl, hR, hS, hO⟩ := hrel
        by_cases hkt : k < 10
        · obtain ⟨x, hx⟩ := endRegs_at k hkt
          have cx : wr.cell? ⟨w.heap.size, k, none⟩ = some (.int .i64 x) := by rw [hR.cell]; exact hx
          have k0 : (0 : Int) ≤ (k : Int) := by omega
          have k1 : (k : Int) < 10 := by omega
          have k2 : (k : Int) % 4294967296 = (k : Int) := by omega
          clear hx
          go_wp2_with fail
          go_still_tail 37, (by kernel_rfl)
          have hlt3 := hS.lt
          obtain ⟨c0, c1, c2, c3, c4, c5, c6, c7, c8⟩ := hS.c
          simp only at c0 c1 c2 c3 c4 c5 c6 c7 c8
          go_wp2_with fail
          refine (does_list ⟨4294967292, 4294967288, l, 5, b1, b2, b3, b4, b5⟩ Hfit.out _ _ [⟨2, k, n, 0⟩, ⟨2, k, 6, k % 2 * 10⟩, ⟨1, x, n, 0⟩, ⟨0, x, 0, 0⟩, ⟨1, 3, 257, 0⟩, ⟨2, 1, 1, 0⟩, ⟨1, x, 1, 0⟩, ⟨2, 1, 2, k % 3⟩, ⟨2, -5, 3, 0⟩, ⟨1, 3, k, 0⟩, ⟨2, 1, 4, 0⟩, ⟨1, 4, 0, 0⟩] _ _ _ ((Blk.new' rfl rfl).drew) rfl (by simp; omega) 12 rfl).mono ?_
          rintro e w5 ⟨rfl, hO5⟩
          have hR5 := hO5.blk ((hR.alloc _).drew) (by simp)
          have hS5 := hO5.st (Blk.drew (hS.alloc _)) (by simp)
          have hO6 := ((hO.alloc _).drew).trans hO5
          clear c0 c1 c2 c3 c4 c5 c6 c7 c8 cx hR hS hO hO5
          go_wp2_with fail
          go_roundw
          case rel => exact ⟨k + 1, by omega, by go_num, hR5, hS5, hO6⟩
          case measure => simp [intOf]; omega
        · go_wp2_with fail
          go_roundw
          case rel => exact ⟨n + 1, by omega, by go_num, hR, hO⟩
          case measure => simp [intOf]; omega
    · clear hR
      go_wp2_with fail
      refine (does_list ES.zero ⟨by simp [ES.zero], by simp [ES.zero], by simp [ES.zero], by simp [ES.zero]⟩ _ _ [⟨1, 2, 4294967295, 0⟩, ⟨1, 3, 4294967295, 0⟩, ⟨2, 7, 1, -1⟩, ⟨0, 3, 0, 0⟩] _ _ _ (Blk.new' rfl rfl) rfl (by simp) 4 rfl).mono ?_
      rintro e w2 ⟨rfl, hO2⟩
      have hOa := (hO.alloc _).trans hO2
      clear hO hO2
      go_wp2_with fail
      refine (of_any ⟨0, 0, 1, 0, false, true, false, false, false⟩ _).mono ?_
      rintro e w3 ⟨b, rfl, hb0, hE3, hO3⟩
      have hE3' : EngB w3 b ⟨0, 0, 1, 0, false, true, false, false, false⟩ := hE3
      have hOb := hOa.trans hO3
      clear hE3 hO3 hOa
      go_wp2_with fail
      refine (step_nil b _ 1 _ hE3').mono ?_
      rintro e w4 ⟨rfl, hO4⟩
      have hE4 := hO4.eng hE3' (by simp)
      have hOc := hOb.trans hO4
      clear hE3' hO4 hOb
      go_wp2_with fail
      refine (state_any b _ _ hE4).mono ?_
      rintro e w5 ⟨rfl, hO5⟩
      have hOd := hOc.trans hO5
      clear hE4 hO5 hOc
      have hfl : ∀ w, (Instr.field 24 (ES.agg ⟨0, 0, 1, 0, false, true, false, false, false⟩) 5).run Try.prog w = .ok (.bool true) w := fun _ => by kernel_rfl
      go_wp2_with fail
      refine (new_any _).mono ?_
      rintro e w6 ⟨c, rfl, hc0, hE6, hO6⟩
      have hOe := hOd.trans hO6
      clear hO6 hOd
      go_wp2_with fail
      refine (state_any c _ _ hE6).mono ?_
      rintro e w7 ⟨rfl, hO7⟩
      have hOf := hOe.trans hO7
      clear hE6 hO7 hOe
      have hnz : ∀ w, (binOp .neq 24 ES.zero.agg (.agg #[.int .u32 0, .int .u32 0, .int .u32 0, .int .u32 0, .bool false, .bool false, .bool false, .bool false, .bool false])).run Try.prog w = .ok (.bool false) w := fun _ => by kernel_rfl
      go_wp2_with fail
      have hG : Blk ((w7.alloc (.cells #[.int .u32 0, .int .u32 0, .int .u32 0, .int .u32 0, .bool false, .bool false, .bool false, .bool false, .bool false, .bool false] 53)).alloc (.cells #[.pointer none, .pointer (some ⟨w7.heap.size, 0, none⟩)] 26)) (w7.heap.size + 1) 26 #[.pointer none, .pointer (some ⟨w7.heap.size, 0, none⟩)] := Blk.new' rfl (by simp)
      have hN : Blk ((w7.alloc (.cells #[.int .u32 0, .int .u32 0, .int .u32 0, .int .u32 0, .bool false, .bool false, .bool false, .bool false, .bool false, .bool false] 53)).alloc (.cells #[.pointer none, .pointer (some ⟨w7.heap.size, 0, none⟩)] 26)) w7.heap.size 53 #[.int .u32 0, .int .u32 0, .int .u32 0, .int .u32 0, .bool false, .bool false, .bool false, .bool false, .bool false, .bool false] := (Blk.new' rfl rfl : Blk _ _ _ _).alloc _
      have hOg := (hOf.alloc (.cells #[.int .u32 0, .int .u32 0, .int .u32 0, .int .u32 0, .bool false, .bool false, .bool false, .bool false, .bool false, .bool false] 53)).alloc (.cells #[.pointer none, .pointer (some ⟨w7.heap.size, 0, none⟩)] 26)
      clear hOf hfl
      obtain ⟨wo, rfl⟩ : ∃ wo : World, wo = wr := ⟨_, rfl⟩
      go_loopw [8] (fun i wq => ∃ k : Nat, k ≤ 2 ∧ i = .int .i64 k ∧ Blk wq (w7.heap.size + 1) 26 #[.pointer none, .pointer (some ⟨w7.heap.size, 0, none⟩)] ∧ Blk wq w7.heap.size 53 #[.int .u32 0, .int .u32 0, .int .u32 0, .int .u32 0, .bool false, .bool false, .bool false, .bool false, .bool false, .bool false] ∧ Only [] w wq) (fun i _ => 2 - (intOf i).toNat)
      case atStart => exact ⟨0, by omega, rfl, hG, hN, hOg⟩
      case round =>
        clear hG hN hOg
        obtain ⟨k, hk, rfl, hG, hN, hO⟩ := hrel
        by_cases hkt : k < 2
        · obtain ⟨p, hp, cx⟩ : ∃ p, NoEng wr p ∧ wr.cell? ⟨w7.heap.size + 1, k, none⟩ = some (.pointer p) := by
            have : k = 0 ∨ k = 1 := by omega
            rcases this with rfl | rfl
            · exact ⟨none, .inl rfl, hG.cell 0⟩
            · exact ⟨_, .inr ⟨_, rfl, hN⟩, hG.cell 1⟩
          have k0 : (0 : Int) ≤ (k : Int) := by omega
          have k1 : (k : Int) < 2 := by omega
          go_wp2_with fail
          refine (noeng_write p 2 1 _ hp).mono ?_
          rintro e v1 ⟨rfl, hP1⟩
          have hp1 := hp.only hP1
          clear cx
          go_wp2_with fail
          refine (noeng_write p 3 257 _ hp1).mono ?_
          rintro e v2 ⟨rfl, hP2⟩
          have hp2 := hp1.only hP2
          go_wp2_with fail
          refine (noeng_read2 p _ hp2).mono ?_
          rintro e v3 ⟨rfl, hP3⟩
          have hp3 := hp2.only hP3
          go_wp2_with fail
          refine (noeng_read3 p _ hp3).mono ?_
          rintro e v4 ⟨rfl, hP4⟩
          have hp4 := hp3.only hP4
          go_wp2_with fail
          refine (noeng_line p _ hp4).mono ?_
          rintro e v5 ⟨rfl, hP5⟩
          have hp5 := hp4.only hP5
          go_wp2_with fail
          refine (noeng_state p _ hp5).mono ?_
          rintro e v6 ⟨rfl, hP6⟩
          have hp6 := hp5.only hP6
          go_wp2_with fail
          refine (noeng_step p 0 _ _ hp6).mono ?_
          rintro e v7 ⟨rfl, hP7⟩
          have hP := (((((hP1.trans hP2).trans hP3).trans hP4).trans hP5).trans hP6).trans hP7
          go_wp2_with fail
          go_roundw
          case rel => exact ⟨k + 1, by omega, by go_num, hP.blk hG (by simp), hP.blk hN (by simp), hO.trans hP⟩
          case measure => simp [intOf]; omega
        · go_wp2_with fail
          refine (awake_any _).mono ?_
          rintro e v1 ⟨rfl, hP1⟩
          go_wp2_with fail
          go_ret
          exact ⟨rfl, hO.trans hP1⟩
end Go.Proofs.Ytnnlnffdbdpmbaa
