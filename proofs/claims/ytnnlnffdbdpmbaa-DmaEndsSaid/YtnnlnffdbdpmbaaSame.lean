/- The comparer of layer 14 (same), walked: an engine and the document's of one state are told the same. Conditions: both blocks as Of makes them, of one state. -/
import Derived.Test.YtnnlnffdbdpmbaaRefA
import Derived.Test.YtnnlnffdbdpmbaaStageD
import Derived.LoopTactic
namespace Go.Proofs.Ytnnlnffdbdpmbaa
open Go Go.RowKit

set_option maxHeartbeats 1000000 in
theorem agg_eq (s : ES) (w : World) : (binOp .eql 24 s.agg s.agg).run Try.prog w = .ok (.bool true) w := by
  obtain ⟨f, t, l, h, has, busy, den, done, calls⟩ := s
  simp [go_sem]

set_option maxHeartbeats 1000000 in
theorem same_any (b r : Nat) (s : ES) (w : World) (hE : EngB w b s) (hR : RefB w r s) :
    Calls Try.prog 15 #[.pointer (some ⟨b, 0, none⟩), .pointer (some ⟨r, 0, none⟩)] w fun e w' => e = .returned (.bool true) ∧ Only [] w w' := by
  go_enter Try.func15, Try.ntmps15
  go_wp2_with fail
  go_loopw [5] (fun i wr => ∃ k : Int, -1 ≤ k ∧ k ≤ 8 ∧ i = .int .i64 k ∧ Only [] w wr) (fun i _ => (8 - intOf i).toNat)
  case atStart => exact ⟨-1, by omega, by omega, rfl, Only.refl _ _⟩
  case round =>
    obtain ⟨k, hk0, hk1, rfl, hO⟩ := hrel
    by_cases hk : k < 8
    · go_wp2_with fail
      refine (read_any b s k _ (hO.blk hE (by simp))).mono ?_
      rintro e w1 ⟨rfl, hO1⟩
      go_wp2_with fail
      refine (rread_any r s k _ ((hO.trans hO1).blk hR (by simp))).mono ?_
      rintro e w2 ⟨rfl, hO2⟩
      have hneq : (s.read k != s.read k) = false := by simp
      go_wp2_with fail
      go_roundw
      case rel => exact ⟨k + 1, by omega, by omega, by go_num, (hO.trans hO1).trans hO2⟩
      case measure => simp [intOf]; omega
    · obtain rfl : k = 8 := by omega
      go_wp2_with fail
      refine wp_region_D (Only [] wr) (by kernel_rfl) (by kernel_rfl) ((Only.refl _ _).drew) ?_
      have hE' := hO.blk hE (by simp)
      have hR' := hO.blk hR (by simp)
      have hnr := fun w => agg_eq s w
      repeat (first
        | (refine wpT_step ?_ (stD rfl (fun w' hD => ?_)) ?_
           rotate_left
           · obtain ⟨c0, c1, c2, c3, c4, c5, c6, c7, c8, -⟩ := (hD.ref hR' (by simp)).c
             go_simp
             first
               | (refine ⟨?_, hD⟩; rfl)
               | (refine (state_any b s w' (hD.blk hE' (by simp))).mono ?_; rintro e w'' ⟨rfl, h⟩; refine ⟨?_, hD.trans h⟩; rfl)
               | (refine (line_any b s w' (hD.blk hE' (by simp))).mono ?_; rintro e w'' ⟨rfl, h⟩; refine ⟨?_, hD.trans h⟩; rfl)
               | (refine (rline_any r s w' (hD.blk hR' (by simp))).mono ?_; rintro e w'' ⟨rfl, h⟩; refine ⟨?_, hD.trans h⟩; rfl)
           simp only [Act.put, List.setIfInBounds_toArray, List.set_cons_succ, List.set_cons_zero, Nat.zero_add, Nat.reduceAdd])
        | (refine wpT_step _ (stD_skip rfl) ?_
           simp only [Act.put, List.setIfInBounds_toArray, List.set_cons_succ, List.set_cons_zero, Nat.zero_add, Nat.reduceAdd]))
      trace_state
      refine wpT_nil ?_
      intro w5 hD
      go_wp2
      go_returns
      exact ⟨by simp, hO.trans hD⟩
end Go.Proofs.Ytnnlnffdbdpmbaa
