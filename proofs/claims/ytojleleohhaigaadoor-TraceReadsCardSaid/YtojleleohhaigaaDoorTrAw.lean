/- The chapter's example of the statements about traces, walked. Conditions: the listed variables are laid. -/
import Derived.Test.YtojleleohhaigaaDoorTrZ
import Derived.Test.YtojleleohhaigaaDoorStageE
namespace Go.Proofs.YtojleleohhaigaaDoor
open Go Go.RowKit

def exL : List Ev := [⟨3, 1, 255, 0, 0⟩, ⟨3, 2, 0, 0, 2⟩, ⟨7, 1, 0, 10, 0⟩]
def exM : List Ev := [⟨3, 1, 255, 0, 0⟩, ⟨7, 1, 0, 10, 0⟩]
def exT : List UInt8 := [51, 32, 114, 101, 112, 108, 121, 32, 102, 102, 32, 48, 10, 51, 32, 99, 97, 108, 108, 32, 50, 10, 55, 32, 114, 101, 112, 108, 121, 32, 48, 32, 49, 48, 10]
theorem n10_one {n : Nat} (h : n < 10) : numL 10 n = [hx n] := numL_lt h
theorem ex_ok : okT exL = true := by decide
theorem ex_fits : ∀ x ∈ exL, x.Fits := by
  intro x hx
  simp only [exL, List.mem_cons, List.not_mem_nil, or_false] at hx
  rcases hx with rfl | rfl | rfl <;> exact ⟨by decide, by decide⟩
theorem ex_text : showT exL = exT := by
  have a3 : numL 10 3 = [51] := (numL_lt (by omega)).trans (by decide)
  have a7 : numL 10 7 = [55] := (numL_lt (by omega)).trans (by decide)
  have a2 : numL 10 2 = [50] := (numL_lt (by omega)).trans (by decide)
  have a0 : numL 10 0 = [48] := (numL_lt (by omega)).trans (by decide)
  have a10 : numL 10 10 = [49, 48] := by rw [numL_ge (by omega) (by omega), show 10 / 10 = 1 from rfl, numL_lt (by omega)]; decide
  have b0 : numL 16 0 = [48] := (numL_lt (by omega)).trans (by decide)
  have b255 : numL 16 255 = [102, 102] := by rw [numL_ge (by omega) (by omega), show 255 / 16 = 15 from rfl, numL_lt (by omega)]; decide
  show Lib.join [numL 10 3, [114, 101, 112, 108, 121], numL 16 255, numL 10 0] [32] ++ [10] ++ (Lib.join [numL 10 3, [99, 97, 108, 108], numL 10 2] [32] ++ [10] ++ (Lib.join [numL 10 7, [114, 101, 112, 108, 121], numL 16 0, numL 10 10] [32] ++ [10] ++ [])) = exT
  rw [a3, a7, a2, a0, a10, b0, b255]
  decide
theorem ex_shown : shown exL = exT ∧ showE exL = 0 := ⟨by unfold shown; rw [if_pos ex_ok, ex_text], by unfold showE; rw [if_pos ex_ok]⟩
theorem ex_read : readL exT = exL ∧ readE exT = 0 := by rw [← ex_text]; exact read_back ex_fits ex_ok
theorem ex_right : rightL exL = true := by decide
theorem ex_differ : differ exL exM = (3, true) := by decide
theorem ex_replies : kept isReply exL = exM := by decide
theorem ex_until : kept (ahead 4) exL = [⟨3, 1, 255, 0, 0⟩, ⟨3, 2, 0, 0, 2⟩] := by decide

theorem evs_blk {w : World} {g : Nat} {l : List Ev} {cs : Array Value} (h : Blk w g 44 cs) (hc : cs.toList = flat l) (h0 : 0 < l.length) : EvS w (.slice (some ⟨g, 0, none⟩) l.length l.length) l := by
  refine .inr ⟨g, 0, l.length, rfl, h0, Nat.le_refl _, h.lt, fun j x hj => ?_⟩
  have key : ∀ (i : Nat) u, x.list[i]? = some u → w.cell? ⟨g, 0 + j * 5 + i, none⟩ = some u := by
    intro i u hu
    rw [Nat.zero_add, h.cell, ← Array.getElem?_toList, hc]
    exact flat_at l j x i u hj hu
  exact ⟨key 0 _ rfl, key 1 _ rfl, key 2 _ rfl, key 3 _ rfl, key 4 _ rfl⟩

set_option maxHeartbeats 1000000 in
theorem example_any (w : World) : Calls Tryd.prog 16 #[] w fun e w' => e = .returned (.slice (some ⟨w.heap.size, 0, none⟩) 3 3) ∧ Blk w' w.heap.size 44 (flat exL).toArray ∧ Only [] w w' := by
  go_enter Tryd.func16, Tryd.ntmps16
  go_wp2
  go_returns
  exact ⟨rfl, Blk.new' rfl rfl, (Only.refl _ _).alloc _⟩

theorem row_at {w : World} {base : Nat} {e : TypeId} {size n : Nat} {v : Value} {xs : List Value} (h : w.ownsRow base e size v n xs) (h0 : 0 < n) : ∃ g cap, v = .slice (some ⟨g, 0, none⟩) n cap ∧ g < w.heap.size ∧ ∀ (i : Nat) u, xs[i]? = some u → w.cell? ⟨g, i, none⟩ = some u := by
  obtain ⟨hl, ⟨-, h1⟩ | ⟨g, cap, cur, rfl, hb, hg, hn, hm, hs, ht⟩⟩ := h
  · omega
  · refine ⟨g, cap, rfl, Blk.lt hg, fun i u hi => ?_⟩
    have hlt : i < n * size := by
      rcases Nat.lt_or_ge i (n * size) with h | h
      · exact h
      · rw [List.getElem?_eq_none (by omega)] at hi; cases hi
    rw [Blk.cell hg, ← Array.getElem?_toList, ← List.getElem?_take_of_lt hlt, ht, hi]
/-- The stages of the comparison with two of the example's events. -/
def AwD (w3 : World) : Nat → World → Prop
  | 0, x => x = w3.drew
  | 1, x => x = (w3.alloc (.cells (flat exM).toArray 44)).drew
  | _, x => Only [] w3 x
theorem AwD.only {w3 : World} {k : Nat} {x : World} (h : AwD w3 k x) : Only [] w3 x := by
  match k, h with
  | 0, h => exact (show x = w3.drew from h) ▸ (Only.refl _ _).drew
  | 1, h => exact (show x = (w3.alloc (.cells (flat exM).toArray 44)).drew from h) ▸ ((Only.refl _ _).alloc _).drew
  | k + 2, h => exact h

set_option maxRecDepth 100000 in
set_option maxHeartbeats 8000000 in
theorem awake_any (w : World) (hg : Gl w) : Calls Tryd.prog 6 #[] w fun e w' => e = .returned (.bool true) ∧ Only [] w w' := by
  go_enter Tryd.func6, Tryd.ntmps6
  go_upto_region 2 with (go_at_call 16; refine (example_any _).mono ?_; rintro e w1 ⟨rfl, hB1, hO1⟩)
  have hE1 : EvS w1 (.slice (some ⟨w.heap.size, 0, none⟩) 3 3) exL := evs_blk hB1 rfl (by decide)
  have HSh := Lib.hid (show_any exL (by decide) ex_fits _ w1 (hg.only hO1) hE1)
  rw [ex_shown.1, ex_shown.2] at HSh
  have HRd := Lib.hid (fun W (h : Only [] w W) => read_any exT (by decide) W (hg.only h))
  rw [ex_read.1, ex_read.2] at HRd
  have hgl := hB1.lt
  generalize w.heap.size = g1 at *
  clear hB1
  go_upto_region 4 with (first
    | (go_at_call 8; refine HSh.out.mono ?_; rintro e w2 ⟨rfl, hO2⟩)
    | (go_at_call 9; refine (HRd.out _ (hO1.trans hO2)).mono ?_; rintro e w3 ⟨v4, rfl, hE4, hO3⟩))
  have hO3' : Only [] w w3 := (hO1.trans hO2).trans hO3
  have hE3 : EvS w3 (.slice (some ⟨g1, 0, none⟩) 3 3) exL := (hE1.only0 hO2).only0 hO3
  obtain ⟨pb, off, hpb, hb3, hlc3, hAt⟩ := hE3.here (by decide)
  simp only [Option.some.injEq, Addr.mk.injEq, and_true] at hpb
  obtain ⟨rfl, rfl⟩ := hpb
  have pA : EvAt w3 g1 (0 + 0 * 5) ⟨3, 1, 255, 0, 0⟩ := hAt 0 _ rfl
  have qA : EvAt w3 g1 (0 + 2 * 5) ⟨7, 1, 0, 10, 0⟩ := hAt 2 _ rfl
  have p0 : w3.cell? ⟨g1, 0, none⟩ = some (.int .i64 3) := pA.c0
  have p1 : w3.cell? ⟨g1, 1, none⟩ = some (.int .i64 1) := pA.c1
  have p2 : w3.cell? ⟨g1, 2, none⟩ = some (.int .u32 255) := pA.c2
  have p3 : w3.cell? ⟨g1, 3, none⟩ = some (.int .i64 0) := pA.c3
  have p4 : w3.cell? ⟨g1, 4, none⟩ = some (.int .i64 0) := pA.c4
  have q0 : w3.cell? ⟨g1, 10, none⟩ = some (.int .i64 7) := qA.c0
  have q1 : w3.cell? ⟨g1, 11, none⟩ = some (.int .i64 1) := qA.c1
  have q2 : w3.cell? ⟨g1, 12, none⟩ = some (.int .u32 0) := qA.c2
  have q3 : w3.cell? ⟨g1, 13, none⟩ = some (.int .i64 10) := qA.c3
  have q4 : w3.cell? ⟨g1, 14, none⟩ = some (.int .i64 0) := qA.c4
  have hE8 : EvS (w3.alloc (.cells (flat exM).toArray 44)).drew (.slice (some ⟨w3.heap.size, 0, none⟩) 2 2) exM := evs_blk (Blk.new' rfl rfl).drew rfl (by decide)
  have hO8 : Only [] w3 (w3.alloc (.cells (flat exM).toArray 44)).drew := ((Only.refl _ _).alloc _).drew
  have HDf := Lib.hid (differ_any exL exM (by decide) (by decide) _ _ _ (hE3.only0 hO8) hE8)
  rw [ex_differ] at HDf
  have HE := Lib.hid (And.intro hE1 (And.intro hE4 (And.intro hE3 hO3')))
  clear pA qA hAt hE8 hE1 hE4 hE3 HSh HRd hg hO1 hO2 hO3 hO3' hlc3
  refine wp_region_E [7, 8] (AwD w3) (by kernel_rfl) (by kernel_rfl) (by decide) (by kernel_rfl) rfl ?_
  repeat (
    refine wpT_step ?_ (stE_pure (by decide) rfl (fun k x hD => ?_)) ?_
    rotate_left
    · have hO := hD.only
      have r0 := (hO.cell (p := ⟨g1, 0, none⟩) hb3 (by simp)).trans p0
      have r1 := (hO.cell (p := ⟨g1, 1, none⟩) hb3 (by simp)).trans p1
      have r2 := (hO.cell (p := ⟨g1, 2, none⟩) hb3 (by simp)).trans p2
      have r3 := (hO.cell (p := ⟨g1, 3, none⟩) hb3 (by simp)).trans p3
      have r4 := (hO.cell (p := ⟨g1, 4, none⟩) hb3 (by simp)).trans p4
      have s0 := (hO.cell (p := ⟨g1, 10, none⟩) hb3 (by simp)).trans q0
      have s1 := (hO.cell (p := ⟨g1, 11, none⟩) hb3 (by simp)).trans q1
      have s2 := (hO.cell (p := ⟨g1, 12, none⟩) hb3 (by simp)).trans q2
      have s3 := (hO.cell (p := ⟨g1, 13, none⟩) hb3 (by simp)).trans q3
      have s4 := (hO.cell (p := ⟨g1, 14, none⟩) hb3 (by simp)).trans q4
      clear hD
      go_simp
      rfl
    simp only [Act.put, List.setIfInBounds_toArray, List.set_cons_succ, List.set_cons_zero, Nat.zero_add, Nat.reduceAdd])
  refine wpT_step (.slice (some ⟨w3.heap.size, 0, none⟩) 2 2) (stE_eff (n := 16) [] [8] rfl rfl (by kernel_rfl) (by kernel_rfl) (by decide) (by decide) rfl (fun x hD => ?_)) ?_
  · obtain rfl : x = w3.drew := hD
    go_simp
    exact ⟨by simp, rfl⟩
  simp only [Act.put, List.setIfInBounds_toArray, List.set_cons_succ, List.set_cons_zero, Nat.zero_add, Nat.reduceAdd]
  repeat (
    refine wpT_step ?_ (stE_pure (by decide) rfl (fun k x hD => ?_)) ?_
    rotate_left
    · have hO := hD.only
      have r0 := (hO.cell (p := ⟨g1, 0, none⟩) hb3 (by simp)).trans p0
      have r1 := (hO.cell (p := ⟨g1, 1, none⟩) hb3 (by simp)).trans p1
      have r2 := (hO.cell (p := ⟨g1, 2, none⟩) hb3 (by simp)).trans p2
      have r3 := (hO.cell (p := ⟨g1, 3, none⟩) hb3 (by simp)).trans p3
      have r4 := (hO.cell (p := ⟨g1, 4, none⟩) hb3 (by simp)).trans p4
      have s0 := (hO.cell (p := ⟨g1, 10, none⟩) hb3 (by simp)).trans q0
      have s1 := (hO.cell (p := ⟨g1, 11, none⟩) hb3 (by simp)).trans q1
      have s2 := (hO.cell (p := ⟨g1, 12, none⟩) hb3 (by simp)).trans q2
      have s3 := (hO.cell (p := ⟨g1, 13, none⟩) hb3 (by simp)).trans q3
      have s4 := (hO.cell (p := ⟨g1, 14, none⟩) hb3 (by simp)).trans q4
      clear hD
      go_simp
      rfl
    simp only [Act.put, List.setIfInBounds_toArray, List.set_cons_succ, List.set_cons_zero, Nat.zero_add, Nat.reduceAdd])
  refine wpT_step (.tuple #[.int .i64 3, .bool true]) (stE_eff (n := 16) [7] [] rfl rfl (by kernel_rfl) (by kernel_rfl) (by decide) (by decide) rfl (fun x hD => ?_)) ?_
  · obtain rfl : x = (w3.alloc (.cells (flat exM).toArray 44)).drew := hD
    go_simp
    change Calls _ _ _ _ _
    refine HDf.out.mono ?_
    rintro e w5 ⟨rfl, hO5⟩
    exact ⟨rfl, hO8.trans hO5⟩
  simp only [Act.put, List.setIfInBounds_toArray, List.set_cons_succ, List.set_cons_zero, Nat.zero_add, Nat.reduceAdd]
  repeat (
    refine wpT_step ?_ (stE_pure (by decide) rfl (fun k x hD => ?_)) ?_
    rotate_left
    · have hO := hD.only
      have r0 := (hO.cell (p := ⟨g1, 0, none⟩) hb3 (by simp)).trans p0
      have r1 := (hO.cell (p := ⟨g1, 1, none⟩) hb3 (by simp)).trans p1
      have r2 := (hO.cell (p := ⟨g1, 2, none⟩) hb3 (by simp)).trans p2
      have r3 := (hO.cell (p := ⟨g1, 3, none⟩) hb3 (by simp)).trans p3
      have r4 := (hO.cell (p := ⟨g1, 4, none⟩) hb3 (by simp)).trans p4
      have s0 := (hO.cell (p := ⟨g1, 10, none⟩) hb3 (by simp)).trans q0
      have s1 := (hO.cell (p := ⟨g1, 11, none⟩) hb3 (by simp)).trans q1
      have s2 := (hO.cell (p := ⟨g1, 12, none⟩) hb3 (by simp)).trans q2
      have s3 := (hO.cell (p := ⟨g1, 13, none⟩) hb3 (by simp)).trans q3
      have s4 := (hO.cell (p := ⟨g1, 14, none⟩) hb3 (by simp)).trans q4
      clear hD
      go_simp
      rfl
    simp only [Act.put, List.setIfInBounds_toArray, List.set_cons_succ, List.set_cons_zero, Nat.zero_add, Nat.reduceAdd])
  refine wpT_nil ?_
  intro w6 hD
  have hO6 : Only [] w3 w6 := hD
  clear p0 p1 p2 p3 p4 q0 q1 q2 q3 q4 hO8 HDf hD
  have HRp := Lib.hid (fun W (h : Only [] w3 W) => replies_any exL (by decide) _ W (HE.out.2.2.1.only0 h))
  rw [ex_replies] at HRp
  have HUt := Lib.hid (fun W (h : Only [] w3 W) => until_any 4 exL (by decide) _ W (HE.out.2.2.1.only0 h))
  have HKu : Hid ((kept (ahead 4) exL).length = 2) := by rw [ex_until]; exact rfl
  have HSm := Lib.hid (fun W (h : Only [] w3 W) => same_events exL exL (by decide) (by decide) v4 _ W (HE.out.2.1.only0 h) (HE.out.2.2.1.only0 h))
  rw [decide_eq_true (show exL = exL from rfl)] at HSm
  have HRt := Lib.hid (fun W (h : Only [] w3 W) => right_any exL (by decide) _ W (HE.out.2.2.1.only0 h))
  rw [ex_right] at HRt
  go_wp2_with (first
    | (go_at_call 13; refine (HRp.out _ hO6).mono ?_; rintro e w7 ⟨u8, rfl, hR7, hO7⟩; obtain ⟨gr, cr, rfl, hgr, hcr⟩ := row_at hR7 (by decide); have r7a : w7.cell? ⟨gr, 0, none⟩ = some (.int .u32 255) := hcr 0 _ rfl; have r7b : w7.cell? ⟨gr, 3, none⟩ = some (.int .i64 10) := hcr 3 _ rfl)
    | (go_at_call 15; refine (HUt.out _ (hO6.trans hO7)).mono ?_; rintro e w8 ⟨u9, rfl, hR8, hO8⟩; obtain ⟨p9, c9, rfl⟩ := (EvR.evs hR8).len; rw [HKu.out]; have r8a := (hO8.cell (p := ⟨gr, 0, none⟩) hgr (by simp)).trans r7a; have r8b := (hO8.cell (p := ⟨gr, 3, none⟩) hgr (by simp)).trans r7b; clear hcr)
    | (go_at_call 10; refine (HSm.out _ ((hO6.trans hO7).trans hO8)).mono ?_; rintro e w9 ⟨rfl, hO9⟩; have r9a := (hO9.cell (p := ⟨gr, 0, none⟩) (Nat.lt_of_lt_of_le hgr hO8.size) (by simp)).trans r8a; have r9b := (hO9.cell (p := ⟨gr, 3, none⟩) (Nat.lt_of_lt_of_le hgr hO8.size) (by simp)).trans r8b)
    | (go_at_call 11; refine (HRt.out _ (((hO6.trans hO7).trans hO8).trans hO9)).mono ?_; rintro e w10 ⟨rfl, hO10⟩))
  go_returns
  exact ⟨rfl, HE.out.2.2.2.trans ((((hO6.trans hO7).trans hO8).trans hO9).trans hO10)⟩
end Go.Proofs.YtojleleohhaigaaDoor
