/- awake of septumlaw21, walked. Condition: the listed variables are laid. -/
import Derived.Test.YtghoggjllcbalaaDoorCfGi
import Derived.Test.YtghoggjllcbalaaDoorCfR6
import Derived.Deep.RegionWith
import Derived.Deep.DeepCutAuto
import Derived.Outline
import Derived.LoopTactic
namespace Go.Proofs.YtghoggjllcbalaaDoor
open Go Go.RowKit
attribute [local go_sem ↓] str_eql str_neq cf_neq24 cf_eql24

theorem read_text (s : List UInt8) (hs : s.length < 1000000) (w : World) (hg : Gl w) :
    Calls Tryd.prog 11 #[str s] w fun e w' => e = .returned (.tuple #[(readC s (parse s)).agg, .int .i64 (readE s (parse s))]) ∧ Only [] w w' :=
  read_any s (by omega) (words_short hs) w hg

theorem show_ex (w : World) (hg : Gl w) : Calls Tryd.prog 9 #[exC.agg] w fun e w' => e = .returned (.tuple #[str exT, .int .i64 0]) ∧ Only [] w w' := by
  have h := show_ok exC exC_fits exC_right w hg
  rw [exC_text] at h
  exact h
theorem show_ex2 (w : World) (hg : Gl w) : Calls Tryd.prog 9 #[exR.agg] w fun e w' => e = .returned (.tuple #[str exS, .int .i64 0]) ∧ Only [] w w' := by
  have h := show_ok exR exR_fits exR_right w hg
  rw [exR_text] at h
  exact h
theorem read_ex (w : World) (hg : Gl w) : Calls Tryd.prog 11 #[str exT] w fun e w' => e = .returned (.tuple #[exC.agg, .int .i64 0]) ∧ Only [] w w' := by
  have h := read_text exT (by decide) w hg
  rw [(read_yes ex_says).1, (read_yes ex_says).2] at h
  exact h
theorem read_bad (k : Nat) (hk : k < 5) (w : World) (hg : Gl w) : Calls Tryd.prog 11 #[str (exB.getD k [])] w fun e w' => e = .returned (.tuple #[(readC (exB.getD k []) (parse (exB.getD k []))).agg, .int .i64 8]) ∧ Only [] w w' := by
  have h := read_text (exB.getD k []) (by have := bad_short k hk; omega) w hg
  rw [bad_all k hk] at h
  exact h

set_option maxRecDepth 100000 in
set_option maxHeartbeats 4000000 in
theorem awake_any (w : World) (hg : Gl w) :
    Calls Tryd.prog 8 #[] w fun e w' => e = .returned (.bool true) ∧ Only [] w w' := by
  go_enter Tryd.func8, Tryd.ntmps8
  go_wp2_with fail
  have hE0 : CfB (w.alloc (.cells #[.int .i64 1, .int .i64 3, .int .i64 0, .int .i64 0, .bool true, .int .i64 1, .int .u32 256, .int .u32 511, .bool true, .bool true, .int .i64 5, .bool true] 29)) w.heap.size exC := Blk.new' rfl rfl
  have hO0 := (Only.refl [] w).alloc (.cells #[.int .i64 1, .int .i64 3, .int .i64 0, .int .i64 0, .bool true, .int .i64 1, .int .u32 256, .int .u32 511, .bool true, .bool true, .int .i64 5, .bool true] 29)
  refine (show_ex _ (hg.only hO0)).mono ?_
  rintro e w1 ⟨rfl, hO1⟩
  have hE1 := hO1.cf hE0 (by simp)
  have hOa := hO0.trans hO1
  clear hE0 hO0 hO1
  go_wp2_with fail
  refine (read_ex _ (hg.only hOa)).mono ?_
  rintro e w2 ⟨rfl, hO2⟩
  have hE2 := hO2.cf hE1 (by simp)
  have hOb := hOa.trans hO2
  clear hE1 hOa hO2
  have hxa : exC.agg = .agg #[.int .i64 1, .int .i64 3, .int .i64 0, .int .i64 0, .bool true, .int .i64 1, .int .u32 256, .int .u32 511, .bool true, .bool true, .int .i64 5, .bool true] := rfl
  rw [hxa]
  go_wp2_with fail
  have hD2 : CfB (w2.alloc (.cells #[.int .i64 1, .int .i64 3, .int .i64 0, .int .i64 0, .bool true, .int .i64 1, .int .u32 256, .int .u32 511, .bool true, .bool true, .int .i64 5, .bool true] 29)) w2.heap.size exC := Blk.new' rfl rfl
  have hE3 := hE2.alloc (.cells #[.int .i64 1, .int .i64 3, .int .i64 0, .int .i64 0, .bool true, .int .i64 1, .int .u32 256, .int .u32 511, .bool true, .bool true, .int .i64 5, .bool true] 29)
  have hOc := hOb.alloc (.cells #[.int .i64 1, .int .i64 3, .int .i64 0, .int .i64 0, .bool true, .int .i64 1, .int .u32 256, .int .u32 511, .bool true, .bool true, .int .i64 5, .bool true] 29)
  refine (show_ex2 _ (hg.only hOc)).mono ?_
  rintro e w3 ⟨rfl, hO3⟩
  have hE4 := hO3.cf hE3 (by simp)
  have hD3 := hO3.cf hD2 (by simp)
  have hOd := hOc.trans hO3
  clear hE2 hE3 hD2 hOb hOc hO3
  generalize w2.heap.size = D at *
  go_wp2_with fail
  have hL : Blk (w3.alloc (.cells (exB.map str).toArray 9)) w3.heap.size 9 (exB.map str).toArray := Blk.new' rfl rfl
  have hE5 := hE4.alloc (.cells (exB.map str).toArray 9)
  have hD5 := hD3.alloc (.cells (exB.map str).toArray 9)
  have hOe := hOd.alloc (.cells (exB.map str).toArray 9)
  clear hE4 hD3 hOd
  generalize w3.heap.size = L at *
  go_loopw [9] (fun i wr => ∃ k : Nat, k ≤ 5 ∧ i = .int .i64 k ∧ Blk wr L 9 (exB.map str).toArray ∧ CfB wr w.heap.size exC ∧ CfB wr D exC ∧ Only [] w wr) (fun i _ => 5 - (intOf i).toNat)
  case atStart => exact ⟨0, by omega, rfl, hL, hE5, hD5, hOe⟩
  case round =>
    clear hL hE5 hD5 hOe
    obtain ⟨n, hn, rfl, hL, hE, hD, hO⟩ := hrel
    by_cases hlt : n < 5
    · have hlt' : (n : Int) < 5 := by omega
      have hc : wr.cell? ⟨L, n, none⟩ = some (str (exB.getD n [])) := by
        rw [hL.cell n, List.getElem?_toArray, List.getElem?_map]
        have : n = 0 ∨ n = 1 ∨ n = 2 ∨ n = 3 ∨ n = 4 := by omega
        rcases this with rfl | rfl | rfl | rfl | rfl <;> rfl
      have HB := Lib.hid (read_bad n hlt wr (hg.only hO))
      have Hlt := Lib.hid hlt
      clear hlt
      generalize exB.getD n [] = tx at *
      generalize readC tx (parse tx) = cx at *
      go_wp2_with fail
      refine HB.out.mono ?_
      rintro e w5 ⟨rfl, hO5⟩
      have hL5 := hO5.blk hL (by simp)
      have hE5 := hO5.cf hE (by simp)
      have hD5 := hO5.cf hD (by simp)
      have hO6 := hO.trans hO5
      clear hL hE hD hO hO5 HB hc
      go_wp2_with fail
      refine ⟨⟨n + 1, by have := Hlt.out; omega, by go_num, hL5.alloc _, hE5.alloc _, hD5.alloc _, hO6.alloc _⟩, ?_⟩
      simp [intOf]
      omega
    · obtain rfl : n = 5 := by omega
      have hlt' : ¬ (5 : Int) < 5 := by decide
      have t1 : (exT == [114, 101, 103, 105, 111, 110, 32, 51, 32, 49, 32, 49, 48, 48, 32, 49, 102, 102, 32, 114, 119, 32, 53, 32, 108, 111, 99, 107, 101, 100]) = true := by decide
      have t2 : (exS == [114, 111, 117, 116, 101, 32, 50, 32, 45]) = true := by decide
      obtain ⟨c0, c1, c2, c3, c4, c5, c6, c7, c8, c9, c10, c11, -⟩ := hE.c
      obtain ⟨d0, d1, d2, d3, d4, d5, d6, d7, d8, d9, d10, d11, -⟩ := hD.c
      simp only [exC] at c0 c1 c2 c3 c4 c5 c6 c7 c8 c9 c10 c11 d0 d1 d2 d3 d4 d5 d6 d7 d8 d9 d10 d11
      have Hfin := Lib.hid hO
      clear hE hD hL hO
      go_wp2_with fail
      go_ret
      exact ⟨rfl, Hfin.out⟩
end Go.Proofs.YtghoggjllcbalaaDoor
