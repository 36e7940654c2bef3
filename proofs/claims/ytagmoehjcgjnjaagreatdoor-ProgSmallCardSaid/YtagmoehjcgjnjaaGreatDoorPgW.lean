/- The chapter's examples of the statements about programs, walked. Conditions: the listed variables are laid. -/
import Derived.Test.YtagmoehjcgjnjaaGreatDoorPgW0
import Derived.LoopTactic
namespace Go.Proofs.YtagmoehjcgjnjaaGreatDoor
open Go Go.RowKit

theorem row_in {w : World} {base : Nat} {v : Value} {l : List In} (h : InR w base v l) (h0 : 0 < l.length) : ∃ g c, v = .slice (some ⟨g, 0, none⟩) l.length c ∧ g < w.heap.size ∧ l.length ≤ c ∧ ∀ (i : Nat) u, (flatI l)[i]? = some u → w.cell? ⟨g, i, none⟩ = some u := by
  obtain ⟨hl, ⟨-, h1⟩ | ⟨g, cap, cur, rfl, hb, hg, hn, hm, hs, ht⟩⟩ := h
  · omega
  · refine ⟨g, cap, rfl, Blk.lt hg, hn, fun i u hi => ?_⟩
    have hlt : i < l.length * 18 := by
      rcases Nat.lt_or_ge i (l.length * 18) with h | h
      · exact h
      · rw [List.getElem?_eq_none (by omega)] at hi; cases hi
    rw [Blk.cell hg, ← Array.getElem?_toList, ← List.getElem?_take_of_lt hlt, ht, hi]

set_option maxRecDepth 100000 in
set_option maxHeartbeats 2000000 in
theorem pawake_any (w : World) (hg : Gl w) : Calls Tryz.prog 8 #[] w fun e w' => e = .returned (.bool true) ∧ Only [] w w' := by
  have HR := Lib.hid (fun W (h : Only [] w W) => (pread_any pxT (by decide) W (hg.only h)).mono (fun e w' (hp : RdPost W pxT e w') => hp))
  have HU := Lib.hid (fun W (h : Only [] w W) => (pread_any pxU (by decide) W (hg.only h)).mono (fun e w' (hp : RdPost W pxU e w') => hp))
  have HPT : Hid (∀ W e w', RdPost W pxT e w' → ∃ g c, e = .returned (.tuple #[.slice (some ⟨g, 0, none⟩) 5 c, .int .i64 0, .int .i64 0]) ∧ g < w'.heap.size ∧ InS w' (.slice (some ⟨g, 0, none⟩) 5 c) pxL ∧ (∀ (i : Nat) u, (flatI pxL)[i]? = some u → w'.cell? ⟨g, i, none⟩ = some u) ∧ Only [] W w' ∧ 5 ≤ c) := Lib.hid (by
    rintro W e w' ⟨v, rfl, hR, hO⟩
    rw [px_read] at hR ⊢
    obtain ⟨g, c, rfl, hgl, hc, hcell⟩ := row_in hR (by decide)
    exact ⟨g, c, rfl, hgl, hR.ins, hcell, hO, hc⟩)
  have HPU : Hid (∀ W e w', RdPost W pxU e w' → ∃ p c, e = .returned (.tuple #[.slice p 0 c, .int .i64 1, .int .i64 6]) ∧ Only [] W w') := Lib.hid (by
    rintro W e w' ⟨v, rfl, hR, hO⟩
    rw [pxU_read] at hR ⊢
    obtain ⟨p, c, rfl⟩ := hR.ins.len
    exact ⟨p, c, rfl, hO⟩)
  have HG := Lib.hid hg
  clear hg
  go_enter Tryz.func8, Tryz.ntmps8
  go_wp2_with fail
  refine (HR.out _ (Only.refl _ _)).mono ?_
  intro e w1 hp
  obtain ⟨g, c, rfl, hgl, hIn, hcell, hO1, hc⟩ := HPT.out _ _ _ hp
  have HC := Lib.hid (And.intro hIn hcell)
  clear hIn hcell hp HR HPT
  go_wp2_with fail
  refine (HU.out _ hO1).mono ?_
  intro e w2 hp
  obtain ⟨p2, c2, rfl, hO2⟩ := HPU.out _ _ _ hp
  clear hp HU HPU
  have hOw : Only [] w (w2.alloc (.cells (pxB.map str).toArray 9)) := (hO1.trans hO2).alloc _
  have hB : Blk (w2.alloc (.cells (pxB.map str).toArray 9)) w2.heap.size 9 (pxB.map str).toArray := Blk.new' rfl rfl
  have hO12 : Only [] w1 (w2.alloc (.cells (pxB.map str).toArray 9)) := hO2.alloc _
  clear hO2
  generalize hb : w2.heap.size = b at hB
  go_wp2_with fail
  clear hb
  go_loopw [8] (fun i wr => ∃ k : Nat, k ≤ 4 ∧ i = .int .i64 k ∧ Blk wr b 9 (pxB.map str).toArray ∧ Only [] w1 wr) (fun i _ => 4 - (intOf i).toNat)
  case atStart => exact ⟨0, by omega, rfl, hB, hO12⟩
  case round =>
    clear hB hO12 hOw
    obtain ⟨k, hk, rfl, hB, hO⟩ := hrel
    by_cases hlt : k < 4
    · have hlt' : (k : Int) < 4 := by omega
      have hcl : wr.cell? ⟨b, k, none⟩ = some (str (pxB.getD k [])) := by
        rw [hB.cell k, List.getElem?_toArray, List.getElem?_map]
        have : k = 0 ∨ k = 1 ∨ k = 2 ∨ k = 3 := by omega
        rcases this with rfl | rfl | rfl | rfl <;> rfl
      have HB := one_any (pxB.getD k []) (by have : k = 0 ∨ k = 1 ∨ k = 2 ∨ k = 3 := by omega
                                             rcases this with rfl | rfl | rfl | rfl <;> decide) wr (HG.out.only (hO1.trans hO))
      rw [pbad_all k hlt] at HB
      have HB := Lib.hid HB
      have Hlt := Lib.hid hlt
      clear hlt
      generalize pxB.getD k [] = tx at *
      generalize oneX tx = x at *
      go_wp2_with (first
        | (go_at_call 18; refine HB.out.mono ?_; rintro e w5 ⟨rfl, hO5⟩)
        | (refine wpList_st 33 x.cs.toList w5.heap.size 0 _ _ rfl (by kernel_rfl) rfl rfl rfl rfl (Blk.new w5 33 (In.only 0).cs) (Nat.le_of_ble_eq_true rfl) ?_; intro w6 hB6 hO6; clear hB6))
      have hO7 : Only [] wr w6 := (hO5.alloc (.cells (In.only 0).cs 33)).trans' hO6 (by intro z hz hl; simp at hz; have := hO5.size; omega)
      refine ⟨⟨k + 1, by have := Hlt.out; omega, by go_num, hO7.blk hB (by simp), hO.trans hO7⟩, ?_⟩
      simp [intOf]
      omega
    · obtain rfl : k = 4 := by omega
      have hlt' : ¬ (4 : Int) < 4 := by decide
      have key : ∀ (i : Nat) u, (flatI pxL)[i]? = some u → wr.cell? ⟨g, i, none⟩ = some u := fun i u hu => (hO.cell (p := ⟨g, i, none⟩) hgl (by simp)).trans (HC.out.2 i u hu)
      have k1 : wr.cell? ⟨g, 21, none⟩ = some (.bool true) := key 21 _ rfl
      have k2 : wr.cell? ⟨g, 22, none⟩ = some (.int .u32 255) := key 22 _ rfl
      have k3 : wr.cell? ⟨g, 61, none⟩ = some (.int .i64 3) := key 61 _ rfl
      have HRt := pright_any pxL (by decide) px_fits _ wr (HC.out.1.only0 hO)
      rw [px_ok] at HRt
      have HRt := Lib.hid HRt
      clear key hB
      go_wp2_with (go_at_call 9; refine HRt.out.mono ?_; rintro e w5 ⟨rfl, hO5⟩)
      go_returns
      exact ⟨rfl, (hO1.trans hO).trans hO5⟩
end Go.Proofs.YtagmoehjcgjnjaaGreatDoor
