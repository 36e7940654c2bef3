/- The scanner of package prog: next, number, walked. Conditions: the listed variables are laid; words are short. -/
import Derived.Test.YtagmoehjcgjnjaaGreatDoorPgR
import Derived.Test.YtagmoehjcgjnjaaGreatDoorCfGi
namespace Go.Proofs.YtagmoehjcgjnjaaGreatDoor
open Go Go.RowKit
attribute [local go_sem] cell_set_map Option.map_some

/-- The cells of a scanner. -/
abbrev In.scs (x : In) (v : Value) : Array Value := #[v, .int .i64 x.op, .int .i64 x.sz, .int .u32 x.ad, .bool x.ix, .int .u32 x.dt, .int .i64 x.to, .int .i64 x.cf.kd, .int .i64 x.cf.ix, .int .i64 x.cf.wo, .int .i64 x.cf.ln, .bool x.cf.on, .int .i64 x.cf.rw, .int .u32 x.cf.fr, .int .u32 x.cf.tt, .bool x.cf.rd, .bool x.cf.wt, .int .i64 x.cf.rk, .bool x.cf.lk]
/-- A scanner in block rb, its words in block sb. -/
def ScW (w : World) (rb sb : Nat) (x : In) (ws : List (List UInt8)) : Prop :=
  ∃ off, Blk w rb 76 (x.scs (.slice (some ⟨sb, off, none⟩) ws.length ws.length)) ∧ sb < w.heap.size ∧ sb ≠ rb ∧ ∀ (j : Nat) l, ws[j]? = some l → w.cell? ⟨sb, off + j, none⟩ = some (str l)
theorem ScW.only {w w' : World} {rb sb : Nat} {x : In} {ws : List (List UInt8)} {S : List Nat} (h : ScW w rb sb x ws) (hO : Only S w w') (h1 : rb ∉ S) (h2 : sb ∉ S) : ScW w' rb sb x ws := by
  obtain ⟨off, hb, hl, hn, hc⟩ := h
  exact ⟨off, hO.blk hb h1, Nat.lt_of_lt_of_le hl hO.size, hn, fun j l hj => by rw [hO.cell (p := ⟨sb, off + j, none⟩) hl h2]; exact hc j l hj⟩
theorem ScW.lt {w : World} {rb sb : Nat} {x : In} {ws : List (List UInt8)} (h : ScW w rb sb x ws) : rb < w.heap.size := by
  obtain ⟨off, hb, -⟩ := h
  exact hb.lt
theorem ScW.ne {w : World} {rb sb : Nat} {x : In} {ws : List (List UInt8)} (h : ScW w rb sb x ws) : sb ≠ rb ∧ sb < w.heap.size := by
  obtain ⟨off, hb, hl, hn, hc⟩ := h
  exact ⟨hn, hl⟩
/-- A cell of the instruction is written. -/
theorem ScW.set {w : World} {rb sb : Nat} {x x' : In} {ws : List (List UInt8)} (h : ScW w rb sb x ws) (i : Nat) (u : Value) (hx : ∀ v, (x.scs v).setIfInBounds i u = x'.scs v) : ScW (w.setCell ⟨rb, i, none⟩ u) rb sb x' ws := by
  obtain ⟨off, hb, hl, hn, hc⟩ := h
  refine ⟨off, by rw [← hx]; exact hb.set_ i u, by simpa [World.setCell] using hl, hn, fun j l hj => ?_⟩
  rw [World.cell?_setCell_other _ _ _ _ (by intro h; injection h with h1 _ _; exact hn h1.symm)]
  exact hc j l hj
/-- The scanner as its cells. -/
theorem ScW.cells {w : World} {rb sb : Nat} {x : In} {ws : List (List UInt8)} (h : ScW w rb sb x ws) : (∃ off, w.cell? ⟨rb, 0, none⟩ = some (.slice (some ⟨sb, off, none⟩) ws.length ws.length)) ∧ w.cell? ⟨rb, 1, none⟩ = some (.int .i64 x.op) ∧ ∀ i, w.frozen? ⟨rb, i, none⟩ = false := by
  obtain ⟨off, hb, hl, hn, hc⟩ := h
  exact ⟨⟨off, hb.cell 0⟩, hb.cell 1, hb.frozen⟩

theorem ScW.cell {w : World} {rb sb : Nat} {x : In} {ws : List (List UInt8)} (h : ScW w rb sb x ws) (i : Nat) : w.cell? ⟨rb, i + 1, none⟩ = x.cs[i]? := by
  obtain ⟨off, hb, hl, hn, hc⟩ := h
  rw [hb.cell, ← Array.getElem?_toList, ← Array.getElem?_toList]
  rfl
theorem next_fin {w : World} {rb sb off m : Nat} {x : In} {l : List UInt8} {r : List (List UInt8)} (hm : r.length = m) (hb : Blk w rb 76 (x.scs (.slice (some ⟨sb, off, none⟩) (m + 1) (m + 1)))) (hl : sb < w.heap.size) (hn : sb ≠ rb)
    (hc : ∀ (j : Nat) k, (l :: r)[j]? = some k → w.cell? ⟨sb, off + j, none⟩ = some (str k)) (o2 : Nat) (ho : o2 = if m = 0 then off else off + 1) (W : World) (hW : W = (w.drew.setCell ⟨rb, 0, none⟩ (.slice (some ⟨sb, o2, none⟩) m m))) : ScW W rb sb x r ∧ Only [rb] w W := by
  subst hW
  refine ⟨⟨o2, ?_, by simpa [World.setCell] using hl, hn, fun j k hj => ?_⟩, ((Only.refl _ _).drew).set1 (by simp) _ _⟩
  · have := hb.drew.set_ 0 (.slice (some ⟨sb, o2, none⟩) m m)
    rw [hm]
    exact this
  · rw [World.cell?_setCell_other _ _ _ _ (by intro h; injection h with h1 _ _; exact hn h1.symm)]
    have hj' : j < r.length := by
      rcases Nat.lt_or_ge j r.length with h | h
      · exact h
      · rw [List.getElem?_eq_none h] at hj; cases hj
    rw [ho, if_neg (by omega), show off + 1 + j = off + (j + 1) by omega]
    exact hc (j + 1) k (by simpa using hj)

set_option maxRecDepth 100000 in
set_option maxHeartbeats 4000000 in
theorem next_any (rb sb : Nat) (x : In) (ws : List (List UInt8)) (hbig : ws.length ≤ 1000000) (w : World) (hR : ScW w rb sb x ws) :
    Calls Tryz.prog 69 #[.pointer (some ⟨rb, 0, none⟩)] w fun e w' => e = .returned (str (ws.headD [])) ∧ ScW w' rb sb x ws.tail ∧ Only [rb] w w' := by
  have HR := Lib.hid hR
  obtain ⟨off, hb, hl, hn, hc⟩ := hR
  have f0 := hb.frozen 0
  rcases ws with _ | ⟨l, r⟩
  · have c0 : w.cell? ⟨rb, 0, none⟩ = some (.slice (some ⟨sb, off, none⟩) 0 0) := hb.cell 0
    clear hc hbig hb
    go_enter Tryz.func69, Tryz.ntmps69
    go_wp2
    go_ret
    exact ⟨rfl, HR.out, Only.refl _ _⟩
  · obtain ⟨m, hm⟩ : ∃ m, r.length = m := ⟨_, rfl⟩
    have hb' : Blk w rb 76 (x.scs (.slice (some ⟨sb, off, none⟩) (m + 1) (m + 1))) := by rw [← hm]; exact hb
    have c0 : w.cell? ⟨rb, 0, none⟩ = some (.slice (some ⟨sb, off, none⟩) (m + 1) (m + 1)) := hb'.cell 0
    have d0 : w.cell? ⟨sb, off, none⟩ = some (str l) := hc 0 l rfl
    have hm2 : m + 1 ≤ 1000000 := by rw [← hm]; exact hbig
    have HF := Lib.hid (next_fin (l := l) hm hb' hl hn hc)
    clear hc hbig hb hb' HR hm
    have hm3 : (0 : Int) < (m : Int) + 1 := by omega
    have hm4 : (1 : Int) ≤ (m : Int) + 1 := by omega
    go_enter Tryz.func69, Tryz.ntmps69
    go_upto_region 2 with fail
    refine wp_region_TT 15 (fun z => z = w.drew) (by kernel_rfl) (by kernel_rfl) rfl ?_
    simp only [List.take_succ_cons, List.take_zero, List.drop_succ_cons, List.drop_zero]
    by_cases h0 : m = 0
    all_goals
      repeat (
        refine wpT_step ?_ (stD rfl (fun w1 hD => ?_)) ?_
        rotate_left
        · subst hD
          go_simp
          (refine ⟨?_, rfl⟩; rfl)
        simp only [Act.put, List.setIfInBounds_toArray, List.set_cons_succ, List.set_cons_zero, Nat.reduceAdd])
      refine wpT_nil ?_
      intro w6 hD
      subst hD
      go_wp2_with fail
      go_ret
    · exact ⟨rfl, HF.out off (by rw [if_pos h0]) _ (by subst h0; rfl)⟩
    · exact ⟨rfl, HF.out (off + 1) (by rw [if_neg h0]) _ rfl⟩
end Go.Proofs.YtagmoehjcgjnjaaGreatDoor
