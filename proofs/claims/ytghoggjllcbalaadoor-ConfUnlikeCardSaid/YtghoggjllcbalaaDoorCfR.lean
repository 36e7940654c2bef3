/- The reader of package conf: take, number, address, line, walked. Conditions: the reader's block and its words lie as Read makes them; the words are short; the listed variables are laid. -/
import Derived.Test.YtghoggjllcbalaaDoorCfQ
import Derived.Test.YtghoggjllcbalaaDoorCfC
namespace Go.Proofs.YtghoggjllcbalaaDoor
open Go Go.RowKit

/-- A reader in block rb, its words in block sb. -/
def RdB (w : World) (rb sb : Nat) (ws : List (List UInt8)) (ok : Bool) : Prop :=
  ∃ off, Blk w rb 55 #[.slice (some ⟨sb, off, none⟩) ws.length ws.length, .bool ok] ∧ sb < w.heap.size ∧ sb ≠ rb ∧ ∀ (j : Nat) l, ws[j]? = some l → w.cell? ⟨sb, off + j, none⟩ = some (str l)

theorem RdB.only {w w' : World} {rb sb : Nat} {ws : List (List UInt8)} {ok : Bool} {S : List Nat} (h : RdB w rb sb ws ok) (hO : Only S w w') (h1 : rb ∉ S) (h2 : sb ∉ S) : RdB w' rb sb ws ok := by
  obtain ⟨off, hb, hl, hn, hc⟩ := h
  refine ⟨off, hO.blk hb h1, Nat.lt_of_lt_of_le hl hO.size, hn, fun j l hj => ?_⟩
  rw [hO.cell (p := ⟨sb, off + j, none⟩) hl h2]
  exact hc j l hj
theorem RdB.lt {w : World} {rb sb : Nat} {ws : List (List UInt8)} {ok : Bool} (h : RdB w rb sb ws ok) : rb < w.heap.size := by
  obtain ⟨off, hb, -⟩ := h
  exact hb.lt
theorem RdB.lt2 {w : World} {rb sb : Nat} {ws : List (List UInt8)} {ok : Bool} (h : RdB w rb sb ws ok) : sb < w.heap.size := by
  obtain ⟨off, hb, h2, -⟩ := h
  exact h2
theorem RdB.ne {w : World} {rb sb : Nat} {ws : List (List UInt8)} {ok : Bool} (h : RdB w rb sb ws ok) : sb ≠ rb := by
  obtain ⟨off, hb, h2, h3, -⟩ := h
  exact h3

set_option maxHeartbeats 4000000 in
theorem take_any (rb sb : Nat) (ws : List (List UInt8)) (ok : Bool) (hbig : ws.length ≤ 1000000) (w : World) (hR : RdB w rb sb ws ok) :
    Calls Tryd.prog 24 #[.pointer (some ⟨rb, 0, none⟩)] w fun e w' => e = .returned (str (ws.headD [])) ∧ RdB w' rb sb ws.tail (ok && !ws.isEmpty) ∧ Only [rb] w w' := by
  obtain ⟨off, hb, hl, hn, hc⟩ := hR
  have c1 : w.cell? ⟨rb, 1, none⟩ = some (.bool ok) := hb.cell 1
  have f0 := hb.frozen 0
  have f1 := hb.frozen 1
  rcases ws with _ | ⟨x, _ | ⟨y, r⟩⟩
  · have c0 : w.cell? ⟨rb, 0, none⟩ = some (.slice (some ⟨sb, off, none⟩) 0 0) := hb.cell 0
    clear hc hbig
    go_enter Tryd.func24, Tryd.ntmps24
    go_wp2
    go_ret
    exact ⟨rfl, ⟨off, by simpa using hb.set_ 1 (.bool false), by simpa [World.setCell] using hl, hn, fun j l hj => by simp at hj⟩, (Only.refl _ _).set1 (by simp) _ _⟩
  · have c0 : w.cell? ⟨rb, 0, none⟩ = some (.slice (some ⟨sb, off, none⟩) 1 1) := hb.cell 0
    have d0 : w.cell? ⟨sb, off, none⟩ = some (str x) := hc 0 x rfl
    clear hc hbig
    go_enter Tryd.func24, Tryd.ntmps24
    go_wp2
    go_ret
    exact ⟨rfl, ⟨off, by simpa using hb.set_ 0 (.slice (some ⟨sb, off, none⟩) 0 0), by simpa [World.setCell] using hl, hn, fun j l hj => by simp at hj⟩, (Only.refl _ _).set1 (by simp) _ _⟩
  · obtain ⟨m, hm⟩ : ∃ m, (y :: r).length = m := ⟨_, rfl⟩
    have c0 : w.cell? ⟨rb, 0, none⟩ = some (.slice (some ⟨sb, off, none⟩) (m + 1) (m + 1)) := by rw [← hm]; exact hb.cell 0
    have d0 : w.cell? ⟨sb, off, none⟩ = some (str x) := hc 0 x rfl
    have Hc := Lib.hid hc
    have hm1 : 1 ≤ m := by rw [← hm]; simp
    have hm2 : m + 1 ≤ 1000000 := by rw [← hm]; exact hbig
    have hm0 : ¬ m = 0 := by omega
    have Hm := Lib.hid hm
    clear hc hbig hm
    have hne : ¬ (sb = rb) := hn
    go_enter Tryd.func24, Tryd.ntmps24
    go_wp2
    go_ret
    refine ⟨rfl, ⟨off + 1, ?_, by simpa [World.setCell] using hl, hn, fun j l hj => ?_⟩, (Only.refl _ _).set1 (by simp) _ _⟩
    · have := hb.set_ 0 (.slice (some ⟨sb, off + 1, none⟩) m m)
      rw [show ((x :: y :: r).tail).length = m from Hm.out]
      simpa using this
    · rw [World.cell?_setCell_other _ _ _ _ (by intro h; injection h with h1 _ _; exact hne h1.symm), show off + 1 + j = off + (j + 1) by omega]
      exact Hc.out (j + 1) l (by simpa using hj)
end Go.Proofs.YtghoggjllcbalaaDoor
