/- The reader of package conf: number, address, line, walked. Conditions: the reader's block and its words lie as Read makes them; the words are short; the listed variables are laid. -/
import Derived.Test.YtghoggjllcbalaaDoorCfR
namespace Go.Proofs.YtghoggjllcbalaaDoor
open Go Go.RowKit

/-- All words are short. -/
def Short (ws : List (List UInt8)) : Prop := ws.length ≤ 1000000 ∧ ∀ l ∈ ws, l.length ≤ 1000000
theorem Short.tail {ws : List (List UInt8)} (h : Short ws) : Short ws.tail := ⟨by have := h.1; simp; omega, fun l hl => h.2 l (List.mem_of_mem_tail hl)⟩
theorem Short.head {ws : List (List UInt8)} (h : Short ws) : (ws.headD []).length ≤ 1000000 := by
  cases ws with
  | nil => simp
  | cons x r => exact h.2 x (by simp)

theorem dec_max (l : List UInt8) : endV 65535 (parseDec l) ≤ 65535 := by
  have key : ∀ (l : List UInt8) (acc u : Nat), Lib.parseUintM (2 ^ 16 - 1) acc l = .ok u → acc ≤ 65535 → u ≤ 65535 := by
    intro l
    induction l with
    | nil => intro acc u h ha; simp [Lib.parseUintM] at h; omega
    | cons c r ih =>
      intro acc u h ha
      simp only [Lib.parseUintM] at h
      split at h
      · split at h
        · cases h
        · split at h
          · cases h
          · rename_i hh
            exact ih _ u h (by omega)
      · cases h
  unfold parseDec endV Lib.parseUintB
  split
  · rename_i v h
    split at h
    · cases h
    · exact key _ _ _ h (by omega)
  · omega
  · omega
theorem hexP_max : ∀ (l : List UInt8) (acc u : Nat), hexP acc l = .ok u → acc ≤ 4294967295 → u ≤ 4294967295
  | [], acc, u, h, ha => by simp [hexP] at h; omega
  | c :: r, acc, u, h, ha => by
    simp only [hexP] at h
    split at h
    · cases h
    · split at h
      · cases h
      · exact hexP_max r _ u h (by omega)
theorem hex_max (l : List UInt8) : endV 4294967295 (parseHex l) ≤ 4294967295 := by
  unfold endV parseHex
  split
  · rename_i v h
    split at h
    · cases h
    · exact hexP_max _ _ _ h (by omega)
  · omega
  · omega

theorem err_eq {ok : Bool} {ev : Value} (h : ErrV ok ev) (w : World) : (binOp .eql 70 ev .nilIface).run Tryd.prog w = .ok (.bool ok) w := by
  unfold ErrV at h
  cases ok
  · simp only [Bool.false_eq_true, if_false] at h
    obtain ⟨N, rfl⟩ := h
    simp [go_sem]
  · simp only [if_true] at h
    subst h
    simp [go_sem]

theorem Gl.onlyS {S : List Nat} {w w' : World} (h : Gl w) (hO : Only S w w') (hS : ∀ x ∈ S, 8 ≤ x) : Gl w' := by
  have hl := h.lt
  have hb : ∀ g, g < 8 → w'.heap[g]? = w.heap[g]? := fun g hg => hO.block g (by omega) (fun hm => by have := hS g hm; omega)
  have hv : ∀ (n : String) (g : Nat), Tryd.prog.globalNamed n = some g → g < 8 → w'.var? Tryd.prog n = w.var? Tryd.prog n := by
    intro n g hn hg
    unfold World.var?
    simp only [hn, Option.bind_some]
    rw [hb g hg]
  have hc : ∀ (g i : Nat), g < 8 → w'.cell? ⟨g, i, none⟩ = w.cell? ⟨g, i, none⟩ := by
    intro g i hg
    unfold World.cell?
    simp only
    rw [hb g hg]
  refine ⟨?_, ?_, ?_, ?_, ?_, Nat.le_trans hl hO.size⟩
  · have := h.tab
    unfold Lib.TabIs at this ⊢
    rw [hv _ 0 (by kernel_rfl) (by omega)]
    exact this
  · obtain ⟨m, hm⟩ := h.ml
    exact ⟨m, by rw [hc _ _ (by omega)]; exact hm⟩
  · obtain ⟨tp, p, hm⟩ := h.es
    exact ⟨tp, p, by rw [hv _ 2 (by kernel_rfl) (by omega)]; exact hm⟩
  · obtain ⟨tp, p, hm⟩ := h.er
    exact ⟨tp, p, by rw [hv _ 3 (by kernel_rfl) (by omega)]; exact hm⟩
  · rw [hc _ _ (by omega)]
    exact h.db

set_option maxHeartbeats 4000000 in
theorem number_any (rb sb : Nat) (ws : List (List UInt8)) (ok : Bool) (hS : Short ws) (w : World) (hR : RdB w rb sb ws ok) (hg : Gl w) (hrb : 8 ≤ rb) :
    Calls Tryd.prog 25 #[.pointer (some ⟨rb, 0, none⟩)] w fun e w' =>
      e = .returned (.int .i64 (endV 65535 (parseDec (ws.headD [])) : Nat)) ∧ RdB w' rb sb ws.tail (ok && !ws.isEmpty && endOk (parseDec (ws.headD []))) ∧ Only [rb] w w' := by
  have hmx := dec_max (ws.headD [])
  have hT := Lib.hid (take_any rb sb ws ok hS.1 w hR)
  have hP := Lib.hid (pub10_any (ws.headD []) hS.head)
  have hsb := hR.ne
  have hlb := hR.lt
  clear hR
  generalize ws.headD [] = x at *
  generalize endV 65535 (parseDec x) = v at *
  generalize endOk (parseDec x) = o at *
  have hv : (v : Int) % 18446744073709551616 = (v : Int) := by omega
  have hv1 : (v : Int) ≤ 65535 := by omega
  go_enter Tryd.func25, Tryd.ntmps25
  go_wp2_with fail
  refine hT.out.mono ?_
  rintro e w1 ⟨rfl, hR1, hO1⟩
  have hg1 := hg.onlyS hO1 (by simpa using hrb)
  go_wp2_with fail
  refine (hP.out w1 hg1).mono ?_
  rintro e w2 ⟨ev, rfl, hE, hO2⟩
  have hR2 := hR1.only hO2 (by simp) (by simp)
  have hO3 : Only [rb] w w2 := hO1.trans' hO2 (by simp)
  clear hR1 hO1 hO2 hT hP hg1
  obtain ⟨k, hk⟩ : ∃ k, (ok && !ws.isEmpty) = k := ⟨_, rfl⟩
  rw [hk] at hR2
  have Hk := Lib.hid hk
  clear hk
  obtain ⟨off, hb, hl, hn, hc⟩ := hR2
  have c1 : w2.cell? ⟨rb, 1, none⟩ = some (.bool k) := hb.cell 1
  have f1 := hb.frozen 1
  have Hc := Lib.hid hc
  clear hc
  have fin : ∀ z : Bool, RdB (w2.setCell ⟨rb, 1, none⟩ (.bool z)) rb sb ws.tail z := fun z => by
    refine ⟨off, by simpa using hb.set_ 1 (.bool z), by simpa [World.setCell] using hl, hn, fun j l hj => ?_⟩
    rw [World.cell?_setCell_other _ _ _ _ (by intro h; injection h with h1 _ _; exact hn h1.symm)]
    exact Hc.out j l hj
  have Fin := Lib.hid fin
  clear fin
  cases k
  · go_wp2_with fail
    go_ret
    exact ⟨rfl, by rw [Hk.out]; exact Fin.out false, hO3.set1 (by simp) _ _⟩
  · cases o
    · obtain ⟨N, rfl⟩ : ∃ N, ev = .iface 104 (.pointer (some ⟨N, 0, none⟩)) := hE
      go_wp2_with fail
      go_ret
      exact ⟨rfl, by rw [Hk.out]; exact Fin.out false, hO3.set1 (by simp) _ _⟩
    · obtain rfl : ev = .nilIface := hE
      go_wp2_with fail
      go_ret
      exact ⟨rfl, by rw [Hk.out]; exact Fin.out true, hO3.set1 (by simp) _ _⟩

set_option maxHeartbeats 4000000 in
theorem address_any (rb sb : Nat) (ws : List (List UInt8)) (ok : Bool) (hS : Short ws) (w : World) (hR : RdB w rb sb ws ok) (hg : Gl w) (hrb : 8 ≤ rb) :
    Calls Tryd.prog 40 #[.pointer (some ⟨rb, 0, none⟩)] w fun e w' =>
      e = .returned (.int .u32 (endV 4294967295 (parseHex (ws.headD [])) : Nat)) ∧ RdB w' rb sb ws.tail (ok && !ws.isEmpty && endOk (parseHex (ws.headD []))) ∧ Only [rb] w w' := by
  have hmx := hex_max (ws.headD [])
  have hT := Lib.hid (take_any rb sb ws ok hS.1 w hR)
  have hP := Lib.hid (pub16_any (ws.headD []) hS.head)
  have hsb := hR.ne
  have hlb := hR.lt
  clear hR
  generalize ws.headD [] = x at *
  generalize endV 4294967295 (parseHex x) = v at *
  generalize endOk (parseHex x) = o at *
  have hv : (v : Int) % 4294967296 = (v : Int) := by omega
  have hv1 : (v : Int) ≤ 4294967295 := by omega
  go_enter Tryd.func40, Tryd.ntmps40
  go_wp2_with fail
  refine hT.out.mono ?_
  rintro e w1 ⟨rfl, hR1, hO1⟩
  have hg1 := hg.onlyS hO1 (by simpa using hrb)
  go_wp2_with fail
  refine (hP.out w1 hg1).mono ?_
  rintro e w2 ⟨ev, rfl, hE, hO2⟩
  have hR2 := hR1.only hO2 (by simp) (by simp)
  have hO3 : Only [rb] w w2 := hO1.trans' hO2 (by simp)
  clear hR1 hO1 hO2 hT hP hg1
  obtain ⟨k, hk⟩ : ∃ k, (ok && !ws.isEmpty) = k := ⟨_, rfl⟩
  rw [hk] at hR2
  have Hk := Lib.hid hk
  clear hk
  obtain ⟨off, hb, hl, hn, hc⟩ := hR2
  have c1 : w2.cell? ⟨rb, 1, none⟩ = some (.bool k) := hb.cell 1
  have f1 := hb.frozen 1
  have Hc := Lib.hid hc
  clear hc
  have fin : ∀ z : Bool, RdB (w2.setCell ⟨rb, 1, none⟩ (.bool z)) rb sb ws.tail z := fun z => by
    refine ⟨off, by simpa using hb.set_ 1 (.bool z), by simpa [World.setCell] using hl, hn, fun j l hj => ?_⟩
    rw [World.cell?_setCell_other _ _ _ _ (by intro h; injection h with h1 _ _; exact hn h1.symm)]
    exact Hc.out j l hj
  have Fin := Lib.hid fin
  clear fin
  cases k
  · go_wp2_with fail
    go_ret
    exact ⟨rfl, by rw [Hk.out]; exact Fin.out false, hO3.set1 (by simp) _ _⟩
  · cases o
    · obtain ⟨N, rfl⟩ : ∃ N, ev = .iface 104 (.pointer (some ⟨N, 0, none⟩)) := hE
      go_wp2_with fail
      go_ret
      exact ⟨rfl, by rw [Hk.out]; exact Fin.out false, hO3.set1 (by simp) _ _⟩
    · obtain rfl : ev = .nilIface := hE
      go_wp2_with fail
      go_ret
      exact ⟨rfl, by rw [Hk.out]; exact Fin.out true, hO3.set1 (by simp) _ _⟩
end Go.Proofs.YtghoggjllcbalaaDoor
