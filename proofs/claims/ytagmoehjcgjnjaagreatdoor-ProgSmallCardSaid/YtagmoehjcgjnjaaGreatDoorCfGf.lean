/- The reader of package conf: take, number, address, line, walked. Conditions: the reader's block and its words lie as Read makes them; the words are short; the listed variables are laid. The reader of package conf: number, address, line, walked. Conditions: the reader's block and its words lie as Read makes them; the words are short; the listed variables are laid. The reader of package conf: line and region, walked. Conditions: as in the texts before. The reader of package conf: region, walked. Conditions: as in the texts before. Read of package conf as a plain function. No condition. Read of package conf: what its walk leans on. No condition. -/
import Derived.Test.YtagmoehjcgjnjaaGreatDoorCfGe
import Derived.Test.YtagmoehjcgjnjaaGreatDoorCfGb
import Derived.Test.YtagmoehjcgjnjaaGreatDoorCfGa
import Derived.Outline
import Derived.Test.YtagmoehjcgjnjaaGreatDoorCfGd
import Derived.Lib.SplitLaws
namespace Go.Proofs.YtagmoehjcgjnjaaGreatDoor
open Go Go.RowKit

/-- A reader in block rb, its words in block sb. -/
def RdB (w : World) (rb sb : Nat) (ws : List (List UInt8)) (ok : Bool) : Prop :=
  ∃ off, Blk w rb 153 #[.slice (some ⟨sb, off, none⟩) ws.length ws.length, .bool ok] ∧ sb < w.heap.size ∧ sb ≠ rb ∧ ∀ (j : Nat) l, ws[j]? = some l → w.cell? ⟨sb, off + j, none⟩ = some (str l)

theorem RdB.only {w w' : World} {rb sb : Nat} {ws : List (List UInt8)} {ok : Bool} {S : List Nat} (h : RdB w rb sb ws ok) (hO : Only S w w') (h1 : rb ∉ S) (h2 : sb ∉ S) : RdB w' rb sb ws ok := by
  obtain ⟨off, hb, hl, hn, hc⟩ := h
  refine ⟨off, hO.blk hb h1, Nat.lt_of_lt_of_le hl hO.size, hn, fun j l hj => ?_⟩
  rw [hO.cell (p := ⟨sb, off + j, none⟩) hl h2]
  exact hc j l hj
theorem RdB.lt {w : World} {rb sb : Nat} {ws : List (List UInt8)} {ok : Bool} (h : RdB w rb sb ws ok) : rb < w.heap.size := by
  obtain ⟨off, hb, -⟩ := h
  exact hb.lt
theorem RdB.lt2 {w : World} {rb sb : Nat} {ws : List (List UInt8)} {ok : Bool} (h : RdB w rb sb ws ok) : sb < w.heap.size := by
  obtain ⟨off, hb, h2, -⟩ := h
  exact h2
theorem RdB.ne {w : World} {rb sb : Nat} {ws : List (List UInt8)} {ok : Bool} (h : RdB w rb sb ws ok) : sb ≠ rb := by
  obtain ⟨off, hb, h2, h3, -⟩ := h
  exact h3

set_option maxHeartbeats 4000000 in
theorem take_any (rb sb : Nat) (ws : List (List UInt8)) (ok : Bool) (hbig : ws.length ≤ 1000000) (w : World) (hR : RdB w rb sb ws ok) :
    Calls Tryz.prog 106 #[.pointer (some ⟨rb, 0, none⟩)] w fun e w' => e = .returned (str (ws.headD [])) ∧ RdB w' rb sb ws.tail (ok && !ws.isEmpty) ∧ Only [rb] w w' := by
  obtain ⟨off, hb, hl, hn, hc⟩ := hR
  have c1 : w.cell? ⟨rb, 1, none⟩ = some (.bool ok) := hb.cell 1
  have f0 := hb.frozen 0
  have f1 := hb.frozen 1
  rcases ws with _ | ⟨x, _ | ⟨y, r⟩⟩
  · have c0 : w.cell? ⟨rb, 0, none⟩ = some (.slice (some ⟨sb, off, none⟩) 0 0) := hb.cell 0
    clear hc hbig
    go_enter Tryz.func106, Tryz.ntmps106
    go_wp2
    go_ret
    exact ⟨rfl, ⟨off, by simpa using hb.set_ 1 (.bool false), by simpa [World.setCell] using hl, hn, fun j l hj => by simp at hj⟩, (Only.refl _ _).set1 (by simp) _ _⟩
  · have c0 : w.cell? ⟨rb, 0, none⟩ = some (.slice (some ⟨sb, off, none⟩) 1 1) := hb.cell 0
    have d0 : w.cell? ⟨sb, off, none⟩ = some (str x) := hc 0 x rfl
    clear hc hbig
    go_enter Tryz.func106, Tryz.ntmps106
    go_wp2
    go_ret
    exact ⟨rfl, ⟨off, by simpa using hb.set_ 0 (.slice (some ⟨sb, off, none⟩) 0 0), by simpa [World.setCell] using hl, hn, fun j l hj => by simp at hj⟩, (Only.refl _ _).set1 (by simp) _ _⟩
  · obtain ⟨m, hm⟩ : ∃ m, (y :: r).length = m := ⟨_, rfl⟩
    have c0 : w.cell? ⟨rb, 0, none⟩ = some (.slice (some ⟨sb, off, none⟩) (m + 1) (m + 1)) := by rw [← hm]; exact hb.cell 0
    have d0 : w.cell? ⟨sb, off, none⟩ = some (str x) := hc 0 x rfl
    have Hc := Lib.hid hc
    have hm1 : 1 ≤ m := by rw [← hm]; simp
    have hm2 : m + 1 ≤ 1000000 := by rw [← hm]; exact hbig
    have hm0 : ¬ m = 0 := by omega
    have Hm := Lib.hid hm
    clear hc hbig hm
    have hne : ¬ (sb = rb) := hn
    go_enter Tryz.func106, Tryz.ntmps106
    go_wp2
    go_ret
    refine ⟨rfl, ⟨off + 1, ?_, by simpa [World.setCell] using hl, hn, fun j l hj => ?_⟩, (Only.refl _ _).set1 (by simp) _ _⟩
    · have := hb.set_ 0 (.slice (some ⟨sb, off + 1, none⟩) m m)
      rw [show ((x :: y :: r).tail).length = m from Hm.out]
      simpa using this
    · rw [World.cell?_setCell_other _ _ _ _ (by intro h; injection h with h1 _ _; exact hne h1.symm), show off + 1 + j = off + (j + 1) by omega]
      exact Hc.out (j + 1) l (by simpa using hj)
end Go.Proofs.YtagmoehjcgjnjaaGreatDoor

namespace Go.Proofs.YtagmoehjcgjnjaaGreatDoor
open Go Go.RowKit

/-- All words are short. -/
def Short (ws : List (List UInt8)) : Prop := ws.length ≤ 1000000 ∧ ∀ l ∈ ws, l.length ≤ 1000000
theorem Short.tail {ws : List (List UInt8)} (h : Short ws) : Short ws.tail := ⟨by have := h.1; simp; omega, fun l hl => h.2 l (List.mem_of_mem_tail hl)⟩
theorem Short.head {ws : List (List UInt8)} (h : Short ws) : (ws.headD []).length ≤ 1000000 := by
  cases ws with
  | nil => simp
  | cons x r => exact h.2 x (by simp)

theorem dec_max (l : List UInt8) : endV 65535 (parseDec l) ≤ 65535 := by
  have key : ∀ (l : List UInt8) (acc u : Nat), Lib.parseUintM (2 ^ 16 - 1) acc l = .ok u → acc ≤ 65535 → u ≤ 65535 := by
    intro l
    induction l with
    | nil => intro acc u h ha; simp [Lib.parseUintM] at h; omega
    | cons c r ih =>
      intro acc u h ha
      simp only [Lib.parseUintM] at h
      split at h
      · split at h
        · cases h
        · split at h
          · cases h
          · rename_i hh
            exact ih _ u h (by omega)
      · cases h
  unfold parseDec endV Lib.parseUintB
  split
  · rename_i v h
    split at h
    · cases h
    · exact key _ _ _ h (by omega)
  · omega
  · omega
theorem hexP_max : ∀ (l : List UInt8) (acc u : Nat), hexP acc l = .ok u → acc ≤ 4294967295 → u ≤ 4294967295
  | [], acc, u, h, ha => by simp [hexP] at h; omega
  | c :: r, acc, u, h, ha => by
    simp only [hexP] at h
    split at h
    · cases h
    · split at h
      · cases h
      · exact hexP_max r _ u h (by omega)
theorem hex_max (l : List UInt8) : endV 4294967295 (parseHex l) ≤ 4294967295 := by
  unfold endV parseHex
  split
  · rename_i v h
    split at h
    · cases h
    · exact hexP_max _ _ _ h (by omega)
  · omega
  · omega

theorem err_eq {ok : Bool} {ev : Value} (h : ErrV ok ev) (w : World) : (binOp .eql 110 ev .nilIface).run Tryz.prog w = .ok (.bool ok) w := by
  unfold ErrV at h
  cases ok
  · simp only [Bool.false_eq_true, if_false] at h
    obtain ⟨N, rfl⟩ := h
    simp [go_sem]
  · simp only [if_true] at h
    subst h
    simp [go_sem]

theorem Gl.onlyS {S : List Nat} {w w' : World} (h : Gl w) (hO : Only S w w') (hS : ∀ x ∈ S, 8 ≤ x) : Gl w' := by
  have hl := h.lt
  have hb : ∀ g, g < 8 → w'.heap[g]? = w.heap[g]? := fun g hg => hO.block g (by omega) (fun hm => by have := hS g hm; omega)
  have hv : ∀ (n : String) (g : Nat), Tryz.prog.globalNamed n = some g → g < 8 → w'.var? Tryz.prog n = w.var? Tryz.prog n := by
    intro n g hn hg
    unfold World.var?
    simp only [hn, Option.bind_some]
    rw [hb g hg]
  have hc : ∀ (g i : Nat), g < 8 → w'.cell? ⟨g, i, none⟩ = w.cell? ⟨g, i, none⟩ := by
    intro g i hg
    unfold World.cell?
    simp only
    rw [hb g hg]
  refine ⟨?_, ?_, ?_, ?_, ?_, Nat.le_trans hl hO.size⟩
  · have := h.tab
    unfold Lib.TabIs at this ⊢
    rw [hv _ 1 (by kernel_rfl) (by omega)]
    exact this
  · obtain ⟨m, hm⟩ := h.ml
    exact ⟨m, by rw [hc _ _ (by omega)]; exact hm⟩
  · obtain ⟨tp, p, hm⟩ := h.es
    exact ⟨tp, p, by rw [hv _ 4 (by kernel_rfl) (by omega)]; exact hm⟩
  · obtain ⟨tp, p, hm⟩ := h.er
    exact ⟨tp, p, by rw [hv _ 5 (by kernel_rfl) (by omega)]; exact hm⟩
  · rw [hc _ _ (by omega)]
    exact h.db

set_option maxHeartbeats 4000000 in
theorem number_any (rb sb : Nat) (ws : List (List UInt8)) (ok : Bool) (hS : Short ws) (w : World) (hR : RdB w rb sb ws ok) (hg : Gl w) (hrb : 8 ≤ rb) :
    Calls Tryz.prog 107 #[.pointer (some ⟨rb, 0, none⟩)] w fun e w' =>
      e = .returned (.int .i64 (endV 65535 (parseDec (ws.headD [])) : Nat)) ∧ RdB w' rb sb ws.tail (ok && !ws.isEmpty && endOk (parseDec (ws.headD []))) ∧ Only [rb] w w' := by
  have hmx := dec_max (ws.headD [])
  have hT := Lib.hid (take_any rb sb ws ok hS.1 w hR)
  have hP := Lib.hid (pub10_any (ws.headD []) hS.head)
  have hsb := hR.ne
  have hlb := hR.lt
  clear hR
  generalize ws.headD [] = x at *
  generalize endV 65535 (parseDec x) = v at *
  generalize endOk (parseDec x) = o at *
  have hv : (v : Int) % 18446744073709551616 = (v : Int) := by omega
  have hv1 : (v : Int) ≤ 65535 := by omega
  go_enter Tryz.func107, Tryz.ntmps107
  go_wp2_with fail
  refine hT.out.mono ?_
  rintro e w1 ⟨rfl, hR1, hO1⟩
  have hg1 := hg.onlyS hO1 (by simpa using hrb)
  go_wp2_with fail
  refine (hP.out w1 hg1).mono ?_
  rintro e w2 ⟨ev, rfl, hE, hO2⟩
  have hR2 := hR1.only hO2 (by simp) (by simp)
  have hO3 : Only [rb] w w2 := hO1.trans' hO2 (by simp)
  clear hR1 hO1 hO2 hT hP hg1
  obtain ⟨k, hk⟩ : ∃ k, (ok && !ws.isEmpty) = k := ⟨_, rfl⟩
  rw [hk] at hR2
  have Hk := Lib.hid hk
  clear hk
  obtain ⟨off, hb, hl, hn, hc⟩ := hR2
  have c1 : w2.cell? ⟨rb, 1, none⟩ = some (.bool k) := hb.cell 1
  have f1 := hb.frozen 1
  have Hc := Lib.hid hc
  clear hc
  have fin : ∀ z : Bool, RdB (w2.setCell ⟨rb, 1, none⟩ (.bool z)) rb sb ws.tail z := fun z => by
    refine ⟨off, by simpa using hb.set_ 1 (.bool z), by simpa [World.setCell] using hl, hn, fun j l hj => ?_⟩
    rw [World.cell?_setCell_other _ _ _ _ (by intro h; injection h with h1 _ _; exact hn h1.symm)]
    exact Hc.out j l hj
  have Fin := Lib.hid fin
  clear fin
  cases k
  · go_wp2_with fail
    go_ret
    exact ⟨rfl, by rw [Hk.out]; exact Fin.out false, hO3.set1 (by simp) _ _⟩
  · cases o
    · obtain ⟨N, rfl⟩ : ∃ N, ev = .iface 221 (.pointer (some ⟨N, 0, none⟩)) := hE
      go_wp2_with fail
      go_ret
      exact ⟨rfl, by rw [Hk.out]; exact Fin.out false, hO3.set1 (by simp) _ _⟩
    · obtain rfl : ev = .nilIface := hE
      go_wp2_with fail
      go_ret
      exact ⟨rfl, by rw [Hk.out]; exact Fin.out true, hO3.set1 (by simp) _ _⟩

set_option maxHeartbeats 4000000 in
theorem address_any (rb sb : Nat) (ws : List (List UInt8)) (ok : Bool) (hS : Short ws) (w : World) (hR : RdB w rb sb ws ok) (hg : Gl w) (hrb : 8 ≤ rb) :
    Calls Tryz.prog 135 #[.pointer (some ⟨rb, 0, none⟩)] w fun e w' =>
      e = .returned (.int .u32 (endV 4294967295 (parseHex (ws.headD [])) : Nat)) ∧ RdB w' rb sb ws.tail (ok && !ws.isEmpty && endOk (parseHex (ws.headD []))) ∧ Only [rb] w w' := by
  have hmx := hex_max (ws.headD [])
  have hT := Lib.hid (take_any rb sb ws ok hS.1 w hR)
  have hP := Lib.hid (pub16_any (ws.headD []) hS.head)
  have hsb := hR.ne
  have hlb := hR.lt
  clear hR
  generalize ws.headD [] = x at *
  generalize endV 4294967295 (parseHex x) = v at *
  generalize endOk (parseHex x) = o at *
  have hv : (v : Int) % 4294967296 = (v : Int) := by omega
  have hv1 : (v : Int) ≤ 4294967295 := by omega
  go_enter Tryz.func135, Tryz.ntmps135
  go_wp2_with fail
  refine hT.out.mono ?_
  rintro e w1 ⟨rfl, hR1, hO1⟩
  have hg1 := hg.onlyS hO1 (by simpa using hrb)
  go_wp2_with fail
  refine (hP.out w1 hg1).mono ?_
  rintro e w2 ⟨ev, rfl, hE, hO2⟩
  have hR2 := hR1.only hO2 (by simp) (by simp)
  have hO3 : Only [rb] w w2 := hO1.trans' hO2 (by simp)
  clear hR1 hO1 hO2 hT hP hg1
  obtain ⟨k, hk⟩ : ∃ k, (ok && !ws.isEmpty) = k := ⟨_, rfl⟩
  rw [hk] at hR2
  have Hk := Lib.hid hk
  clear hk
  obtain ⟨off, hb, hl, hn, hc⟩ := hR2
  have c1 : w2.cell? ⟨rb, 1, none⟩ = some (.bool k) := hb.cell 1
  have f1 := hb.frozen 1
  have Hc := Lib.hid hc
  clear hc
  have fin : ∀ z : Bool, RdB (w2.setCell ⟨rb, 1, none⟩ (.bool z)) rb sb ws.tail z := fun z => by
    refine ⟨off, by simpa using hb.set_ 1 (.bool z), by simpa [World.setCell] using hl, hn, fun j l hj => ?_⟩
    rw [World.cell?_setCell_other _ _ _ _ (by intro h; injection h with h1 _ _; exact hn h1.symm)]
    exact Hc.out j l hj
  have Fin := Lib.hid fin
  clear fin
  cases k
  · go_wp2_with fail
    go_ret
    exact ⟨rfl, by rw [Hk.out]; exact Fin.out false, hO3.set1 (by simp) _ _⟩
  · cases o
    · obtain ⟨N, rfl⟩ : ∃ N, ev = .iface 221 (.pointer (some ⟨N, 0, none⟩)) := hE
      go_wp2_with fail
      go_ret
      exact ⟨rfl, by rw [Hk.out]; exact Fin.out false, hO3.set1 (by simp) _ _⟩
    · obtain rfl : ev = .nilIface := hE
      go_wp2_with fail
      go_ret
      exact ⟨rfl, by rw [Hk.out]; exact Fin.out true, hO3.set1 (by simp) _ _⟩
end Go.Proofs.YtagmoehjcgjnjaaGreatDoor

namespace Go.Proofs.YtagmoehjcgjnjaaGreatDoor
open Go Go.RowKit

/-- A reader's words that are left, and whether all was right. -/
abbrev Rds := List (List UInt8) × Bool
def Rds.h (p : Rds) : List UInt8 := p.1.headD []
def Rds.t (p : Rds) : Rds := (p.1.tail, p.2 && !p.1.isEmpty)
def Rds.n (p : Rds) : Rds := (p.1.tail, p.2 && !p.1.isEmpty && endOk (parseDec (p.1.headD [])))
def Rds.x (p : Rds) : Rds := (p.1.tail, p.2 && !p.1.isEmpty && endOk (parseHex (p.1.headD [])))
def Rds.nv (p : Rds) : Nat := endV 65535 (parseDec (p.1.headD []))
def Rds.xv (p : Rds) : Nat := endV 4294967295 (parseHex (p.1.headD []))
def Rds.l (p : Rds) : Rds := if p.1.headD [] = [45] then p.t else p.n
def Rds.lv (p : Rds) : Int := if p.1.headD [] = [45] then -1 else p.nv
abbrev RdP (w : World) (rb sb : Nat) (p : Rds) : Prop := RdB w rb sb p.1 p.2

theorem take_p (rb sb : Nat) (p : Rds) (hS : Short p.1) (w : World) (hR : RdP w rb sb p) :
    Calls Tryz.prog 106 #[.pointer (some ⟨rb, 0, none⟩)] w fun e w' => e = .returned (str p.h) ∧ RdP w' rb sb p.t ∧ Only [rb] w w' := take_any rb sb p.1 p.2 hS.1 w hR
theorem number_p (rb sb : Nat) (p : Rds) (hS : Short p.1) (w : World) (hR : RdP w rb sb p) (hg : Gl w) (hrb : 8 ≤ rb) :
    Calls Tryz.prog 107 #[.pointer (some ⟨rb, 0, none⟩)] w fun e w' => e = .returned (.int .i64 p.nv) ∧ RdP w' rb sb p.n ∧ Only [rb] w w' := number_any rb sb p.1 p.2 hS w hR hg hrb
theorem address_p (rb sb : Nat) (p : Rds) (hS : Short p.1) (w : World) (hR : RdP w rb sb p) (hg : Gl w) (hrb : 8 ≤ rb) :
    Calls Tryz.prog 135 #[.pointer (some ⟨rb, 0, none⟩)] w fun e w' => e = .returned (.int .u32 p.xv) ∧ RdP w' rb sb p.x ∧ Only [rb] w w' := address_any rb sb p.1 p.2 hS w hR hg hrb

theorem str_eql (a b : List UInt8) (w : World) : (binOp .eql 9 (.string ⟨a.toArray⟩) (.string ⟨b.toArray⟩)).run Tryz.prog w = .ok (.bool (decide (a = b))) w := by
  by_cases hab : a = b
  · subst hab
    simp [go_sem]
  · simp [go_sem, hab]
theorem str_neq (a b : List UInt8) (w : World) : (binOp .neq 9 (.string ⟨a.toArray⟩) (.string ⟨b.toArray⟩)).run Tryz.prog w = .ok (.bool (!decide (a = b))) w := by
  by_cases hab : a = b
  · subst hab
    simp [go_sem]
  · simp [go_sem, hab]

attribute [local go_sem ↓] str_eql str_neq

set_option maxHeartbeats 4000000 in
theorem line_p (rb sb : Nat) (p : Rds) (hS : Short p.1) (w : World) (hR : RdP w rb sb p) (hg : Gl w) (hrb : 8 ≤ rb) :
    Calls Tryz.prog 109 #[.pointer (some ⟨rb, 0, none⟩)] w fun e w' => e = .returned (.int .i64 p.lv) ∧ RdP w' rb sb p.l ∧ Only [rb] w w' := by
  have HN := Lib.hid (number_p rb sb p hS w hR hg hrb)
  have HT := Lib.hid (take_p rb sb p hS w hR)
  obtain ⟨off, hb, hl, hn, hc⟩ := hR
  have hbig := hS.1
  obtain ⟨ws, ok⟩ := p
  rcases ws with _ | ⟨x, r⟩
  · have c0 : w.cell? ⟨rb, 0, none⟩ = some (.slice (some ⟨sb, off, none⟩) 0 0) := hb.cell 0
    clear hc hbig hS
    go_enter Tryz.func109, Tryz.ntmps109
    go_wp2_with fail
    refine HN.out.mono ?_
    rintro e w1 ⟨rfl, hR1, hO1⟩
    go_wp2_with fail
    go_ret
    exact ⟨rfl, hR1, hO1⟩
  · obtain ⟨m, hm⟩ : ∃ m, r.length = m := ⟨_, rfl⟩
    have c0 : w.cell? ⟨rb, 0, none⟩ = some (.slice (some ⟨sb, off, none⟩) (m + 1) (m + 1)) := by rw [← hm]; exact hb.cell 0
    have d0 : w.cell? ⟨sb, off, none⟩ = some (str x) := hc 0 x rfl
    have hm2 : m + 1 ≤ 1000000 := by rw [← hm]; exact hbig
    clear hc hbig hS hm
    by_cases hx : x = [45]
    · subst hx
      go_enter Tryz.func109, Tryz.ntmps109
      go_wp2_with fail
      refine HT.out.mono ?_
      rintro e w1 ⟨rfl, hR1, hO1⟩
      go_wp2_with fail
      go_ret
      exact ⟨rfl, hR1, hO1⟩
    · have hd : (x == [45]) = false := by simpa using hx
      have Hx := Lib.hid hx
      clear hx
      go_enter Tryz.func109, Tryz.ntmps109
      go_wp2_with fail
      refine HN.out.mono ?_
      rintro e w1 ⟨rfl, hR1, hO1⟩
      go_wp2_with fail
      go_ret
      exact ⟨by simp [Rds.lv, Hx.out], by rw [Rds.l, if_neg (by simpa using Hx.out)]; exact hR1, hO1⟩

/-- Has a text a byte? -/
def hasB (s : List UInt8) (c : UInt8) : Bool := decide (0 ≤ Lib.indexByte s c)
/-- What is left of a reader behind a region. -/
def Rds.g (p : Rds) : Rds := if p.n.x.x.t.n.1.isEmpty then p.n.x.x.t.n else p.n.x.x.t.n.t

theorem Short.n {p : Rds} (h : Short p.1) : Short p.n.1 := h.tail
theorem Short.x {p : Rds} (h : Short p.1) : Short p.x.1 := h.tail
theorem Short.t {p : Rds} (h : Short p.1) : Short p.t.1 := h.tail

theorem has_any (s : List UInt8) (c : UInt8) (w : World) : Calls Tryz.prog 136 #[str s, .string ⟨#[c]⟩] w fun e w' => e = .returned (.bool (hasB s c)) ∧ w = w' := by
  refine (Tryz.strings_Contains_one ⟨s.toArray⟩ c w).mono ?_
  rintro e w' ⟨rfl, rfl⟩
  exact ⟨by simp [hasB], rfl⟩

end Go.Proofs.YtagmoehjcgjnjaaGreatDoor

namespace Go.Proofs.YtagmoehjcgjnjaaGreatDoor
open Go Go.RowKit

attribute [local go_sem] cell_set_map Option.map_some

set_option maxRecDepth 100000 in
set_option maxHeartbeats 8000000 in
theorem region_p (rb sb : Nat) (p : Rds) (hS : Short p.1) (w : World) (hR : RdP w rb sb p) (hg : Gl w) (hrb : 8 ≤ rb) :
    Calls Tryz.prog 108 #[.pointer (some ⟨rb, 0, none⟩)] w fun e w' =>
      e = .returned (.agg #[.bool true, .int .i64 p.nv, .int .u32 p.n.xv, .int .u32 p.n.x.xv, .bool (hasB p.n.x.x.h 114), .bool (hasB p.n.x.x.h 119), .int .i64 p.n.x.x.t.nv, .bool (!p.n.x.x.t.n.1.isEmpty)]) ∧ RdP w' rb sb p.g ∧ Only [rb] w w' := by
  have hgg : p.g = if p.n.x.x.t.n.1.isEmpty then p.n.x.x.t.n else p.n.x.x.t.n.t := rfl
  rw [hgg]
  obtain ⟨q, hq⟩ : ∃ q, p.n.x.x.t.n = q := ⟨_, rfl⟩
  have hST : Short p.n.x.x.t.n.1 := hS.n.x.x.t.n
  rw [hq] at hST ⊢
  have HQ := Lib.hid hq
  clear hq hgg
  obtain ⟨ws, ok⟩ := q
  simp only at hST
  have hrl := hR.lt
  have hsl := hR.lt2
  have hne := hR.ne
  have hO0 := (Only.refl [] w).alloc (.cells #[.bool false, .int .i64 0, .int .u32 0, .int .u32 0, .bool false, .bool false, .int .i64 0, .bool false] 29)
  have hR0 := hR.only hO0 (by simp) (by simp)
  have hg0 := hg.only hO0
  have hZ0 : Blk (w.alloc (.cells #[.bool false, .int .i64 0, .int .u32 0, .int .u32 0, .bool false, .bool false, .int .i64 0, .bool false] 29)) w.heap.size 29 #[.bool false, .int .i64 0, .int .u32 0, .int .u32 0, .bool false, .bool false, .int .i64 0, .bool false] := Blk.new' rfl rfl
  have N1 := Lib.hid (number_p rb sb p hS _ hR0 hg0 hrb)
  have v1 : (p.nv : Int) ≤ 65535 := by have := dec_max (p.1.headD []); unfold Rds.nv; omega
  have v2 : (p.n.xv : Int) ≤ 4294967295 := by have := hex_max (p.n.1.headD []); unfold Rds.xv; omega
  have v3 : (p.n.x.xv : Int) ≤ 4294967295 := by have := hex_max (p.n.x.1.headD []); unfold Rds.xv; omega
  have v4 : (p.n.x.x.t.nv : Int) ≤ 65535 := by have := dec_max (p.n.x.x.t.1.headD []); unfold Rds.nv; omega
  generalize hx1 : p.nv = x1 at *
  clear hR hR0 hg0
  go_enter Tryz.func108, Tryz.ntmps108
  go_wp2_with fail
  refine N1.out.mono ?_
  rintro e w1 ⟨rfl, hR1, hO1⟩
  have hZ1 := hO1.blk hZ0 (by simp; omega)
  have hOa : Only [rb] w w1 := (hO0.mono (by simp)).trans hO1
  have hG1 : Blk (w1.alloc (.cells #[.bool true, .int .i64 x1, .int .u32 0, .int .u32 0, .bool false, .bool false, .int .i64 0, .bool false] 29)) w1.heap.size 29 #[.bool true, .int .i64 x1, .int .u32 0, .int .u32 0, .bool false, .bool false, .int .i64 0, .bool false] := Blk.new' rfl rfl
  have hOn := (Only.refl [] w1).alloc (.cells #[.bool true, .int .i64 x1, .int .u32 0, .int .u32 0, .bool false, .bool false, .int .i64 0, .bool false] 29)
  have hR2 := hR1.only hOn (by simp) (by simp)
  have hZ2 := hOn.blk hZ1 (by simp)
  have hOb : Only [rb] w (w1.alloc (.cells #[.bool true, .int .i64 x1, .int .u32 0, .int .u32 0, .bool false, .bool false, .int .i64 0, .bool false] 29)) := hOa.trans (hOn.mono (by simp))
  have hgbl : rb < w1.heap.size := hR1.lt
  have hgbs : sb < w1.heap.size := hR1.lt2
  have hwz : w.heap.size < w1.heap.size := hZ1.lt
  go_wp2_with fail
  generalize hgb : w1.heap.size = gb at *
  generalize w1.alloc (.cells #[.bool true, .int .i64 x1, .int .u32 0, .int .u32 0, .bool false, .bool false, .int .i64 0, .bool false] 29) = W1 at *
  clear hZ1 hOa hR1 hO1 hOn
  refine (address_p rb sb p.n hS.n _ hR2 (hg.onlyS hOb (by simpa using hrb)) hrb).mono ?_
  rintro e w2 ⟨rfl, hR3, hO2⟩
  have hZ3 := hO2.blk hZ2 (by simp; omega)
  have hG3 := hO2.blk hG1 (by simp; omega)
  have hOc := hOb.trans hO2
  clear hR2 hZ2 hG1 hOb hO2
  go_wp2_with fail
  refine (address_p rb sb p.n.x hS.n.x _ hR3 (hg.onlyS hOc (by simpa using hrb)) hrb).mono ?_
  rintro e w3 ⟨rfl, hR4, hO3⟩
  have hZ4 := hO3.blk hZ3 (by simp; omega)
  have hG4 := hO3.blk hG3 (by simp; omega)
  have hOd := hOc.trans hO3
  clear hR3 hZ3 hG3 hOc hO3
  have g2 : w3.cell? ⟨gb, 2, none⟩ = some (.int .u32 0) := hG4.cell 2
  have g3 : w3.cell? ⟨gb, 3, none⟩ = some (.int .u32 0) := hG4.cell 3
  have f2 := hG4.frozen 2
  have f3 := hG4.frozen 3
  have hG5 := (hG4.set_ 2 (.int .u32 p.n.xv)).set_ 3 (.int .u32 p.n.x.xv)
  have hOs := ((Only.refl [gb] w3).set1 (b := gb) (by simp) 2 (.int .u32 p.n.xv)).set1 (b := gb) (by simp) 3 (.int .u32 p.n.x.xv)
  have hR5 := hR4.only hOs (by simp; omega) (by simp; omega)
  have hZ5 := hOs.blk hZ4 (by simp; omega)
  have hOe := hOd.trans' hOs (by simp; omega)
  have HH := Lib.hid (And.intro hG5 (And.intro hR5 (And.intro hZ5 hOe)))
  clear hG4 hR4 hZ4 hG5 hR5 hZ5 hOd hOe hOs
  go_wp2_with fail
  obtain ⟨hG5, hR5, hZ5, hOe⟩ := HH.out
  clear HH g2 g3 f2 f3
  refine (take_p rb sb p.n.x.x hS.n.x.x _ hR5).mono ?_
  rintro e w4 ⟨rfl, hR6, hO4⟩
  have hZ6 := hO4.blk hZ5 (by simp; omega)
  have hG6 := hO4.blk hG5 (by simp; omega)
  have hOf := hOe.trans hO4
  clear hR5 hZ5 hG5 hOe hO4
  simp only [List.setIfInBounds_toArray, List.set_cons_succ, List.set_cons_zero] at hG6
  have g4 : w4.cell? ⟨gb, 4, none⟩ = some (.bool false) := hG6.cell 4
  have g5 : w4.cell? ⟨gb, 5, none⟩ = some (.bool false) := hG6.cell 5
  have f4 := hG6.frozen 4
  have f5 := hG6.frozen 5
  have hG7 := (hG6.set_ 4 (.bool (hasB p.n.x.x.h 114))).set_ 5 (.bool (hasB p.n.x.x.h 119))
  have hOs := ((Only.refl [gb] w4).set1 (b := gb) (by simp) 4 (.bool (hasB p.n.x.x.h 114))).set1 (b := gb) (by simp) 5 (.bool (hasB p.n.x.x.h 119))
  have hR7 := hR6.only hOs (by simp; omega) (by simp; omega)
  have hZ7 := hOs.blk hZ6 (by simp; omega)
  have hOg := hOf.trans' hOs (by simp; omega)
  have HH := Lib.hid (And.intro hG7 (And.intro hR7 (And.intro hZ7 hOg)))
  clear hG6 hR6 hZ6 hG7 hR7 hZ7 hOf hOg hOs
  go_wp2_with (go_at_call 136; refine (has_any _ _ _).mono ?_; rintro e w' ⟨rfl, rfl⟩)
  obtain ⟨hG7, hR7, hZ7, hOg⟩ := HH.out
  clear HH g4 g5 f4 f5
  refine (number_p rb sb p.n.x.x.t hS.n.x.x.t _ hR7 (hg.onlyS hOg (by simpa using hrb)) hrb).mono ?_
  rintro e w5 ⟨rfl, hR8, hO5⟩
  have hZ8 := hO5.blk hZ7 (by simp; omega)
  have hG8 := hO5.blk hG7 (by simp; omega)
  have hOh := hOg.trans hO5
  clear hR7 hZ7 hG7 hOg hO5
  simp only [List.setIfInBounds_toArray, List.set_cons_succ, List.set_cons_zero] at hG8
  have g6 : w5.cell? ⟨gb, 6, none⟩ = some (.int .i64 0) := hG8.cell 6
  have f6 := hG8.frozen 6
  have hG9 := hG8.set_ 6 (.int .i64 p.n.x.x.t.nv)
  have hOs := (Only.refl [gb] w5).set1 (b := gb) (by simp) 6 (.int .i64 p.n.x.x.t.nv)
  have hR9 := hR8.only hOs (by simp; omega) (by simp; omega)
  have hZ9 := hOs.blk hZ8 (by simp; omega)
  have hOi := hOh.trans' hOs (by simp; omega)
  simp only [List.setIfInBounds_toArray, List.set_cons_succ, List.set_cons_zero] at hG9
  have hq := HQ.out
  rw [hq] at hR8 hR9
  have HH := Lib.hid (And.intro hG9 (And.intro hR9 (And.intro hZ9 hOi)))
  have n1 : ¬ rb = gb := by omega
  have n2 : ¬ gb = rb := by omega
  have n3 : ¬ w.heap.size = gb := by omega
  have n4 : ¬ gb = w.heap.size := by omega
  have n5 : ¬ w.heap.size = rb := by omega
  have n6 : ¬ rb = w.heap.size := by omega
  have g0 : w5.cell? ⟨gb, 0, none⟩ = some (.bool true) := hG8.cell 0
  have g1 : w5.cell? ⟨gb, 1, none⟩ = some (.int .i64 x1) := hG8.cell 1
  have g2 : w5.cell? ⟨gb, 2, none⟩ = some (.int .u32 p.n.xv) := hG8.cell 2
  have g3 : w5.cell? ⟨gb, 3, none⟩ = some (.int .u32 p.n.x.xv) := hG8.cell 3
  have g4 : w5.cell? ⟨gb, 4, none⟩ = some (.bool (hasB p.n.x.x.h 114)) := hG8.cell 4
  have g5 : w5.cell? ⟨gb, 5, none⟩ = some (.bool (hasB p.n.x.x.h 119)) := hG8.cell 5
  have g7 : w5.cell? ⟨gb, 7, none⟩ = some (.bool false) := hG8.cell 7
  have f7 := hG8.frozen 7
  have z0 : w5.cell? ⟨w.heap.size, 0, none⟩ = some (.bool false) := hZ8.cell 0
  have z1 : w5.cell? ⟨w.heap.size, 1, none⟩ = some (.int .i64 0) := hZ8.cell 1
  have z2 : w5.cell? ⟨w.heap.size, 2, none⟩ = some (.int .u32 0) := hZ8.cell 2
  have z3 : w5.cell? ⟨w.heap.size, 3, none⟩ = some (.int .u32 0) := hZ8.cell 3
  have z4 : w5.cell? ⟨w.heap.size, 4, none⟩ = some (.bool false) := hZ8.cell 4
  have z5 : w5.cell? ⟨w.heap.size, 5, none⟩ = some (.bool false) := hZ8.cell 5
  have z6 : w5.cell? ⟨w.heap.size, 6, none⟩ = some (.int .i64 0) := hZ8.cell 6
  have z7 : w5.cell? ⟨w.heap.size, 7, none⟩ = some (.bool false) := hZ8.cell 7
  have fz0 := hZ8.frozen 0
  have fz1 := hZ8.frozen 1
  have fz2 := hZ8.frozen 2
  have fz3 := hZ8.frozen 3
  have fz4 := hZ8.frozen 4
  have fz5 := hZ8.frozen 5
  have fz6 := hZ8.frozen 6
  have fz7 := hZ8.frozen 7
  have hgl := hG8.lt
  have hzl := hZ8.lt
  obtain ⟨off, hb8, -⟩ := hR8
  clear hG8 hZ8 hG9 hR9 hZ9 hOh hOi hOs HQ hq
  rcases ws with _ | ⟨y, r⟩
  · have c0 : w5.cell? ⟨rb, 0, none⟩ = some (.slice (some ⟨sb, off, none⟩) 0 0) := hb8.cell 0
    clear hb8
    go_wp2_with fail
    refine bodyPost_ret (v := .agg #[.bool true, .int .i64 x1, .int .u32 p.n.xv, .int .u32 p.n.x.xv, .bool (hasB p.n.x.x.h 114), .bool (hasB p.n.x.x.h 119), .int .i64 p.n.x.x.t.nv, .bool false]) (by simp [results, Tryz.results108, go_sem, z0, z1, z2, z3, z4, z5, z6, z7]) rfl ?_
    obtain ⟨hG9, hR9, hZ9, hOi⟩ := HH.out
    refine ⟨rfl, ?_, ?_⟩
    · exact hR9.only (S := [gb, w.heap.size]) (by repeat (first | with_reducible exact Only.refl _ _ | with_reducible refine Only.set1 ?_ (by simp) _ _)) (by simp only [List.mem_cons, List.not_mem_nil, or_false]; omega) (by simp only [List.mem_cons, List.not_mem_nil, or_false]; omega)
    · exact hOi.trans' (S' := [gb, w.heap.size]) (by repeat (first | with_reducible exact Only.refl _ _ | with_reducible refine Only.set1 ?_ (by simp) _ _)) (by intro x hx; simp only [List.mem_cons, List.not_mem_nil, or_false] at hx; intro h; omega)
  · obtain ⟨m, hm⟩ : ∃ m, r.length = m := ⟨_, rfl⟩
    have c0 : w5.cell? ⟨rb, 0, none⟩ = some (.slice (some ⟨sb, off, none⟩) (m + 1) (m + 1)) := by rw [← hm]; exact hb8.cell 0
    have hm2 : m + 1 ≤ 1000000 := by rw [← hm]; exact hST.1
    clear hb8 hm
    go_wp2_with fail
    obtain ⟨hG9, hR9, hZ9, hOi⟩ := HH.out
    have hG10 := hG9.set_ 7 (.bool true)
    have hOs : Only [gb] (w5.setCell ⟨gb, 6, none⟩ (.int .i64 p.n.x.x.t.nv)) ((w5.setCell ⟨gb, 6, none⟩ (.int .i64 p.n.x.x.t.nv)).setCell ⟨gb, 7, none⟩ (.bool true)) := (Only.refl [gb] _).set1 (b := gb) (by simp) 7 (.bool true)
    have hR10 := hR9.only hOs (by simp only [List.mem_cons, List.not_mem_nil, or_false]; omega) (by simp only [List.mem_cons, List.not_mem_nil, or_false]; omega)
    have hZ10 := hOs.blk hZ9 (by simp only [List.mem_cons, List.not_mem_nil, or_false]; omega)
    have hOj := hOi.trans' hOs (by intro x hx; simp only [List.mem_cons, List.not_mem_nil, or_false] at hx; intro h; omega)
    clear HH hG9 hR9 hZ9 hOi hOs g0 g1 g2 g3 g4 g5 g6 g7 f6 f7 z0 z1 z2 z3 z4 z5 z6 z7 fz0 fz1 fz2 fz3 fz4 fz5 fz6 fz7 c0
    refine (take_p rb sb (y :: r, ok) hST _ hR10).mono ?_
    rintro e w6 ⟨rfl, hR11, hO6⟩
    have hGc := hO6.blk hG10 (by simp only [List.mem_cons, List.not_mem_nil, or_false]; omega)
    have hZc := hO6.blk hZ10 (by simp only [List.mem_cons, List.not_mem_nil, or_false]; omega)
    have hOk := hOj.trans hO6
    simp only [List.setIfInBounds_toArray, List.set_cons_succ, List.set_cons_zero] at hGc
    have g0 : w6.cell? ⟨gb, 0, none⟩ = some (.bool true) := hGc.cell 0
    have g1 : w6.cell? ⟨gb, 1, none⟩ = some (.int .i64 x1) := hGc.cell 1
    have g2 : w6.cell? ⟨gb, 2, none⟩ = some (.int .u32 p.n.xv) := hGc.cell 2
    have g3 : w6.cell? ⟨gb, 3, none⟩ = some (.int .u32 p.n.x.xv) := hGc.cell 3
    have g4 : w6.cell? ⟨gb, 4, none⟩ = some (.bool (hasB p.n.x.x.h 114)) := hGc.cell 4
    have g5 : w6.cell? ⟨gb, 5, none⟩ = some (.bool (hasB p.n.x.x.h 119)) := hGc.cell 5
    have g6 : w6.cell? ⟨gb, 6, none⟩ = some (.int .i64 p.n.x.x.t.nv) := hGc.cell 6
    have g7 : w6.cell? ⟨gb, 7, none⟩ = some (.bool true) := hGc.cell 7
    have z0 : w6.cell? ⟨w.heap.size, 0, none⟩ = some (.bool false) := hZc.cell 0
    have z1 : w6.cell? ⟨w.heap.size, 1, none⟩ = some (.int .i64 0) := hZc.cell 1
    have z2 : w6.cell? ⟨w.heap.size, 2, none⟩ = some (.int .u32 0) := hZc.cell 2
    have z3 : w6.cell? ⟨w.heap.size, 3, none⟩ = some (.int .u32 0) := hZc.cell 3
    have z4 : w6.cell? ⟨w.heap.size, 4, none⟩ = some (.bool false) := hZc.cell 4
    have z5 : w6.cell? ⟨w.heap.size, 5, none⟩ = some (.bool false) := hZc.cell 5
    have z6 : w6.cell? ⟨w.heap.size, 6, none⟩ = some (.int .i64 0) := hZc.cell 6
    have z7 : w6.cell? ⟨w.heap.size, 7, none⟩ = some (.bool false) := hZc.cell 7
    have fz0 := hZc.frozen 0
    have fz1 := hZc.frozen 1
    have fz2 := hZc.frozen 2
    have fz3 := hZc.frozen 3
    have fz4 := hZc.frozen 4
    have fz5 := hZc.frozen 5
    have fz6 := hZc.frozen 6
    have fz7 := hZc.frozen 7
    have hgl6 := hGc.lt
    have hzl6 := hZc.lt
    clear hG10 hR10 hZ10 hOj hO6 hGc hZc
    go_wp2_with fail
    refine bodyPost_ret (v := .agg #[.bool true, .int .i64 x1, .int .u32 p.n.xv, .int .u32 p.n.x.xv, .bool (hasB p.n.x.x.h 114), .bool (hasB p.n.x.x.h 119), .int .i64 p.n.x.x.t.nv, .bool true]) (by simp [results, Tryz.results108, go_sem, z0, z1, z2, z3, z4, z5, z6, z7]) rfl ?_
    refine ⟨rfl, ?_, ?_⟩
    · exact hR11.only (S := [gb, w.heap.size]) (by repeat (first | with_reducible exact Only.refl _ _ | with_reducible refine Only.set1 ?_ (by simp) _ _)) (by simp only [List.mem_cons, List.not_mem_nil, or_false]; omega) (by simp only [List.mem_cons, List.not_mem_nil, or_false]; omega)
    · exact hOk.trans' (S' := [gb, w.heap.size]) (by repeat (first | with_reducible exact Only.refl _ _ | with_reducible refine Only.set1 ?_ (by simp) _ _)) (by intro x hx; simp only [List.mem_cons, List.not_mem_nil, or_false] at hx; intro h; omega)
end Go.Proofs.YtagmoehjcgjnjaaGreatDoor

namespace Go.Proofs.YtagmoehjcgjnjaaGreatDoor
open Go Go.RowKit

/-- A text's words, parted by one blank. -/
def wordsB (s : List UInt8) : List ByteArray := Lib.splitB ⟨#[32]⟩ 0 (Lib.countB ⟨s.toArray⟩ ⟨#[32]⟩) ⟨s.toArray⟩
def wordsOf (s : List UInt8) : List (List UInt8) := (wordsB s).map (·.data.toList)

theorem wordsOf_length (s : List UInt8) : (wordsOf s).length = Lib.countB ⟨s.toArray⟩ ⟨#[32]⟩ + 1 := by
  unfold wordsOf wordsB
  rw [List.length_map, Lib.splitB_all _ (by decide) 0 _ _ rfl]
theorem wordsB_str (s : List UInt8) : (wordsB s).map Value.string = (wordsOf s).map str := by
  unfold wordsOf
  rw [List.map_map]
  refine List.map_congr_left fun b _ => ?_
  simp

/-- The kinds' words. -/
def kindsB : List ByteArray := [⟨#[]⟩, ⟨#[114, 101, 103, 105, 111, 110]⟩, ⟨#[99, 108, 101, 97, 114]⟩, ⟨#[103, 105, 118, 101]⟩, ⟨#[116, 97, 107, 101]⟩, ⟨#[109, 111, 118, 101]⟩, ⟨#[114, 111, 117, 116, 101]⟩, ⟨#[108, 111, 99, 107]⟩]
/-- The kind that a word names. -/
def kindOf (l : List UInt8) : Int := Lib.idxOfS kindsB ⟨l.toArray⟩

/-- No command. -/
def Cf.none : Cf := ⟨0, 0, 0, 0, false, 0, 0, 0, false, false, 0, false⟩
/-- A command of a Kind, an Index, and the words behind, and what is left of these. -/
def parseC (k ix : Int) (p : Rds) : Cf × Rds :=
  if k = 1 then (⟨1, ix, 0, 0, true, p.nv, p.n.xv, p.n.x.xv, hasB p.n.x.x.h 114, hasB p.n.x.x.h 119, p.n.x.x.t.nv, !p.n.x.x.t.n.1.isEmpty⟩, p.g)
  else if k = 3 ∨ k = 5 then (⟨k, ix, p.nv, 0, false, 0, 0, 0, false, false, 0, false⟩, p.n)
  else if k = 6 then (⟨6, ix, 0, p.lv, false, 0, 0, 0, false, false, 0, false⟩, p.l)
  else (⟨k, ix, 0, 0, false, 0, 0, 0, false, false, 0, false⟩, p)
/-- The same, the Index from the words. -/
def parseK (k : Int) (p : Rds) : Cf × Rds := if k = 7 then parseC 7 0 p else parseC k p.nv p.n
/-- A text's command, if it says one, and whether all words were right. -/
def parse (s : List UInt8) : Cf × Rds := parseK (kindOf (Rds.h (wordsOf s, true))) (Rds.t (wordsOf s, true))
/-- What Read answers. -/
def readC (s : List UInt8) (r : Cf × Rds) : Cf := if r.2.2 && r.1.right && r.1.text == s then r.1 else .none
def readE (s : List UInt8) (r : Cf × Rds) : Int := if r.2.2 && r.1.right && r.1.text == s then 0 else 8

end Go.Proofs.YtagmoehjcgjnjaaGreatDoor

namespace Go.Proofs.YtagmoehjcgjnjaaGreatDoor
open Go Go.RowKit

theorem index_any (w : World) (b : Nat) (l : List UInt8) (hb : Blk w b 9 kindsV) :
    Calls Tryz.prog 105 #[.slice (some ⟨b, 0, none⟩) 8 8, str l] w fun e w' => e = .returned (.int .i64 (kindOf l)) ∧ w = w' := by
  refine (Tryz.slices_Index_string b 0 8 8 kindsB ⟨l.toArray⟩ w (by decide) (by decide) (fun j hj => ?_)).mono ?_
  · have hj' : j < 8 := hj
    rw [Nat.zero_add, hb.cell j]
    have : j = 0 ∨ j = 1 ∨ j = 2 ∨ j = 3 ∨ j = 4 ∨ j = 5 ∨ j = 6 ∨ j = 7 := by omega
    rcases this with rfl | rfl | rfl | rfl | rfl | rfl | rfl | rfl <;> rfl
  · rintro e w' ⟨rfl, rfl⟩
    exact ⟨rfl, rfl⟩

/-- What the first two statements leave. -/
def Begun (w0 : World) (rb sb : Nat) (p : Rds) (k : Int) (v : Value) (wx : World) : Prop :=
  ∃ b, v = .pointer (some ⟨b, 0, none⟩) ∧ w0.heap.size ≤ b ∧ CfB wx b ⟨k, 0, 0, 0, false, 0, 0, 0, false, false, 0, false⟩ ∧ RdP wx rb sb p ∧ Only [rb] w0 wx

theorem Cf.fits0 {c : Cf} (h1 : c.fr = 0) (h2 : c.tt = 0) : c.Fits := ⟨⟨by omega, by omega⟩, ⟨by omega, by omega⟩⟩
theorem sets8 (w : World) (b : Nat) (v0 v1 v2 v3 v4 v5 v6 v7 : Value) : Only [b] w ((((((((w.setCell ⟨b, 4, none⟩ v0).setCell ⟨b, 5, none⟩ v1).setCell ⟨b, 6, none⟩ v2).setCell ⟨b, 7, none⟩ v3).setCell ⟨b, 8, none⟩ v4).setCell ⟨b, 9, none⟩ v5).setCell ⟨b, 10, none⟩ v6).setCell ⟨b, 11, none⟩ v7) := (Only.set1 (Only.set1 (Only.set1 (Only.set1 (Only.set1 (Only.set1 (Only.set1 (Only.set1 (Only.refl [b] w) (b := b) (by simp) 4 v0) (b := b) (by simp) 5 v1) (b := b) (by simp) 6 v2) (b := b) (by simp) 7 v3) (b := b) (by simp) 8 v4) (b := b) (by simp) 9 v5) (b := b) (by simp) 10 v6) (b := b) (by simp) 11 v7)
theorem cf_region {w : World} {b : Nat} {k ix : Int} (a1 a2 a3 : Nat) (a4 a5 : Bool) (a6 : Nat) (a7 : Bool) (h : CfB w b ⟨k, ix, 0, 0, false, 0, 0, 0, false, false, 0, false⟩) :
    CfB ((((((((w.setCell ⟨b, 4, none⟩ (.bool true)).setCell ⟨b, 5, none⟩ (.int .i64 a1)).setCell ⟨b, 6, none⟩ (.int .u32 a2)).setCell ⟨b, 7, none⟩ (.int .u32 a3)).setCell ⟨b, 8, none⟩ (.bool a4)).setCell ⟨b, 9, none⟩ (.bool a5)).setCell ⟨b, 10, none⟩ (.int .i64 a6)).setCell ⟨b, 11, none⟩ (.bool a7)) b ⟨k, ix, 0, 0, true, a1, a2, a3, a4, a5, a6, a7⟩ := by
  have hB := (Blk.set_ (Blk.set_ (Blk.set_ (Blk.set_ (Blk.set_ (Blk.set_ (Blk.set_ (Blk.set_ h 4 (.bool true)) 5 (.int .i64 a1)) 6 (.int .u32 a2)) 7 (.int .u32 a3)) 8 (.bool a4)) 9 (.bool a5)) 10 (.int .i64 a6)) 11 (.bool a7))
  simp only [List.setIfInBounds_toArray, List.set_cons_succ, List.set_cons_zero] at hB
  exact hB
theorem cf_ix {w : World} {b : Nat} {k : Int} (a : Int) (h : CfB w b ⟨k, 0, 0, 0, false, 0, 0, 0, false, false, 0, false⟩) : CfB (w.setCell ⟨b, 1, none⟩ (.int .i64 a)) b ⟨k, a, 0, 0, false, 0, 0, 0, false, false, 0, false⟩ := by
  have hB := Blk.set_ h 1 (.int .i64 a)
  simp only [List.setIfInBounds_toArray, List.set_cons_succ, List.set_cons_zero] at hB
  exact hB
theorem cf_wo {w : World} {b : Nat} {k ix : Int} (a : Int) (h : CfB w b ⟨k, ix, 0, 0, false, 0, 0, 0, false, false, 0, false⟩) : CfB (w.setCell ⟨b, 2, none⟩ (.int .i64 a)) b ⟨k, ix, a, 0, false, 0, 0, 0, false, false, 0, false⟩ := by
  have hB := Blk.set_ h 2 (.int .i64 a)
  simp only [List.setIfInBounds_toArray, List.set_cons_succ, List.set_cons_zero] at hB
  exact hB
theorem cf_ln {w : World} {b : Nat} {k ix : Int} (a : Int) (h : CfB w b ⟨k, ix, 0, 0, false, 0, 0, 0, false, false, 0, false⟩) : CfB (w.setCell ⟨b, 3, none⟩ (.int .i64 a)) b ⟨k, ix, 0, a, false, 0, 0, 0, false, false, 0, false⟩ := by
  have hB := Blk.set_ h 3 (.int .i64 a)
  simp only [List.setIfInBounds_toArray, List.set_cons_succ, List.set_cons_zero] at hB
  exact hB

theorem begun_set (W2 w3 : World) (rb sb b : Nat) (p : Rds) (k : Int) (h : CfB w3 b ⟨0, 0, 0, 0, false, 0, 0, 0, false, false, 0, false⟩) (hR : RdP w3 rb sb p) (hO : Only [rb] W2 w3) (hb : W2.heap.size ≤ b) (h1 : rb < W2.heap.size) (h2 : sb < W2.heap.size) :
    Begun W2 rb sb p k (.pointer (some ⟨b, 0, none⟩)) ((((((((((((w3.setCell ⟨b, 0, none⟩ (.int .i64 k)).setCell ⟨b, 1, none⟩ (.int .i64 0)).setCell ⟨b, 2, none⟩ (.int .i64 0)).setCell ⟨b, 3, none⟩ (.int .i64 0)).setCell ⟨b, 4, none⟩ (.bool false)).setCell ⟨b, 5, none⟩ (.int .i64 0)).setCell ⟨b, 6, none⟩ (.int .u32 0)).setCell ⟨b, 7, none⟩ (.int .u32 0)).setCell ⟨b, 8, none⟩ (.bool false)).setCell ⟨b, 9, none⟩ (.bool false)).setCell ⟨b, 10, none⟩ (.int .i64 0)).setCell ⟨b, 11, none⟩ (.bool false)) := by
  have hOs := (Only.set1 (Only.set1 (Only.set1 (Only.set1 (Only.set1 (Only.set1 (Only.set1 (Only.set1 (Only.set1 (Only.set1 (Only.set1 (Only.set1 (Only.refl [b] w3) (b := b) (by simp) 0 (.int .i64 k)) (b := b) (by simp) 1 (.int .i64 0)) (b := b) (by simp) 2 (.int .i64 0)) (b := b) (by simp) 3 (.int .i64 0)) (b := b) (by simp) 4 (.bool false)) (b := b) (by simp) 5 (.int .i64 0)) (b := b) (by simp) 6 (.int .u32 0)) (b := b) (by simp) 7 (.int .u32 0)) (b := b) (by simp) 8 (.bool false)) (b := b) (by simp) 9 (.bool false)) (b := b) (by simp) 10 (.int .i64 0)) (b := b) (by simp) 11 (.bool false))
  have hB := (Blk.set_ (Blk.set_ (Blk.set_ (Blk.set_ (Blk.set_ (Blk.set_ (Blk.set_ (Blk.set_ (Blk.set_ (Blk.set_ (Blk.set_ (Blk.set_ h 0 (.int .i64 k)) 1 (.int .i64 0)) 2 (.int .i64 0)) 3 (.int .i64 0)) 4 (.bool false)) 5 (.int .i64 0)) 6 (.int .u32 0)) 7 (.int .u32 0)) 8 (.bool false)) 9 (.bool false)) 10 (.int .i64 0)) 11 (.bool false))
  simp only [List.setIfInBounds_toArray, List.set_cons_succ, List.set_cons_zero] at hB
  exact ⟨b, rfl, hb, hB, hR.only hOs (by simp; omega) (by simp; omega), hO.trans' hOs (by simp; omega)⟩
theorem begun_new (W2 w3 : World) (rb sb : Nat) (p : Rds) (k : Int) (hR : RdP w3 rb sb p) (hO : Only [rb] W2 w3) :
    Begun W2 rb sb p k (.pointer (some ⟨w3.heap.size, 0, none⟩)) (w3.alloc (.cells #[.int .i64 k, .int .i64 0, .int .i64 0, .int .i64 0, .bool false, .int .i64 0, .int .u32 0, .int .u32 0, .bool false, .bool false, .int .i64 0, .bool false] 31)) :=
  ⟨_, rfl, hO.size, Blk.new' rfl rfl, hR.only ((Only.refl [] w3).alloc _) (by simp) (by simp), hO.alloc _⟩

end Go.Proofs.YtagmoehjcgjnjaaGreatDoor
