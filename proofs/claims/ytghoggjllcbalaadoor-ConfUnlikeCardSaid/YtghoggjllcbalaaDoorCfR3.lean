/- The reader of package conf: line and region, walked. Conditions: as in the texts before. -/
import Derived.Test.YtghoggjllcbalaaDoorCfR2
import Derived.Test.YtghoggjllcbalaaDoorSet
namespace Go.Proofs.YtghoggjllcbalaaDoor
open Go Go.RowKit

/-- A reader's words that are left, and whether all was right. -/
abbrev Rds := List (List UInt8) × Bool
def Rds.h (p : Rds) : List UInt8 := p.1.headD []
def Rds.t (p : Rds) : Rds := (p.1.tail, p.2 && !p.1.isEmpty)
def Rds.n (p : Rds) : Rds := (p.1.tail, p.2 && !p.1.isEmpty && endOk (parseDec (p.1.headD [])))
def Rds.x (p : Rds) : Rds := (p.1.tail, p.2 && !p.1.isEmpty && endOk (parseHex (p.1.headD [])))
def Rds.nv (p : Rds) : Nat := endV 65535 (parseDec (p.1.headD []))
def Rds.xv (p : Rds) : Nat := endV 4294967295 (parseHex (p.1.headD []))
def Rds.l (p : Rds) : Rds := if p.1.headD [] = [45] then p.t else p.n
def Rds.lv (p : Rds) : Int := if p.1.headD [] = [45] then -1 else p.nv
abbrev RdP (w : World) (rb sb : Nat) (p : Rds) : Prop := RdB w rb sb p.1 p.2

theorem take_p (rb sb : Nat) (p : Rds) (hS : Short p.1) (w : World) (hR : RdP w rb sb p) :
    Calls Tryd.prog 24 #[.pointer (some ⟨rb, 0, none⟩)] w fun e w' => e = .returned (str p.h) ∧ RdP w' rb sb p.t ∧ Only [rb] w w' := take_any rb sb p.1 p.2 hS.1 w hR
theorem number_p (rb sb : Nat) (p : Rds) (hS : Short p.1) (w : World) (hR : RdP w rb sb p) (hg : Gl w) (hrb : 8 ≤ rb) :
    Calls Tryd.prog 25 #[.pointer (some ⟨rb, 0, none⟩)] w fun e w' => e = .returned (.int .i64 p.nv) ∧ RdP w' rb sb p.n ∧ Only [rb] w w' := number_any rb sb p.1 p.2 hS w hR hg hrb
theorem address_p (rb sb : Nat) (p : Rds) (hS : Short p.1) (w : World) (hR : RdP w rb sb p) (hg : Gl w) (hrb : 8 ≤ rb) :
    Calls Tryd.prog 40 #[.pointer (some ⟨rb, 0, none⟩)] w fun e w' => e = .returned (.int .u32 p.xv) ∧ RdP w' rb sb p.x ∧ Only [rb] w w' := address_any rb sb p.1 p.2 hS w hR hg hrb

theorem str_eql (a b : List UInt8) (w : World) : (binOp .eql 9 (.string ⟨a.toArray⟩) (.string ⟨b.toArray⟩)).run Tryd.prog w = .ok (.bool (decide (a = b))) w := by
  by_cases hab : a = b
  · subst hab
    simp [go_sem]
  · simp [go_sem, hab]
theorem str_neq (a b : List UInt8) (w : World) : (binOp .neq 9 (.string ⟨a.toArray⟩) (.string ⟨b.toArray⟩)).run Tryd.prog w = .ok (.bool (!decide (a = b))) w := by
  by_cases hab : a = b
  · subst hab
    simp [go_sem]
  · simp [go_sem, hab]

attribute [local go_sem ↓] str_eql str_neq

set_option maxHeartbeats 4000000 in
theorem line_p (rb sb : Nat) (p : Rds) (hS : Short p.1) (w : World) (hR : RdP w rb sb p) (hg : Gl w) (hrb : 8 ≤ rb) :
    Calls Tryd.prog 27 #[.pointer (some ⟨rb, 0, none⟩)] w fun e w' => e = .returned (.int .i64 p.lv) ∧ RdP w' rb sb p.l ∧ Only [rb] w w' := by
  have HN := Lib.hid (number_p rb sb p hS w hR hg hrb)
  have HT := Lib.hid (take_p rb sb p hS w hR)
  obtain ⟨off, hb, hl, hn, hc⟩ := hR
  have hbig := hS.1
  obtain ⟨ws, ok⟩ := p
  rcases ws with _ | ⟨x, r⟩
  · have c0 : w.cell? ⟨rb, 0, none⟩ = some (.slice (some ⟨sb, off, none⟩) 0 0) := hb.cell 0
    clear hc hbig hS
    go_enter Tryd.func27, Tryd.ntmps27
    go_wp2_with fail
    refine HN.out.mono ?_
    rintro e w1 ⟨rfl, hR1, hO1⟩
    go_wp2_with fail
    go_ret
    exact ⟨rfl, hR1, hO1⟩
  · obtain ⟨m, hm⟩ : ∃ m, r.length = m := ⟨_, rfl⟩
    have c0 : w.cell? ⟨rb, 0, none⟩ = some (.slice (some ⟨sb, off, none⟩) (m + 1) (m + 1)) := by rw [← hm]; exact hb.cell 0
    have d0 : w.cell? ⟨sb, off, none⟩ = some (str x) := hc 0 x rfl
    have hm2 : m + 1 ≤ 1000000 := by rw [← hm]; exact hbig
    clear hc hbig hS hm
    by_cases hx : x = [45]
    · subst hx
      go_enter Tryd.func27, Tryd.ntmps27
      go_wp2_with fail
      refine HT.out.mono ?_
      rintro e w1 ⟨rfl, hR1, hO1⟩
      go_wp2_with fail
      go_ret
      exact ⟨rfl, hR1, hO1⟩
    · have hd : (x == [45]) = false := by simpa using hx
      have Hx := Lib.hid hx
      clear hx
      go_enter Tryd.func27, Tryd.ntmps27
      go_wp2_with fail
      refine HN.out.mono ?_
      rintro e w1 ⟨rfl, hR1, hO1⟩
      go_wp2_with fail
      go_ret
      exact ⟨by simp [Rds.lv, Hx.out], by rw [Rds.l, if_neg (by simpa using Hx.out)]; exact hR1, hO1⟩

/-- Has a text a byte? -/
def hasB (s : List UInt8) (c : UInt8) : Bool := decide (0 ≤ Lib.indexByte s c)
/-- What is left of a reader behind a region. -/
def Rds.g (p : Rds) : Rds := if p.n.x.x.t.n.1.isEmpty then p.n.x.x.t.n else p.n.x.x.t.n.t

theorem Short.n {p : Rds} (h : Short p.1) : Short p.n.1 := h.tail
theorem Short.x {p : Rds} (h : Short p.1) : Short p.x.1 := h.tail
theorem Short.t {p : Rds} (h : Short p.1) : Short p.t.1 := h.tail

theorem has_any (s : List UInt8) (c : UInt8) (w : World) : Calls Tryd.prog 41 #[str s, .string ⟨#[c]⟩] w fun e w' => e = .returned (.bool (hasB s c)) ∧ w = w' := by
  refine (Tryd.strings_Contains_one ⟨s.toArray⟩ c w).mono ?_
  rintro e w' ⟨rfl, rfl⟩
  exact ⟨by simp [hasB], rfl⟩

end Go.Proofs.YtghoggjllcbalaaDoor
