/- The scanner of package prog: numbers, walked. Conditions: the listed variables are laid; words are short. -/
import Derived.Test.YtagmoehjcgjnjaaGreatDoorPgN
namespace Go.Proofs.YtagmoehjcgjnjaaGreatDoor
open Go Go.RowKit Go.Sort

def parseD32 (l : List UInt8) : Lib.NumEnd Nat := Lib.parseUintB 32 l
theorem pub1032_any (l : List UInt8) (hmax : l.length ≤ 1000000) (w : World) (hg : Gl w) :
    Calls Tryz.prog 104 #[str l, .int .i64 10, .int .i64 32] w fun e w' => ∃ ev, e = .returned (.tuple #[.int .u64 (endV 4294967295 (parseD32 l)), ev]) ∧ ErrV (endOk (parseD32 l)) ev ∧ Only [] w w' := by
  have hsz : (ByteArray.mk l.toArray).size = l.length := by simp [ByteArray.size]
  have hl : (ByteArray.mk l.toArray).data.toList = l := by simp
  unfold parseD32
  rcases h : Lib.parseUintB 32 l with u | _ | _
  · refine (Tryz.strconv_ParseUint_10_at32_ok ⟨l.toArray⟩ (by rw [hsz]; omega) u (by rw [hl]; exact h) w).mono ?_
    rintro e w' ⟨rfl, hw⟩
    refine ⟨_, rfl, rfl, ?_⟩
    rcases hw with rfl | rfl
    · exact Only.refl _ _
    · exact only_bytes w _ _
  · obtain ⟨tp, p, hv⟩ := hg.es
    refine (Tryz.strconv_ParseUint_10_at32_syntax_var ⟨l.toArray⟩ (by rw [hsz]; omega) (by rw [hl]; exact h) tp p w hv).mono ?_
    rintro e w' ⟨N, rfl, -, -, hb⟩
    exact ⟨_, rfl, ⟨N, rfl⟩, Only.of_below hb⟩
  · obtain ⟨tp, p, hv⟩ := hg.er
    refine (Tryz.strconv_ParseUint_10_at32_range_var ⟨l.toArray⟩ (by rw [hsz]; omega) (by rw [hl]; exact h) tp p w hv).mono ?_
    rintro e w' ⟨N, rfl, -, -, hb⟩
    exact ⟨_, rfl, ⟨N, rfl⟩, Only.of_below hb⟩

theorem d32_max (l : List UInt8) : endV 4294967295 (parseD32 l) ≤ 4294967295 := by
  have key : ∀ (l : List UInt8) (acc u : Nat), Lib.parseUintM (2 ^ 32 - 1) acc l = .ok u → acc ≤ 4294967295 → u ≤ 4294967295 := by
    intro l
    induction l with
    | nil => intro acc u h ha; simp [Lib.parseUintM] at h; omega
    | cons c r ih =>
      intro acc u h ha
      simp only [Lib.parseUintM] at h
      split at h
      · split at h
        · cases h
        · split at h
          · cases h
          · rename_i hh
            exact ih _ u h (by omega)
      · cases h
  unfold parseD32 endV Lib.parseUintB
  split
  · rename_i v h
    split at h
    · cases h
    · exact key _ _ _ h (by omega)
  · omega
  · omega

/-- A number of a base: what it reads as, whether it is one. -/
def numP (b : Nat) (l : List UInt8) : Lib.NumEnd Nat := if b = 10 then parseD32 l else parseHex l
def numV (b : Nat) (l : List UInt8) : Nat := endV 4294967295 (numP b l)
def numK (b : Nat) (l : List UInt8) : Bool := endOk (numP b l)
theorem numV_max (b : Nat) (l : List UInt8) : numV b l ≤ 4294967295 := by
  unfold numV numP
  split
  · exact d32_max l
  · exact hex_max l
theorem parse_any (b : Nat) (hb : b = 10 ∨ b = 16) (l : List UInt8) (hl : l.length ≤ 1000000) (w : World) (hg : Gl w) :
    Calls Tryz.prog 104 #[str l, .int .i64 b, .int .i64 32] w fun e w' => ∃ ev, e = .returned (.tuple #[.int .u64 (numV b l), ev]) ∧ ErrV (numK b l) ev ∧ Only [] w w' := by
  rcases hb with rfl | rfl
  · exact pub1032_any l hl w hg
  · exact pub16_any l hl w hg

def In.withOp (x : In) (n : Int) : In := ⟨n, x.sz, x.ad, x.ix, x.dt, x.to, x.cf⟩

set_option maxHeartbeats 4000000 in
theorem pnumber_any (b : Nat) (hb : b = 10 ∨ b = 16) (rb sb : Nat) (x : In) (ws : List (List UInt8)) (hS : Short ws) (w : World) (hg : Gl w) (hrb : 8 ≤ rb) (hR : ScW w rb sb x ws) :
    Calls Tryz.prog 70 #[.pointer (some ⟨rb, 0, none⟩), .int .i64 b] w fun e w' =>
      e = .returned (.int .u32 (numV b (ws.headD []))) ∧ ScW w' rb sb (if numK b (ws.headD []) then x else x.withOp 0) ws.tail ∧ Only [rb] w w' := by
  have hT := Lib.hid (next_any rb sb x ws hS.1 w hR)
  have hP := Lib.hid (parse_any b hb (ws.headD []) hS.head)
  have hmx := numV_max b (ws.headD [])
  generalize numV b (ws.headD []) = v at *
  generalize numK b (ws.headD []) = k at *
  generalize ws.headD [] = x1 at *
  have hv : (v : Int) % 4294967296 = (v : Int) := by omega
  have hv1 : (v : Int) ≤ 4294967295 := by omega
  clear hR hS hmx
  cases k with
  | true =>
    go_enter Tryz.func70, Tryz.ntmps70
    go_wp2_with fail
    refine hT.out.mono ?_
    rintro e w1 ⟨rfl, hR1, hO1⟩
    have hg1 := hg.onlyS hO1 (by simpa using hrb)
    go_wp2_with fail
    refine (hP.out w1 hg1).mono ?_
    rintro e w2 ⟨ev, rfl, hE, hO2⟩
    obtain rfl : ev = .nilIface := hE
    have hR2 := Lib.hid (hR1.only hO2 (by simp) (by simp))
    have hO3 : Only [rb] w w2 := hO1.trans' hO2 (by simp)
    clear hR1 hO1 hO2 hT hP hg1
    go_wp2_with fail
    go_ret
    exact ⟨rfl, hR2.out, hO3⟩
  | false =>
    go_enter Tryz.func70, Tryz.ntmps70
    go_wp2_with fail
    refine hT.out.mono ?_
    rintro e w1 ⟨rfl, hR1, hO1⟩
    have hg1 := hg.onlyS hO1 (by simpa using hrb)
    go_wp2_with fail
    refine (hP.out w1 hg1).mono ?_
    rintro e w2 ⟨ev, rfl, hE, hO2⟩
    obtain ⟨N, rfl⟩ : ∃ N, ev = .iface 221 (.pointer (some ⟨N, 0, none⟩)) := hE
    have hR2' := hR1.only hO2 (by simp) (by simp)
    have c1 := hR2'.cells.2.1
    have f1 := hR2'.cells.2.2 1
    have hR2 := Lib.hid hR2'
    have hO3 : Only [rb] w w2 := hO1.trans' hO2 (by simp)
    clear hR1 hO1 hO2 hT hP hg1 hR2'
    go_wp2_with fail
    go_ret
    exact ⟨rfl, hR2.out.set 1 _ (fun _ => rfl), hO3.set1 (by simp) _ _⟩
end Go.Proofs.YtagmoehjcgjnjaaGreatDoor
