/- strconv.ParseUint as package conf calls it, walked: numbers of base 10 and 16 bits, of base 16 and 32 bits. Conditions: the text is short; the listed variables are laid. -/
import Derived.Test.YtghoggjllcbalaaDoorCfP
namespace Go.Proofs.YtghoggjllcbalaaDoor
open Go Go.RowKit Go.Sort

/-- The number of an end. -/
def endV (mx : Nat) : Lib.NumEnd Nat → Nat
  | .ok v => v
  | .syntax => 0
  | .range => mx
def endOk : Lib.NumEnd Nat → Bool
  | .ok _ => true
  | _ => false
/-- What stands for the error. -/
def ErrV (ok : Bool) (ev : Value) : Prop := if ok = true then ev = .nilIface else ∃ N, ev = .iface 104 (.pointer (some ⟨N, 0, none⟩))
def parseHex (l : List UInt8) : Lib.NumEnd Nat := if l = [] then .syntax else hexP 0 l
def parseDec (l : List UInt8) : Lib.NumEnd Nat := Lib.parseUintB 16 l

theorem pub10_any (l : List UInt8) (hmax : l.length ≤ 1000000) (w : World) (hg : Gl w) :
    Calls Tryd.prog 39 #[str l, .int .i64 10, .int .i64 16] w fun e w' => ∃ ev, e = .returned (.tuple #[.int .u64 (endV 65535 (parseDec l)), ev]) ∧ ErrV (endOk (parseDec l)) ev ∧ Only [] w w' := by
  have hsz : (ByteArray.mk l.toArray).size = l.length := by simp [ByteArray.size]
  have hl : (ByteArray.mk l.toArray).data.toList = l := by simp
  unfold parseDec
  cases h : Lib.parseUintB 16 l with
  | ok u =>
    refine (Tryd.strconv_ParseUint_10_at16_ok ⟨l.toArray⟩ (by rw [hsz]; omega) u (by rw [hl]; exact h) w).mono ?_
    rintro e w' ⟨rfl, hw⟩
    refine ⟨_, rfl, rfl, ?_⟩
    rcases hw with rfl | rfl
    · exact Only.refl _ _
    · exact only_bytes w _ _
  | «syntax» =>
    obtain ⟨tp, p, hv⟩ := hg.es
    refine (Tryd.strconv_ParseUint_10_at16_syntax_var ⟨l.toArray⟩ (by rw [hsz]; omega) (by rw [hl]; exact h) tp p w hv).mono ?_
    rintro e w' ⟨N, rfl, -, -, hb⟩
    exact ⟨_, rfl, ⟨N, rfl⟩, Only.of_below hb⟩
  | range =>
    obtain ⟨tp, p, hv⟩ := hg.er
    refine (Tryd.strconv_ParseUint_10_at16_range_var ⟨l.toArray⟩ (by rw [hsz]; omega) (by rw [hl]; exact h) tp p w hv).mono ?_
    rintro e w' ⟨N, rfl, -, -, hb⟩
    exact ⟨_, rfl, ⟨N, rfl⟩, Only.of_below hb⟩

theorem in16_any (l : List UInt8) (hmax : l.length ≤ 1000000) (w : World) :
    Calls Tryd.prog 56 #[str l, .int .i64 16, .int .i64 32] w fun e w' => e = .returned (uint32T (parseHex l)) ∧ Only [] w w' := by
  have hsz : (ByteArray.mk l.toArray).size = l.length := by simp [ByteArray.size]
  by_cases h : l = []
  · subst h
    refine (Tryd.internal_strconv_ParseUint_empty 16 32 w).mono ?_
    rintro e w' ⟨rfl, rfl⟩
    exact ⟨rfl, Only.refl _ _⟩
  · have h1 : l.length ≠ 0 := fun e => h (List.eq_nil_of_length_eq_zero e)
    refine (pu16_any ⟨l.toArray⟩ (by rw [hsz]; exact h1) (by rw [hsz]; omega) w).mono ?_
    rintro e w' ⟨rfl, hO⟩
    exact ⟨by unfold parseHex; rw [if_neg h], hO⟩

set_option maxHeartbeats 1000000 in
theorem pub16_any (l : List UInt8) (hmax : l.length ≤ 1000000) (w : World) (hg : Gl w) :
    Calls Tryd.prog 39 #[str l, .int .i64 16, .int .i64 32] w fun e w' => ∃ ev, e = .returned (.tuple #[.int .u64 (endV 4294967295 (parseHex l)), ev]) ∧ ErrV (endOk (parseHex l)) ev ∧ Only [] w w' := by
  have Hin := Lib.hid (in16_any l hmax)
  have hsz : (ByteArray.mk l.toArray).size ≤ 281474976710656 := by simp [ByteArray.size]; omega
  cases h : parseHex l with
  | ok u =>
    rw [h] at Hin
    go_enter Tryd.func39, Tryd.ntmps39
    go_wp2_with fail
    refine (Hin.out _).mono ?_
    rintro e w1 ⟨rfl, hO⟩
    unfold uint32T
    go_wp2_with fail
    go_ret2
    exact ⟨_, rfl, rfl, hO⟩
  | «syntax» =>
    rw [h] at Hin
    obtain ⟨tp, p, hv⟩ := hg.es
    go_enter Tryd.func39, Tryd.ntmps39
    go_wp2_with fail
    refine (Hin.out _).mono ?_
    rintro e w1 ⟨rfl, hO⟩
    have hv1 := var_cell (g := 2) (by kernel_rfl) (by rw [var_only hO (g := 2) (by kernel_rfl) (by have := hg.lt; omega)]; exact hv)
    unfold uint32T
    go_wp2_with fail
    refine (Tryd.strconv_toError_syntax _ _ _ _ _ _ hsz hv1 (.inr ⟨tp, p, rfl⟩)).mono ?_
    rintro e w2 ⟨N, rfl, -, -, hb⟩
    go_wp2_with fail
    go_ret2
    exact ⟨_, rfl, ⟨N, rfl⟩, hO.trans (Only.of_below hb)⟩
  | range =>
    rw [h] at Hin
    obtain ⟨tp, p, hv⟩ := hg.er
    go_enter Tryd.func39, Tryd.ntmps39
    go_wp2_with fail
    refine (Hin.out _).mono ?_
    rintro e w1 ⟨rfl, hO⟩
    have hv1 := var_cell (g := 3) (by kernel_rfl) (by rw [var_only hO (g := 3) (by kernel_rfl) (by have := hg.lt; omega)]; exact hv)
    unfold uint32T
    go_wp2_with fail
    refine (Tryd.strconv_toError_range _ _ _ _ _ _ hsz hv1 (.inr ⟨tp, p, rfl⟩)).mono ?_
    rintro e w2 ⟨N, rfl, -, -, hb⟩
    go_wp2_with fail
    go_ret2
    exact ⟨_, rfl, ⟨N, rfl⟩, hO.trans (Only.of_below hb)⟩
end Go.Proofs.YtghoggjllcbalaaDoor
