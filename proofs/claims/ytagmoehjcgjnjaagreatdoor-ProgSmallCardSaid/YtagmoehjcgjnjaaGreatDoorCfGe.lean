/- internal/strconv.ParseUint at base 16 and 32 bits, walked. Conditions: the text is short. strconv.ParseUint as package conf calls it, walked: numbers of base 10 and 16 bits, of base 16 and 32 bits. Conditions: the text is short; the listed variables are laid. -/
import Derived.Test.YtagmoehjcgjnjaaGreatDoorCfGc
import Derived.Lib.ConvBytes
import Derived.Lib.AtoiAll
import Derived.Lib.Strings
import Derived.Laws.Strings3
import Derived.Laws.Closers25
import Derived.Laws.Closers25b
import Derived.BigCall
import Derived.BigGuard
namespace Go.Proofs.YtagmoehjcgjnjaaGreatDoor
open Go Go.RowKit

/-- A letter's byte, made small. -/
def lowI (c : UInt8) : Int := bits .or .u8 (c.toNat : Int) 32
/-- What a byte says as a digit of base 16. -/
def hexDig (c : UInt8) : Option Nat := if 48 ≤ c.toNat ∧ c.toNat ≤ 57 then some (c.toNat - 48) else if 97 ≤ lowI c ∧ lowI c ≤ 102 then some (lowI c - 87).toNat else none
/-- ParseUint at base 16, 32 bits, behind its test for the empty text. -/
def hexP (acc : Nat) : List UInt8 → Lib.NumEnd Nat
  | [] => .ok acc
  | c :: r => match hexDig c with
    | none => Lib.NumEnd.syntax
    | some d => if 4294967295 < acc * 16 + d then .range else hexP (acc * 16 + d) r
/-- What is answered. -/
def uint32T : Lib.NumEnd Nat → Value
  | .ok v => .tuple #[.int .u64 v, .nilIface]
  | Lib.NumEnd.syntax => .tuple #[.int .u64 0, .iface 219 (.int .i64 2)]
  | .range => .tuple #[.int .u64 4294967295, .iface 219 (.int .i64 1)]

theorem only_bytes (w : World) (e : TypeId) (s : ByteArray) : Only [] w (Lib.bytesWorld w e s) :=
  ⟨rfl, rfl, rfl, by rw [Lib.bytesWorld_size]; omega, fun k hk _ => Lib.bytesWorld_at_old w e s k hk⟩

set_option maxHeartbeats 32000000 in
set_option maxRecDepth 100000 in
theorem pu16_any (t : ByteArray) (hne : t.size ≠ 0) (hmax : t.size ≤ 1000000) (w : World) :
    Calls Tryz.prog 133 #[.string t, .int .i64 16, .int .i64 32] w fun e w' => e = .returned (uint32T (hexP 0 t.data.toList)) ∧ Only [] w w' := by
  have hemp : t.toList.isEmpty = false := by
    rw [← decide_eq_emptyBytes]
    exact decide_eq_false (fun h => hne (by rw [h]; rfl))
  have hcv := Lib.run_convert_string_bytes (P := Tryz.prog) w 9 105 5 t (u := .string) Tryz.underlying9 Tryz.underlying105 Tryz.underlying5
  have hB : ∀ j, j < t.size → (Lib.bytesWorld w 5 t).cell? ⟨w.heap.size, j, none⟩ = some (.int .u8 (t.data.toList.getD j 0).toNat) := fun j hj => Lib.bytesWorld_cell w 5 t j hj
  have hO := only_bytes w 5 t
  obtain ⟨W1, hW1⟩ : ∃ W1, W1 = Lib.bytesWorld w 5 t := ⟨_, rfl⟩
  rw [← hW1] at hcv hB hO
  clear hW1
  obtain ⟨bs, hL⟩ : ∃ bs, bs = t.data.toList := ⟨_, rfl⟩
  have hLn : bs.length = t.size := by rw [hL, Lib.size_eq]
  rw [← hL] at hB ⊢
  clear hL
  have hmv : IntKind.u64.wrap (IntKind.u64.wrap 4294967296 - 1) = 4294967295 := by
    rw [IntKind.wrap_u64, IntKind.wrap_u64]
    decide
  have HB := Lib.hid hB
  clear hB
  go_enter Tryz.func133, Tryz.ntmps133
  go_wp2
  go_loop [12, 13, 101] (fun vu vn vi => ∃ (k acc : Nat) (a : Int), vu = .bool false ∧ vn = .int .u64 a ∧ vi = .int .i64 k ∧ k ≤ t.size ∧ Hid (a = (acc : Int) ∧ acc < 4294967296 ∧ hexP 0 bs = hexP acc (bs.drop k)))
    (fun _ _ vi => t.size - (intOf vi).toNat)
  case atStart => exact ⟨0, 0, 0, rfl, rfl, rfl, by omega, rfl, by omega, rfl⟩
  case round =>
    obtain ⟨k, acc, a, rfl, rfl, rfl, hk, hh⟩ := hrel
    obtain ⟨ha, hacc, hdec⟩ := hh.out
    clear hh
    have a0 : 0 ≤ a := by omega
    have a1 : a < 4294967296 := by omega
    by_cases hkn : k < t.size
    · have hc := HB.out k hkn
      have hdrop : bs.drop k = bs[k]'(by omega) :: bs.drop (k + 1) := List.drop_eq_getElem_cons (by omega)
      have hget : bs.getD k 0 = bs[k]'(by omega) := by simp [List.getD, List.getElem?_eq_getElem (show k < bs.length by omega)]
      rw [hdrop] at hdec
      rw [hget] at hc
      generalize bs[k]'(by omega) = c at hc hdec
      have hc256 : c.toNat < 256 := c.toNat_lt
      clear hdrop hget
      have hlo := bits_lo_u8 .or (c.toNat : Int) 32
      have hhi := bits_hi_u8 .or (c.toNat : Int) 32
      obtain ⟨lc, hlc⟩ : ∃ lc : Int, bits .or .u8 (c.toNat : Int) 32 = lc := ⟨_, rfl⟩
      rw [hlc] at hlo hhi
      have hlI : lowI c = lc := hlc
      by_cases hdig : 48 ≤ c.toNat ∧ c.toNat ≤ 57
      · obtain ⟨hd0, hd1⟩ := hdig
        have hF : hexDig c = some (c.toNat - 48) := by unfold hexDig; rw [if_pos ⟨hd0, hd1⟩]
        clear hlI hlo hhi
        by_cases hov : 4294967295 < acc * 16 + (c.toNat - 48)
        · have hG : hexP acc (c :: bs.drop (k + 1)) = .range := by simp only [hexP, hF]; rw [if_pos hov]
          rw [hG] at hdec
          have icut : a < 1152921504606846976 := by omega
          have iov : 4294967295 < a * 16 + ((c.toNat : Int) - 48) := by omega
          have iov2 : a * 16 ≤ a * 16 + ((c.toNat : Int) - 48) := by omega
          have Hdec := Lib.hid hdec
          clear hdec hacc hF hG hov ha hlc
          go_wp2
          go_ret2
          exact ⟨by rw [Hdec.out]; rfl, hO⟩
        · have hG : hexP acc (c :: bs.drop (k + 1)) = hexP (acc * 16 + (c.toNat - 48)) (bs.drop (k + 1)) := by simp only [hexP, hF]; rw [if_neg hov]
          rw [hG] at hdec
          have HN : Hid (a * 16 + ((c.toNat : Int) - 48) = ((acc * 16 + (c.toNat - 48) : Nat) : Int) ∧ acc * 16 + (c.toNat - 48) < 4294967296 ∧ hexP 0 bs = hexP (acc * 16 + (c.toNat - 48)) (bs.drop (k + 1))) := Lib.hid ⟨by omega, by omega, hdec⟩
          have icut : a < 1152921504606846976 := by omega
          have iov : a * 16 + ((c.toNat : Int) - 48) ≤ 4294967295 := by omega
          have iov2 : a * 16 ≤ a * 16 + ((c.toNat : Int) - 48) := by omega
          clear hdec hacc hF hG hov ha hlc
          go_wp2
          refine ⟨⟨k + 1, acc * 16 + (c.toNat - 48), a * 16 + ((c.toNat : Int) - 48), rfl, (by first | rfl | (congr 1; omega)), (by first | rfl | (congr 1; omega)), by omega, HN⟩, by simp [intOf]; omega⟩
      · have hdig2 : c.toNat < 48 ∨ 57 < c.toNat := by omega
        by_cases hlet : 97 ≤ lc ∧ lc ≤ 102
        · obtain ⟨hl0, hl1⟩ := hlet
          have n95 : ¬ (c.toNat : Int) = 95 := by
            intro h
            rw [h] at hlc
            have : bits .or .u8 95 32 = 127 := by decide
            omega
          have hF : hexDig c = some (lc - 87).toNat := by unfold hexDig; rw [if_neg hdig, hlI, if_pos ⟨hl0, hl1⟩]
          clear hlI hlo hhi hdig
          by_cases hov : 4294967295 < acc * 16 + (lc - 87).toNat
          · have hG : hexP acc (c :: bs.drop (k + 1)) = .range := by simp only [hexP, hF]; rw [if_pos hov]
            rw [hG] at hdec
            have icut : a < 1152921504606846976 := by omega
            have iov : 4294967295 < a * 16 + (lc - 97 + 10) := by omega
            have iov2 : a * 16 ≤ a * 16 + (lc - 97 + 10) := by omega
            have Hdec := Lib.hid hdec
            clear hdec hacc hF hG hov ha
            rcases hdig2 with hx | hx <;>
            · go_wp2_with (go_at_call 148; refine (Tryz.internal_strconv_lower _ _).mono ?_; rintro e w' ⟨rfl, rfl⟩)
              go_ret2
              exact ⟨by rw [Hdec.out]; rfl, hO⟩
          · have hG : hexP acc (c :: bs.drop (k + 1)) = hexP (acc * 16 + (lc - 87).toNat) (bs.drop (k + 1)) := by simp only [hexP, hF]; rw [if_neg hov]
            rw [hG] at hdec
            have HN : Hid (a * 16 + (lc - 97 + 10) = ((acc * 16 + (lc - 87).toNat : Nat) : Int) ∧ acc * 16 + (lc - 87).toNat < 4294967296 ∧ hexP 0 bs = hexP (acc * 16 + (lc - 87).toNat) (bs.drop (k + 1))) := Lib.hid ⟨by omega, by omega, hdec⟩
            have icut : a < 1152921504606846976 := by omega
            have iov : a * 16 + (lc - 97 + 10) ≤ 4294967295 := by omega
            have iov2 : a * 16 ≤ a * 16 + (lc - 97 + 10) := by omega
            clear hdec hacc hF hG hov ha
            rcases hdig2 with hx | hx <;>
            · go_wp2_with (go_at_call 148; refine (Tryz.internal_strconv_lower _ _).mono ?_; rintro e w' ⟨rfl, rfl⟩)
              refine ⟨⟨k + 1, acc * 16 + (lc - 87).toNat, a * 16 + (lc - 97 + 10), rfl, (by first | rfl | (congr 1; omega)), (by first | rfl | (congr 1; omega)), by omega, HN⟩, by simp [intOf]; omega⟩
        · have hF : hexDig c = none := by unfold hexDig; rw [if_neg hdig, hlI, if_neg hlet]
          have hG : hexP acc (c :: bs.drop (k + 1)) = Lib.NumEnd.syntax := by simp only [hexP, hF]
          rw [hG] at hdec
          have Hdec := Lib.hid hdec
          have hlet2 : lc < 97 ∨ (103 ≤ lc ∧ lc ≤ 122) ∨ 122 < lc := by omega
          clear hlI hdig hdec hacc hF hG ha hlet
          by_cases n95 : (c.toNat : Int) = 95
          · have e95 : bits .or .u8 95 32 = 127 := by decide
            rw [n95] at hc
            clear hlc hdig2 hlet2 hc256
            go_wp2_with (go_at_call 148; refine (Tryz.internal_strconv_lower 95 _).mono ?_; rintro e w' ⟨rfl, rfl⟩; rw [e95])
            go_ret2
            exact ⟨by rw [Hdec.out]; rfl, hO⟩
          · rcases hdig2 with hx | hx <;> rcases hlet2 with h1 | ⟨h1, h2⟩ | h1 <;>
            · go_wp2_with (go_at_call 148; refine (Tryz.internal_strconv_lower _ _).mono ?_; rintro e w' ⟨rfl, rfl⟩)
              go_ret2
              exact ⟨by rw [Hdec.out]; rfl, hO⟩
    · have hkk : k = t.size := by omega
      subst hkk
      have hF : hexP acc (bs.drop t.size) = .ok acc := by rw [List.drop_eq_nil_of_le (by omega)]; rfl
      rw [hF] at hdec
      subst ha
      clear hacc hF a0 a1
      have Hdec := Lib.hid hdec
      clear hdec
      go_wp2
      go_ret2
      exact ⟨by rw [Hdec.out]; rfl, hO⟩
end Go.Proofs.YtagmoehjcgjnjaaGreatDoor

namespace Go.Proofs.YtagmoehjcgjnjaaGreatDoor
open Go Go.RowKit Go.Sort

/-- The number of an end. -/
def endV (mx : Nat) : Lib.NumEnd Nat → Nat
  | .ok v => v
  | Lib.NumEnd.syntax => 0
  | .range => mx
def endOk : Lib.NumEnd Nat → Bool
  | .ok _ => true
  | _ => false
/-- What stands for the error. -/
def ErrV (ok : Bool) (ev : Value) : Prop := if ok = true then ev = .nilIface else ∃ N, ev = .iface 221 (.pointer (some ⟨N, 0, none⟩))
def parseHex (l : List UInt8) : Lib.NumEnd Nat := if l = [] then Lib.NumEnd.syntax else hexP 0 l
def parseDec (l : List UInt8) : Lib.NumEnd Nat := Lib.parseUintB 16 l

theorem pub10_any (l : List UInt8) (hmax : l.length ≤ 1000000) (w : World) (hg : Gl w) :
    Calls Tryz.prog 104 #[str l, .int .i64 10, .int .i64 16] w fun e w' => ∃ ev, e = .returned (.tuple #[.int .u64 (endV 65535 (parseDec l)), ev]) ∧ ErrV (endOk (parseDec l)) ev ∧ Only [] w w' := by
  have hsz : (ByteArray.mk l.toArray).size = l.length := by simp [ByteArray.size]
  have hl : (ByteArray.mk l.toArray).data.toList = l := by simp
  unfold parseDec
  rcases h : Lib.parseUintB 16 l with u | _ | _
  · refine (Tryz.strconv_ParseUint_10_at16_ok ⟨l.toArray⟩ (by rw [hsz]; omega) u (by rw [hl]; exact h) w).mono ?_
    rintro e w' ⟨rfl, hw⟩
    refine ⟨_, rfl, rfl, ?_⟩
    rcases hw with rfl | rfl
    · exact Only.refl _ _
    · exact only_bytes w _ _
  · obtain ⟨tp, p, hv⟩ := hg.es
    refine (Tryz.strconv_ParseUint_10_at16_syntax_var ⟨l.toArray⟩ (by rw [hsz]; omega) (by rw [hl]; exact h) tp p w hv).mono ?_
    rintro e w' ⟨N, rfl, -, -, hb⟩
    exact ⟨_, rfl, ⟨N, rfl⟩, Only.of_below hb⟩
  · obtain ⟨tp, p, hv⟩ := hg.er
    refine (Tryz.strconv_ParseUint_10_at16_range_var ⟨l.toArray⟩ (by rw [hsz]; omega) (by rw [hl]; exact h) tp p w hv).mono ?_
    rintro e w' ⟨N, rfl, -, -, hb⟩
    exact ⟨_, rfl, ⟨N, rfl⟩, Only.of_below hb⟩

theorem in16_any (l : List UInt8) (hmax : l.length ≤ 1000000) (w : World) :
    Calls Tryz.prog 133 #[str l, .int .i64 16, .int .i64 32] w fun e w' => e = .returned (uint32T (parseHex l)) ∧ Only [] w w' := by
  have hsz : (ByteArray.mk l.toArray).size = l.length := by simp [ByteArray.size]
  by_cases h : l = []
  · subst h
    refine (Tryz.internal_strconv_ParseUint_empty 16 32 w).mono ?_
    rintro e w' ⟨rfl, rfl⟩
    exact ⟨rfl, Only.refl _ _⟩
  · have h1 : l.length ≠ 0 := fun e => h (List.eq_nil_of_length_eq_zero e)
    refine (pu16_any ⟨l.toArray⟩ (by rw [hsz]; exact h1) (by rw [hsz]; omega) w).mono ?_
    rintro e w' ⟨rfl, hO⟩
    exact ⟨by unfold parseHex; rw [if_neg h], hO⟩

set_option maxHeartbeats 1000000 in
theorem pub16_any (l : List UInt8) (hmax : l.length ≤ 1000000) (w : World) (hg : Gl w) :
    Calls Tryz.prog 104 #[str l, .int .i64 16, .int .i64 32] w fun e w' => ∃ ev, e = .returned (.tuple #[.int .u64 (endV 4294967295 (parseHex l)), ev]) ∧ ErrV (endOk (parseHex l)) ev ∧ Only [] w w' := by
  have Hin := Lib.hid (in16_any l hmax)
  have hsz : (ByteArray.mk l.toArray).size ≤ 281474976710656 := by simp [ByteArray.size]; omega
  rcases h : parseHex l with u | _ | _
  · rw [h] at Hin
    go_enter Tryz.func104, Tryz.ntmps104
    go_wp2_with fail
    refine (Hin.out _).mono ?_
    rintro e w1 ⟨rfl, hO⟩
    unfold uint32T
    go_wp2_with fail
    go_ret2
    exact ⟨_, rfl, rfl, hO⟩
  · rw [h] at Hin
    obtain ⟨tp, p, hv⟩ := hg.es
    go_enter Tryz.func104, Tryz.ntmps104
    go_wp2_with fail
    refine (Hin.out _).mono ?_
    rintro e w1 ⟨rfl, hO⟩
    have hv1 := var_cell (g := 4) (by kernel_rfl) (by rw [var_only hO (g := 4) (by kernel_rfl) (by have := hg.lt; omega)]; exact hv)
    unfold uint32T
    go_wp2_with fail
    refine (Tryz.strconv_toError_syntax _ _ _ _ _ _ hsz hv1 (.inr ⟨tp, p, rfl⟩)).mono ?_
    rintro e w2 ⟨N, rfl, -, -, hb⟩
    go_wp2_with fail
    go_ret2
    exact ⟨_, rfl, ⟨N, rfl⟩, hO.trans (Only.of_below hb)⟩
  · rw [h] at Hin
    obtain ⟨tp, p, hv⟩ := hg.er
    go_enter Tryz.func104, Tryz.ntmps104
    go_wp2_with fail
    refine (Hin.out _).mono ?_
    rintro e w1 ⟨rfl, hO⟩
    have hv1 := var_cell (g := 5) (by kernel_rfl) (by rw [var_only hO (g := 5) (by kernel_rfl) (by have := hg.lt; omega)]; exact hv)
    unfold uint32T
    go_wp2_with fail
    refine (Tryz.strconv_toError_range _ _ _ _ _ _ hsz hv1 (.inr ⟨tp, p, rfl⟩)).mono ?_
    rintro e w2 ⟨N, rfl, -, -, hb⟩
    go_wp2_with fail
    go_ret2
    exact ⟨_, rfl, ⟨N, rfl⟩, hO.trans (Only.of_below hb)⟩
end Go.Proofs.YtagmoehjcgjnjaaGreatDoor
