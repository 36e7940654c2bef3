/- The document's side of conf: Number, walked. Conditions: the base is 10 or 16, the number is none below nought. The document's side of conf: Of, walked. Conditions: the base is 10 or 16, at most eight digits. The document's side of conf: Words, walked. Condition: the text is short. Plain law: what the document's Read finds is what the program's finds. No program, no condition. The document's side of conf: within, Right, rights, Device, walked. No condition. The document's side of conf: Show, walked. Condition: the addresses are uint32. Show of conf, as the document tells it, walked. Condition: the addresses are uint32. -/
import Derived.Test.YtagmoehjcgjnjaaGreatDoorCfGc
import Derived.Deep.QuietTactic
import Derived.BigQuiet
import Derived.IntWalk
import Derived.LoopTactic
import Derived.Test.YtagmoehjcgjnjaaGreatDoorCfGd
import Derived.Test.YtagmoehjcgjnjaaGreatDoorCfGa
import Derived.Test.YtagmoehjcgjnjaaGreatDoorCfGi
import Derived.Deep.Light
import Derived.Deep.RegionWith
namespace Go.Proofs.YtagmoehjcgjnjaaGreatDoor
open Go Go.RowKit

theorem digit_cut : ∀ d, d < 16 → (ByteArray.mk #[48, 49, 50, 51, 52, 53, 54, 55, 56, 57, 97, 98, 99, 100, 101, 102]).extract d (d + 1) = ⟨#[hx d]⟩ := by decide
theorem str_cat (x y : List UInt8) : (ByteArray.mk x.toArray) ++ (ByteArray.mk y.toArray) = ByteArray.mk (x ++ y).toArray := by
  apply ByteArray.ext
  simp [ByteArray.data_append]
theorem str_app (x y : List UInt8) : Value.string (ByteArray.mk x.toArray ++ ByteArray.mk y.toArray) = str (x ++ y) := by rw [str_cat]
theorem rnum_len (b : Nat) (hb : 2 ≤ b) : ∀ (k n : Nat), n < b ^ (k + 1) → (numL b n).length ≤ k + 1
  | 0, n, h => by rw [numL_lt (by simpa using h)]; simp
  | k + 1, n, h => by
    by_cases hn : n < b
    · rw [numL_lt hn]; simp
    · rw [numL_ge hb (by omega)]
      have := rnum_len b hb k (n / b) (Nat.div_lt_of_lt_mul (by rw [Nat.pow_succ] at h; rw [Nat.mul_comm]; exact h))
      simp
      omega

set_option maxHeartbeats 1000000 in
theorem rnumber_10 (n : Nat) : n < 9223372036854775808 → ∀ w : World, Calls Tryz.prog 48 #[.int .i64 n, .int .i64 10] w fun e w' => e = .returned (str (numL 10 n)) ∧ Only [] w w' := by
  induction n using Nat.strongRecOn with
  | ind n ih =>
    intro hn w
    obtain ⟨d, hd⟩ : ∃ d, n % 10 = d := ⟨_, rfl⟩
    obtain ⟨q, hq⟩ : ∃ q, n / 10 = q := ⟨_, rfl⟩
    have hdi : (n : Int).tmod 10 = (d : Int) := by rw [Int.tmod_eq_emod_of_nonneg (by omega)]; omega
    have hqi : (n : Int) / 10 = (q : Int) := by omega
    have hd10 : d < 10 := by omega
    have hcut := digit_cut d (by omega)
    have h0 : (0 : Int) ≤ d := by omega
    have h1 : (d : Int) + 1 ≤ 16 := by omega
    have hw : IntKind.i64.wrap ((d : Int) + 1) = (d : Int) + 1 := IntWalk.i64_in _ (by omega)
    have h2 : (d : Int) ≤ (d : Int) + 1 := by omega
    have h3 : ((d : Int) + 1).toNat = d + 1 := by omega
    by_cases h : n < 10
    · have HL : Hid (numL 10 n = [hx d]) := Lib.hid (by rw [numL_lt h]; congr 2; omega)
      have hlt : (n : Int) < 10 := by omega
      clear ih hd hq
      go_enter Tryz.func48, Tryz.ntmps48
      go_wp2
      go_quiet (fail)
      go_wp2
      go_ret
      exact ⟨by rw [HL.out]; rfl, (Only.refl _ _).drewN _⟩
    · have HL : Hid (numL 10 n = numL 10 q ++ [hx d]) := Lib.hid (by rw [numL_ge (by omega) (by omega), hd, hq])
      have hge : ¬ (n : Int) < 10 := by omega
      have HI := Lib.hid (ih q (by omega) (by omega))
      have hlen : ¬ 9223372036854775807 < (numL 10 q).length + 1 := by
        have := rnum_len 10 (by omega) 19 q (by omega)
        omega
      clear ih hd hq
      go_enter Tryz.func48, Tryz.ntmps48
      go_wp2
      go_quiet (fail)
      go_wp2_with fail
      refine (HI.out _).mono ?_
      rintro e w' ⟨rfl, hO⟩
      go_wp2
      go_ret
      exact ⟨by rw [HL.out, ← str_app]; rfl, ((Only.refl _ _).drewN _).trans hO⟩

set_option maxHeartbeats 1000000 in
theorem rnumber_16 (n : Nat) : n < 9223372036854775808 → ∀ w : World, Calls Tryz.prog 48 #[.int .i64 n, .int .i64 16] w fun e w' => e = .returned (str (numL 16 n)) ∧ Only [] w w' := by
  induction n using Nat.strongRecOn with
  | ind n ih =>
    intro hn w
    obtain ⟨d, hd⟩ : ∃ d, n % 16 = d := ⟨_, rfl⟩
    obtain ⟨q, hq⟩ : ∃ q, n / 16 = q := ⟨_, rfl⟩
    have hdi : (n : Int).tmod 16 = (d : Int) := by rw [Int.tmod_eq_emod_of_nonneg (by omega)]; omega
    have hqi : (n : Int) / 16 = (q : Int) := by omega
    have hd10 : d < 16 := by omega
    have hcut := digit_cut d (by omega)
    have h0 : (0 : Int) ≤ d := by omega
    have h1 : (d : Int) + 1 ≤ 16 := by omega
    have hw : IntKind.i64.wrap ((d : Int) + 1) = (d : Int) + 1 := IntWalk.i64_in _ (by omega)
    have h2 : (d : Int) ≤ (d : Int) + 1 := by omega
    have h3 : ((d : Int) + 1).toNat = d + 1 := by omega
    by_cases h : n < 16
    · have HL : Hid (numL 16 n = [hx d]) := Lib.hid (by rw [numL_lt h]; congr 2; omega)
      have hlt : (n : Int) < 16 := by omega
      clear ih hd hq
      go_enter Tryz.func48, Tryz.ntmps48
      go_wp2
      go_quiet (fail)
      go_wp2
      go_ret
      exact ⟨by rw [HL.out]; rfl, (Only.refl _ _).drewN _⟩
    · have HL : Hid (numL 16 n = numL 16 q ++ [hx d]) := Lib.hid (by rw [numL_ge (by omega) (by omega), hd, hq])
      have hge : ¬ (n : Int) < 16 := by omega
      have HI := Lib.hid (ih q (by omega) (by omega))
      have hlen : ¬ 9223372036854775807 < (numL 16 q).length + 1 := by
        have := rnum_len 16 (by omega) 15 q (by omega)
        omega
      clear ih hd hq
      go_enter Tryz.func48, Tryz.ntmps48
      go_wp2
      go_quiet (fail)
      go_wp2_with fail
      refine (HI.out _).mono ?_
      rintro e w' ⟨rfl, hO⟩
      go_wp2
      go_ret
      exact ⟨by rw [HL.out, ← str_app]; rfl, ((Only.refl _ _).drewN _).trans hO⟩

theorem rnumber_zero (w : World) : Calls Tryz.prog 48 #[.int .i64 0, .int .i64 10] w fun e w' => e = .returned (str [48]) ∧ Only [] w w' := by
  have h := rnumber_10 0 (by omega) w
  rw [numL_lt (by omega)] at h
  exact h
end Go.Proofs.YtagmoehjcgjnjaaGreatDoor

namespace Go.Proofs.YtagmoehjcgjnjaaGreatDoor
open Go Go.RowKit

/-- What a byte says as a digit of base 10 or 16. -/
def rdig (b : Nat) (c : UInt8) : Option Nat := if 48 ≤ c.toNat ∧ c.toNat ≤ 57 then some (c.toNat - 48) else if b = 16 ∧ 97 ≤ c.toNat ∧ c.toNat ≤ 102 then some (c.toNat - 87) else none
/-- The same, looked for among the first k digits; -1: none. -/
def fdig (b k : Nat) (c : UInt8) : Int := match rdig b c with
  | some d => if d < k then (d : Int) else -1
  | none => -1
/-- The number that digits say. -/
def rgo (b : Nat) (acc : Nat) : List UInt8 → Option Nat
  | [] => some acc
  | c :: r => match rdig b c with
    | none => none
    | some d => rgo b (acc * b + d) r
/-- What Of answers. -/
def rOf (b most : Nat) (l : List UInt8) : Int :=
  if most < l.length then -1 else match rgo b 0 l with
  | none => -1
  | some v => if l = [] ∨ (l.head? = some 48 ∧ 1 < l.length) then -1 else v

theorem rdig_hx10 : ∀ k, k < 10 → rdig 10 (hx k) = some k := by decide
theorem rdig_hx16 : ∀ k, k < 16 → rdig 16 (hx k) = some k := by decide
theorem rdig_hx {b : Nat} (hb : b = 10 ∨ b = 16) {k : Nat} (hk : k < b) : rdig b (hx k) = some k := by
  rcases hb with rfl | rfl
  · exact rdig_hx10 k hk
  · exact rdig_hx16 k hk
theorem rdig_lt {b : Nat} (hb : b = 10 ∨ b = 16) {c : UInt8} {d : Nat} (h : rdig b c = some d) : d < b ∧ c = hx d := by
  unfold rdig at h
  split at h
  · rename_i h1
    injection h with h
    refine ⟨by omega, UInt8.toNat_inj.1 ?_⟩
    rw [hx_toNat (by omega)]
    split <;> omega
  · split at h
    · rename_i h1
      injection h with h
      refine ⟨by omega, UInt8.toNat_inj.1 ?_⟩
      rw [hx_toNat (by omega)]
      split <;> omega
    · cases h
theorem fdig_zero (b : Nat) (c : UInt8) : fdig b 0 c = -1 := by
  unfold fdig
  split <;> simp
theorem fdig_yes {b : Nat} (hb : b = 10 ∨ b = 16) {k : Nat} (hk : k < b) : fdig b (k + 1) (hx k) = k := by
  unfold fdig
  rw [rdig_hx hb hk]
  simp
theorem fdig_no {b : Nat} (hb : b = 10 ∨ b = 16) {k : Nat} {c : UInt8} (h : hx k ≠ c) : fdig b (k + 1) c = fdig b k c := by
  unfold fdig
  cases hd : rdig b c with
  | none => rfl
  | some d =>
    have := rdig_lt hb hd
    have hdk : d ≠ k := fun e => h (by rw [← e]; exact this.2.symm)
    simp only
    by_cases hlt : d < k
    · rw [if_pos (by omega), if_pos hlt]
    · rw [if_neg (by omega), if_neg hlt]
theorem fdig_all {b : Nat} (hb : b = 10 ∨ b = 16) (c : UInt8) : fdig b b c = match rdig b c with | some d => (d : Int) | none => -1 := by
  unfold fdig
  cases hd : rdig b c with
  | none => rfl
  | some d => simp only; rw [if_pos (rdig_lt hb hd).1]
theorem fdig_rng {b : Nat} (k : Nat) (hk : k ≤ b) (c : UInt8) : -1 ≤ fdig b k c ∧ fdig b k c < b := by
  unfold fdig
  split
  · split <;> omega
  · omega

theorem digs_at (k : Nat) (hk : k < 16) (h : k < (ByteArray.mk #[48, 49, 50, 51, 52, 53, 54, 55, 56, 57, 97, 98, 99, 100, 101, 102]).size) : (ByteArray.mk #[48, 49, 50, 51, 52, 53, 54, 55, 56, 57, 97, 98, 99, 100, 101, 102])[k]'h = hx k := by
  have := (show ∀ k, (h : k < 16) → (ByteArray.mk #[48, 49, 50, 51, 52, 53, 54, 55, 56, 57, 97, 98, 99, 100, 101, 102])[k]'h = hx k by decide) k hk
  exact this

set_option maxHeartbeats 4000000 in
theorem rof_walk (b : Nat) (hb : b = 10 ∨ b = 16) (most : Nat) (hm : most ≤ 8) (l : List UInt8) (hl : l.length ≤ 1000000) (w : World) :
    Calls Tryz.prog 53 #[str l, .int .i64 b, .int .i64 most] w fun e w' => e = .returned (.int .i64 (rOf b most l)) ∧ Only [] w w' := by
  by_cases hlen : most < l.length
  · have HR : Hid (rOf b most l = -1) := Lib.hid (by unfold rOf; rw [if_pos hlen])
    have hlen1 : (most : Int) < (l.length : Int) := by omega
    have hlen2 : decide ((l.length : Int) ≤ (most : Int)) = false := by simpa using hlen
    have hlen3 : (0 : Int) < (l.length : Int) := by omega
    have hlne : (l == []) = false := by cases l <;> simp at hlen3 ⊢
    go_enter Tryz.func53, Tryz.ntmps53
    go_wp2
    go_loopw [7, 8] (fun n i wr => n = .int .i64 0 ∧ i = .int .i64 0 ∧ Only [] w wr) (fun _ _ _ => 0)
    case atStart => exact ⟨rfl, rfl, Only.refl _ _⟩
    case round =>
      obtain ⟨rfl, rfl, hO⟩ := hrel
      go_wp2
      go_ret
      exact ⟨by rw [HR.out]; rfl, hO⟩
  · have hlm : l.length ≤ most := by omega
    have g1 : decide (l.length ≤ most) = true := by simpa using hlm
    have g2 : ¬ (most : Int) < (l.length : Int) := by omega
    have hl8 : l.length ≤ 8 := by omega
    have hbi : (b : Int) = 10 ∨ (b : Int) = 16 := by omega
    have HB := Lib.hid hb
    have HR : Hid (rOf b most l = match rgo b 0 l with | none => -1 | some v => if l = [] ∨ (l.head? = some 48 ∧ 1 < l.length) then -1 else v) := Lib.hid (by unfold rOf; rw [if_neg hlen])
    have hb2 : (10 : Int) ≤ b := by omega
    have hb3 : (b : Int) ≤ 16 := by omega
    clear hlen hlm hbi hb
    go_enter Tryz.func53, Tryz.ntmps53
    go_wp2
    go_loopw [7, 8] (fun n i wr => ∃ (k acc : Nat), n = .int .i64 acc ∧ i = .int .i64 k ∧ k ≤ l.length ∧ Hid (acc < 16 ^ k ∧ rgo b 0 l = rgo b acc (l.drop k)) ∧ Only [] w wr) (fun _ i _ => l.length - (intOf i).toNat)
    case atStart => exact ⟨0, 0, rfl, rfl, by omega, ⟨by simp, by simp⟩, Only.refl _ _⟩
    case round =>
      obtain ⟨k, acc, rfl, rfl, hk, hh, hO⟩ := hrel
      by_cases hkl : k < l.length
      · have hki : (k : Int) < (l.length : Int) := by omega
        have hdrop : l.drop k = l[k] :: l.drop (k + 1) := List.drop_eq_getElem_cons hkl
        have HD : Hid (rgo b 0 l = rgo b acc (l[k] :: l.drop (k + 1)) ∧ acc < 16 ^ k) := Lib.hid ⟨by rw [← hdrop]; exact hh.out.2, hh.out.1⟩
        have hsz : k < (ByteArray.mk l.toArray).size := by simpa [ByteArray.size] using hkl
        have hat : (ByteArray.mk l.toArray)[k]'hsz = l[k] := rfl
        obtain ⟨c, hc⟩ : ∃ c, l[k] = c := ⟨_, rfl⟩
        rw [hc] at HD hat
        have Hc := Lib.hid hc
        clear hdrop hc hh
        go_wp2
        go_loopw [9, 10] (fun d j wr2 => ∃ m : Nat, j = .int .i64 m ∧ m ≤ b ∧ d = .int .i64 (fdig b m c) ∧ Only [] w wr2) (fun _ j _ => b - (intOf j).toNat)
        case atStart => exact ⟨0, rfl, by omega, by rw [fdig_zero], hO⟩
        case round =>
          clear hO
          obtain ⟨m, rfl, hmb, rfl, hO⟩ := hrel
          by_cases hm2 : m < b
          · have hmi : (m : Int) < (b : Int) := by omega
            have hm16 : (m : Int) < 16 := by omega
            have hm0 : (0 : Int) ≤ m := by omega
            have hmsz : m < (ByteArray.mk #[48, 49, 50, 51, 52, 53, 54, 55, 56, 57, 97, 98, 99, 100, 101, 102]).size := by show m < 16; omega
            have hdat := digs_at m (by omega) hmsz
            by_cases he : hx m = c
            · have HF : Hid (fdig b (m + 1) c = m) := Lib.hid (by rw [← he]; exact fdig_yes HB.out hm2)
              rw [he] at hdat
              clear he
              go_wp2
              go_quiet (fail)
              go_wp2
              refine ⟨⟨m + 1, by go_num, by omega, by rw [HF.out], hO.drewN _⟩, ?_⟩
              simp [intOf]
              omega
            · have HF : Hid (fdig b (m + 1) c = fdig b m c) := Lib.hid (fdig_no HB.out he)
              have hne : ((hx m).toNat : Int) ≠ (c.toNat : Int) := by
                intro h
                exact he (UInt8.toNat_inj.1 (by omega))
              have hne1 : (((hx m).toNat : Int) == (c.toNat : Int)) = false := by simpa using hne
              clear he hne
              go_wp2
              go_quiet (fail)
              go_wp2
              refine ⟨⟨m + 1, by go_num, by omega, by rw [HF.out], hO.drewN _⟩, ?_⟩
              simp [intOf]
              omega
          · have hmb2 : m = b := by omega
            have hmi : ¬ (m : Int) < (b : Int) := by omega
            have hf := fdig_all HB.out c
            rw [← hmb2] at hf
            cases hd : rdig b c with
            | none =>
              have hF : fdig b m c = -1 := by rw [hmb2]; have := fdig_all HB.out c; rw [hd] at this; exact this
              have HZ : Hid (rOf b most l = -1) := Lib.hid (by rw [HR.out, HD.out.1]; simp only [rgo, hd])
              rw [hF]
              clear hF hf hd hmb2
              go_wp2
              go_ret
              exact ⟨by rw [HZ.out]; rfl, hO⟩
            | some d =>
              have hF : fdig b m c = (d : Int) := by rw [hmb2]; have := fdig_all HB.out c; rw [hd] at this; exact this
              have hdb := (rdig_lt HB.out hd).1
              have hacc := HD.out.2
              have hpk : 16 ^ k ≤ 16 ^ 7 := Nat.pow_le_pow_right (by omega) (by omega)
              have hb16 : b ≤ 16 := by omega
              have hab : acc * b ≤ acc * 16 := Nat.mul_le_mul_left acc hb16
              have HZ : Hid (acc * b + d < 16 ^ (k + 1) ∧ rgo b 0 l = rgo b (acc * b + d) (l.drop (k + 1))) := Lib.hid ⟨by rw [Nat.pow_succ]; omega, by rw [HD.out.1]; simp only [rgo, hd]⟩
              have hc1 : ((acc * b : Nat) : Int) = (acc : Int) * (b : Int) := by push_cast; rfl
              have hA0 : (0 : Int) ≤ (acc : Int) * (b : Int) := by rw [← hc1]; omega
              have hA1 : (acc : Int) * (b : Int) ≤ 4294967296 := by rw [← hc1]; omega
              have hB0 : (0 : Int) ≤ (acc : Int) * (b : Int) + (d : Int) := by omega
              have hB1 : (acc : Int) * (b : Int) + (d : Int) ≤ 4294967396 := by omega
              have hd0 : ¬ (d : Int) < 0 := by omega
              have HN : Hid (Value.int .i64 ((acc : Int) * (b : Int) + (d : Int)) = .int .i64 ((acc * b + d : Nat) : Int)) := Lib.hid (by rw [← hc1]; congr 1)
              rw [hF]
              clear hF hf hd hmb2 hdb hacc hpk hb16 hab hc1 HD
              go_wp2
              refine ⟨⟨k + 1, acc * b + d, HN.out, by go_num, by omega, HZ, hO⟩, ?_⟩
              simp [intOf]
              omega
      · have hkk : k = l.length := by omega
        have hki : ¬ (k : Int) < (l.length : Int) := by omega
        have HV : Hid (rOf b most l = if l = [] ∨ (l.head? = some 48 ∧ 1 < l.length) then -1 else (acc : Int)) := Lib.hid (by
          rw [HR.out, hh.out.2, List.drop_eq_nil_of_le (by omega)]
          rfl)
        clear hh HR hkk
        by_cases hnil : l = []
        · subst hnil
          go_wp2
          go_ret
          exact ⟨by rw [HV.out]; rfl, hO⟩
        · have hpos : 0 < l.length := List.length_pos_iff.2 hnil
          have hlne : (l == []) = false := by simpa using hnil
          have hl0 : (0 : Int) < (l.length : Int) := by omega
          have hsz0 : 0 < (ByteArray.mk l.toArray).size := by simpa [ByteArray.size] using hpos
          have hat : (ByteArray.mk l.toArray)[0]'hsz0 = l[0] := rfl
          have hhead : l.head? = some l[0] := by rw [← List.getElem?_eq_getElem hpos, List.head?_eq_getElem?]
          have HV2 : Hid (rOf b most l = if l[0] = 48 ∧ 1 < l.length then -1 else (acc : Int)) := Lib.hid (by
            rw [HV.out, hhead]
            simp [hnil])
          clear HV hhead hnil
          generalize l[0] = c at hat HV2
          by_cases h48 : c = 48
          · subst h48
            by_cases h1 : 1 < l.length
            · have HV3 : Hid (rOf b most l = -1) := Lib.hid (by rw [HV2.out, if_pos ⟨rfl, h1⟩])
              have h1i : (1 : Int) < (l.length : Int) := by omega
              clear HV2 h1
              go_wp2
              go_ret
              exact ⟨by rw [HV3.out]; rfl, hO⟩
            · have HV3 : Hid (rOf b most l = acc) := Lib.hid (by rw [HV2.out, if_neg (fun h => h1 h.2)])
              have h1i : ¬ (1 : Int) < (l.length : Int) := by omega
              have h1d : decide (1 < l.length) = false := by simpa using h1
              clear HV2 h1
              go_wp2
              go_ret
              exact ⟨by rw [HV3.out]; rfl, hO⟩
          · have HV3 : Hid (rOf b most l = acc) := Lib.hid (by rw [HV2.out, if_neg (fun h => h48 h.1)])
            have hne : ¬ (c.toNat : Int) = 48 := by
              intro h
              exact h48 (UInt8.toNat_inj.1 (by have : (48 : UInt8).toNat = 48 := rfl; omega))
            have hne1 : ((c.toNat : Int) == 48) = false := by simpa using hne
            clear HV2 h48 hne
            go_wp2
            go_ret
            exact ⟨by rw [HV3.out]; rfl, hO⟩

theorem rof_10_3 (l : List UInt8) (hl : l.length ≤ 1000000) (w : World) : Calls Tryz.prog 53 #[str l, .int .i64 10, .int .i64 3] w fun e w' => e = .returned (.int .i64 (rOf 10 3 l)) ∧ Only [] w w' := rof_walk 10 (.inl rfl) 3 (by omega) l hl w
theorem rof_10_2 (l : List UInt8) (hl : l.length ≤ 1000000) (w : World) : Calls Tryz.prog 53 #[str l, .int .i64 10, .int .i64 2] w fun e w' => e = .returned (.int .i64 (rOf 10 2 l)) ∧ Only [] w w' := rof_walk 10 (.inl rfl) 2 (by omega) l hl w
theorem rof_16_8 (l : List UInt8) (hl : l.length ≤ 1000000) (w : World) : Calls Tryz.prog 53 #[str l, .int .i64 16, .int .i64 8] w fun e w' => e = .returned (.int .i64 (rOf 16 8 l)) ∧ Only [] w w' := rof_walk 16 (.inr rfl) 8 (by omega) l hl w
end Go.Proofs.YtagmoehjcgjnjaaGreatDoor

namespace Go.Proofs.YtagmoehjcgjnjaaGreatDoor
open Go Go.RowKit

/-- A text's words, parted by one blank: those that are whole, the one that is under way. -/
def rwGo (acc : List (List UInt8)) (cur : List UInt8) : List UInt8 → List (List UInt8)
  | [] => acc ++ [cur]
  | c :: r => if c = 32 then rwGo (acc ++ [cur]) [] r else rwGo acc (cur ++ [c]) r
def rWords (l : List UInt8) : List (List UInt8) := rwGo [] [] l

theorem row_set {w : World} {base n g cap : Nat} {xs : List (List UInt8)} (h : w.ownsRow base 9 1 (.slice (some ⟨g, 0, none⟩) n cap) n (xs.map str)) (j : Nat) (y : List UInt8) :
    (w.setCell ⟨g, j, none⟩ (str y)).ownsRow base 9 1 (.slice (some ⟨g, 0, none⟩) n cap) n ((xs.set j y).map str) := by
  obtain ⟨h1, ⟨h2, -⟩ | ⟨g', cap', cur, hv, hb, hh, hl, hm, hs, htk⟩⟩ := h
  · simp at h2
  · have hv' := hv
    simp only [Value.slice.injEq, Option.some.injEq, Addr.mk.injEq, and_true, true_and] at hv'
    obtain ⟨rfl, rfl⟩ := hv'
    refine ⟨by simpa using h1, .inr ⟨g, cap, _, rfl, hb, Blk.set_ hh j (str y), hl, hm, by simpa using hs, ?_⟩⟩
    rw [Array.toList_setIfInBounds, List.take_set, htk, List.map_set]
theorem row_frozen {w : World} {base n g cap : Nat} {xs : List Value} (h : w.ownsRow base 9 1 (.slice (some ⟨g, 0, none⟩) n cap) n xs) (j : Nat) : w.frozen? ⟨g, j, none⟩ = false := by
  obtain ⟨h1, ⟨h2, -⟩ | ⟨g', cap', cur, hv, hb, hh, hl, hm, hs, htk⟩⟩ := h
  · simp at h2
  · have hv' := hv
    simp only [Value.slice.injEq, Option.some.injEq, Addr.mk.injEq, and_true, true_and] at hv'
    obtain ⟨rfl, rfl⟩ := hv'
    exact Blk.frozen hh j
theorem set_last (acc : List (List UInt8)) (cur y : List UInt8) : (acc ++ [cur]).set acc.length y = acc ++ [y] := by
  rw [List.set_append_right _ _ (Nat.le_refl _)]
  simp
theorem cut_one (l : List UInt8) (k : Nat) (h : k < l.length) : (ByteArray.mk l.toArray).extract k (k + 1) = ⟨#[l[k]]⟩ := by
  apply ByteArray.ext
  simp only [ByteArray.data_extract]
  apply Array.ext'
  simp [List.take_one, List.head?_drop, h]

set_option maxRecDepth 100000 in
set_option maxHeartbeats 4000000 in
theorem rwords_any (l : List UInt8) (hl : l.length ≤ 1000000) (w : World) :
    Calls Tryz.prog 52 #[str l] w fun e w' => ∃ v, e = .returned v ∧ RowOf w' w.heap.size (rWords l).length (rWords l) v ∧ Only [] w w' := by
  go_enter Tryz.func52, Tryz.ntmps52
  go_wp2
  go_loopw [3, 4] (fun s i wr => ∃ (k g cap : Nat) (acc : List (List UInt8)) (cur : List UInt8), i = .int .i64 k ∧ k ≤ l.length ∧ s = .slice (some ⟨g, 0, none⟩) (acc.length + 1) cap ∧ w.heap.size ≤ g ∧ Hid (rWords l = rwGo acc cur (l.drop k)) ∧ acc.length ≤ k ∧ cur.length ≤ k ∧
    wr.ownsRow w.heap.size 9 1 (.slice (some ⟨g, 0, none⟩) (acc.length + 1) cap) (acc.length + 1) ((acc ++ [cur]).map str) ∧ Only [] w wr) (fun _ i _ => l.length - (intOf i).toNat)
  case atStart =>
    refine ⟨0, _, _, [], [], rfl, by omega, rfl, Nat.le_refl _, rfl, by simp, by simp, ?_, (Only.refl _ _).alloc _⟩
    obtain ⟨g, cap, hv, -, ho⟩ := rowof_one (wx := w.alloc (.cells #[str []] 9)) (base := w.heap.size) (Blk.new' rfl rfl) (Nat.le_refl _)
    injection hv with h1 h2 h3
    injection h1 with h1
    injection h1 with h1
    subst h1
    subst h3
    exact ho
  case round =>
    obtain ⟨k, g, cap, acc, cur, rfl, hk, rfl, hgb, hh, hac, hcu, hown, hO⟩ := hrel
    by_cases hkl : k < l.length
    · have hki : (k : Int) < (l.length : Int) := by omega
      have hdrop : l.drop k = l[k] :: l.drop (k + 1) := List.drop_eq_getElem_cons hkl
      have HD : Hid (rWords l = rwGo acc cur (l[k] :: l.drop (k + 1))) := Lib.hid (by rw [← hdrop]; exact hh.out)
      have hsz : k < (ByteArray.mk l.toArray).size := by simpa [ByteArray.size] using hkl
      have hat : (ByteArray.mk l.toArray)[k]'hsz = l[k] := rfl
      have hcut := cut_one l k hkl
      generalize l[k] = c at HD hat hcut
      have hlt := (row_cells hown).1
      clear hdrop hh
      by_cases h32 : c = 32
      · subst h32
        have HN : Hid (rWords l = rwGo (acc ++ [cur]) [] (l.drop (k + 1))) := Lib.hid (by rw [HD.out]; simp only [rwGo, if_true])
        clear HD hcut
        obtain ⟨i0, hi0, hz0, hz1, hz2⟩ := info_parts infoString
        have hbw : w.heap.size ≤ (wr.alloc (.cells #[str []] 9)).heap.size := by have := hO.size; simp; omega
        have hlt2 := (row_cells hown).2.1
        have hcap : acc.length + 1 + 1 ≤ 1000002 := by omega
        go_wp2_with (at_builtin; refine wpList_append_own _ rfl _ _ 43 rfl w.heap.size 9 i0 (.string ⟨#[]⟩) 1 16 Tryz.underlying43 hi0 hz0 hz1 hz2 rfl (by decide) _ (acc.length + 1) _ rfl (row_only hown ((Only.refl [] wr).alloc _) (by simp)) ⟨wr.heap.size, 0, none⟩ 1 1 [str []] rfl rfl ?c1 ?c2 ?c3 ?c4 hbw ?_)
        case c1 => exact news_blk (Blk.new' rfl rfl) rfl
        case c2 => exact one_cell _
        case c3 => unfold maxLen; omega
        case c4 => omega
        intro v' w4 hown4 hgrow _
        obtain ⟨g2, cap2, rfl, hgb2, hgl2, -⟩ := row_form hown4 (by omega)
        have hOn : Only [g] _ w4 := grown_only hgrow
        have hO4 : Only [] w w4 := (hO.alloc _).trans' hOn (by simp; omega)
        clear hgrow hOn hz0 hz1 hz2 hi0 hown hO hlt2 hcap
        go_wp2_with fail
        refine ⟨⟨k + 1, g2, cap2, acc ++ [cur], [], by go_num, by omega, by simp, hgb2, HN, by simp; omega, by simp, ?_, hO4⟩, ?_⟩
        · simpa using hown4
        · simp [intOf]
          omega
      · have HN : Hid (rWords l = rwGo acc (cur ++ [c]) (l.drop (k + 1))) := Lib.hid (by rw [HD.out]; simp only [rwGo, if_neg h32])
        have hne : ¬ (c.toNat : Int) = 32 := by
          intro h
          exact h32 (UInt8.toNat_inj.1 (by have : (32 : UInt8).toNat = 32 := rfl; omega))
        have hne1 : ((c.toNat : Int) == 32) = false := by simpa using hne
        clear HD h32 hne
        have h1 : (k : Int) + 1 ≤ (l.length : Int) := by omega
        have h2 : (k : Int) ≤ (k : Int) + 1 := by omega
        have h3 : ((k : Int) + 1).toNat = k + 1 := by omega
        have h4 : ((acc.length : Int) + 1 - 1).toNat = acc.length := by omega
        have h5 : IntKind.i64.wrap ((k : Int) + 1) = (k : Int) + 1 := IntWalk.i64_in _ (by omega)
        have hcl := (row_cells hown).2.1
        have a1 : (acc.length : Int) < (acc.length : Int) + 1 := by omega
        have a2 : (0 : Int) ≤ (acc.length : Int) := by omega
        have a3 : acc.length < acc.length + 1 := by omega
        have a4 : (acc.length : Int) ≤ 1000000 := by omega
        have h6 : IntKind.i64.wrap (acc.length : Int) = (acc.length : Int) := IntWalk.i64_in _ (by omega)
        have a5 : ¬ 9223372036854775807 < cur.length + 1 := by omega
        go_wp2_with fail
        refine wp_region_TT 17 (Only [] wr) (by kernel_rfl) (by kernel_rfl) ((Only.refl _ _).drew) ?_
        simp only [List.take_succ_cons, List.take_zero, List.drop_succ_cons, List.drop_zero]
        repeat (
          refine wpT_step ?_ (stD rfl (fun w' hD => ?_)) ?_
          rotate_left
          · have hr := (row_cells (row_only hown hD (by simp))).2.2.2 acc.length cur (by simp)
            go_simp
            (refine ⟨?_, hD⟩; rfl)
          simp only [Act.put, List.setIfInBounds_toArray, List.set_cons_succ, List.set_cons_zero, Nat.reduceAdd])
        refine wpT_nil ?_
        intro w6 hD
        have hown6 := row_only hown hD (by simp)
        have hr := (row_cells hown6).2.2.2 acc.length cur (by simp)
        have hf := row_frozen hown6 acc.length
        have hs1 := row_set hown6 acc.length (cur ++ [c])
        rw [set_last] at hs1
        have hO7 : Only [] w (w6.setCell ⟨g, acc.length, none⟩ (str (cur ++ [c]))) := (hO.trans hD).trans' (Only.set1 (Only.refl [g] w6) (b := g) (by simp) acc.length (str (cur ++ [c]))) (by intro x hx; simp at hx; omega)
        have he : Value.string (ByteArray.mk cur.toArray ++ ByteArray.mk #[c]) = str (cur ++ [c]) := str_app cur [c]
        have HS := Lib.hid (And.intro hs1 hO7)
        clear hs1 hO7 hown6 hD hown hO
        rw [he]
        clear he
        go_wp2_with fail
        refine ⟨⟨k + 1, g, cap, acc, cur ++ [c], by go_num, by omega, rfl, hgb, HN, by omega, by simp; omega, HS.out.1, HS.out.2⟩, ?_⟩
        simp [intOf]
        omega
    · have hkk : k = l.length := by omega
      have hki : ¬ (k : Int) < (l.length : Int) := by omega
      have HV : Hid (rWords l = acc ++ [cur]) := Lib.hid (by rw [hh.out, List.drop_eq_nil_of_le (by omega)]; rfl)
      clear hh hkk
      go_wp2
      go_ret
      refine ⟨_, rfl, ?_, hO⟩
      rw [HV.out]
      exact ⟨g, cap, by simp, hgb, by simpa using hown⟩
end Go.Proofs.YtagmoehjcgjnjaaGreatDoor

namespace Go.Proofs.YtagmoehjcgjnjaaGreatDoor
open Go

theorem rwGo_app : ∀ (x : List UInt8) (acc : List (List UInt8)) (cur r : List UInt8), NoB x → rwGo acc cur (x ++ r) = rwGo acc (cur ++ x) r
  | [], acc, cur, r, _ => by simp
  | c :: x, acc, cur, r, h => by
    have hc : c ≠ 32 := h c (by simp)
    rw [List.cons_append, rwGo, if_neg hc, rwGo_app x acc (cur ++ [c]) r (fun d hd => h d (by simp [hd]))]
    simp
theorem rwGo_join : ∀ (r : List (List UInt8)) (x : List UInt8) (acc : List (List UInt8)), (∀ y ∈ x :: r, NoB y) → rwGo acc [] (Lib.join (x :: r) [32]) = acc ++ x :: r
  | [], x, acc, h => by
    rw [Lib.join_one]
    have := rwGo_app x acc [] [] (h x (by simp))
    rw [List.append_nil] at this
    rw [this]
    simp [rwGo]
  | y :: r, x, acc, h => by
    rw [join_two, rwGo_app x acc [] _ (h x (by simp)), rwGo, if_pos rfl, rwGo_join r y _ (fun z hz => h z (by simp at hz ⊢; exact .inr hz))]
    simp
theorem rWords_join (x : List UInt8) (r : List (List UInt8)) (h : ∀ y ∈ x :: r, NoB y) : rWords (Lib.join (x :: r) [32]) = x :: r := by
  have := rwGo_join r x [] h
  simpa [rWords] using this

theorem rwGo_len (M : Nat) : ∀ (l : List UInt8) (acc : List (List UInt8)) (cur : List UInt8), (∀ y ∈ acc, y.length ≤ M) → cur.length + l.length ≤ M → ∀ y ∈ rwGo acc cur l, y.length ≤ M
  | [], acc, cur, h1, h2, y, hy => by
    simp only [rwGo, List.mem_append, List.mem_cons, List.not_mem_nil, or_false] at hy
    rcases hy with hy | rfl
    · exact h1 y hy
    · simpa using h2
  | c :: r, acc, cur, h1, h2, y, hy => by
    simp only [List.length_cons] at h2
    unfold rwGo at hy
    split at hy
    · refine rwGo_len M r _ _ (fun z hz => ?_) (by simp; omega) y hy
      simp only [List.mem_append, List.mem_cons, List.not_mem_nil, or_false] at hz
      rcases hz with hz | rfl
      · exact h1 z hz
      · omega
    · exact rwGo_len M r _ _ h1 (by simp; omega) y hy
theorem rWords_len (s : List UInt8) (k : Nat) : ((rWords s).getD k []).length ≤ s.length := by
  rw [List.getD_eq_getElem?_getD]
  cases h : (rWords s)[k]? with
  | none => simp
  | some y => exact rwGo_len s.length s [] [] (by simp) (by simp) y (List.mem_of_getElem? h)
theorem rgo_app (b : Nat) : ∀ (x : List UInt8) (acc : Nat) (r : List UInt8), rgo b acc (x ++ r) = match rgo b acc x with | none => none | some v => rgo b v r
  | [], acc, r => rfl
  | c :: x, acc, r => by
    simp only [List.cons_append, rgo]
    cases rdig b c with
    | none => rfl
    | some d => exact rgo_app b x _ r
theorem rgo_num {b : Nat} (hb : b = 10 ∨ b = 16) (n : Nat) : rgo b 0 (numL b n) = some n := by
  induction n using Nat.strongRecOn with
  | ind n ih =>
    by_cases h : n < b
    · rw [numL_lt h]
      simp only [rgo, rdig_hx hb h]
      simp
    · rw [numL_ge (by omega) (by omega), rgo_app, ih (n / b) (Nat.div_lt_self (by omega) (by omega))]
      simp only [rgo, rdig_hx hb (Nat.mod_lt n (by omega))]
      congr 1
      exact Nat.div_add_mod' n b
theorem hx_zero : ∀ d, d < 16 → hx d = 48 → d = 0 := by decide
theorem num_head {b : Nat} (hb : b = 10 ∨ b = 16) (n : Nat) : 0 < n → (numL b n).head? ≠ some 48 := by
  induction n using Nat.strongRecOn with
  | ind n ih =>
    intro hn
    by_cases h : n < b
    · rw [numL_lt h]
      simp only [List.head?_cons]
      intro e
      injection e with e
      have := hx_zero n (by omega) e
      omega
    · have h2 := ih (n / b) (Nat.div_lt_self (by omega) (by omega)) (Nat.div_pos (by omega) (by omega))
      rw [numL_ge (by omega) (by omega), List.head?_append]
      cases hq : (numL b (n / b)).head? with
      | none => exact absurd (List.head?_eq_none_iff.1 hq) (numL_ne _ _)
      | some c =>
        rw [hq] at h2
        exact h2
theorem rOf_num {b : Nat} (hb : b = 10 ∨ b = 16) {most n : Nat} (h : (numL b n).length ≤ most) : rOf b most (numL b n) = n := by
  unfold rOf
  rw [if_neg (by omega), rgo_num hb]
  simp only
  rw [if_neg]
  rintro (h1 | ⟨h1, h2⟩)
  · exact numL_ne _ _ h1
  · by_cases hn : n = 0
    · subst hn
      rw [numL_lt (by omega)] at h2
      simp at h2
    · exact num_head hb n (by omega) h1

/-- The first words, by their kinds. -/
def rkn (w : List UInt8) : Nat :=
  if w = kindW 1 then 1 else if w = kindW 2 then 2 else if w = kindW 3 then 3 else if w = kindW 4 then 4 else if w = kindW 5 then 5 else if w = kindW 6 then 6 else if w = kindW 7 then 7 else 0
/-- A number made a uint32. -/
def mod32 (n : Int) : Int := n % 4294967296
/-- A word, or the empty one. -/
def wAt (ws : List (List UInt8)) (k : Nat) : List UInt8 := ws.getD k []
/-- The command that the document's Read makes of words. -/
def rcand (ws : List (List UInt8)) : Cf :=
  let a := wAt ws
  if rkn (a 0) = 1 then ⟨1, rOf 10 3 (a 1), 0, 0, true, rOf 10 2 (a 2), mod32 (rOf 16 8 (a 3)), mod32 (rOf 16 8 (a 4)), (a 5 == [114]) || (a 5 == [114, 119]), (a 5 == [119]) || (a 5 == [114, 119]), rOf 10 3 (a 6), a 7 == [108, 111, 99, 107, 101, 100]⟩
  else if rkn (a 0) = 3 ∨ rkn (a 0) = 5 then ⟨rkn (a 0), rOf 10 3 (a 1), rOf 10 2 (a 2), 0, false, 0, 0, 0, false, false, 0, false⟩
  else if rkn (a 0) = 6 then ⟨6, rOf 10 3 (a 1), 0, rOf 10 2 (a 2), false, 0, 0, 0, false, false, 0, false⟩
  else if rkn (a 0) = 7 then ⟨7, 0, 0, 0, false, 0, 0, 0, false, false, 0, false⟩
  else ⟨rkn (a 0), rOf 10 3 (a 1), 0, 0, false, 0, 0, 0, false, false, 0, false⟩
theorem mod32_fits (n : Int) : 0 ≤ mod32 n ∧ mod32 n < 4294967296 := by unfold mod32; omega
theorem rcand_fits (ws : List (List UInt8)) : (rcand ws).Fits := by
  have h0 : ∀ c : Cf, c.fr = 0 → c.tt = 0 → c.Fits := fun c h1 h2 => ⟨⟨by omega, by omega⟩, ⟨by omega, by omega⟩⟩
  unfold rcand
  simp only
  split
  · exact ⟨mod32_fits _, mod32_fits _⟩
  · repeat' split
    all_goals exact h0 _ rfl rfl

theorem rw_yes (rd wt : Bool) : ((rightsL rd wt == [114]) || (rightsL rd wt == [114, 119])) = rd ∧ ((rightsL rd wt == [119]) || (rightsL rd wt == [114, 119])) = wt := by
  cases rd <;> cases wt <;> decide
theorem mod32_nat {n : Nat} (h : n < 4294967296) : mod32 (n : Int) = n := by unfold mod32; omega
theorem numL_l {b : Nat} (hb : b = 10 ∨ b = 16) (k n : Nat) (h : n < b ^ (k + 1)) : (numL b n).length ≤ k + 1 := numL_len b (by omega) k n h

/-- A right command's words say it. -/
theorem rcand_words {c : Cf} (h : Shape c) : rcand c.words = c := by
  cases h with
  | region ix rw rk fr tt rd wt lk h1 h2 h3 h4 h5 =>
    have e1 := rOf_num (b := 10) (.inl rfl) (numL_l (.inl rfl) 2 ix (by omega))
    have e2 := rOf_num (b := 10) (.inl rfl) (numL_l (.inl rfl) 1 rw (by omega))
    have e3 := rOf_num (b := 16) (.inr rfl) (numL_l (.inr rfl) 7 fr h4)
    have e4 := rOf_num (b := 16) (.inr rfl) (numL_l (.inr rfl) 7 tt h5)
    have e5 := rOf_num (b := 10) (.inl rfl) (numL_l (.inl rfl) 2 rk (by omega))
    have hk : rkn (kindW 1) = 1 := by decide
    have hr := rw_yes rd wt
    cases lk <;> simp [rcand, wAt, Cf.words, hk, dec, hexa, e1, e2, e3, e4, e5, hr.1, hr.2, mod32_nat h4, mod32_nat h5] <;> exact ⟨by simpa using hr.1, by simpa using hr.2⟩
  | one k ix hk h1 =>
    have e1 := rOf_num (b := 10) (.inl rfl) (numL_l (.inl rfl) 2 ix (by omega))
    have k2 : rkn (kindW 2) = 2 := by decide
    have k4 : rkn (kindW 4) = 4 := by decide
    rcases hk with rfl | rfl <;> simp [rcand, wAt, Cf.words, k2, k4, dec, e1]
  | two k ix wo hk h1 h2 =>
    have e1 := rOf_num (b := 10) (.inl rfl) (numL_l (.inl rfl) 2 ix (by omega))
    have e2 := rOf_num (b := 10) (.inl rfl) (numL_l (.inl rfl) 1 wo (by omega))
    have k3 : rkn (kindW 3) = 3 := by decide
    have k5 : rkn (kindW 5) = 5 := by decide
    rcases hk with rfl | rfl <;> simp [rcand, wAt, Cf.words, k3, k5, dec, e1, e2]
  | route ix ln h1 h2 h3 =>
    have e1 := rOf_num (b := 10) (.inl rfl) (numL_l (.inl rfl) 2 ix (by omega))
    have k6 : rkn (kindW 6) = 6 := by decide
    by_cases hn : ln < 0
    · have : ln = -1 := by omega
      subst this
      have e2 : rOf 10 2 [45] = -1 := by decide
      simp [rcand, wAt, Cf.words, k6, dec, e1, lineL, e2]
    · obtain ⟨m, rfl⟩ : ∃ m : Nat, ln = m := ⟨ln.toNat, by omega⟩
      have e2 := rOf_num (b := 10) (.inl rfl) (numL_l (.inl rfl) 1 m (by omega))
      simp [rcand, wAt, Cf.words, k6, dec, e1, lineL, hn, e2]
  | lock =>
    have k7 : rkn (kindW 7) = 7 := by decide
    simp [rcand, wAt, Cf.words, k7]
theorem words_noB {c : Cf} : ∃ x r, c.words = x :: r ∧ ∀ y ∈ x :: r, NoB y := by
  have h1 : ∀ n, NoB (dec n) := fun n => numL_noB (by omega) (by omega) _
  have h2 : ∀ n, NoB (hexa n) := fun n => numL_noB (by omega) (by omega) _
  have h3 : NoB [108, 111, 99, 107, 101, 100] := by intro c hc; simp at hc; rcases hc with rfl | rfl | rfl | rfl | rfl | rfl <;> decide
  have h4 : ∀ n, NoB (lineL n) := by
    intro n
    unfold lineL
    split
    · intro c hc; simp at hc; subst hc; decide
    · exact numL_noB (by omega) (by omega) _
  unfold Cf.words
  split
  · rw [List.cons_append]
    refine ⟨_, _, rfl, ?_⟩
    intro y hy
    simp only [List.cons_append, List.nil_append, List.mem_cons] at hy
    rcases hy with rfl | rfl | rfl | rfl | rfl | rfl | rfl | hy
    · exact kind_noB _
    · exact h1 _
    · exact h1 _
    · exact h2 _
    · exact h2 _
    · exact rights_noB _ _
    · exact h1 _
    · split at hy
      · simp at hy
        subst hy
        exact h3
      · cases hy
  · repeat' split
    all_goals
      refine ⟨_, _, rfl, ?_⟩
      intro y hy
      simp only [List.mem_cons, List.not_mem_nil, or_false] at hy
    · rcases hy with rfl | rfl
      · exact kind_noB _
      · exact h1 _
    · rcases hy with rfl | rfl | rfl
      · exact kind_noB _
      · exact h1 _
      · exact h1 _
    · rcases hy with rfl | rfl | rfl
      · exact kind_noB _
      · exact h1 _
      · exact h4 _
    · subst hy
      exact kind_noB _
theorem rcand_text {c : Cf} (h : Shape c) : rcand (rWords c.text) = c := by
  obtain ⟨x, r, hw, hn⟩ := words_noB (c := c)
  have : rWords c.text = c.words := by
    unfold Cf.text
    rw [hw]
    exact rWords_join x r hn
  rw [this]
  exact rcand_words h

/-- What the document's Read answers. -/
def rres (s : List UInt8) : Bool := decide (s.length ≤ 100) && (rcand (rWords s)).right && (rcand (rWords s)).text == s
theorem rres_yes {s : List UInt8} (h : rres s = true) : Says s (rcand (rWords s)) := by
  simp only [rres, Bool.and_eq_true, beq_iff_eq] at h
  exact ⟨rcand_fits _, h.1.2, h.2⟩
theorem rres_says {s : List UInt8} {c : Cf} (h : Says s c) : rres s = true ∧ rcand (rWords s) = c := by
  obtain ⟨h1, h2, h3⟩ := h
  have hs := Shape.of c h1 h2
  have hc := rcand_text hs
  rw [h3] at hc
  have hl := text_len hs
  rw [h3] at hl
  refine ⟨?_, hc⟩
  simp only [rres, Bool.and_eq_true, beq_iff_eq, decide_eq_true_eq]
  rw [hc]
  exact ⟨⟨by omega, h2⟩, h3⟩
theorem rres_read (s : List UInt8) : (if rres s then rcand (rWords s) else Cf.none) = readC s (parse s) ∧ (if rres s then 0 else 8) = readE s (parse s) := by
  cases hr : rres s with
  | true =>
    have h := read_yes (rres_yes hr)
    rw [h.1, h.2]
    exact ⟨rfl, rfl⟩
  | false =>
    have h := read_no (s := s) (fun c hc => by rw [(rres_says hc).1] at hr; cases hr)
    rw [h.1, h.2]
    exact ⟨rfl, rfl⟩
end Go.Proofs.YtagmoehjcgjnjaaGreatDoor

namespace Go.Proofs.YtagmoehjcgjnjaaGreatDoor
open Go Go.RowKit

theorem rwithin_any (n b : Int) (w : World) : Calls Tryz.prog 77 #[.int .i64 n, .int .i64 b] w fun e w' => e = .returned (.bool (inB n b)) ∧ w = w' := by
  by_cases h0 : 0 ≤ n
  · by_cases h1 : n ≤ b
    · have e : inB n b = true := inB_true.2 ⟨h0, h1⟩
      rw [e]
      go_enter Tryz.func77, Tryz.ntmps77
      go_wp2
      go_ret
      exact ⟨rfl, rfl⟩
    · have e : inB n b = false := by simp [inB]; omega
      rw [e]
      have n1 : decide (n ≤ b) = false := by simpa using h1
      go_enter Tryz.func77, Tryz.ntmps77
      go_wp2
      go_ret
      exact ⟨rfl, rfl⟩
  · have e : inB n b = false := by simp [inB]; omega
    rw [e]
    have n0 : decide (0 ≤ n) = false := by simpa using h0
    go_enter Tryz.func77, Tryz.ntmps77
    go_wp2
    go_ret
    exact ⟨rfl, rfl⟩

set_option maxHeartbeats 1000000 in
theorem rrights_any (on rd wt lk : Bool) (rw fr tt rk : Int) (w : World) :
    Calls Tryz.prog 76 #[.agg #[.bool on, .int .i64 rw, .int .u32 fr, .int .u32 tt, .bool rd, .bool wt, .int .i64 rk, .bool lk]] w fun e w' => e = .returned (str (rightsL rd wt)) ∧ Only [] w w' := by
  cases rd <;> cases wt <;>
  · go_enter Tryz.func76, Tryz.ntmps76
    go_wp2
    go_ret
    exact ⟨rfl, (Only.refl _ _).alloc _⟩

set_option maxRecDepth 100000 in
set_option maxHeartbeats 4000000 in
theorem rright_1 (ix wo ln : Int) (on : Bool) (rw fr tt : Int) (rd wt : Bool) (rk : Int) (lk : Bool) (w : World) :
    Calls Tryz.prog 50 #[Cf.agg ⟨1, ix, wo, ln, on, rw, fr, tt, rd, wt, rk, lk⟩] w fun e w' => e = .returned (.bool (Cf.right ⟨1, ix, wo, ln, on, rw, fr, tt, rd, wt, rk, lk⟩)) ∧ Only [] w w' := by
  go_enter Tryz.func50, Tryz.ntmps50
  go_wp2_with (go_at_call 77; refine (rwithin_any _ _ _).mono ?_; rintro e w' ⟨rfl, rfl⟩)
  all_goals
    go_ret
    refine ⟨?_, by repeat (first | with_reducible exact Only.refl _ _ | with_reducible refine Only.setCell ?_ (.inr (by simp)) _ | with_reducible refine Only.alloc ?_ _)⟩
    go_light
    simp_all [Cf.right, Cf.named, Cf.same, inB]
    try first | (intros; omega) | (rw [Bool.eq_iff_iff]; simp; omega)
set_option maxRecDepth 100000 in
set_option maxHeartbeats 4000000 in
theorem rright_2 (ix wo ln : Int) (on : Bool) (rw fr tt : Int) (rd wt : Bool) (rk : Int) (lk : Bool) (w : World) :
    Calls Tryz.prog 50 #[Cf.agg ⟨2, ix, wo, ln, on, rw, fr, tt, rd, wt, rk, lk⟩] w fun e w' => e = .returned (.bool (Cf.right ⟨2, ix, wo, ln, on, rw, fr, tt, rd, wt, rk, lk⟩)) ∧ Only [] w w' := by
  go_enter Tryz.func50, Tryz.ntmps50
  go_wp2_with (go_at_call 77; refine (rwithin_any _ _ _).mono ?_; rintro e w' ⟨rfl, rfl⟩)
  all_goals
    go_ret
    refine ⟨?_, by repeat (first | with_reducible exact Only.refl _ _ | with_reducible refine Only.setCell ?_ (.inr (by simp)) _ | with_reducible refine Only.alloc ?_ _)⟩
    go_light
    simp_all [Cf.right, Cf.named, Cf.same, inB]
    try first | (intros; omega) | (rw [Bool.eq_iff_iff]; simp; omega)
set_option maxRecDepth 100000 in
set_option maxHeartbeats 4000000 in
theorem rright_3 (ix wo ln : Int) (on : Bool) (rw fr tt : Int) (rd wt : Bool) (rk : Int) (lk : Bool) (w : World) :
    Calls Tryz.prog 50 #[Cf.agg ⟨3, ix, wo, ln, on, rw, fr, tt, rd, wt, rk, lk⟩] w fun e w' => e = .returned (.bool (Cf.right ⟨3, ix, wo, ln, on, rw, fr, tt, rd, wt, rk, lk⟩)) ∧ Only [] w w' := by
  go_enter Tryz.func50, Tryz.ntmps50
  go_wp2_with (go_at_call 77; refine (rwithin_any _ _ _).mono ?_; rintro e w' ⟨rfl, rfl⟩)
  all_goals
    go_ret
    refine ⟨?_, by repeat (first | with_reducible exact Only.refl _ _ | with_reducible refine Only.setCell ?_ (.inr (by simp)) _ | with_reducible refine Only.alloc ?_ _)⟩
    go_light
    simp_all [Cf.right, Cf.named, Cf.same, inB]
    try first | (intros; omega) | (rw [Bool.eq_iff_iff]; simp; omega)
set_option maxRecDepth 100000 in
set_option maxHeartbeats 4000000 in
theorem rright_4 (ix wo ln : Int) (on : Bool) (rw fr tt : Int) (rd wt : Bool) (rk : Int) (lk : Bool) (w : World) :
    Calls Tryz.prog 50 #[Cf.agg ⟨4, ix, wo, ln, on, rw, fr, tt, rd, wt, rk, lk⟩] w fun e w' => e = .returned (.bool (Cf.right ⟨4, ix, wo, ln, on, rw, fr, tt, rd, wt, rk, lk⟩)) ∧ Only [] w w' := by
  go_enter Tryz.func50, Tryz.ntmps50
  go_wp2_with (go_at_call 77; refine (rwithin_any _ _ _).mono ?_; rintro e w' ⟨rfl, rfl⟩)
  all_goals
    go_ret
    refine ⟨?_, by repeat (first | with_reducible exact Only.refl _ _ | with_reducible refine Only.setCell ?_ (.inr (by simp)) _ | with_reducible refine Only.alloc ?_ _)⟩
    go_light
    simp_all [Cf.right, Cf.named, Cf.same, inB]
    try first | (intros; omega) | (rw [Bool.eq_iff_iff]; simp; omega)
set_option maxRecDepth 100000 in
set_option maxHeartbeats 4000000 in
theorem rright_5 (ix wo ln : Int) (on : Bool) (rw fr tt : Int) (rd wt : Bool) (rk : Int) (lk : Bool) (w : World) :
    Calls Tryz.prog 50 #[Cf.agg ⟨5, ix, wo, ln, on, rw, fr, tt, rd, wt, rk, lk⟩] w fun e w' => e = .returned (.bool (Cf.right ⟨5, ix, wo, ln, on, rw, fr, tt, rd, wt, rk, lk⟩)) ∧ Only [] w w' := by
  go_enter Tryz.func50, Tryz.ntmps50
  go_wp2_with (go_at_call 77; refine (rwithin_any _ _ _).mono ?_; rintro e w' ⟨rfl, rfl⟩)
  all_goals
    go_ret
    refine ⟨?_, by repeat (first | with_reducible exact Only.refl _ _ | with_reducible refine Only.setCell ?_ (.inr (by simp)) _ | with_reducible refine Only.alloc ?_ _)⟩
    go_light
    simp_all [Cf.right, Cf.named, Cf.same, inB]
    try first | (intros; omega) | (rw [Bool.eq_iff_iff]; simp; omega)
set_option maxRecDepth 100000 in
set_option maxHeartbeats 4000000 in
theorem rright_6 (ix wo ln : Int) (on : Bool) (rw fr tt : Int) (rd wt : Bool) (rk : Int) (lk : Bool) (w : World) :
    Calls Tryz.prog 50 #[Cf.agg ⟨6, ix, wo, ln, on, rw, fr, tt, rd, wt, rk, lk⟩] w fun e w' => e = .returned (.bool (Cf.right ⟨6, ix, wo, ln, on, rw, fr, tt, rd, wt, rk, lk⟩)) ∧ Only [] w w' := by
  go_enter Tryz.func50, Tryz.ntmps50
  go_wp2_with (go_at_call 77; refine (rwithin_any _ _ _).mono ?_; rintro e w' ⟨rfl, rfl⟩)
  all_goals
    go_ret
    refine ⟨?_, by repeat (first | with_reducible exact Only.refl _ _ | with_reducible refine Only.setCell ?_ (.inr (by simp)) _ | with_reducible refine Only.alloc ?_ _)⟩
    go_light
    simp_all [Cf.right, Cf.named, Cf.same, inB]
    try first | (intros; omega) | (rw [Bool.eq_iff_iff]; simp; omega)
set_option maxRecDepth 100000 in
set_option maxHeartbeats 4000000 in
theorem rright_7 (ix wo ln : Int) (on : Bool) (rw fr tt : Int) (rd wt : Bool) (rk : Int) (lk : Bool) (w : World) :
    Calls Tryz.prog 50 #[Cf.agg ⟨7, ix, wo, ln, on, rw, fr, tt, rd, wt, rk, lk⟩] w fun e w' => e = .returned (.bool (Cf.right ⟨7, ix, wo, ln, on, rw, fr, tt, rd, wt, rk, lk⟩)) ∧ Only [] w w' := by
  go_enter Tryz.func50, Tryz.ntmps50
  go_wp2_with (go_at_call 77; refine (rwithin_any _ _ _).mono ?_; rintro e w' ⟨rfl, rfl⟩)
  all_goals
    go_ret
    refine ⟨?_, by repeat (first | with_reducible exact Only.refl _ _ | with_reducible refine Only.setCell ?_ (.inr (by simp)) _ | with_reducible refine Only.alloc ?_ _)⟩
    go_light
    simp_all [Cf.right, Cf.named, Cf.same, inB]
    try first | (intros; omega) | (rw [Bool.eq_iff_iff]; simp; omega)
set_option maxRecDepth 100000 in
set_option maxHeartbeats 4000000 in
theorem rright_0 (c : Cf) (h : c.kd < 1 ∨ 7 < c.kd) (w : World) :
    Calls Tryz.prog 50 #[c.agg] w fun e w' => e = .returned (.bool c.right) ∧ Only [] w w' := by
  have e : c.right = false := by simp [Cf.right]; omega
  rw [e]
  obtain ⟨kd, ix, wo, ln, on, rw, fr, tt, rd, wt, rk, lk⟩ := c
  simp only at h
  have n1 : (kd == 1) = false := by simp; omega
  have n2 : (kd == 2) = false := by simp; omega
  have n3 : (kd == 3) = false := by simp; omega
  have n4 : (kd == 4) = false := by simp; omega
  have n5 : (kd == 5) = false := by simp; omega
  have n6 : (kd == 6) = false := by simp; omega
  have n7 : (kd == 7) = false := by simp; omega
  clear h e
  go_enter Tryz.func50, Tryz.ntmps50
  go_wp2_with fail
  go_ret
  exact ⟨rfl, by repeat (first | with_reducible exact Only.refl _ _ | with_reducible refine Only.setCell ?_ (.inr (by simp)) _ | with_reducible refine Only.alloc ?_ _)⟩

theorem rright_any (c : Cf) (w : World) :
    Calls Tryz.prog 50 #[c.agg] w fun e w' => e = .returned (.bool c.right) ∧ Only [] w w' := by
  by_cases h : c.kd < 1 ∨ 7 < c.kd
  · exact rright_0 c h w
  obtain ⟨kd, ix, wo, ln, on, rw, fr, tt, rd, wt, rk, lk⟩ := c
  simp only at h
  have : kd = 1 ∨ kd = 2 ∨ kd = 3 ∨ kd = 4 ∨ kd = 5 ∨ kd = 6 ∨ kd = 7 := by omega
  rcases this with rfl | rfl | rfl | rfl | rfl | rfl | rfl
  · exact rright_1 _ _ _ _ _ _ _ _ _ _ _ w
  · exact rright_2 _ _ _ _ _ _ _ _ _ _ _ w
  · exact rright_3 _ _ _ _ _ _ _ _ _ _ _ w
  · exact rright_4 _ _ _ _ _ _ _ _ _ _ _ w
  · exact rright_5 _ _ _ _ _ _ _ _ _ _ _ w
  · exact rright_6 _ _ _ _ _ _ _ _ _ _ _ w
  · exact rright_7 _ _ _ _ _ _ _ _ _ _ _ w
end Go.Proofs.YtagmoehjcgjnjaaGreatDoor

namespace Go.Proofs.YtagmoehjcgjnjaaGreatDoor
open Go Go.RowKit
attribute [local go_sem] str_cat

set_option maxRecDepth 100000 in
set_option maxHeartbeats 8000000 in
theorem rshow_2 (ix : Nat) (hi : ix ≤ 999) (c : Cf) (hc : c = ⟨2, ix, 0, 0, false, 0, 0, 0, false, false, 0, false⟩) (hr : c.right = true) (w : World) :
    Calls Tryz.prog 49 #[c.agg] w fun e w' => e = .returned (.tuple #[str c.text, .int .i64 0]) ∧ Only [] w w' := by
  have Hr := Lib.hid (rright_any c)
  rw [hr] at Hr
  subst hc
  clear hr
  have HT : Hid (Cf.text ⟨2, ix, 0, 0, false, 0, 0, 0, false, false, 0, false⟩ = [99, 108, 101, 97, 114, 32] ++ numL 10 ix) := Lib.hid (by simp [Cf.text, Cf.words, Lib.join, kindW, dec, List.intercalate])
  have HA := Lib.hid (rnumber_10 ix (by omega))
  have lA : (numL 10 ix).length ≤ 16 := rnum_len 10 (by omega) 15 ix (by omega)
  have HB := Lib.hid rnumber_zero
  generalize numL 10 ix = A at *
  go_enter Tryz.func49, Tryz.ntmps49
  go_wp2_with fail
  refine (Hr.out _).mono ?_
  rintro e w1 ⟨rfl, hO1⟩
  have hE : CfB w1 w.heap.size ⟨2, ix, 0, 0, false, 0, 0, 0, false, false, 0, false⟩ := hO1.cf (Blk.new' rfl rfl) (by simp)
  have hO := ((Only.refl [] w).alloc (.cells #[.int .i64 2, .int .i64 ix, .int .i64 0, .int .i64 0, .bool false, .int .i64 0, .int .u32 0, .int .u32 0, .bool false, .bool false, .int .i64 0, .bool false] 31)).trans hO1
  clear hO1 Hr
  go_wp2_with fail
  refine wp_region_D (Only [] w1) (by kernel_rfl) (by kernel_rfl) ((Only.refl _ _).drew) ?_
  repeat (
    refine wpT_step ?_ (stD rfl (fun w' hD => ?_)) ?_
    rotate_left
    · obtain ⟨c0, c1, c2, c3, -⟩ := (hD.cf hE (by simp)).c
      simp only at c0 c1 c2 c3
      go_simp
      first
        | (rw [if_neg (by omega)]; refine ⟨?_, hD⟩; rfl)
        | (refine ⟨?_, hD⟩; rfl)
        | (change Calls _ _ _ _ _; (with_reducible refine (HA.out w').mono ?_); rintro e w'' ⟨rfl, h⟩; refine ⟨?_, hD.trans h⟩; rfl)
        | (change Calls _ _ _ _ _; (with_reducible refine (HB.out w').mono ?_); rintro e w'' ⟨rfl, h⟩; refine ⟨?_, hD.trans h⟩; rfl)
    simp only [Act.put, List.setIfInBounds_toArray, List.set_cons_succ, List.set_cons_zero, Nat.zero_add, Nat.reduceAdd])
  refine wpT_nil ?_
  intro w2 hD
  have hE2 := hD.cf hE (by simp)
  have hO2 := hO.trans hD
  clear hD hE hO
  obtain ⟨c0, c1, c2, c3, c4, c5, c6, c7, c8, c9, c10, c11, -⟩ := hE2.c
  simp only at c0 c1 c2 c3 c4 c5 c6 c7 c8 c9 c10 c11
  go_wp2
  all_goals first
    | (exfalso; omega)
    | (go_ret2
       exact ⟨by rw [HT.out]; simp, hO2⟩)

set_option maxRecDepth 100000 in
set_option maxHeartbeats 8000000 in
theorem rshow_4 (ix : Nat) (hi : ix ≤ 999) (c : Cf) (hc : c = ⟨4, ix, 0, 0, false, 0, 0, 0, false, false, 0, false⟩) (hr : c.right = true) (w : World) :
    Calls Tryz.prog 49 #[c.agg] w fun e w' => e = .returned (.tuple #[str c.text, .int .i64 0]) ∧ Only [] w w' := by
  have Hr := Lib.hid (rright_any c)
  rw [hr] at Hr
  subst hc
  clear hr
  have HT : Hid (Cf.text ⟨4, ix, 0, 0, false, 0, 0, 0, false, false, 0, false⟩ = [116, 97, 107, 101, 32] ++ numL 10 ix) := Lib.hid (by simp [Cf.text, Cf.words, Lib.join, kindW, dec, List.intercalate])
  have HA := Lib.hid (rnumber_10 ix (by omega))
  have lA : (numL 10 ix).length ≤ 16 := rnum_len 10 (by omega) 15 ix (by omega)
  have HB := Lib.hid rnumber_zero
  generalize numL 10 ix = A at *
  go_enter Tryz.func49, Tryz.ntmps49
  go_wp2_with fail
  refine (Hr.out _).mono ?_
  rintro e w1 ⟨rfl, hO1⟩
  have hE : CfB w1 w.heap.size ⟨4, ix, 0, 0, false, 0, 0, 0, false, false, 0, false⟩ := hO1.cf (Blk.new' rfl rfl) (by simp)
  have hO := ((Only.refl [] w).alloc (.cells #[.int .i64 4, .int .i64 ix, .int .i64 0, .int .i64 0, .bool false, .int .i64 0, .int .u32 0, .int .u32 0, .bool false, .bool false, .int .i64 0, .bool false] 31)).trans hO1
  clear hO1 Hr
  go_wp2_with fail
  refine wp_region_D (Only [] w1) (by kernel_rfl) (by kernel_rfl) ((Only.refl _ _).drew) ?_
  repeat (
    refine wpT_step ?_ (stD rfl (fun w' hD => ?_)) ?_
    rotate_left
    · obtain ⟨c0, c1, c2, c3, -⟩ := (hD.cf hE (by simp)).c
      simp only at c0 c1 c2 c3
      go_simp
      first
        | (rw [if_neg (by omega)]; refine ⟨?_, hD⟩; rfl)
        | (refine ⟨?_, hD⟩; rfl)
        | (change Calls _ _ _ _ _; (with_reducible refine (HA.out w').mono ?_); rintro e w'' ⟨rfl, h⟩; refine ⟨?_, hD.trans h⟩; rfl)
        | (change Calls _ _ _ _ _; (with_reducible refine (HB.out w').mono ?_); rintro e w'' ⟨rfl, h⟩; refine ⟨?_, hD.trans h⟩; rfl)
    simp only [Act.put, List.setIfInBounds_toArray, List.set_cons_succ, List.set_cons_zero, Nat.zero_add, Nat.reduceAdd])
  refine wpT_nil ?_
  intro w2 hD
  have hE2 := hD.cf hE (by simp)
  have hO2 := hO.trans hD
  clear hD hE hO
  obtain ⟨c0, c1, c2, c3, c4, c5, c6, c7, c8, c9, c10, c11, -⟩ := hE2.c
  simp only at c0 c1 c2 c3 c4 c5 c6 c7 c8 c9 c10 c11
  go_wp2
  all_goals first
    | (exfalso; omega)
    | (go_ret2
       exact ⟨by rw [HT.out]; simp, hO2⟩)

set_option maxRecDepth 100000 in
set_option maxHeartbeats 8000000 in
theorem rshow_3 (ix wo : Nat) (hi : ix ≤ 999) (hw : wo ≤ 99) (c : Cf) (hc : c = ⟨3, ix, wo, 0, false, 0, 0, 0, false, false, 0, false⟩) (hr : c.right = true) (w : World) :
    Calls Tryz.prog 49 #[c.agg] w fun e w' => e = .returned (.tuple #[str c.text, .int .i64 0]) ∧ Only [] w w' := by
  have Hr := Lib.hid (rright_any c)
  rw [hr] at Hr
  subst hc
  clear hr
  have HT : Hid (Cf.text ⟨3, ix, wo, 0, false, 0, 0, 0, false, false, 0, false⟩ = [103, 105, 118, 101, 32] ++ (numL 10 ix ++ 32 :: numL 10 wo)) := Lib.hid (by simp [Cf.text, Cf.words, Lib.join, kindW, dec, List.intercalate])
  have HA := Lib.hid (rnumber_10 ix (by omega))
  have lA : (numL 10 ix).length ≤ 16 := rnum_len 10 (by omega) 15 ix (by omega)
  have HB := Lib.hid (rnumber_10 wo (by omega))
  have lB : (numL 10 wo).length ≤ 16 := rnum_len 10 (by omega) 15 wo (by omega)
  generalize numL 10 ix = A at *
  generalize numL 10 wo = B at *
  go_enter Tryz.func49, Tryz.ntmps49
  go_wp2_with fail
  refine (Hr.out _).mono ?_
  rintro e w1 ⟨rfl, hO1⟩
  have hE : CfB w1 w.heap.size ⟨3, ix, wo, 0, false, 0, 0, 0, false, false, 0, false⟩ := hO1.cf (Blk.new' rfl rfl) (by simp)
  have hO := ((Only.refl [] w).alloc (.cells #[.int .i64 3, .int .i64 ix, .int .i64 wo, .int .i64 0, .bool false, .int .i64 0, .int .u32 0, .int .u32 0, .bool false, .bool false, .int .i64 0, .bool false] 31)).trans hO1
  clear hO1 Hr
  go_wp2_with fail
  refine wp_region_D (Only [] w1) (by kernel_rfl) (by kernel_rfl) ((Only.refl _ _).drew) ?_
  repeat (
    refine wpT_step ?_ (stD rfl (fun w' hD => ?_)) ?_
    rotate_left
    · obtain ⟨c0, c1, c2, c3, -⟩ := (hD.cf hE (by simp)).c
      simp only at c0 c1 c2 c3
      go_simp
      first
        | (rw [if_neg (by omega)]; refine ⟨?_, hD⟩; rfl)
        | (refine ⟨?_, hD⟩; rfl)
        | (change Calls _ _ _ _ _; (with_reducible refine (HA.out w').mono ?_); rintro e w'' ⟨rfl, h⟩; refine ⟨?_, hD.trans h⟩; rfl)
        | (change Calls _ _ _ _ _; (with_reducible refine (HB.out w').mono ?_); rintro e w'' ⟨rfl, h⟩; refine ⟨?_, hD.trans h⟩; rfl)
    simp only [Act.put, List.setIfInBounds_toArray, List.set_cons_succ, List.set_cons_zero, Nat.zero_add, Nat.reduceAdd])
  refine wpT_nil ?_
  intro w2 hD
  have hE2 := hD.cf hE (by simp)
  have hO2 := hO.trans hD
  clear hD hE hO
  obtain ⟨c0, c1, c2, c3, c4, c5, c6, c7, c8, c9, c10, c11, -⟩ := hE2.c
  simp only at c0 c1 c2 c3 c4 c5 c6 c7 c8 c9 c10 c11
  go_wp2
  all_goals first
    | (exfalso; omega)
    | (go_ret2
       exact ⟨by rw [HT.out]; simp, hO2⟩)

set_option maxRecDepth 100000 in
set_option maxHeartbeats 8000000 in
theorem rshow_5 (ix wo : Nat) (hi : ix ≤ 999) (hw : wo ≤ 99) (c : Cf) (hc : c = ⟨5, ix, wo, 0, false, 0, 0, 0, false, false, 0, false⟩) (hr : c.right = true) (w : World) :
    Calls Tryz.prog 49 #[c.agg] w fun e w' => e = .returned (.tuple #[str c.text, .int .i64 0]) ∧ Only [] w w' := by
  have Hr := Lib.hid (rright_any c)
  rw [hr] at Hr
  subst hc
  clear hr
  have HT : Hid (Cf.text ⟨5, ix, wo, 0, false, 0, 0, 0, false, false, 0, false⟩ = [109, 111, 118, 101, 32] ++ (numL 10 ix ++ 32 :: numL 10 wo)) := Lib.hid (by simp [Cf.text, Cf.words, Lib.join, kindW, dec, List.intercalate])
  have HA := Lib.hid (rnumber_10 ix (by omega))
  have lA : (numL 10 ix).length ≤ 16 := rnum_len 10 (by omega) 15 ix (by omega)
  have HB := Lib.hid (rnumber_10 wo (by omega))
  have lB : (numL 10 wo).length ≤ 16 := rnum_len 10 (by omega) 15 wo (by omega)
  generalize numL 10 ix = A at *
  generalize numL 10 wo = B at *
  go_enter Tryz.func49, Tryz.ntmps49
  go_wp2_with fail
  refine (Hr.out _).mono ?_
  rintro e w1 ⟨rfl, hO1⟩
  have hE : CfB w1 w.heap.size ⟨5, ix, wo, 0, false, 0, 0, 0, false, false, 0, false⟩ := hO1.cf (Blk.new' rfl rfl) (by simp)
  have hO := ((Only.refl [] w).alloc (.cells #[.int .i64 5, .int .i64 ix, .int .i64 wo, .int .i64 0, .bool false, .int .i64 0, .int .u32 0, .int .u32 0, .bool false, .bool false, .int .i64 0, .bool false] 31)).trans hO1
  clear hO1 Hr
  go_wp2_with fail
  refine wp_region_D (Only [] w1) (by kernel_rfl) (by kernel_rfl) ((Only.refl _ _).drew) ?_
  repeat (
    refine wpT_step ?_ (stD rfl (fun w' hD => ?_)) ?_
    rotate_left
    · obtain ⟨c0, c1, c2, c3, -⟩ := (hD.cf hE (by simp)).c
      simp only at c0 c1 c2 c3
      go_simp
      first
        | (rw [if_neg (by omega)]; refine ⟨?_, hD⟩; rfl)
        | (refine ⟨?_, hD⟩; rfl)
        | (change Calls _ _ _ _ _; (with_reducible refine (HA.out w').mono ?_); rintro e w'' ⟨rfl, h⟩; refine ⟨?_, hD.trans h⟩; rfl)
        | (change Calls _ _ _ _ _; (with_reducible refine (HB.out w').mono ?_); rintro e w'' ⟨rfl, h⟩; refine ⟨?_, hD.trans h⟩; rfl)
    simp only [Act.put, List.setIfInBounds_toArray, List.set_cons_succ, List.set_cons_zero, Nat.zero_add, Nat.reduceAdd])
  refine wpT_nil ?_
  intro w2 hD
  have hE2 := hD.cf hE (by simp)
  have hO2 := hO.trans hD
  clear hD hE hO
  obtain ⟨c0, c1, c2, c3, c4, c5, c6, c7, c8, c9, c10, c11, -⟩ := hE2.c
  simp only at c0 c1 c2 c3 c4 c5 c6 c7 c8 c9 c10 c11
  go_wp2
  all_goals first
    | (exfalso; omega)
    | (go_ret2
       exact ⟨by rw [HT.out]; simp, hO2⟩)

set_option maxRecDepth 100000 in
set_option maxHeartbeats 8000000 in
theorem rshow_6 (ix ln : Nat) (hi : ix ≤ 999) (hl : ln ≤ 99) (c : Cf) (hc : c = ⟨6, ix, 0, ln, false, 0, 0, 0, false, false, 0, false⟩) (hr : c.right = true) (w : World) :
    Calls Tryz.prog 49 #[c.agg] w fun e w' => e = .returned (.tuple #[str c.text, .int .i64 0]) ∧ Only [] w w' := by
  have Hr := Lib.hid (rright_any c)
  rw [hr] at Hr
  subst hc
  clear hr
  have HT : Hid (Cf.text ⟨6, ix, 0, ln, false, 0, 0, 0, false, false, 0, false⟩ = [114, 111, 117, 116, 101, 32] ++ (numL 10 ix ++ 32 :: numL 10 ln)) := Lib.hid (by have hq : ¬ ((ln : Int) < 0) := (by omega); simp [Cf.text, Cf.words, Lib.join, kindW, dec, lineL, List.intercalate, hq])
  have HA := Lib.hid (rnumber_10 ix (by omega))
  have lA : (numL 10 ix).length ≤ 16 := rnum_len 10 (by omega) 15 ix (by omega)
  have HB := Lib.hid rnumber_zero
  have HC := Lib.hid (rnumber_10 ln (by omega))
  have lC : (numL 10 ln).length ≤ 16 := rnum_len 10 (by omega) 15 ln (by omega)
  generalize numL 10 ix = A at *
  generalize numL 10 ln = C at *
  go_enter Tryz.func49, Tryz.ntmps49
  go_wp2_with fail
  refine (Hr.out _).mono ?_
  rintro e w1 ⟨rfl, hO1⟩
  have hE : CfB w1 w.heap.size ⟨6, ix, 0, ln, false, 0, 0, 0, false, false, 0, false⟩ := hO1.cf (Blk.new' rfl rfl) (by simp)
  have hO := ((Only.refl [] w).alloc (.cells #[.int .i64 6, .int .i64 ix, .int .i64 0, .int .i64 ln, .bool false, .int .i64 0, .int .u32 0, .int .u32 0, .bool false, .bool false, .int .i64 0, .bool false] 31)).trans hO1
  clear hO1 Hr
  go_wp2_with fail
  refine wp_region_D (Only [] w1) (by kernel_rfl) (by kernel_rfl) ((Only.refl _ _).drew) ?_
  repeat (
    refine wpT_step ?_ (stD rfl (fun w' hD => ?_)) ?_
    rotate_left
    · obtain ⟨c0, c1, c2, c3, -⟩ := (hD.cf hE (by simp)).c
      simp only at c0 c1 c2 c3
      go_simp
      first
        | (rw [if_neg (by omega)]; refine ⟨?_, hD⟩; rfl)
        | (refine ⟨?_, hD⟩; rfl)
        | (change Calls _ _ _ _ _; (with_reducible refine (HA.out w').mono ?_); rintro e w'' ⟨rfl, h⟩; refine ⟨?_, hD.trans h⟩; rfl)
        | (change Calls _ _ _ _ _; (with_reducible refine (HB.out w').mono ?_); rintro e w'' ⟨rfl, h⟩; refine ⟨?_, hD.trans h⟩; rfl)
        | (change Calls _ _ _ _ _; (with_reducible refine (HC.out w').mono ?_); rintro e w'' ⟨rfl, h⟩; refine ⟨?_, hD.trans h⟩; rfl)
    simp only [Act.put, List.setIfInBounds_toArray, List.set_cons_succ, List.set_cons_zero, Nat.zero_add, Nat.reduceAdd])
  refine wpT_nil ?_
  intro w2 hD
  have hE2 := hD.cf hE (by simp)
  have hO2 := hO.trans hD
  clear hD hE hO
  obtain ⟨c0, c1, c2, c3, c4, c5, c6, c7, c8, c9, c10, c11, -⟩ := hE2.c
  simp only at c0 c1 c2 c3 c4 c5 c6 c7 c8 c9 c10 c11
  have hln : ¬ (ln : Int) < 0 := by omega
  go_wp2_with (refine (HC.out _).mono ?_; rintro e w5 ⟨rfl, hO5⟩; have hO2 := hO2.trans hO5)
  all_goals first
    | (exfalso; omega)
    | (go_ret2
       exact ⟨by rw [HT.out]; simp, hO2⟩)

set_option maxRecDepth 100000 in
set_option maxHeartbeats 8000000 in
theorem rshow_6n (ix : Nat) (hi : ix ≤ 999) (c : Cf) (hc : c = ⟨6, ix, 0, -1, false, 0, 0, 0, false, false, 0, false⟩) (hr : c.right = true) (w : World) :
    Calls Tryz.prog 49 #[c.agg] w fun e w' => e = .returned (.tuple #[str c.text, .int .i64 0]) ∧ Only [] w w' := by
  have Hr := Lib.hid (rright_any c)
  rw [hr] at Hr
  subst hc
  clear hr
  have HT : Hid (Cf.text ⟨6, ix, 0, -1, false, 0, 0, 0, false, false, 0, false⟩ = [114, 111, 117, 116, 101, 32] ++ (numL 10 ix ++ [32, 45])) := Lib.hid (by simp [Cf.text, Cf.words, Lib.join, kindW, dec, lineL, List.intercalate])
  have HA := Lib.hid (rnumber_10 ix (by omega))
  have lA : (numL 10 ix).length ≤ 16 := rnum_len 10 (by omega) 15 ix (by omega)
  have HB := Lib.hid rnumber_zero
  generalize numL 10 ix = A at *
  go_enter Tryz.func49, Tryz.ntmps49
  go_wp2_with fail
  refine (Hr.out _).mono ?_
  rintro e w1 ⟨rfl, hO1⟩
  have hE : CfB w1 w.heap.size ⟨6, ix, 0, -1, false, 0, 0, 0, false, false, 0, false⟩ := hO1.cf (Blk.new' rfl rfl) (by simp)
  have hO := ((Only.refl [] w).alloc (.cells #[.int .i64 6, .int .i64 ix, .int .i64 0, .int .i64 (-1), .bool false, .int .i64 0, .int .u32 0, .int .u32 0, .bool false, .bool false, .int .i64 0, .bool false] 31)).trans hO1
  clear hO1 Hr
  go_wp2_with fail
  refine wp_region_D (Only [] w1) (by kernel_rfl) (by kernel_rfl) ((Only.refl _ _).drew) ?_
  repeat (
    refine wpT_step ?_ (stD rfl (fun w' hD => ?_)) ?_
    rotate_left
    · obtain ⟨c0, c1, c2, c3, -⟩ := (hD.cf hE (by simp)).c
      simp only at c0 c1 c2 c3
      go_simp
      first
        | (rw [if_neg (by omega)]; refine ⟨?_, hD⟩; rfl)
        | (refine ⟨?_, hD⟩; rfl)
        | (change Calls _ _ _ _ _; (with_reducible refine (HA.out w').mono ?_); rintro e w'' ⟨rfl, h⟩; refine ⟨?_, hD.trans h⟩; rfl)
        | (change Calls _ _ _ _ _; (with_reducible refine (HB.out w').mono ?_); rintro e w'' ⟨rfl, h⟩; refine ⟨?_, hD.trans h⟩; rfl)
    simp only [Act.put, List.setIfInBounds_toArray, List.set_cons_succ, List.set_cons_zero, Nat.zero_add, Nat.reduceAdd])
  refine wpT_nil ?_
  intro w2 hD
  have hE2 := hD.cf hE (by simp)
  have hO2 := hO.trans hD
  clear hD hE hO
  obtain ⟨c0, c1, c2, c3, c4, c5, c6, c7, c8, c9, c10, c11, -⟩ := hE2.c
  simp only at c0 c1 c2 c3 c4 c5 c6 c7 c8 c9 c10 c11
  go_wp2
  all_goals first
    | (exfalso; omega)
    | (go_ret2
       exact ⟨by rw [HT.out]; simp, hO2⟩)

set_option maxRecDepth 100000 in
set_option maxHeartbeats 8000000 in
theorem rshow_7  (c : Cf) (hc : c = ⟨7, 0, 0, 0, false, 0, 0, 0, false, false, 0, false⟩) (hr : c.right = true) (w : World) :
    Calls Tryz.prog 49 #[c.agg] w fun e w' => e = .returned (.tuple #[str c.text, .int .i64 0]) ∧ Only [] w w' := by
  have Hr := Lib.hid (rright_any c)
  rw [hr] at Hr
  subst hc
  clear hr
  have HT : Hid (Cf.text ⟨7, 0, 0, 0, false, 0, 0, 0, false, false, 0, false⟩ = [108, 111, 99, 107]) := Lib.hid (by simp [Cf.text, Cf.words, Lib.join, kindW, List.intercalate])
  have HA := Lib.hid rnumber_zero
  go_enter Tryz.func49, Tryz.ntmps49
  go_wp2_with fail
  refine (Hr.out _).mono ?_
  rintro e w1 ⟨rfl, hO1⟩
  have hE : CfB w1 w.heap.size ⟨7, 0, 0, 0, false, 0, 0, 0, false, false, 0, false⟩ := hO1.cf (Blk.new' rfl rfl) (by simp)
  have hO := ((Only.refl [] w).alloc (.cells #[.int .i64 7, .int .i64 0, .int .i64 0, .int .i64 0, .bool false, .int .i64 0, .int .u32 0, .int .u32 0, .bool false, .bool false, .int .i64 0, .bool false] 31)).trans hO1
  clear hO1 Hr
  go_wp2_with fail
  refine wp_region_D (Only [] w1) (by kernel_rfl) (by kernel_rfl) ((Only.refl _ _).drew) ?_
  repeat (
    refine wpT_step ?_ (stD rfl (fun w' hD => ?_)) ?_
    rotate_left
    · obtain ⟨c0, c1, c2, c3, -⟩ := (hD.cf hE (by simp)).c
      simp only at c0 c1 c2 c3
      go_simp
      first
        | (rw [if_neg (by omega)]; refine ⟨?_, hD⟩; rfl)
        | (refine ⟨?_, hD⟩; rfl)
        | (change Calls _ _ _ _ _; (with_reducible refine (HA.out w').mono ?_); rintro e w'' ⟨rfl, h⟩; refine ⟨?_, hD.trans h⟩; rfl)
    simp only [Act.put, List.setIfInBounds_toArray, List.set_cons_succ, List.set_cons_zero, Nat.zero_add, Nat.reduceAdd])
  refine wpT_nil ?_
  intro w2 hD
  have hE2 := hD.cf hE (by simp)
  have hO2 := hO.trans hD
  clear hD hE hO
  obtain ⟨c0, c1, c2, c3, c4, c5, c6, c7, c8, c9, c10, c11, -⟩ := hE2.c
  simp only at c0 c1 c2 c3 c4 c5 c6 c7 c8 c9 c10 c11
  go_wp2
  all_goals first
    | (exfalso; omega)
    | (go_ret2
       exact ⟨by rw [HT.out]; simp, hO2⟩)

set_option maxRecDepth 100000 in
set_option maxHeartbeats 8000000 in
theorem rshow_1t (ix rw fr tt rk : Nat) (rd wt : Bool) (hi : ix ≤ 999) (hrw : rw ≤ 99) (hfr : fr < 4294967296) (htt : tt < 4294967296) (hrk : rk ≤ 999) (c : Cf) (hc : c = ⟨1, ix, 0, 0, true, rw, fr, tt, rd, wt, rk, true⟩) (hr : c.right = true) (w : World) :
    Calls Tryz.prog 49 #[c.agg] w fun e w' => e = .returned (.tuple #[str c.text, .int .i64 0]) ∧ Only [] w w' := by
  have Hr := Lib.hid (rright_any c)
  rw [hr] at Hr
  subst hc
  clear hr
  have HT : Hid (Cf.text ⟨1, ix, 0, 0, true, rw, fr, tt, rd, wt, rk, true⟩ = [114, 101, 103, 105, 111, 110, 32] ++ (numL 10 ix ++ 32 :: (numL 10 rw ++ 32 :: (numL 16 fr ++ 32 :: (numL 16 tt ++ 32 :: (rightsL rd wt ++ 32 :: (numL 10 rk ++ [32, 108, 111, 99, 107, 101, 100]))))))) := Lib.hid (by simp [Cf.text, Cf.words, Lib.join, kindW, dec, hexa, List.intercalate])
  have HA := Lib.hid (rnumber_10 ix (by omega))
  have lA : (numL 10 ix).length ≤ 16 := rnum_len 10 (by omega) 15 ix (by omega)
  have HB := Lib.hid rnumber_zero
  have HC := Lib.hid (rnumber_10 rw (by omega))
  have lC : (numL 10 rw).length ≤ 16 := rnum_len 10 (by omega) 15 rw (by omega)
  have HD := Lib.hid (rnumber_16 fr (by omega))
  have lD : (numL 16 fr).length ≤ 16 := rnum_len 16 (by omega) 15 fr (by omega)
  have HE := Lib.hid (rnumber_16 tt (by omega))
  have lE : (numL 16 tt).length ≤ 16 := rnum_len 16 (by omega) 15 tt (by omega)
  have HF := Lib.hid (rnumber_10 rk (by omega))
  have lF : (numL 10 rk).length ≤ 16 := rnum_len 10 (by omega) 15 rk (by omega)
  generalize numL 10 ix = A at *
  generalize numL 10 rw = C at *
  generalize numL 16 fr = D at *
  generalize numL 16 tt = E at *
  generalize numL 10 rk = F at *
  have wf : IntKind.i64.wrap (fr : Int) = (fr : Int) := IntWalk.i64_in _ (by omega)
  have wt2 : IntKind.i64.wrap (tt : Int) = (tt : Int) := IntWalk.i64_in _ (by omega)
  have lR : (rightsL rd wt).length ≤ 2 := by cases rd <;> cases wt <;> simp [rightsL]
  have HG := Lib.hid (rrights_any true rd wt true rw fr tt rk)
  generalize rightsL rd wt = G at *
  go_enter Tryz.func49, Tryz.ntmps49
  go_wp2_with fail
  refine (Hr.out _).mono ?_
  rintro e w1 ⟨rfl, hO1⟩
  have hE : CfB w1 w.heap.size ⟨1, ix, 0, 0, true, rw, fr, tt, rd, wt, rk, true⟩ := hO1.cf (Blk.new' rfl rfl) (by simp)
  have hO := ((Only.refl [] w).alloc (.cells #[.int .i64 1, .int .i64 ix, .int .i64 0, .int .i64 0, .bool true, .int .i64 rw, .int .u32 fr, .int .u32 tt, .bool rd, .bool wt, .int .i64 rk, .bool true] 31)).trans hO1
  clear hO1 Hr
  go_wp2_with fail
  refine wp_region_D (Only [] w1) (by kernel_rfl) (by kernel_rfl) ((Only.refl _ _).drew) ?_
  repeat (
    refine wpT_step ?_ (stD rfl (fun w' hD => ?_)) ?_
    rotate_left
    · obtain ⟨c0, c1, c2, c3, -⟩ := (hD.cf hE (by simp)).c
      simp only at c0 c1 c2 c3
      go_simp
      first
        | (rw [if_neg (by omega)]; refine ⟨?_, hD⟩; rfl)
        | (refine ⟨?_, hD⟩; rfl)
        | (change Calls _ _ _ _ _; (with_reducible refine (HA.out w').mono ?_); rintro e w'' ⟨rfl, h⟩; refine ⟨?_, hD.trans h⟩; rfl)
        | (change Calls _ _ _ _ _; (with_reducible refine (HB.out w').mono ?_); rintro e w'' ⟨rfl, h⟩; refine ⟨?_, hD.trans h⟩; rfl)
        | (change Calls _ _ _ _ _; (with_reducible refine (HC.out w').mono ?_); rintro e w'' ⟨rfl, h⟩; refine ⟨?_, hD.trans h⟩; rfl)
        | (change Calls _ _ _ _ _; (with_reducible refine (HD.out w').mono ?_); rintro e w'' ⟨rfl, h⟩; refine ⟨?_, hD.trans h⟩; rfl)
        | (change Calls _ _ _ _ _; (with_reducible refine (HE.out w').mono ?_); rintro e w'' ⟨rfl, h⟩; refine ⟨?_, hD.trans h⟩; rfl)
        | (change Calls _ _ _ _ _; (with_reducible refine (HF.out w').mono ?_); rintro e w'' ⟨rfl, h⟩; refine ⟨?_, hD.trans h⟩; rfl)
    simp only [Act.put, List.setIfInBounds_toArray, List.set_cons_succ, List.set_cons_zero, Nat.zero_add, Nat.reduceAdd])
  refine wpT_nil ?_
  intro w2 hD
  have hE2 := hD.cf hE (by simp)
  have hO2 := hO.trans hD
  clear hD hE hO
  obtain ⟨c0, c1, c2, c3, c4, c5, c6, c7, c8, c9, c10, c11, -⟩ := hE2.c
  simp only at c0 c1 c2 c3 c4 c5 c6 c7 c8 c9 c10 c11
  go_wp2_with fail
  have hR : Blk (w2.alloc (.cells #[.bool true, .int .i64 rw, .int .u32 fr, .int .u32 tt, .bool rd, .bool wt, .int .i64 rk, .bool true] 29)) w2.heap.size 29 #[.bool true, .int .i64 rw, .int .u32 fr, .int .u32 tt, .bool rd, .bool wt, .int .i64 rk, .bool true] := Blk.new' rfl rfl
  have hO3 := hO2.alloc (.cells #[.bool true, .int .i64 rw, .int .u32 fr, .int .u32 tt, .bool rd, .bool wt, .int .i64 rk, .bool true] 29)
  generalize hW3 : w2.alloc (.cells #[.bool true, .int .i64 rw, .int .u32 fr, .int .u32 tt, .bool rd, .bool wt, .int .i64 rk, .bool true] 29) = W3 at *
  have HW3 := Lib.hid hW3
  clear hW3 c0 c1 c2 c3 c4 c5 c6 c7 c8 c9 c10 c11
  refine wp_region_D (Only [] W3) (by kernel_rfl) (by kernel_rfl) ((Only.refl _ _).drew) ?_
  repeat (
    refine wpT_step ?_ (stD rfl (fun w' hD => ?_)) ?_
    rotate_left
    · have hR' := hD.blk hR (by simp)
      have r0 : w'.cell? ⟨w2.heap.size, 0, none⟩ = some (.bool true) := hR'.cell 0
      have r1 : w'.cell? ⟨w2.heap.size, 1, none⟩ = some (.int .i64 rw) := hR'.cell 1
      have r2 : w'.cell? ⟨w2.heap.size, 2, none⟩ = some (.int .u32 fr) := hR'.cell 2
      have r3 : w'.cell? ⟨w2.heap.size, 3, none⟩ = some (.int .u32 tt) := hR'.cell 3
      have r4 : w'.cell? ⟨w2.heap.size, 4, none⟩ = some (.bool rd) := hR'.cell 4
      have r5 : w'.cell? ⟨w2.heap.size, 5, none⟩ = some (.bool wt) := hR'.cell 5
      have r6 : w'.cell? ⟨w2.heap.size, 6, none⟩ = some (.int .i64 rk) := hR'.cell 6
      have r7 : w'.cell? ⟨w2.heap.size, 7, none⟩ = some (.bool true) := hR'.cell 7
      go_simp
      first
        | (rw [if_neg (by omega)]; refine ⟨?_, hD⟩; rfl)
        | (refine ⟨?_, hD⟩; rfl)
        | (change Calls _ _ _ _ _; (with_reducible refine (HC.out w').mono ?_); rintro e w'' ⟨rfl, h⟩; refine ⟨?_, hD.trans h⟩; rfl)
        | (change Calls _ _ _ _ _; (with_reducible refine (HD.out w').mono ?_); rintro e w'' ⟨rfl, h⟩; refine ⟨?_, hD.trans h⟩; rfl)
        | (change Calls _ _ _ _ _; (with_reducible refine (HE.out w').mono ?_); rintro e w'' ⟨rfl, h⟩; refine ⟨?_, hD.trans h⟩; rfl)
        | (change Calls _ _ _ _ _; (with_reducible refine (HF.out w').mono ?_); rintro e w'' ⟨rfl, h⟩; refine ⟨?_, hD.trans h⟩; rfl)
        | (change Calls _ _ _ _ _; (with_reducible refine (HG.out w').mono ?_); rintro e w'' ⟨rfl, h⟩; refine ⟨?_, hD.trans h⟩; rfl)
    simp only [Act.put, List.setIfInBounds_toArray, List.set_cons_succ, List.set_cons_zero, Nat.zero_add, Nat.reduceAdd])
  refine wpT_nil ?_
  intro w6 hD
  have hR6 := hD.blk hR (by simp)
  have hO2 := hO3.trans hD
  have r7 : w6.cell? ⟨w2.heap.size, 7, none⟩ = some (.bool true) := hR6.cell 7
  clear hD hR hR6 hO3
  go_wp2
  all_goals first
    | (exfalso; omega)
    | (go_ret2
       exact ⟨by rw [HT.out]; simp, hO2⟩)

set_option maxRecDepth 100000 in
set_option maxHeartbeats 8000000 in
theorem rshow_1f (ix rw fr tt rk : Nat) (rd wt : Bool) (hi : ix ≤ 999) (hrw : rw ≤ 99) (hfr : fr < 4294967296) (htt : tt < 4294967296) (hrk : rk ≤ 999) (c : Cf) (hc : c = ⟨1, ix, 0, 0, true, rw, fr, tt, rd, wt, rk, false⟩) (hr : c.right = true) (w : World) :
    Calls Tryz.prog 49 #[c.agg] w fun e w' => e = .returned (.tuple #[str c.text, .int .i64 0]) ∧ Only [] w w' := by
  have Hr := Lib.hid (rright_any c)
  rw [hr] at Hr
  subst hc
  clear hr
  have HT : Hid (Cf.text ⟨1, ix, 0, 0, true, rw, fr, tt, rd, wt, rk, false⟩ = [114, 101, 103, 105, 111, 110, 32] ++ (numL 10 ix ++ 32 :: (numL 10 rw ++ 32 :: (numL 16 fr ++ 32 :: (numL 16 tt ++ 32 :: (rightsL rd wt ++ 32 :: (numL 10 rk ++ []))))))) := Lib.hid (by simp [Cf.text, Cf.words, Lib.join, kindW, dec, hexa, List.intercalate])
  have HA := Lib.hid (rnumber_10 ix (by omega))
  have lA : (numL 10 ix).length ≤ 16 := rnum_len 10 (by omega) 15 ix (by omega)
  have HB := Lib.hid rnumber_zero
  have HC := Lib.hid (rnumber_10 rw (by omega))
  have lC : (numL 10 rw).length ≤ 16 := rnum_len 10 (by omega) 15 rw (by omega)
  have HD := Lib.hid (rnumber_16 fr (by omega))
  have lD : (numL 16 fr).length ≤ 16 := rnum_len 16 (by omega) 15 fr (by omega)
  have HE := Lib.hid (rnumber_16 tt (by omega))
  have lE : (numL 16 tt).length ≤ 16 := rnum_len 16 (by omega) 15 tt (by omega)
  have HF := Lib.hid (rnumber_10 rk (by omega))
  have lF : (numL 10 rk).length ≤ 16 := rnum_len 10 (by omega) 15 rk (by omega)
  generalize numL 10 ix = A at *
  generalize numL 10 rw = C at *
  generalize numL 16 fr = D at *
  generalize numL 16 tt = E at *
  generalize numL 10 rk = F at *
  have wf : IntKind.i64.wrap (fr : Int) = (fr : Int) := IntWalk.i64_in _ (by omega)
  have wt2 : IntKind.i64.wrap (tt : Int) = (tt : Int) := IntWalk.i64_in _ (by omega)
  have lR : (rightsL rd wt).length ≤ 2 := by cases rd <;> cases wt <;> simp [rightsL]
  have HG := Lib.hid (rrights_any true rd wt false rw fr tt rk)
  generalize rightsL rd wt = G at *
  go_enter Tryz.func49, Tryz.ntmps49
  go_wp2_with fail
  refine (Hr.out _).mono ?_
  rintro e w1 ⟨rfl, hO1⟩
  have hE : CfB w1 w.heap.size ⟨1, ix, 0, 0, true, rw, fr, tt, rd, wt, rk, false⟩ := hO1.cf (Blk.new' rfl rfl) (by simp)
  have hO := ((Only.refl [] w).alloc (.cells #[.int .i64 1, .int .i64 ix, .int .i64 0, .int .i64 0, .bool true, .int .i64 rw, .int .u32 fr, .int .u32 tt, .bool rd, .bool wt, .int .i64 rk, .bool false] 31)).trans hO1
  clear hO1 Hr
  go_wp2_with fail
  refine wp_region_D (Only [] w1) (by kernel_rfl) (by kernel_rfl) ((Only.refl _ _).drew) ?_
  repeat (
    refine wpT_step ?_ (stD rfl (fun w' hD => ?_)) ?_
    rotate_left
    · obtain ⟨c0, c1, c2, c3, -⟩ := (hD.cf hE (by simp)).c
      simp only at c0 c1 c2 c3
      go_simp
      first
        | (rw [if_neg (by omega)]; refine ⟨?_, hD⟩; rfl)
        | (refine ⟨?_, hD⟩; rfl)
        | (change Calls _ _ _ _ _; (with_reducible refine (HA.out w').mono ?_); rintro e w'' ⟨rfl, h⟩; refine ⟨?_, hD.trans h⟩; rfl)
        | (change Calls _ _ _ _ _; (with_reducible refine (HB.out w').mono ?_); rintro e w'' ⟨rfl, h⟩; refine ⟨?_, hD.trans h⟩; rfl)
        | (change Calls _ _ _ _ _; (with_reducible refine (HC.out w').mono ?_); rintro e w'' ⟨rfl, h⟩; refine ⟨?_, hD.trans h⟩; rfl)
        | (change Calls _ _ _ _ _; (with_reducible refine (HD.out w').mono ?_); rintro e w'' ⟨rfl, h⟩; refine ⟨?_, hD.trans h⟩; rfl)
        | (change Calls _ _ _ _ _; (with_reducible refine (HE.out w').mono ?_); rintro e w'' ⟨rfl, h⟩; refine ⟨?_, hD.trans h⟩; rfl)
        | (change Calls _ _ _ _ _; (with_reducible refine (HF.out w').mono ?_); rintro e w'' ⟨rfl, h⟩; refine ⟨?_, hD.trans h⟩; rfl)
    simp only [Act.put, List.setIfInBounds_toArray, List.set_cons_succ, List.set_cons_zero, Nat.zero_add, Nat.reduceAdd])
  refine wpT_nil ?_
  intro w2 hD
  have hE2 := hD.cf hE (by simp)
  have hO2 := hO.trans hD
  clear hD hE hO
  obtain ⟨c0, c1, c2, c3, c4, c5, c6, c7, c8, c9, c10, c11, -⟩ := hE2.c
  simp only at c0 c1 c2 c3 c4 c5 c6 c7 c8 c9 c10 c11
  go_wp2_with fail
  have hR : Blk (w2.alloc (.cells #[.bool true, .int .i64 rw, .int .u32 fr, .int .u32 tt, .bool rd, .bool wt, .int .i64 rk, .bool false] 29)) w2.heap.size 29 #[.bool true, .int .i64 rw, .int .u32 fr, .int .u32 tt, .bool rd, .bool wt, .int .i64 rk, .bool false] := Blk.new' rfl rfl
  have hO3 := hO2.alloc (.cells #[.bool true, .int .i64 rw, .int .u32 fr, .int .u32 tt, .bool rd, .bool wt, .int .i64 rk, .bool false] 29)
  generalize hW3 : w2.alloc (.cells #[.bool true, .int .i64 rw, .int .u32 fr, .int .u32 tt, .bool rd, .bool wt, .int .i64 rk, .bool false] 29) = W3 at *
  have HW3 := Lib.hid hW3
  clear hW3 c0 c1 c2 c3 c4 c5 c6 c7 c8 c9 c10 c11
  refine wp_region_D (Only [] W3) (by kernel_rfl) (by kernel_rfl) ((Only.refl _ _).drew) ?_
  repeat (
    refine wpT_step ?_ (stD rfl (fun w' hD => ?_)) ?_
    rotate_left
    · have hR' := hD.blk hR (by simp)
      have r0 : w'.cell? ⟨w2.heap.size, 0, none⟩ = some (.bool true) := hR'.cell 0
      have r1 : w'.cell? ⟨w2.heap.size, 1, none⟩ = some (.int .i64 rw) := hR'.cell 1
      have r2 : w'.cell? ⟨w2.heap.size, 2, none⟩ = some (.int .u32 fr) := hR'.cell 2
      have r3 : w'.cell? ⟨w2.heap.size, 3, none⟩ = some (.int .u32 tt) := hR'.cell 3
      have r4 : w'.cell? ⟨w2.heap.size, 4, none⟩ = some (.bool rd) := hR'.cell 4
      have r5 : w'.cell? ⟨w2.heap.size, 5, none⟩ = some (.bool wt) := hR'.cell 5
      have r6 : w'.cell? ⟨w2.heap.size, 6, none⟩ = some (.int .i64 rk) := hR'.cell 6
      have r7 : w'.cell? ⟨w2.heap.size, 7, none⟩ = some (.bool false) := hR'.cell 7
      go_simp
      first
        | (rw [if_neg (by omega)]; refine ⟨?_, hD⟩; rfl)
        | (refine ⟨?_, hD⟩; rfl)
        | (change Calls _ _ _ _ _; (with_reducible refine (HC.out w').mono ?_); rintro e w'' ⟨rfl, h⟩; refine ⟨?_, hD.trans h⟩; rfl)
        | (change Calls _ _ _ _ _; (with_reducible refine (HD.out w').mono ?_); rintro e w'' ⟨rfl, h⟩; refine ⟨?_, hD.trans h⟩; rfl)
        | (change Calls _ _ _ _ _; (with_reducible refine (HE.out w').mono ?_); rintro e w'' ⟨rfl, h⟩; refine ⟨?_, hD.trans h⟩; rfl)
        | (change Calls _ _ _ _ _; (with_reducible refine (HF.out w').mono ?_); rintro e w'' ⟨rfl, h⟩; refine ⟨?_, hD.trans h⟩; rfl)
        | (change Calls _ _ _ _ _; (with_reducible refine (HG.out w').mono ?_); rintro e w'' ⟨rfl, h⟩; refine ⟨?_, hD.trans h⟩; rfl)
    simp only [Act.put, List.setIfInBounds_toArray, List.set_cons_succ, List.set_cons_zero, Nat.zero_add, Nat.reduceAdd])
  refine wpT_nil ?_
  intro w6 hD
  have hR6 := hD.blk hR (by simp)
  have hO2 := hO3.trans hD
  have r7 : w6.cell? ⟨w2.heap.size, 7, none⟩ = some (.bool false) := hR6.cell 7
  clear hD hR hR6 hO3
  go_wp2
  all_goals first
    | (exfalso; omega)
    | (go_ret2
       exact ⟨by rw [HT.out]; simp, hO2⟩)
end Go.Proofs.YtagmoehjcgjnjaaGreatDoor

namespace Go.Proofs.YtagmoehjcgjnjaaGreatDoor
open Go Go.RowKit

theorem rshow_ok (c : Cf) (hf : c.Fits) (hr : c.right = true) (w : World) :
    Calls Tryz.prog 49 #[c.agg] w fun e w' => e = .returned (.tuple #[str c.text, .int .i64 0]) ∧ Only [] w w' := by
  cases Shape.of c hf hr with
  | region ix rw rk fr tt rd wt lk h1 h2 h3 h4 h5 =>
    cases lk
    · exact rshow_1f ix rw fr tt rk rd wt h1 h2 h4 h5 h3 _ rfl hr w
    · exact rshow_1t ix rw fr tt rk rd wt h1 h2 h4 h5 h3 _ rfl hr w
  | one k ix hk h1 =>
    rcases hk with rfl | rfl
    · exact rshow_2 ix h1 _ rfl hr w
    · exact rshow_4 ix h1 _ rfl hr w
  | two k ix wo hk h1 h2 =>
    rcases hk with rfl | rfl
    · exact rshow_3 ix wo h1 h2 _ rfl hr w
    · exact rshow_5 ix wo h1 h2 _ rfl hr w
  | route ix ln h1 h2 h3 =>
    by_cases hn : ln < 0
    · obtain rfl : ln = -1 := by omega
      exact rshow_6n ix h1 _ rfl hr w
    · obtain ⟨m, rfl⟩ : ∃ m : Nat, ln = m := ⟨ln.toNat, by omega⟩
      exact rshow_6 ix m h1 (by omega) _ rfl hr w
  | lock => exact rshow_7 _ rfl hr w

set_option maxHeartbeats 1000000 in
theorem rshow_no (c : Cf) (hr : c.right = false) (w : World) :
    Calls Tryz.prog 49 #[c.agg] w fun e w' => e = .returned (.tuple #[str [], .int .i64 4]) ∧ Only [] w w' := by
  have Hr := Lib.hid (rright_any c)
  rw [hr] at Hr
  clear hr
  obtain ⟨kd, ix, wo, ln, on, rw, fr, tt, rd, wt, rk, lk⟩ := c
  go_enter Tryz.func49, Tryz.ntmps49
  go_wp2_with fail
  refine (Hr.out _).mono ?_
  rintro e w1 ⟨rfl, hO1⟩
  go_wp2_with fail
  go_ret2
  exact ⟨rfl, ((Only.refl [] w).alloc _).trans hO1⟩

theorem rshow_any (c : Cf) (hf : c.Fits) (w : World) :
    Calls Tryz.prog 49 #[c.agg] w fun e w' => e = .returned (.tuple #[str c.shown, .int .i64 c.err]) ∧ Only [] w w' := by
  unfold Cf.shown Cf.err
  cases hr : c.right with
  | true => exact rshow_ok c hf hr w
  | false => exact rshow_no c hr w

end Go.Proofs.YtagmoehjcgjnjaaGreatDoor
