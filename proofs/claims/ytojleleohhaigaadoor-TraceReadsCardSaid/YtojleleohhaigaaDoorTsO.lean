/- The document's side of traces: Of, walked. Conditions: the base is 10 or 16, at most eight digits. -/
import Derived.Test.YtojleleohhaigaaDoorTsN
import Derived.LoopTactic
namespace Go.Proofs.YtojleleohhaigaaDoor
open Go Go.RowKit

/-- What a byte says as a digit of base 10 or 16. -/
def rdig (b : Nat) (c : UInt8) : Option Nat := if 48 ≤ c.toNat ∧ c.toNat ≤ 57 then some (c.toNat - 48) else if b = 16 ∧ 97 ≤ c.toNat ∧ c.toNat ≤ 102 then some (c.toNat - 87) else none
/-- The same, looked for among the first k digits; -1: none. -/
def fdig (b k : Nat) (c : UInt8) : Int := match rdig b c with
  | some d => if d < k then (d : Int) else -1
  | none => -1
/-- The number that digits say. -/
def rgo (b : Nat) (acc : Nat) : List UInt8 → Option Nat
  | [] => some acc
  | c :: r => match rdig b c with
    | none => none
    | some d => rgo b (acc * b + d) r
/-- What Of answers. -/
def rOf (b most : Nat) (l : List UInt8) : Int :=
  if most < l.length then -1 else match rgo b 0 l with
  | none => -1
  | some v => if l = [] ∨ (l.head? = some 48 ∧ 1 < l.length) then -1 else v

theorem rdig_hx10 : ∀ k, k < 10 → rdig 10 (hx k) = some k := by decide
theorem rdig_hx16 : ∀ k, k < 16 → rdig 16 (hx k) = some k := by decide
theorem rdig_hx {b : Nat} (hb : b = 10 ∨ b = 16) {k : Nat} (hk : k < b) : rdig b (hx k) = some k := by
  rcases hb with rfl | rfl
  · exact rdig_hx10 k hk
  · exact rdig_hx16 k hk
theorem rdig_lt {b : Nat} (hb : b = 10 ∨ b = 16) {c : UInt8} {d : Nat} (h : rdig b c = some d) : d < b ∧ c = hx d := by
  unfold rdig at h
  split at h
  · rename_i h1
    injection h with h
    refine ⟨by omega, UInt8.toNat_inj.1 ?_⟩
    rw [hx_toNat (by omega)]
    split <;> omega
  · split at h
    · rename_i h1
      injection h with h
      refine ⟨by omega, UInt8.toNat_inj.1 ?_⟩
      rw [hx_toNat (by omega)]
      split <;> omega
    · cases h
theorem fdig_zero (b : Nat) (c : UInt8) : fdig b 0 c = -1 := by
  unfold fdig
  split <;> simp
theorem fdig_yes {b : Nat} (hb : b = 10 ∨ b = 16) {k : Nat} (hk : k < b) : fdig b (k + 1) (hx k) = k := by
  unfold fdig
  rw [rdig_hx hb hk]
  simp
theorem fdig_no {b : Nat} (hb : b = 10 ∨ b = 16) {k : Nat} {c : UInt8} (h : hx k ≠ c) : fdig b (k + 1) c = fdig b k c := by
  unfold fdig
  cases hd : rdig b c with
  | none => rfl
  | some d =>
    have := rdig_lt hb hd
    have hdk : d ≠ k := fun e => h (by rw [← e]; exact this.2.symm)
    simp only
    by_cases hlt : d < k
    · rw [if_pos (by omega), if_pos hlt]
    · rw [if_neg (by omega), if_neg hlt]
theorem fdig_all {b : Nat} (hb : b = 10 ∨ b = 16) (c : UInt8) : fdig b b c = match rdig b c with | some d => (d : Int) | none => -1 := by
  unfold fdig
  cases hd : rdig b c with
  | none => rfl
  | some d => simp only; rw [if_pos (rdig_lt hb hd).1]
theorem fdig_rng {b : Nat} (k : Nat) (hk : k ≤ b) (c : UInt8) : -1 ≤ fdig b k c ∧ fdig b k c < b := by
  unfold fdig
  split
  · split <;> omega
  · omega

theorem digs_at (k : Nat) (hk : k < 16) (h : k < (ByteArray.mk #[48, 49, 50, 51, 52, 53, 54, 55, 56, 57, 97, 98, 99, 100, 101, 102]).size) : (ByteArray.mk #[48, 49, 50, 51, 52, 53, 54, 55, 56, 57, 97, 98, 99, 100, 101, 102])[k]'h = hx k := by
  have := (show ∀ k, (h : k < 16) → (ByteArray.mk #[48, 49, 50, 51, 52, 53, 54, 55, 56, 57, 97, 98, 99, 100, 101, 102])[k]'h = hx k by decide) k hk
  exact this

set_option maxHeartbeats 4000000 in
theorem rof_walk (b : Nat) (hb : b = 10 ∨ b = 16) (most : Nat) (hm : most ≤ 8) (l : List UInt8) (hl : l.length ≤ 1000000) (w : World) :
    Calls Tryd.prog 44 #[str l, .int .i64 b, .int .i64 most] w fun e w' => e = .returned (.int .i64 (rOf b most l)) ∧ Only [] w w' := by
  by_cases hlen : most < l.length
  · have HR : Hid (rOf b most l = -1) := Lib.hid (by unfold rOf; rw [if_pos hlen])
    have hlen1 : (most : Int) < (l.length : Int) := by omega
    have hlen2 : decide ((l.length : Int) ≤ (most : Int)) = false := by simpa using hlen
    have hlen3 : (0 : Int) < (l.length : Int) := by omega
    have hlne : (l == []) = false := by cases l <;> simp at hlen3 ⊢
    go_enter Tryd.func44, Tryd.ntmps44
    go_wp2
    go_loopw [7, 8] (fun n i wr => n = .int .i64 0 ∧ i = .int .i64 0 ∧ Only [] w wr) (fun _ _ _ => 0)
    case atStart => exact ⟨rfl, rfl, Only.refl _ _⟩
    case round =>
      obtain ⟨rfl, rfl, hO⟩ := hrel
      go_wp2
      go_ret
      exact ⟨by rw [HR.out]; rfl, hO⟩
  · have hlm : l.length ≤ most := by omega
    have g1 : decide (l.length ≤ most) = true := by simpa using hlm
    have g2 : ¬ (most : Int) < (l.length : Int) := by omega
    have hl8 : l.length ≤ 8 := by omega
    have hbi : (b : Int) = 10 ∨ (b : Int) = 16 := by omega
    have HB := Lib.hid hb
    have HR : Hid (rOf b most l = match rgo b 0 l with | none => -1 | some v => if l = [] ∨ (l.head? = some 48 ∧ 1 < l.length) then -1 else v) := Lib.hid (by unfold rOf; rw [if_neg hlen])
    have hb2 : (10 : Int) ≤ b := by omega
    have hb3 : (b : Int) ≤ 16 := by omega
    clear hlen hlm hbi hb
    go_enter Tryd.func44, Tryd.ntmps44
    go_wp2
    go_loopw [7, 8] (fun n i wr => ∃ (k acc : Nat), n = .int .i64 acc ∧ i = .int .i64 k ∧ k ≤ l.length ∧ Hid (acc < 16 ^ k ∧ rgo b 0 l = rgo b acc (l.drop k)) ∧ Only [] w wr) (fun _ i _ => l.length - (intOf i).toNat)
    case atStart => exact ⟨0, 0, rfl, rfl, by omega, ⟨by simp, by simp⟩, Only.refl _ _⟩
    case round =>
      obtain ⟨k, acc, rfl, rfl, hk, hh, hO⟩ := hrel
      by_cases hkl : k < l.length
      · have hki : (k : Int) < (l.length : Int) := by omega
        have hdrop : l.drop k = l[k] :: l.drop (k + 1) := List.drop_eq_getElem_cons hkl
        have HD : Hid (rgo b 0 l = rgo b acc (l[k] :: l.drop (k + 1)) ∧ acc < 16 ^ k) := Lib.hid ⟨by rw [← hdrop]; exact hh.out.2, hh.out.1⟩
        have hsz : k < (ByteArray.mk l.toArray).size := by simpa [ByteArray.size] using hkl
        have hat : (ByteArray.mk l.toArray)[k]'hsz = l[k] := rfl
        obtain ⟨c, hc⟩ : ∃ c, l[k] = c := ⟨_, rfl⟩
        rw [hc] at HD hat
        have Hc := Lib.hid hc
        clear hdrop hc hh
        go_wp2
        go_loopw [9, 10] (fun d j wr2 => ∃ m : Nat, j = .int .i64 m ∧ m ≤ b ∧ d = .int .i64 (fdig b m c) ∧ Only [] w wr2) (fun _ j _ => b - (intOf j).toNat)
        case atStart => exact ⟨0, rfl, by omega, by rw [fdig_zero], hO⟩
        case round =>
          clear hO
          obtain ⟨m, rfl, hmb, rfl, hO⟩ := hrel
          by_cases hm2 : m < b
          · have hmi : (m : Int) < (b : Int) := by omega
            have hm16 : (m : Int) < 16 := by omega
            have hm0 : (0 : Int) ≤ m := by omega
            have hmsz : m < (ByteArray.mk #[48, 49, 50, 51, 52, 53, 54, 55, 56, 57, 97, 98, 99, 100, 101, 102]).size := by show m < 16; omega
            have hdat := digs_at m (by omega) hmsz
            by_cases he : hx m = c
            · have HF : Hid (fdig b (m + 1) c = m) := Lib.hid (by rw [← he]; exact fdig_yes HB.out hm2)
              rw [he] at hdat
              clear he
              go_wp2
              go_quiet (fail)
              go_wp2
              refine ⟨⟨m + 1, by go_num, by omega, by rw [HF.out], hO.drewN _⟩, ?_⟩
              simp [intOf]
              omega
            · have HF : Hid (fdig b (m + 1) c = fdig b m c) := Lib.hid (fdig_no HB.out he)
              have hne : ((hx m).toNat : Int) ≠ (c.toNat : Int) := by
                intro h
                exact he (UInt8.toNat_inj.1 (by omega))
              have hne1 : (((hx m).toNat : Int) == (c.toNat : Int)) = false := by simpa using hne
              clear he hne
              go_wp2
              go_quiet (fail)
              go_wp2
              refine ⟨⟨m + 1, by go_num, by omega, by rw [HF.out], hO.drewN _⟩, ?_⟩
              simp [intOf]
              omega
          · have hmb2 : m = b := by omega
            have hmi : ¬ (m : Int) < (b : Int) := by omega
            have hf := fdig_all HB.out c
            rw [← hmb2] at hf
            cases hd : rdig b c with
            | none =>
              have hF : fdig b m c = -1 := by rw [hmb2]; have := fdig_all HB.out c; rw [hd] at this; exact this
              have HZ : Hid (rOf b most l = -1) := Lib.hid (by rw [HR.out, HD.out.1]; simp only [rgo, hd])
              rw [hF]
              clear hF hf hd hmb2
              go_wp2
              go_ret
              exact ⟨by rw [HZ.out]; rfl, hO⟩
            | some d =>
              have hF : fdig b m c = (d : Int) := by rw [hmb2]; have := fdig_all HB.out c; rw [hd] at this; exact this
              have hdb := (rdig_lt HB.out hd).1
              have hacc := HD.out.2
              have hpk : 16 ^ k ≤ 16 ^ 7 := Nat.pow_le_pow_right (by omega) (by omega)
              have hb16 : b ≤ 16 := by omega
              have hab : acc * b ≤ acc * 16 := Nat.mul_le_mul_left acc hb16
              have HZ : Hid (acc * b + d < 16 ^ (k + 1) ∧ rgo b 0 l = rgo b (acc * b + d) (l.drop (k + 1))) := Lib.hid ⟨by rw [Nat.pow_succ]; omega, by rw [HD.out.1]; simp only [rgo, hd]⟩
              have hc1 : ((acc * b : Nat) : Int) = (acc : Int) * (b : Int) := by push_cast; rfl
              have hA0 : (0 : Int) ≤ (acc : Int) * (b : Int) := by rw [← hc1]; omega
              have hA1 : (acc : Int) * (b : Int) ≤ 4294967296 := by rw [← hc1]; omega
              have hB0 : (0 : Int) ≤ (acc : Int) * (b : Int) + (d : Int) := by omega
              have hB1 : (acc : Int) * (b : Int) + (d : Int) ≤ 4294967396 := by omega
              have hd0 : ¬ (d : Int) < 0 := by omega
              have HN : Hid (Value.int .i64 ((acc : Int) * (b : Int) + (d : Int)) = .int .i64 ((acc * b + d : Nat) : Int)) := Lib.hid (by rw [← hc1]; congr 1)
              rw [hF]
              clear hF hf hd hmb2 hdb hacc hpk hb16 hab hc1 HD
              go_wp2
              refine ⟨⟨k + 1, acc * b + d, HN.out, by go_num, by omega, HZ, hO⟩, ?_⟩
              simp [intOf]
              omega
      · have hkk : k = l.length := by omega
        have hki : ¬ (k : Int) < (l.length : Int) := by omega
        have HV : Hid (rOf b most l = if l = [] ∨ (l.head? = some 48 ∧ 1 < l.length) then -1 else (acc : Int)) := Lib.hid (by
          rw [HR.out, hh.out.2, List.drop_eq_nil_of_le (by omega)]
          rfl)
        clear hh HR hkk
        by_cases hnil : l = []
        · subst hnil
          go_wp2
          go_ret
          exact ⟨by rw [HV.out]; rfl, hO⟩
        · have hpos : 0 < l.length := List.length_pos_iff.2 hnil
          have hlne : (l == []) = false := by simpa using hnil
          have hl0 : (0 : Int) < (l.length : Int) := by omega
          have hsz0 : 0 < (ByteArray.mk l.toArray).size := by simpa [ByteArray.size] using hpos
          have hat : (ByteArray.mk l.toArray)[0]'hsz0 = l[0] := rfl
          have hhead : l.head? = some l[0] := by rw [← List.getElem?_eq_getElem hpos, List.head?_eq_getElem?]
          have HV2 : Hid (rOf b most l = if l[0] = 48 ∧ 1 < l.length then -1 else (acc : Int)) := Lib.hid (by
            rw [HV.out, hhead]
            simp [hnil])
          clear HV hhead hnil
          generalize l[0] = c at hat HV2
          by_cases h48 : c = 48
          · subst h48
            by_cases h1 : 1 < l.length
            · have HV3 : Hid (rOf b most l = -1) := Lib.hid (by rw [HV2.out, if_pos ⟨rfl, h1⟩])
              have h1i : (1 : Int) < (l.length : Int) := by omega
              clear HV2 h1
              go_wp2
              go_ret
              exact ⟨by rw [HV3.out]; rfl, hO⟩
            · have HV3 : Hid (rOf b most l = acc) := Lib.hid (by rw [HV2.out, if_neg (fun h => h1 h.2)])
              have h1i : ¬ (1 : Int) < (l.length : Int) := by omega
              have h1d : decide (1 < l.length) = false := by simpa using h1
              clear HV2 h1
              go_wp2
              go_ret
              exact ⟨by rw [HV3.out]; rfl, hO⟩
          · have HV3 : Hid (rOf b most l = acc) := Lib.hid (by rw [HV2.out, if_neg (fun h => h48 h.1)])
            have hne : ¬ (c.toNat : Int) = 48 := by
              intro h
              exact h48 (UInt8.toNat_inj.1 (by have : (48 : UInt8).toNat = 48 := rfl; omega))
            have hne1 : ((c.toNat : Int) == 48) = false := by simpa using hne
            clear HV2 h48 hne
            go_wp2
            go_ret
            exact ⟨by rw [HV3.out]; rfl, hO⟩

theorem rof_10_1 (l : List UInt8) (hl : l.length ≤ 1000000) (w : World) : Calls Tryd.prog 44 #[str l, .int .i64 10, .int .i64 1] w fun e w' => e = .returned (.int .i64 (rOf 10 1 l)) ∧ Only [] w w' := rof_walk 10 (.inl rfl) 1 (by omega) l hl w
theorem rof_10_2 (l : List UInt8) (hl : l.length ≤ 1000000) (w : World) : Calls Tryd.prog 44 #[str l, .int .i64 10, .int .i64 2] w fun e w' => e = .returned (.int .i64 (rOf 10 2 l)) ∧ Only [] w w' := rof_walk 10 (.inl rfl) 2 (by omega) l hl w
theorem rof_10_4 (l : List UInt8) (hl : l.length ≤ 1000000) (w : World) : Calls Tryd.prog 44 #[str l, .int .i64 10, .int .i64 4] w fun e w' => e = .returned (.int .i64 (rOf 10 4 l)) ∧ Only [] w w' := rof_walk 10 (.inl rfl) 4 (by omega) l hl w
theorem rof_16_8 (l : List UInt8) (hl : l.length ≤ 1000000) (w : World) : Calls Tryd.prog 44 #[str l, .int .i64 16, .int .i64 8] w fun e w' => e = .returned (.int .i64 (rOf 16 8 l)) ∧ Only [] w w' := rof_walk 16 (.inr rfl) 8 (by omega) l hl w
end Go.Proofs.YtojleleohhaigaaDoor
