/- The document's side of traces: Number, walked. Conditions: the base is 10 or 16, the number is none below nought. -/
import Derived.Test.YtojleleohhaigaaDoorTrU
import Derived.Deep.QuietTactic
import Derived.BigQuiet
import Derived.IntWalk
namespace Go.Proofs.YtojleleohhaigaaDoor
open Go Go.RowKit

theorem digit_cut : ∀ d, d < 16 → (ByteArray.mk #[48, 49, 50, 51, 52, 53, 54, 55, 56, 57, 97, 98, 99, 100, 101, 102]).extract d (d + 1) = ⟨#[hx d]⟩ := by decide
theorem str_cat (x y : List UInt8) : (ByteArray.mk x.toArray) ++ (ByteArray.mk y.toArray) = ByteArray.mk (x ++ y).toArray := by
  apply ByteArray.ext
  simp [ByteArray.data_append]
theorem str_app (x y : List UInt8) : Value.string (ByteArray.mk x.toArray ++ ByteArray.mk y.toArray) = str (x ++ y) := by rw [str_cat]
theorem rnum_len (b : Nat) (hb : 2 ≤ b) : ∀ (k n : Nat), n < b ^ (k + 1) → (numL b n).length ≤ k + 1
  | 0, n, h => by rw [numL_lt (by simpa using h)]; simp
  | k + 1, n, h => by
    by_cases hn : n < b
    · rw [numL_lt hn]; simp
    · rw [numL_ge hb (by omega)]
      have := rnum_len b hb k (n / b) (Nat.div_lt_of_lt_mul (by rw [Nat.pow_succ] at h; rw [Nat.mul_comm]; exact h))
      simp
      omega

set_option maxHeartbeats 1000000 in
theorem rnumber_10 (n : Nat) : n < 9223372036854775808 → ∀ w : World, Calls Tryd.prog 58 #[.int .i64 n, .int .i64 10] w fun e w' => e = .returned (str (numL 10 n)) ∧ Only [] w w' := by
  induction n using Nat.strongRecOn with
  | ind n ih =>
    intro hn w
    obtain ⟨d, hd⟩ : ∃ d, n % 10 = d := ⟨_, rfl⟩
    obtain ⟨q, hq⟩ : ∃ q, n / 10 = q := ⟨_, rfl⟩
    have hdi : (n : Int).tmod 10 = (d : Int) := by rw [Int.tmod_eq_emod_of_nonneg (by omega)]; omega
    have hqi : (n : Int) / 10 = (q : Int) := by omega
    have hd10 : d < 10 := by omega
    have hcut := digit_cut d (by omega)
    have h0 : (0 : Int) ≤ d := by omega
    have h1 : (d : Int) + 1 ≤ 16 := by omega
    have hw : IntKind.i64.wrap ((d : Int) + 1) = (d : Int) + 1 := IntWalk.i64_in _ (by omega)
    have h2 : (d : Int) ≤ (d : Int) + 1 := by omega
    have h3 : ((d : Int) + 1).toNat = d + 1 := by omega
    by_cases h : n < 10
    · have HL : Hid (numL 10 n = [hx d]) := Lib.hid (by rw [numL_lt h]; congr 2; omega)
      have hlt : (n : Int) < 10 := by omega
      clear ih hd hq
      go_enter Tryd.func58, Tryd.ntmps58
      go_wp2
      go_quiet (fail)
      go_wp2
      go_ret
      exact ⟨by rw [HL.out]; rfl, (Only.refl _ _).drewN _⟩
    · have HL : Hid (numL 10 n = numL 10 q ++ [hx d]) := Lib.hid (by rw [numL_ge (by omega) (by omega), hd, hq])
      have hge : ¬ (n : Int) < 10 := by omega
      have HI := Lib.hid (ih q (by omega) (by omega))
      have hlen : ¬ 9223372036854775807 < (numL 10 q).length + 1 := by
        have := rnum_len 10 (by omega) 19 q (by omega)
        omega
      clear ih hd hq
      go_enter Tryd.func58, Tryd.ntmps58
      go_wp2
      go_quiet (fail)
      go_wp2_with fail
      refine (HI.out _).mono ?_
      rintro e w' ⟨rfl, hO⟩
      go_wp2
      go_ret
      exact ⟨by rw [HL.out, ← str_app]; rfl, ((Only.refl _ _).drewN _).trans hO⟩

set_option maxHeartbeats 1000000 in
theorem rnumber_16 (n : Nat) : n < 9223372036854775808 → ∀ w : World, Calls Tryd.prog 58 #[.int .i64 n, .int .i64 16] w fun e w' => e = .returned (str (numL 16 n)) ∧ Only [] w w' := by
  induction n using Nat.strongRecOn with
  | ind n ih =>
    intro hn w
    obtain ⟨d, hd⟩ : ∃ d, n % 16 = d := ⟨_, rfl⟩
    obtain ⟨q, hq⟩ : ∃ q, n / 16 = q := ⟨_, rfl⟩
    have hdi : (n : Int).tmod 16 = (d : Int) := by rw [Int.tmod_eq_emod_of_nonneg (by omega)]; omega
    have hqi : (n : Int) / 16 = (q : Int) := by omega
    have hd10 : d < 16 := by omega
    have hcut := digit_cut d (by omega)
    have h0 : (0 : Int) ≤ d := by omega
    have h1 : (d : Int) + 1 ≤ 16 := by omega
    have hw : IntKind.i64.wrap ((d : Int) + 1) = (d : Int) + 1 := IntWalk.i64_in _ (by omega)
    have h2 : (d : Int) ≤ (d : Int) + 1 := by omega
    have h3 : ((d : Int) + 1).toNat = d + 1 := by omega
    by_cases h : n < 16
    · have HL : Hid (numL 16 n = [hx d]) := Lib.hid (by rw [numL_lt h]; congr 2; omega)
      have hlt : (n : Int) < 16 := by omega
      clear ih hd hq
      go_enter Tryd.func58, Tryd.ntmps58
      go_wp2
      go_quiet (fail)
      go_wp2
      go_ret
      exact ⟨by rw [HL.out]; rfl, (Only.refl _ _).drewN _⟩
    · have HL : Hid (numL 16 n = numL 16 q ++ [hx d]) := Lib.hid (by rw [numL_ge (by omega) (by omega), hd, hq])
      have hge : ¬ (n : Int) < 16 := by omega
      have HI := Lib.hid (ih q (by omega) (by omega))
      have hlen : ¬ 9223372036854775807 < (numL 16 q).length + 1 := by
        have := rnum_len 16 (by omega) 15 q (by omega)
        omega
      clear ih hd hq
      go_enter Tryd.func58, Tryd.ntmps58
      go_wp2
      go_quiet (fail)
      go_wp2_with fail
      refine (HI.out _).mono ?_
      rintro e w' ⟨rfl, hO⟩
      go_wp2
      go_ret
      exact ⟨by rw [HL.out, ← str_app]; rfl, ((Only.refl _ _).drewN _).trans hO⟩

theorem rnumber_zero (w : World) : Calls Tryd.prog 58 #[.int .i64 0, .int .i64 10] w fun e w' => e = .returned (str [48]) ∧ Only [] w w' := by
  have h := rnumber_10 0 (by omega) w
  rw [numL_lt (by omega)] at h
  exact h
end Go.Proofs.YtojleleohhaigaaDoor
