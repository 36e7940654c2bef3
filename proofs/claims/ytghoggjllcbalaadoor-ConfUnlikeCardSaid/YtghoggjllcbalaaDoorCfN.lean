/- Numbers as texts, in a base: plain words and laws. No condition. -/
import Derived.Lib.ItoaNum
namespace Go.Proofs.YtghoggjllcbalaaDoor
open Go

/-- A digit, to 35. -/
def hx (d : Nat) : UInt8 := UInt8.ofNat (if d < 10 then 48 + d else 87 + d)
/-- A number's digits in a base of two or more, without noughts ahead. -/
def numL (b n : Nat) : List UInt8 := if _h : n < b ∨ b < 2 then [hx n] else numL b (n / b) ++ [hx (n % b)]
termination_by n
decreasing_by exact Nat.div_lt_self (by omega) (by omega)

theorem numL_lt {b n : Nat} (h : n < b) : numL b n = [hx n] := by rw [numL, dif_pos (.inl h)]
theorem numL_ge {b n : Nat} (hb : 2 ≤ b) (h : b ≤ n) : numL b n = numL b (n / b) ++ [hx (n % b)] := by rw [numL, dif_neg (by omega)]
theorem hx_dec {d : Nat} (h : d < 10) : hx d = UInt8.ofNat (48 + d) := by unfold hx; rw [if_pos h]
theorem dec_numL (n : Nat) : Lib.decDigits n = numL 10 n := by
  induction n using Nat.strongRecOn with
  | ind n ih =>
    rw [Lib.decDigits]
    by_cases h : n < 10
    · rw [dif_pos h, numL_lt h, hx_dec h]
    · rw [dif_neg h, numL_ge (by omega) (by omega), ih (n / 10) (by omega), hx_dec (by omega)]
theorem itoa_numL {n : Int} (h : 0 ≤ n) : Lib.itoa n = numL 10 n.toNat := by
  unfold Lib.itoa
  rw [if_neg (by omega), dec_numL]
theorem hx_toNat {d : Nat} (h : d < 16) : (hx d).toNat = if d < 10 then 48 + d else 87 + d := by
  unfold hx
  rw [UInt8.toNat_ofNat']
  split <;> omega
end Go.Proofs.YtghoggjllcbalaaDoor
