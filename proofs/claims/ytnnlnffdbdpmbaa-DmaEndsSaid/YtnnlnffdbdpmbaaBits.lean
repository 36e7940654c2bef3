/- Small facts on the bits of a word of 32 bits. No condition. -/
import Derived.WalkKit
namespace Go.Proofs.Ytnnlnffdbdpmbaa
open Go

theorem nat_or_one (x : Nat) : x ||| 1 = x + (1 - x % 2) := by
  have h1 : (x ||| 1) / 2 = x / 2 := by rw [Nat.or_div_two]; simp
  have h2 : (x ||| 1) % 2 = 1 := by rw [Nat.or_mod_two_eq_one]; simp
  omega
theorem nat_clear_one (x : Nat) (h : x < 4294967296) : x &&& 4294967294 = x - x % 2 := by
  have h1 : (x &&& 4294967294) / 2 = x / 2 := by
    rw [Nat.and_div_two]
    show x / 2 &&& (2 ^ 31 - 1) = _
    rw [Nat.and_two_pow_sub_one_eq_mod]
    omega
  have h2 : (x &&& 4294967294) % 2 = 0 := by
    have : ¬ (x &&& 4294967294) % 2 = 1 := by rw [Nat.and_mod_two_eq_one]; simp
    omega
  omega
theorem or_one (v : Int) (h0 : 0 ≤ v) (h1 : v < 4294967296) : bits .or .u32 v 1 = v + (1 - v % 2) := by
  rw [u32_or v 1 h0 h1 (by omega) (by omega)]
  have : v.toNat ||| (1 : Int).toNat = v.toNat + (1 - v.toNat % 2) := nat_or_one _
  omega
theorem clear_one (v : Int) (h0 : 0 ≤ v) (h1 : v < 4294967296) : bits .andNot .u32 v 1 = v - v % 2 := by
  rw [u32_andNot v 1 h0 h1 (by omega) (by omega)]
  have : v.toNat &&& (4294967295 - (1 : Int).toNat) = v.toNat - v.toNat % 2 := nat_clear_one _ (by omega)
  omega
end Go.Proofs.Ytnnlnffdbdpmbaa
