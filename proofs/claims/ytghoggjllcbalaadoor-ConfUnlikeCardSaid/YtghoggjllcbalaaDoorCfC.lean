/- Right of package conf: whether a command can be said. No condition. -/
import Derived.Test.YtghoggjllcbalaaDoorCfB
import Derived.Test.YtghoggjllcbalaaDoorCfB2
import Derived.Test.YtghoggjllcbalaaDoorCfB3
import Derived.Test.YtghoggjllcbalaaDoorCfB4
namespace Go.Proofs.YtghoggjllcbalaaDoor
open Go Go.RowKit

theorem right_any (c : Cf) (w : World) :
    Calls Tryd.prog 10 #[c.agg] w fun e w' => e = .returned (.bool c.right) ∧ Only [] w w' := by
  by_cases h0 : c.kd < 1 ∨ 7 < c.kd
  · exact right_lo c w h0
  have h1 : 1 ≤ c.kd := by omega
  have h2 : c.kd ≤ 7 := by omega
  cases hs : c.same c.named with
  | false =>
    have e : c.right = false := by simp [Cf.right, hs]
    rw [e]
    exact right_un c _ w h1 h2 rfl hs
  | true =>
    have h3 : c.named = c := ((Cf.same_iff _ _).1 hs).symm
    cases hi : inB c.ix 999 with
    | false =>
      have e : c.right = false := by simp [Cf.right, hi]
      rw [e]
      exact right_ix c w h1 h2 h3 hi
    | true =>
      by_cases hk : c.kd = 1
      · have e : c.right = (c.on && inB c.rw 99 && inB c.rk 999) := by simp [Cf.right, hs, hi, hk]
        rw [e]
        exact right_rg c w hk h3 hi
      · have e : c.right = (inB c.wo 99 && inB (max c.ln 0) 99 && decide (-1 ≤ c.ln)) := by simp [Cf.right, hs, hi, hk, h1, h2]
        rw [e]
        exact right_nr c w (by omega) h2 h3 hi
end Go.Proofs.YtghoggjllcbalaaDoor
