/- The functions within and named of package conf, walked. No condition. -/
import Derived.Test.YtghoggjllcbalaaDoorCfV
namespace Go.Proofs.YtghoggjllcbalaaDoor
open Go Go.RowKit

/-- Is a number from 0 to another? -/
def inB (n b : Int) : Bool := decide (0 ≤ n) && decide (n ≤ b)
theorem inB_true {n b : Int} : inB n b = true ↔ 0 ≤ n ∧ n ≤ b := by simp [inB]

set_option maxHeartbeats 1000000 in
theorem within_any (b n : Int) (g : Nat) (w : World) (hg : Blk w g 3 #[.int .i64 n]) :
    Calls Tryd.prog 21 #[.int .i64 b, .slice (some ⟨g, 0, none⟩) 1 1] w fun e w' => e = .returned (.bool (inB n b)) ∧ Only [] w w' := by
  have hlt := hg.lt
  have c0 : w.cell? ⟨g, 0, none⟩ = some (.int .i64 n) := hg.cell 0
  by_cases h0 : 0 ≤ n
  · by_cases h1 : n ≤ b
    · have e : inB n b = true := inB_true.2 ⟨h0, h1⟩
      rw [e]
      have n0 : ¬ n < 0 := by omega
      have n1 : ¬ b < n := by omega
      go_enter Tryd.func21, Tryd.ntmps21
      go_wp2
      go_rounds 2
      go_ret
      exact ⟨rfl, (Only.refl _ _).alloc _⟩
    · have e : inB n b = false := by simp [inB]; omega
      rw [e]
      have n0 : ¬ n < 0 := by omega
      have n1 : b < n := by omega
      go_enter Tryd.func21, Tryd.ntmps21
      go_wp2
      go_rounds 2
      go_ret
      exact ⟨rfl, (Only.refl _ _).alloc _⟩
  · have e : inB n b = false := by simp [inB]; omega
    rw [e]
    have n0 : n < 0 := by omega
    go_enter Tryd.func21, Tryd.ntmps21
    go_wp2
    go_rounds 2
    go_ret
    exact ⟨rfl, (Only.refl _ _).alloc _⟩

/-- A command with what its kind names alone. -/
def Cf.named (c : Cf) : Cf :=
  if c.kd = 1 then ⟨1, c.ix, 0, 0, c.on, c.rw, c.fr, c.tt, c.rd, c.wt, c.rk, c.lk⟩
  else if c.kd = 3 ∨ c.kd = 5 then ⟨c.kd, c.ix, c.wo, 0, false, 0, 0, 0, false, false, 0, false⟩
  else if c.kd = 6 then ⟨c.kd, c.ix, 0, c.ln, false, 0, 0, 0, false, false, 0, false⟩
  else if c.kd = 7 then ⟨c.kd, 0, 0, 0, false, 0, 0, 0, false, false, 0, false⟩
  else ⟨c.kd, c.ix, 0, 0, false, 0, 0, 0, false, false, 0, false⟩

set_option maxHeartbeats 1000000 in
theorem named_any (c : Cf) (w : World) :
    Calls Tryd.prog 20 #[c.agg] w fun e w' => e = .returned c.named.agg ∧ Only [] w w' := by
  obtain ⟨kd, ix, wo, ln, on, rw, fr, tt, rd, wt, rk, lk⟩ := c
  by_cases h1 : kd = 1
  · subst h1
    go_enter Tryd.func20, Tryd.ntmps20
    go_wp2
    go_returns
    exact ⟨rfl, by repeat (first | exact Only.refl _ _ | refine Only.setCell ?_ (.inr (by simp)) _ | refine Only.alloc ?_ _)⟩
  by_cases h3 : kd = 3
  · subst h3
    go_enter Tryd.func20, Tryd.ntmps20
    go_wp2
    go_returns
    exact ⟨rfl, by repeat (first | exact Only.refl _ _ | refine Only.setCell ?_ (.inr (by simp)) _ | refine Only.alloc ?_ _)⟩
  by_cases h5 : kd = 5
  · subst h5
    go_enter Tryd.func20, Tryd.ntmps20
    go_wp2
    go_returns
    exact ⟨rfl, by repeat (first | exact Only.refl _ _ | refine Only.setCell ?_ (.inr (by simp)) _ | refine Only.alloc ?_ _)⟩
  by_cases h6 : kd = 6
  · subst h6
    go_enter Tryd.func20, Tryd.ntmps20
    go_wp2
    go_returns
    exact ⟨rfl, by repeat (first | exact Only.refl _ _ | refine Only.setCell ?_ (.inr (by simp)) _ | refine Only.alloc ?_ _)⟩
  by_cases h7 : kd = 7
  · subst h7
    go_enter Tryd.func20, Tryd.ntmps20
    go_wp2
    go_returns
    exact ⟨rfl, by repeat (first | exact Only.refl _ _ | refine Only.setCell ?_ (.inr (by simp)) _ | refine Only.alloc ?_ _)⟩
  have n1 : (kd == 1) = false := by simpa using h1
  have n3 : (kd == 3) = false := by simpa using h3
  have n5 : (kd == 5) = false := by simpa using h5
  have n6 : (kd == 6) = false := by simpa using h6
  have n7 : (kd == 7) = false := by simpa using h7
  have e : Cf.named ⟨kd, ix, wo, ln, on, rw, fr, tt, rd, wt, rk, lk⟩ = ⟨kd, ix, 0, 0, false, 0, 0, 0, false, false, 0, false⟩ := by
    simp [Cf.named, h1, h3, h5, h6, h7]
  rw [e]
  clear h1 h3 h5 h6 h7 e
  go_enter Tryd.func20, Tryd.ntmps20
  go_wp2
  go_returns
  exact ⟨rfl, by repeat (first | exact Only.refl _ _ | refine Only.setCell ?_ (.inr (by simp)) _ | refine Only.alloc ?_ _)⟩
end Go.Proofs.YtghoggjllcbalaaDoor
