/- The document's side of conf: within, Right, rights, Device, walked. No condition. -/
import Derived.Test.YtghoggjllcbalaaDoorCfGd
import Derived.Deep.Light
namespace Go.Proofs.YtghoggjllcbalaaDoor
open Go Go.RowKit

theorem rwithin_any (n b : Int) (w : World) : Calls Tryd.prog 44 #[.int .i64 n, .int .i64 b] w fun e w' => e = .returned (.bool (inB n b)) ∧ w = w' := by
  by_cases h0 : 0 ≤ n
  · by_cases h1 : n ≤ b
    · have e : inB n b = true := inB_true.2 ⟨h0, h1⟩
      rw [e]
      go_enter Tryd.func44, Tryd.ntmps44
      go_wp2
      go_ret
      exact ⟨rfl, rfl⟩
    · have e : inB n b = false := by simp [inB]; omega
      rw [e]
      have n1 : decide (n ≤ b) = false := by simpa using h1
      go_enter Tryd.func44, Tryd.ntmps44
      go_wp2
      go_ret
      exact ⟨rfl, rfl⟩
  · have e : inB n b = false := by simp [inB]; omega
    rw [e]
    have n0 : decide (0 ≤ n) = false := by simpa using h0
    go_enter Tryd.func44, Tryd.ntmps44
    go_wp2
    go_ret
    exact ⟨rfl, rfl⟩

set_option maxHeartbeats 1000000 in
theorem rrights_any (on rd wt lk : Bool) (rw fr tt rk : Int) (w : World) :
    Calls Tryd.prog 43 #[.agg #[.bool on, .int .i64 rw, .int .u32 fr, .int .u32 tt, .bool rd, .bool wt, .int .i64 rk, .bool lk]] w fun e w' => e = .returned (str (rightsL rd wt)) ∧ Only [] w w' := by
  cases rd <;> cases wt <;>
  · go_enter Tryd.func43, Tryd.ntmps43
    go_wp2
    go_ret
    exact ⟨rfl, (Only.refl _ _).alloc _⟩

set_option maxRecDepth 100000 in
set_option maxHeartbeats 4000000 in
theorem rright_1 (ix wo ln : Int) (on : Bool) (rw fr tt : Int) (rd wt : Bool) (rk : Int) (lk : Bool) (w : World) :
    Calls Tryd.prog 31 #[Cf.agg ⟨1, ix, wo, ln, on, rw, fr, tt, rd, wt, rk, lk⟩] w fun e w' => e = .returned (.bool (Cf.right ⟨1, ix, wo, ln, on, rw, fr, tt, rd, wt, rk, lk⟩)) ∧ Only [] w w' := by
  go_enter Tryd.func31, Tryd.ntmps31
  go_wp2_with (go_at_call 44; refine (rwithin_any _ _ _).mono ?_; rintro e w' ⟨rfl, rfl⟩)
  all_goals
    go_ret
    refine ⟨?_, by repeat (first | with_reducible exact Only.refl _ _ | with_reducible refine Only.setCell ?_ (.inr (by simp)) _ | with_reducible refine Only.alloc ?_ _)⟩
    go_light
    simp_all [Cf.right, Cf.named, Cf.same, inB]
    try first | (intros; omega) | (rw [Bool.eq_iff_iff]; simp; omega)
set_option maxRecDepth 100000 in
set_option maxHeartbeats 4000000 in
theorem rright_2 (ix wo ln : Int) (on : Bool) (rw fr tt : Int) (rd wt : Bool) (rk : Int) (lk : Bool) (w : World) :
    Calls Tryd.prog 31 #[Cf.agg ⟨2, ix, wo, ln, on, rw, fr, tt, rd, wt, rk, lk⟩] w fun e w' => e = .returned (.bool (Cf.right ⟨2, ix, wo, ln, on, rw, fr, tt, rd, wt, rk, lk⟩)) ∧ Only [] w w' := by
  go_enter Tryd.func31, Tryd.ntmps31
  go_wp2_with (go_at_call 44; refine (rwithin_any _ _ _).mono ?_; rintro e w' ⟨rfl, rfl⟩)
  all_goals
    go_ret
    refine ⟨?_, by repeat (first | with_reducible exact Only.refl _ _ | with_reducible refine Only.setCell ?_ (.inr (by simp)) _ | with_reducible refine Only.alloc ?_ _)⟩
    go_light
    simp_all [Cf.right, Cf.named, Cf.same, inB]
    try first | (intros; omega) | (rw [Bool.eq_iff_iff]; simp; omega)
set_option maxRecDepth 100000 in
set_option maxHeartbeats 4000000 in
theorem rright_3 (ix wo ln : Int) (on : Bool) (rw fr tt : Int) (rd wt : Bool) (rk : Int) (lk : Bool) (w : World) :
    Calls Tryd.prog 31 #[Cf.agg ⟨3, ix, wo, ln, on, rw, fr, tt, rd, wt, rk, lk⟩] w fun e w' => e = .returned (.bool (Cf.right ⟨3, ix, wo, ln, on, rw, fr, tt, rd, wt, rk, lk⟩)) ∧ Only [] w w' := by
  go_enter Tryd.func31, Tryd.ntmps31
  go_wp2_with (go_at_call 44; refine (rwithin_any _ _ _).mono ?_; rintro e w' ⟨rfl, rfl⟩)
  all_goals
    go_ret
    refine ⟨?_, by repeat (first | with_reducible exact Only.refl _ _ | with_reducible refine Only.setCell ?_ (.inr (by simp)) _ | with_reducible refine Only.alloc ?_ _)⟩
    go_light
    simp_all [Cf.right, Cf.named, Cf.same, inB]
    try first | (intros; omega) | (rw [Bool.eq_iff_iff]; simp; omega)
set_option maxRecDepth 100000 in
set_option maxHeartbeats 4000000 in
theorem rright_4 (ix wo ln : Int) (on : Bool) (rw fr tt : Int) (rd wt : Bool) (rk : Int) (lk : Bool) (w : World) :
    Calls Tryd.prog 31 #[Cf.agg ⟨4, ix, wo, ln, on, rw, fr, tt, rd, wt, rk, lk⟩] w fun e w' => e = .returned (.bool (Cf.right ⟨4, ix, wo, ln, on, rw, fr, tt, rd, wt, rk, lk⟩)) ∧ Only [] w w' := by
  go_enter Tryd.func31, Tryd.ntmps31
  go_wp2_with (go_at_call 44; refine (rwithin_any _ _ _).mono ?_; rintro e w' ⟨rfl, rfl⟩)
  all_goals
    go_ret
    refine ⟨?_, by repeat (first | with_reducible exact Only.refl _ _ | with_reducible refine Only.setCell ?_ (.inr (by simp)) _ | with_reducible refine Only.alloc ?_ _)⟩
    go_light
    simp_all [Cf.right, Cf.named, Cf.same, inB]
    try first | (intros; omega) | (rw [Bool.eq_iff_iff]; simp; omega)
set_option maxRecDepth 100000 in
set_option maxHeartbeats 4000000 in
theorem rright_5 (ix wo ln : Int) (on : Bool) (rw fr tt : Int) (rd wt : Bool) (rk : Int) (lk : Bool) (w : World) :
    Calls Tryd.prog 31 #[Cf.agg ⟨5, ix, wo, ln, on, rw, fr, tt, rd, wt, rk, lk⟩] w fun e w' => e = .returned (.bool (Cf.right ⟨5, ix, wo, ln, on, rw, fr, tt, rd, wt, rk, lk⟩)) ∧ Only [] w w' := by
  go_enter Tryd.func31, Tryd.ntmps31
  go_wp2_with (go_at_call 44; refine (rwithin_any _ _ _).mono ?_; rintro e w' ⟨rfl, rfl⟩)
  all_goals
    go_ret
    refine ⟨?_, by repeat (first | with_reducible exact Only.refl _ _ | with_reducible refine Only.setCell ?_ (.inr (by simp)) _ | with_reducible refine Only.alloc ?_ _)⟩
    go_light
    simp_all [Cf.right, Cf.named, Cf.same, inB]
    try first | (intros; omega) | (rw [Bool.eq_iff_iff]; simp; omega)
set_option maxRecDepth 100000 in
set_option maxHeartbeats 4000000 in
theorem rright_6 (ix wo ln : Int) (on : Bool) (rw fr tt : Int) (rd wt : Bool) (rk : Int) (lk : Bool) (w : World) :
    Calls Tryd.prog 31 #[Cf.agg ⟨6, ix, wo, ln, on, rw, fr, tt, rd, wt, rk, lk⟩] w fun e w' => e = .returned (.bool (Cf.right ⟨6, ix, wo, ln, on, rw, fr, tt, rd, wt, rk, lk⟩)) ∧ Only [] w w' := by
  go_enter Tryd.func31, Tryd.ntmps31
  go_wp2_with (go_at_call 44; refine (rwithin_any _ _ _).mono ?_; rintro e w' ⟨rfl, rfl⟩)
  all_goals
    go_ret
    refine ⟨?_, by repeat (first | with_reducible exact Only.refl _ _ | with_reducible refine Only.setCell ?_ (.inr (by simp)) _ | with_reducible refine Only.alloc ?_ _)⟩
    go_light
    simp_all [Cf.right, Cf.named, Cf.same, inB]
    try first | (intros; omega) | (rw [Bool.eq_iff_iff]; simp; omega)
set_option maxRecDepth 100000 in
set_option maxHeartbeats 4000000 in
theorem rright_7 (ix wo ln : Int) (on : Bool) (rw fr tt : Int) (rd wt : Bool) (rk : Int) (lk : Bool) (w : World) :
    Calls Tryd.prog 31 #[Cf.agg ⟨7, ix, wo, ln, on, rw, fr, tt, rd, wt, rk, lk⟩] w fun e w' => e = .returned (.bool (Cf.right ⟨7, ix, wo, ln, on, rw, fr, tt, rd, wt, rk, lk⟩)) ∧ Only [] w w' := by
  go_enter Tryd.func31, Tryd.ntmps31
  go_wp2_with (go_at_call 44; refine (rwithin_any _ _ _).mono ?_; rintro e w' ⟨rfl, rfl⟩)
  all_goals
    go_ret
    refine ⟨?_, by repeat (first | with_reducible exact Only.refl _ _ | with_reducible refine Only.setCell ?_ (.inr (by simp)) _ | with_reducible refine Only.alloc ?_ _)⟩
    go_light
    simp_all [Cf.right, Cf.named, Cf.same, inB]
    try first | (intros; omega) | (rw [Bool.eq_iff_iff]; simp; omega)
set_option maxRecDepth 100000 in
set_option maxHeartbeats 4000000 in
theorem rright_0 (c : Cf) (h : c.kd < 1 ∨ 7 < c.kd) (w : World) :
    Calls Tryd.prog 31 #[c.agg] w fun e w' => e = .returned (.bool c.right) ∧ Only [] w w' := by
  have e : c.right = false := by simp [Cf.right]; omega
  rw [e]
  obtain ⟨kd, ix, wo, ln, on, rw, fr, tt, rd, wt, rk, lk⟩ := c
  simp only at h
  have n1 : (kd == 1) = false := by simp; omega
  have n2 : (kd == 2) = false := by simp; omega
  have n3 : (kd == 3) = false := by simp; omega
  have n4 : (kd == 4) = false := by simp; omega
  have n5 : (kd == 5) = false := by simp; omega
  have n6 : (kd == 6) = false := by simp; omega
  have n7 : (kd == 7) = false := by simp; omega
  clear h e
  go_enter Tryd.func31, Tryd.ntmps31
  go_wp2_with fail
  go_ret
  exact ⟨rfl, by repeat (first | with_reducible exact Only.refl _ _ | with_reducible refine Only.setCell ?_ (.inr (by simp)) _ | with_reducible refine Only.alloc ?_ _)⟩

theorem rright_any (c : Cf) (w : World) :
    Calls Tryd.prog 31 #[c.agg] w fun e w' => e = .returned (.bool c.right) ∧ Only [] w w' := by
  by_cases h : c.kd < 1 ∨ 7 < c.kd
  · exact rright_0 c h w
  obtain ⟨kd, ix, wo, ln, on, rw, fr, tt, rd, wt, rk, lk⟩ := c
  simp only at h
  have : kd = 1 ∨ kd = 2 ∨ kd = 3 ∨ kd = 4 ∨ kd = 5 ∨ kd = 6 ∨ kd = 7 := by omega
  rcases this with rfl | rfl | rfl | rfl | rfl | rfl | rfl
  · exact rright_1 _ _ _ _ _ _ _ _ _ _ _ w
  · exact rright_2 _ _ _ _ _ _ _ _ _ _ _ w
  · exact rright_3 _ _ _ _ _ _ _ _ _ _ _ w
  · exact rright_4 _ _ _ _ _ _ _ _ _ _ _ w
  · exact rright_5 _ _ _ _ _ _ _ _ _ _ _ w
  · exact rright_6 _ _ _ _ _ _ _ _ _ _ _ w
  · exact rright_7 _ _ _ _ _ _ _ _ _ _ _ w
end Go.Proofs.YtghoggjllcbalaaDoor
