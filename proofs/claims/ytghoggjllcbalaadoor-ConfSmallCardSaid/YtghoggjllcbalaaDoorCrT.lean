/- Show and Device of conf, as the document tells them and as the program does, walked. Condition: the addresses are uint32. -/
import Derived.Test.YtghoggjllcbalaaDoorCrS
import Derived.Deep.RegionWith
namespace Go.Proofs.YtghoggjllcbalaaDoor
open Go Go.RowKit

theorem rshow_ok (c : Cf) (hf : c.Fits) (hr : c.right = true) (w : World) :
    Calls Tryd.prog 28 #[c.agg] w fun e w' => e = .returned (.tuple #[str c.text, .int .i64 0]) ∧ Only [] w w' := by
  cases Shape.of c hf hr with
  | region ix rw rk fr tt rd wt lk h1 h2 h3 h4 h5 =>
    cases lk
    · exact rshow_1f ix rw fr tt rk rd wt h1 h2 h4 h5 h3 _ rfl hr w
    · exact rshow_1t ix rw fr tt rk rd wt h1 h2 h4 h5 h3 _ rfl hr w
  | one k ix hk h1 =>
    rcases hk with rfl | rfl
    · exact rshow_2 ix h1 _ rfl hr w
    · exact rshow_4 ix h1 _ rfl hr w
  | two k ix wo hk h1 h2 =>
    rcases hk with rfl | rfl
    · exact rshow_3 ix wo h1 h2 _ rfl hr w
    · exact rshow_5 ix wo h1 h2 _ rfl hr w
  | route ix ln h1 h2 h3 =>
    by_cases hn : ln < 0
    · obtain rfl : ln = -1 := by omega
      exact rshow_6n ix h1 _ rfl hr w
    · obtain ⟨m, rfl⟩ : ∃ m : Nat, ln = m := ⟨ln.toNat, by omega⟩
      exact rshow_6 ix m h1 (by omega) _ rfl hr w
  | lock => exact rshow_7 _ rfl hr w

set_option maxHeartbeats 1000000 in
theorem rshow_no (c : Cf) (hr : c.right = false) (w : World) :
    Calls Tryd.prog 28 #[c.agg] w fun e w' => e = .returned (.tuple #[str [], .int .i64 4]) ∧ Only [] w w' := by
  have Hr := Lib.hid (rright_any c)
  rw [hr] at Hr
  clear hr
  obtain ⟨kd, ix, wo, ln, on, rw, fr, tt, rd, wt, rk, lk⟩ := c
  go_enter Tryd.func28, Tryd.ntmps28
  go_wp2_with fail
  refine (Hr.out _).mono ?_
  rintro e w1 ⟨rfl, hO1⟩
  go_wp2_with fail
  go_ret2
  exact ⟨rfl, ((Only.refl [] w).alloc _).trans hO1⟩

theorem rshow_any (c : Cf) (hf : c.Fits) (w : World) :
    Calls Tryd.prog 28 #[c.agg] w fun e w' => e = .returned (.tuple #[str c.shown, .int .i64 c.err]) ∧ Only [] w w' := by
  unfold Cf.shown Cf.err
  cases hr : c.right with
  | true => exact rshow_ok c hf hr w
  | false => exact rshow_no c hr w

/-- The device of a command. -/
def Cf.dev (c : Cf) : Int × Bool := if c.right = true ∧ 3 ≤ c.kd ∧ c.kd ≤ 6 then (c.ix, true) else (0, false)

set_option maxRecDepth 100000 in
set_option maxHeartbeats 4000000 in
theorem rdevice_any (c : Cf) (w : World) :
    Calls Tryd.prog 30 #[c.agg] w fun e w' => e = .returned (.tuple #[.int .i64 c.dev.1, .bool c.dev.2]) ∧ Only [] w w' := by
  have Hr := Lib.hid (rright_any c)
  have HD : Hid (∀ r, c.right = r → c.dev = if r = true ∧ 3 ≤ c.kd ∧ c.kd ≤ 6 then (c.ix, true) else (0, false)) := Lib.hid (by rintro r rfl; rfl)
  obtain ⟨r, hr⟩ : ∃ r, c.right = r := ⟨_, rfl⟩
  have HE := Lib.hid (HD.out r hr)
  rw [hr] at Hr
  clear hr HD
  generalize c.dev = v at *
  obtain ⟨kd, ix, wo, ln, on, rw, fr, tt, rd, wt, rk, lk⟩ := c
  simp only at HE
  have hE0 : CfB (w.alloc (.cells #[.int .i64 kd, .int .i64 ix, .int .i64 wo, .int .i64 ln, .bool on, .int .i64 rw, .int .u32 fr, .int .u32 tt, .bool rd, .bool wt, .int .i64 rk, .bool lk] 29)) w.heap.size ⟨kd, ix, wo, ln, on, rw, fr, tt, rd, wt, rk, lk⟩ := Blk.new' rfl rfl
  have hO0 := (Only.refl [] w).alloc (.cells #[.int .i64 kd, .int .i64 ix, .int .i64 wo, .int .i64 ln, .bool on, .int .i64 rw, .int .u32 fr, .int .u32 tt, .bool rd, .bool wt, .int .i64 rk, .bool lk] 29)
  cases r
  · have HV : v = (0, false) := by rw [HE.out]; simp
    subst HV
    go_enter Tryd.func30, Tryd.ntmps30
    go_wp2_with fail
    refine (Hr.out _).mono ?_
    rintro e w1 ⟨rfl, hO1⟩
    go_wp2_with fail
    go_ret2
    exact ⟨rfl, hO0.trans hO1⟩
  · by_cases h3 : 3 ≤ kd
    · by_cases h6 : kd ≤ 6
      · have HV : v = (ix, true) := by rw [HE.out, if_pos ⟨rfl, h3, h6⟩]
        subst HV
        clear HE
        go_enter Tryd.func30, Tryd.ntmps30
        go_wp2_with fail
        refine (Hr.out _).mono ?_
        rintro e w1 ⟨rfl, hO1⟩
        obtain ⟨c0, c1, -⟩ := (hO1.cf hE0 (by simp)).c
        simp only at c0 c1
        have n3 : ¬ kd < 3 := by omega
        have n6 : ¬ 6 < kd := by omega
        clear hE0
        go_wp2_with fail
        go_ret2
        exact ⟨rfl, hO0.trans hO1⟩
      · have HV : v = (0, false) := by rw [HE.out, if_neg (by rintro ⟨-, -, h⟩; exact h6 h)]
        subst HV
        clear HE
        go_enter Tryd.func30, Tryd.ntmps30
        go_wp2_with fail
        refine (Hr.out _).mono ?_
        rintro e w1 ⟨rfl, hO1⟩
        obtain ⟨c0, c1, -⟩ := (hO1.cf hE0 (by simp)).c
        simp only at c0 c1
        have n3 : ¬ kd < 3 := by omega
        have n6 : 6 < kd := by omega
        clear hE0 h6
        go_wp2_with fail
        go_ret2
        exact ⟨rfl, hO0.trans hO1⟩
    · have HV : v = (0, false) := by rw [HE.out, if_neg (by rintro ⟨-, h, -⟩; exact h3 h)]
      subst HV
      clear HE
      go_enter Tryd.func30, Tryd.ntmps30
      go_wp2_with fail
      refine (Hr.out _).mono ?_
      rintro e w1 ⟨rfl, hO1⟩
      obtain ⟨c0, c1, -⟩ := (hO1.cf hE0 (by simp)).c
      simp only at c0 c1
      have n3 : kd < 3 := by omega
      clear hE0 h3
      go_wp2_with fail
      go_ret2
      exact ⟨rfl, hO0.trans hO1⟩

set_option maxRecDepth 100000 in
set_option maxHeartbeats 4000000 in
theorem device_any (c : Cf) (w : World) :
    Calls Tryd.prog 29 #[c.agg] w fun e w' => e = .returned (.tuple #[.int .i64 c.dev.1, .bool c.dev.2]) ∧ Only [] w w' := by
  have Hr := Lib.hid (right_any c)
  have HD : Hid (∀ r, c.right = r → c.dev = if r = true ∧ 3 ≤ c.kd ∧ c.kd ≤ 6 then (c.ix, true) else (0, false)) := Lib.hid (by rintro r rfl; rfl)
  obtain ⟨r, hr⟩ : ∃ r, c.right = r := ⟨_, rfl⟩
  have HE := Lib.hid (HD.out r hr)
  rw [hr] at Hr
  clear hr HD
  generalize c.dev = v at *
  obtain ⟨kd, ix, wo, ln, on, rw, fr, tt, rd, wt, rk, lk⟩ := c
  simp only at HE
  have hE0 : CfB (w.alloc (.cells #[.int .i64 kd, .int .i64 ix, .int .i64 wo, .int .i64 ln, .bool on, .int .i64 rw, .int .u32 fr, .int .u32 tt, .bool rd, .bool wt, .int .i64 rk, .bool lk] 29)) w.heap.size ⟨kd, ix, wo, ln, on, rw, fr, tt, rd, wt, rk, lk⟩ := Blk.new' rfl rfl
  have hO0 := (Only.refl [] w).alloc (.cells #[.int .i64 kd, .int .i64 ix, .int .i64 wo, .int .i64 ln, .bool on, .int .i64 rw, .int .u32 fr, .int .u32 tt, .bool rd, .bool wt, .int .i64 rk, .bool lk] 29)
  cases r
  · have HV : v = (0, false) := by rw [HE.out]; simp
    subst HV
    go_enter Tryd.func29, Tryd.ntmps29
    go_wp2_with fail
    refine (Hr.out _).mono ?_
    rintro e w1 ⟨rfl, hO1⟩
    go_wp2_with fail
    go_ret2
    exact ⟨rfl, hO0.trans hO1⟩
  · by_cases h3 : 3 ≤ kd
    · by_cases h6 : kd ≤ 6
      · have HV : v = (ix, true) := by rw [HE.out, if_pos ⟨rfl, h3, h6⟩]
        subst HV
        clear HE
        go_enter Tryd.func29, Tryd.ntmps29
        go_wp2_with fail
        refine (Hr.out _).mono ?_
        rintro e w1 ⟨rfl, hO1⟩
        obtain ⟨c0, c1, -⟩ := (hO1.cf hE0 (by simp)).c
        simp only at c0 c1
        have n3 : ¬ kd < 3 := by omega
        have n6 : ¬ 6 < kd := by omega
        clear hE0
        go_wp2_with fail
        go_ret2
        exact ⟨rfl, hO0.trans hO1⟩
      · have HV : v = (0, false) := by rw [HE.out, if_neg (by rintro ⟨-, -, h⟩; exact h6 h)]
        subst HV
        clear HE
        go_enter Tryd.func29, Tryd.ntmps29
        go_wp2_with fail
        refine (Hr.out _).mono ?_
        rintro e w1 ⟨rfl, hO1⟩
        obtain ⟨c0, c1, -⟩ := (hO1.cf hE0 (by simp)).c
        simp only at c0 c1
        have n3 : ¬ kd < 3 := by omega
        have n6 : 6 < kd := by omega
        clear hE0 h6
        go_wp2_with fail
        go_ret2
        exact ⟨rfl, hO0.trans hO1⟩
    · have HV : v = (0, false) := by rw [HE.out, if_neg (by rintro ⟨-, h, -⟩; exact h3 h)]
      subst HV
      clear HE
      go_enter Tryd.func29, Tryd.ntmps29
      go_wp2_with fail
      refine (Hr.out _).mono ?_
      rintro e w1 ⟨rfl, hO1⟩
      obtain ⟨c0, c1, -⟩ := (hO1.cf hE0 (by simp)).c
      simp only at c0 c1
      have n3 : kd < 3 := by omega
      clear hE0 h3
      go_wp2_with fail
      go_ret2
      exact ⟨rfl, hO0.trans hO1⟩
end Go.Proofs.YtghoggjllcbalaaDoor
