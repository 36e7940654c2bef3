/- The document's engine of layer 14: its Write, walked. Conditions: its block as Of makes it; words of their kinds. -/
import Derived.Test.YtnnlnffdbdpmbaaRefA
import Derived.Test.YtnnlnffdbdpmbaaDmaD
namespace Go.Proofs.Ytnnlnffdbdpmbaa
open Go Go.RowKit

set_option maxHeartbeats 2000000 in
theorem rctrl_any (b : Nat) (s : ES) (v : Int) (w : World) (hb : RefB w b s) (hv0 : 0 ≤ v) (hv1 : v < 4294967296) :
    Calls Try.prog 35 #[.pointer (some ⟨b, 0, none⟩), .int .u32 v] w fun e w' => e = .returned (.tuple #[]) ∧ RefB w' b (s.ctrl v) ∧ Only [b] w w' := by
  obtain ⟨c0, c1, c2, c3, c4, c5, c6, c7, c8, fr⟩ := hb.c
  have f3 := fr 3
  have f4 := fr 4
  have f5 := fr 5
  have f7 := fr 7
  have f8 := fr 8
  clear fr
  obtain ⟨f, t, l, h, has, busy, den, done, calls⟩ := s
  simp only at *
  have hO : Only [b] w w := Only.refl _ _
  have q1 : v.tdiv 256 = v / 256 := Int.tdiv_eq_ediv_of_nonneg hv0
  have q2 : (v / 256).tmod 2 = v / 256 % 2 := Int.tmod_eq_emod_of_nonneg (by omega)
  have q3 : v.tmod 2 = v % 2 := Int.tmod_eq_emod_of_nonneg hv0
  have hcc : v / 256 % 2 = 0 ∨ v / 256 % 2 = 1 := by omega
  have hce : v % 2 = 0 ∨ v % 2 = 1 := by omega
  have H1 := Lib.hid hcc
  have H2 := Lib.hid hce
  clear hcc hce hv0 hv1
  rcases H2.out with k2 | k2 <;> rcases H1.out with k1 | k1 <;> rw [k1] at q2 <;> rw [k2] at q3 <;> have K1 := Lib.hid k1 <;> have K2 := Lib.hid k2 <;> clear k1 k2 H1 H2
  rotate_left 2
  iterate 2

    · cases busy
      · by_cases hl : l > 0
        · have nl : decide (l > 0) = true := by simpa using hl
          go_enter Try.func35, Try.ntmps35
          go_wp2
          go_returns
          refine ⟨rfl, ?_, by repeat (first | exact hO | refine Only.set1 ?_ (by simp) _ _)⟩
          unfold ES.ctrl
          simp only [K1.out, K2.out, nl, Bool.not_true, Bool.or_false]
          exact ((((hb.set_ 8 _).set_ 4 _).set_ 3 _).set_ 5 _)
        · have nl : decide (l > 0) = false := by simpa using hl
          go_enter Try.func35, Try.ntmps35
          go_wp2
          go_returns
          refine ⟨rfl, ?_, by repeat (first | exact hO | refine Only.set1 ?_ (by simp) _ _)⟩
          unfold ES.ctrl
          simp only [K1.out, K2.out, nl, Bool.not_false, Bool.or_true]
          exact ((((hb.set_ 8 _).set_ 4 _).set_ 3 _).set_ 7 _)
      · go_enter Try.func35, Try.ntmps35
        go_wp2
        go_returns
        refine ⟨rfl, ?_, by repeat (first | exact hO | refine Only.set1 ?_ (by simp) _ _)⟩
        unfold ES.ctrl
        simp only [K1.out, K2.out]
        exact hb.set_ 8 _
  all_goals
    go_enter Try.func35, Try.ntmps35
    go_wp2
    go_returns
    refine ⟨rfl, ?_, by repeat (first | exact hO | refine Only.set1 ?_ (by simp) _ _)⟩
    unfold ES.ctrl
    simp only [K1.out, K2.out]
    exact (((hb.set_ 8 _).set_ 5 _).set_ 4 _).set_ 3 _

set_option maxHeartbeats 4000000 in
theorem rwrite_any (b : Nat) (s : ES) (reg v : Int) (w : World) (hb : RefB w b s) (hv0 : 0 ≤ v) (hv1 : v < 4294967296) :
    Calls Try.prog 18 #[.pointer (some ⟨b, 0, none⟩), .int .i64 reg, .int .u32 v] w fun e w' => e = .returned (.tuple #[]) ∧ RefB w' b (s.write reg v) ∧ Only [b] w w' := by
  by_cases e3 : reg = 3
  · subst e3
    go_enter Try.func18, Try.ntmps18
    go_wp2_with (go_at_call 35; refine (rctrl_any b s v _ hb hv0 hv1).mono ?_; rintro e w1 ⟨rfl, h1, h2⟩)
    go_returns
    exact ⟨rfl, h1, h2⟩
  obtain ⟨c0, c1, c2, c3, c4, c5, c6, c7, c8, fr⟩ := hb.c
  have f0 := fr 0
  have f1 := fr 1
  have f2 := fr 2
  have f6 := fr 6
  have f7 := fr 7
  clear fr
  have hO : Only [b] w w := Only.refl _ _
  obtain ⟨f, t, l, h, has, busy, den, done, calls⟩ := s
  simp only at *
  have n3 : (reg == 3) = false := by simpa using e3
  by_cases e0 : reg = 0
  · subst e0
    cases busy <;>
    · go_enter Try.func18, Try.ntmps18
      go_wp2
      go_returns
      refine ⟨rfl, ?_, by repeat (first | exact hO | refine Only.set1 ?_ (by simp) _ _)⟩
      first | exact hb | exact hb.set_ 0 _
  have n0 : (reg == 0) = false := by simpa using e0
  by_cases e1 : reg = 1
  · subst e1
    cases busy <;>
    · go_enter Try.func18, Try.ntmps18
      go_wp2
      go_returns
      refine ⟨rfl, ?_, by repeat (first | exact hO | refine Only.set1 ?_ (by simp) _ _)⟩
      first | exact hb | exact hb.set_ 1 _
  have n1 : (reg == 1) = false := by simpa using e1
  by_cases e2 : reg = 2
  · subst e2
    cases busy <;>
    · go_enter Try.func18, Try.ntmps18
      go_wp2
      go_returns
      refine ⟨rfl, ?_, by repeat (first | exact hO | refine Only.set1 ?_ (by simp) _ _)⟩
      first | exact hb | exact hb.set_ 2 _
  have n2 : (reg == 2) = false := by simpa using e2
  by_cases e4 : reg = 4
  · subst e4
    go_enter Try.func18, Try.ntmps18
    go_wp2
    go_returns
    refine ⟨rfl, ?_, by repeat (first | exact hO | refine Only.set1 ?_ (by simp) _ _)⟩
    exact (hb.set_ 6 _).set_ 7 _
  have n4 : (reg == 4) = false := by simpa using e4
  go_enter Try.func18, Try.ntmps18
  go_wp2
  go_returns
  refine ⟨rfl, ?_, hO⟩
  unfold ES.write
  rw [if_neg e0, if_neg e1, if_neg e2, if_neg e3, if_neg e4]
  exact hb

end Go.Proofs.Ytnnlnffdbdpmbaa
