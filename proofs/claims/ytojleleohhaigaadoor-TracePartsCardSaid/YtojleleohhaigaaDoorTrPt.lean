/- The statement TraceParts, walked. Conditions: the listed variables are laid. -/
import Derived.Test.YtojleleohhaigaaDoorTrAw
namespace Go.Proofs.YtojleleohhaigaaDoor
open Go Go.RowKit

theorem parts_rng {a b : List Ev} (ha : rightL a = true) (hb : rightL b = true) : 0 ≤ (differN a b).1 ∧ (differN a b).1 < 4096 := by
  obtain ⟨p, h1, h2, -⟩ := strip_spec a b
  have ra := right_rng ha
  have rb := right_rng hb
  unfold differN
  rcases h : strip a b with ⟨u, v⟩
  rw [h] at h1 h2
  cases u with
  | nil =>
    cases v with
    | nil => exact ⟨by decide, by decide⟩
    | cons y s => exact rb y (by rw [h2]; simp)
  | cons x r =>
    have hx := ra x (by rw [h1]; simp)
    cases v with
    | nil => exact hx
    | cons y s =>
      have hy := rb y (by rw [h2]; simp)
      show 0 ≤ (if y.cy < x.cy then y.cy else x.cy) ∧ (if y.cy < x.cy then y.cy else x.cy) < 4096
      split <;> omega
theorem kept_right {p : Ev → Bool} {l : List Ev} (h : rightL l = true) : kept p l = l.filter p := by simp [kept, h]
theorem row_len {w : World} {base : Nat} {e : TypeId} {size n : Nat} {v : Value} {xs : List Value} (h : w.ownsRow base e size v n xs) : ∃ p c, v = .slice p n c := by
  obtain ⟨-, ⟨rfl, rfl⟩ | ⟨g, cap, cur, rfl, -⟩⟩ := h
  · exact ⟨_, _, rfl⟩
  · exact ⟨_, _, rfl⟩

set_option maxRecDepth 100000 in
set_option maxHeartbeats 8000000 in
theorem parts_any (l m : List Ev) (hll : l.length < 9223372036854775808) (hml : m.length < 9223372036854775808) (v u : Value) (w : World) (hg : Gl w) (hv : EvS w v l) (hu : EvS w u m) :
    Calls Tryd.prog 5 #[v, u] w fun e w' => e = .returned (.bool true) ∧ Only [] w w' := by
  have HA := Lib.hid (awake_any w hg)
  obtain ⟨pv, cv, rfl⟩ := hv.len
  obtain ⟨pu, cu, rfl⟩ := hu.len
  by_cases h1 : 300 < l.length
  · have h1i : (300 : Int) < (l.length : Int) := by omega
    clear hv hu
    go_enter Tryd.func5, Tryd.ntmps5
    go_wp2_with (go_at_call 6; refine HA.out.mono ?_; rintro e w1 ⟨rfl, hO1⟩)
    go_returns
    exact ⟨rfl, hO1⟩
  · by_cases h2 : 300 < m.length
    · have h1i : ¬ (300 : Int) < (l.length : Int) := by omega
      have h2i : (300 : Int) < (m.length : Int) := by omega
      clear hv hu
      go_enter Tryd.func5, Tryd.ntmps5
      go_wp2_with (go_at_call 6; refine HA.out.mono ?_; rintro e w1 ⟨rfl, hO1⟩)
      go_returns
      exact ⟨rfl, hO1⟩
    · have h1i : ¬ (300 : Int) < (l.length : Int) := by omega
      have h2i : ¬ (300 : Int) < (m.length : Int) := by omega
      have HL : Hid (l.length ≤ 300) := Lib.hid (by omega)
      have HM : Hid (m.length ≤ 300) := Lib.hid (by omega)
      have HV := Lib.hid hv
      have HU := Lib.hid hu
      have hl3 : l.length ≤ 300 := by omega
      have hm3 : m.length ≤ 300 := by omega
      have HR1 := Lib.hid (fun W (h : Only [] w W) => right_any l (by omega) _ W (hv.only0 h))
      have HR2 := Lib.hid (fun W (h : Only [] w W) => right_any m (by omega) _ W (hu.only0 h))
      clear h1 h2 hll hml
      cases hrl : rightL l with
      | false =>
        rw [hrl] at HR1
        clear hv hu hl3 hm3 HL HM
        go_enter Tryd.func5, Tryd.ntmps5
        go_wp2_with (first
          | (go_at_call 6; refine HA.out.mono ?_; rintro e w1 ⟨rfl, hO1⟩)
          | (go_at_call 11; change Calls _ _ _ _ _; (with_reducible refine (HR1.out _ (hO1)).mono ?_); rintro e w2 ⟨rfl, hO2⟩))
        go_returns
        exact ⟨rfl, hO1.trans hO2⟩
      | true =>
        rw [hrl] at HR1
        cases hrm : rightL m with
        | false =>
          rw [hrm] at HR2
          clear hv hu hl3 hm3 HL HM
          go_enter Tryd.func5, Tryd.ntmps5
          go_wp2_with (first
            | (go_at_call 6; refine HA.out.mono ?_; rintro e w1 ⟨rfl, hO1⟩)
            | (go_at_call 11; change Calls _ _ _ _ _; (with_reducible refine (HR1.out _ (hO1)).mono ?_); rintro e w2 ⟨rfl, hO2⟩)
            | (go_at_call 11; change Calls _ _ _ _ _; (with_reducible refine (HR2.out _ (hO1.trans hO2)).mono ?_); rintro e w3 ⟨rfl, hO3⟩))
          go_returns
          exact ⟨rfl, (hO1.trans hO2).trans hO3⟩
        | true =>
          rw [hrm] at HR2
          have HD1 := Lib.hid (fun W (h : Only [] w W) => differ_any l m (by omega) (by omega) _ _ W (hv.only0 h) (hu.only0 h))
          have HD2 := Lib.hid (fun W (h : Only [] w W) => differ_any m l (by omega) (by omega) _ _ W (hu.only0 h) (hv.only0 h))
          have HD3 := Lib.hid (fun W (h : Only [] w W) => differ_any l l (by omega) (by omega) _ _ W (hv.only0 h) (hv.only0 h))
          have e1 : differ l m = differN l m := by simp [differ, hrl, hrm]
          have e2 : differ m l = differN l m := by simp [differ, hrl, hrm, parts_comm]
          have e3 : differ l l = (0, false) := by simp [differ, hrl, differN, strip_self]
          rw [e1] at HD1
          rw [e2] at HD2
          rw [e3] at HD3
          have HS1 := Lib.hid (fun W (h : Only [] w W) => same_events l m (by omega) (by omega) _ _ W (hv.only0 h) (hu.only0 h))
          have HRp := Lib.hid (fun W (h : Only [] w W) => replies_any l (by omega) _ W (hv.only0 h))
          have HCl := Lib.hid (fun W (h : Only [] w W) => calls_any l (by omega) _ W (hv.only0 h))
          have HUl := Lib.hid (fun (n : Int) W (h : Only [] w W) => until_any n l (by omega) _ W (hv.only0 h))
          have HUm := Lib.hid (fun (n : Int) W (h : Only [] w W) => until_any n m (by omega) _ W (hu.only0 h))
          simp only [kept_right hrl] at HRp HCl HUl
          simp only [kept_right hrm] at HUm
          have hkl := kinds_len (right_own hrl)
          have hrn := parts_rng hrl hrm
          have his : (differN l m).2 = !decide (l = m) := parts_is
          have hah := parts_ahead hrl hrm
          have hbe := parts_behind hrl hrm
          have HSu := Lib.hid (fun (n : Int) W x y (hx : EvS W x (l.filter (ahead n))) (hy : EvS W y (m.filter (ahead n))) => same_events (l.filter (ahead n)) (m.filter (ahead n)) (Nat.le_trans (List.length_filter_le _ _) (by omega)) (Nat.le_trans (List.length_filter_le _ _) (by omega)) x y W hx hy)
          rw [his] at HD1 HD2
          have HAh := Lib.hid hah
          have HBe := Lib.hid hbe
          clear e1 e2 e3 his hrl hrm hah hbe hg
          generalize (differN l m).1 = n at HD1 HD2 HAh HBe hrn
          have hw1 : IntKind.i64.wrap (n + 1) = n + 1 := IntWalk.i64_in _ (by omega)
          have hkl2 : (((l.filter isReply).length : Int) + ((l.filter isCall).length : Int)) = (l.length : Int) := by omega
          have hw2 : IntKind.i64.wrap (((l.filter isReply).length : Int) + ((l.filter isCall).length : Int)) = (l.length : Int) := by rw [hkl2]; exact IntWalk.i64_in _ (by omega)
          generalize (l.filter isReply).length = k1 at HRp hw2
          generalize (l.filter isCall).length = k2 at HCl hw2
          have HKU1 := HUl.out n
          have HKU2 := HUm.out n
          have HKU3 := HUl.out (n + 1)
          have HKU4 := HUm.out (n + 1)
          have HU1 := Lib.hid HKU1
          have HU2 := Lib.hid HKU2
          have HU3 := Lib.hid HKU3
          have HU4 := Lib.hid HKU4
          have HSa := Lib.hid (HSu.out n)
          rw [decide_eq_true HAh.out] at HSa
          have HSb := Lib.hid (HSu.out (n + 1))
          clear HKU1 HKU2 HKU3 HKU4 HUl HUm HSu hkl hkl2 hv hu hl3 hm3 hrn HL HM HV HU
          by_cases hlm : l = m
          · rw [decide_eq_true hlm] at HD1 HD2 HS1
            clear hlm HBe HAh
            go_enter Tryd.func5, Tryd.ntmps5
            go_wp2_with (first
              | (go_at_call 6; refine HA.out.mono ?_; rintro e w1 ⟨rfl, hO1⟩)
              | (go_at_call 11; change Calls _ _ _ _ _; (with_reducible refine (HR1.out _ (hO1)).mono ?_); rintro e w2 ⟨rfl, hO2⟩)
              | (go_at_call 11; change Calls _ _ _ _ _; (with_reducible refine (HR2.out _ (hO1.trans hO2)).mono ?_); rintro e w3 ⟨rfl, hO3⟩)
              | (go_at_call 12; change Calls _ _ _ _ _; (with_reducible refine (HD1.out _ ((hO1.trans hO2).trans hO3)).mono ?_); rintro e w4 ⟨rfl, hO4⟩)
              | (go_at_call 12; change Calls _ _ _ _ _; (with_reducible refine (HD2.out _ (((hO1.trans hO2).trans hO3).trans hO4)).mono ?_); rintro e w5 ⟨rfl, hO5⟩)
              | (go_at_call 10; change Calls _ _ _ _ _; (with_reducible refine (HS1.out _ ((((hO1.trans hO2).trans hO3).trans hO4).trans hO5)).mono ?_); rintro e w6 ⟨rfl, hO6⟩)
              | (go_at_call 13; change Calls _ _ _ _ _; (with_reducible refine (HRp.out _ (((((hO1.trans hO2).trans hO3).trans hO4).trans hO5).trans hO6)).mono ?_); rintro e w7 ⟨u7, rfl, hRp7, hO7⟩; obtain ⟨p7, c7, rfl⟩ := row_len hRp7)
              | (go_at_call 14; change Calls _ _ _ _ _; (with_reducible refine (HCl.out _ ((((((hO1.trans hO2).trans hO3).trans hO4).trans hO5).trans hO6).trans hO7)).mono ?_); rintro e w8 ⟨u8, rfl, hCl8, hO8⟩; obtain ⟨p8, c8, rfl⟩ := row_len hCl8)
              | (go_at_call 12; change Calls _ _ _ _ _; (with_reducible refine (HD3.out _ (((((((hO1.trans hO2).trans hO3).trans hO4).trans hO5).trans hO6).trans hO7).trans hO8)).mono ?_); rintro e w9 ⟨rfl, hO9⟩)
              | (go_at_call 15; change Calls _ _ _ _ _; (with_reducible refine (HU1.out _ ((((((((hO1.trans hO2).trans hO3).trans hO4).trans hO5).trans hO6).trans hO7).trans hO8).trans hO9)).mono ?_); rintro e w10 ⟨u10, rfl, hU10, hO10⟩)
              | (go_at_call 15; change Calls _ _ _ _ _; (with_reducible refine (HU2.out _ (((((((((hO1.trans hO2).trans hO3).trans hO4).trans hO5).trans hO6).trans hO7).trans hO8).trans hO9).trans hO10)).mono ?_); rintro e w11 ⟨u11, rfl, hU11, hO11⟩)
              | (go_at_call 10; change Calls _ _ _ _ _; (with_reducible refine (HSa.out _ u10 u11 (hU10.evs.only0 hO11) hU11.evs).mono ?_); rintro e w12 ⟨rfl, hO12⟩))
            go_returns
            exact ⟨rfl, ((((((((((hO1.trans hO2).trans hO3).trans hO4).trans hO5).trans hO6).trans hO7).trans hO8).trans hO9).trans hO10).trans hO11).trans hO12⟩
          · rw [decide_eq_false hlm] at HD1 HD2 HS1
            rw [decide_eq_false (HBe.out hlm)] at HSb
            clear hlm HBe HAh
            go_enter Tryd.func5, Tryd.ntmps5
            go_wp2_with (first
              | (go_at_call 6; refine HA.out.mono ?_; rintro e w1 ⟨rfl, hO1⟩)
              | (go_at_call 11; change Calls _ _ _ _ _; (with_reducible refine (HR1.out _ (hO1)).mono ?_); rintro e w2 ⟨rfl, hO2⟩)
              | (go_at_call 11; change Calls _ _ _ _ _; (with_reducible refine (HR2.out _ (hO1.trans hO2)).mono ?_); rintro e w3 ⟨rfl, hO3⟩)
              | (go_at_call 12; change Calls _ _ _ _ _; (with_reducible refine (HD1.out _ ((hO1.trans hO2).trans hO3)).mono ?_); rintro e w4 ⟨rfl, hO4⟩)
              | (go_at_call 12; change Calls _ _ _ _ _; (with_reducible refine (HD2.out _ (((hO1.trans hO2).trans hO3).trans hO4)).mono ?_); rintro e w5 ⟨rfl, hO5⟩)
              | (go_at_call 10; change Calls _ _ _ _ _; (with_reducible refine (HS1.out _ ((((hO1.trans hO2).trans hO3).trans hO4).trans hO5)).mono ?_); rintro e w6 ⟨rfl, hO6⟩)
              | (go_at_call 13; change Calls _ _ _ _ _; (with_reducible refine (HRp.out _ (((((hO1.trans hO2).trans hO3).trans hO4).trans hO5).trans hO6)).mono ?_); rintro e w7 ⟨u7, rfl, hRp7, hO7⟩; obtain ⟨p7, c7, rfl⟩ := row_len hRp7)
              | (go_at_call 14; change Calls _ _ _ _ _; (with_reducible refine (HCl.out _ ((((((hO1.trans hO2).trans hO3).trans hO4).trans hO5).trans hO6).trans hO7)).mono ?_); rintro e w8 ⟨u8, rfl, hCl8, hO8⟩; obtain ⟨p8, c8, rfl⟩ := row_len hCl8)
              | (go_at_call 12; change Calls _ _ _ _ _; (with_reducible refine (HD3.out _ (((((((hO1.trans hO2).trans hO3).trans hO4).trans hO5).trans hO6).trans hO7).trans hO8)).mono ?_); rintro e w9 ⟨rfl, hO9⟩)
              | (go_at_call 15; change Calls _ _ _ _ _; (with_reducible refine (HU1.out _ ((((((((hO1.trans hO2).trans hO3).trans hO4).trans hO5).trans hO6).trans hO7).trans hO8).trans hO9)).mono ?_); rintro e w10 ⟨u10, rfl, hU10, hO10⟩)
              | (go_at_call 15; change Calls _ _ _ _ _; (with_reducible refine (HU2.out _ (((((((((hO1.trans hO2).trans hO3).trans hO4).trans hO5).trans hO6).trans hO7).trans hO8).trans hO9).trans hO10)).mono ?_); rintro e w11 ⟨u11, rfl, hU11, hO11⟩)
              | (go_at_call 10; change Calls _ _ _ _ _; (with_reducible refine (HSa.out _ u10 u11 (hU10.evs.only0 hO11) hU11.evs).mono ?_); rintro e w12 ⟨rfl, hO12⟩)
              | (go_at_call 15; change Calls _ _ _ _ _; (with_reducible refine (HU3.out _ (((((((((((hO1.trans hO2).trans hO3).trans hO4).trans hO5).trans hO6).trans hO7).trans hO8).trans hO9).trans hO10).trans hO11).trans hO12)).mono ?_); rintro e w13 ⟨u13, rfl, hU13, hO13⟩)
              | (go_at_call 15; change Calls _ _ _ _ _; (with_reducible refine (HU4.out _ ((((((((((((hO1.trans hO2).trans hO3).trans hO4).trans hO5).trans hO6).trans hO7).trans hO8).trans hO9).trans hO10).trans hO11).trans hO12).trans hO13)).mono ?_); rintro e w14 ⟨u14, rfl, hU14, hO14⟩)
              | (go_at_call 10; change Calls _ _ _ _ _; (with_reducible refine (HSb.out _ u13 u14 (hU13.evs.only0 hO14) hU14.evs).mono ?_); rintro e w15 ⟨rfl, hO15⟩))
            go_returns
            exact ⟨rfl, (((((((((((((hO1.trans hO2).trans hO3).trans hO4).trans hO5).trans hO6).trans hO7).trans hO8).trans hO9).trans hO10).trans hO11).trans hO12).trans hO13).trans hO14).trans hO15⟩
end Go.Proofs.YtojleleohhaigaaDoor
