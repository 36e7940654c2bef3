/- The statement TraceBack, walked. Conditions: the listed variables are laid; values fit. -/
import Derived.Test.YtojleleohhaigaaDoorTrAw
namespace Go.Proofs.YtojleleohhaigaaDoor
open Go Go.RowKit

theorem showT_short {l : List Ev} (hf : ∀ x ∈ l, x.Fits) (h : okT l = true) (hl : l.length ≤ 300) : (showT l).length ≤ 300000 :=
  Nat.le_trans (showT_len (okT_shape hf h)) (by omega)
theorem readL_len {s : List UInt8} (hs : s.length ≤ 300000) : (readL s).length ≤ 300000 := by
  unfold readL
  split
  · unfold evsOf
    rw [List.length_map]
    exact Nat.le_trans (linesP_short _ s (Nat.le_refl _)).1 hs
  · simp

set_option maxRecDepth 100000 in
set_option maxHeartbeats 8000000 in
theorem back_any (l : List Ev) (hll : l.length < 9223372036854775808) (hf : ∀ x ∈ l, x.Fits) (t : List UInt8) (htl : t.length < 9223372036854775808) (v : Value) (w : World) (hg : Gl w) (hv : EvS w v l) :
    Calls Tryd.prog 4 #[v, str t] w fun e w' => e = .returned (.bool true) ∧ Only [] w w' := by
  have HA := Lib.hid (awake_any w hg)
  obtain ⟨pv, cv, rfl⟩ := hv.len
  by_cases h1 : 300 < l.length
  · have h1i : (300 : Int) < (l.length : Int) := by omega
    clear hv
    go_enter Tryd.func4, Tryd.ntmps4
    go_wp2_with (go_at_call 6; refine HA.out.mono ?_; rintro e w1 ⟨rfl, hO1⟩)
    go_returns
    exact ⟨rfl, hO1⟩
  · by_cases h2 : 4000 < t.length
    · have h1i : ¬ (300 : Int) < (l.length : Int) := by omega
      have h2i : (4000 : Int) < (t.length : Int) := by omega
      clear hv
      go_enter Tryd.func4, Tryd.ntmps4
      go_wp2_with (go_at_call 6; refine HA.out.mono ?_; rintro e w1 ⟨rfl, hO1⟩)
      go_returns
      exact ⟨rfl, hO1⟩
    · have h1i : ¬ (300 : Int) < (l.length : Int) := by omega
      have h2i : ¬ (4000 : Int) < (t.length : Int) := by omega
      have HS := Lib.hid (fun W (h : Only [] w W) => show_any l (by omega) hf _ W (hg.only h) (hv.only0 h))
      have HRt := Lib.hid (fun W (h : Only [] w W) => read_any t (by omega) W (hg.only h))
      have HS2 := Lib.hid (fun W (h : Only [] w W) u (hu : EvS W u (readL t)) => show_any (readL t) (readL_len (by omega)) (readL_fits t) u W (hg.only h) hu)
      have HV := Lib.hid hv
      have HL : Hid (l.length ≤ 300) := Lib.hid (by omega)
      clear h1 h2 hll htl
      cases hok : okT l with
      | true =>
        have e1 : shown l = showT l := by simp [shown, hok]
        have e2 : showE l = 0 := by simp [showE, hok]
        rw [e1, e2] at HS
        have hrb := read_back hf hok
        have HRs := Lib.hid (fun W (h : Only [] w W) => read_any (showT l) (showT_short hf hok HL.out) W (hg.only h))
        rw [hrb.1, hrb.2] at HRs
        have HSm := Lib.hid (fun W (h : Only [] w W) u (hu : EvS W u l) => same_events l l (by have := HL.out; omega) (by have := HL.out; omega) _ u W (HV.out.only0 h) hu)
        rw [decide_eq_true (show l = l from rfl)] at HSm
        have HRg := Lib.hid (fun W (h : Only [] w W) => right_any l (by have := HL.out; omega) _ W (HV.out.only0 h))
        rw [(okT_iff.1 hok).1] at HRg
        clear e1 e2 hrb hok hv hg hf
        generalize showT l = s at HS HRs
        by_cases hre : readE t = 0
        · have hrs := read_show hre
          have f1 : shown (readL t) = t := by simp [shown, hrs.1, hrs.2]
          have f2 : showE (readL t) = 0 := by simp [showE, hrs.1]
          rw [hre] at HRt
          rw [f1, f2] at HS2
          clear hre hrs f1 f2
          go_enter Tryd.func4, Tryd.ntmps4
          go_wp2_with (first
            | (go_at_call 6; refine HA.out.mono ?_; rintro e w1 ⟨rfl, hO1⟩)
            | (go_at_call 8; change Calls _ _ _ _ _; (with_reducible refine (HS.out _ hO1).mono ?_); rintro e w2 ⟨rfl, hO2⟩)
            | (go_at_call 9; change Calls _ _ _ _ _; (with_reducible refine (HRs.out _ (hO1.trans hO2)).mono ?_); rintro e w3 ⟨v7, rfl, hE7, hO3⟩)
            | (go_at_call 10; change Calls _ _ _ _ _; (with_reducible refine (HSm.out _ ((hO1.trans hO2).trans hO3) v7 hE7).mono ?_); rintro e w4 ⟨rfl, hO4⟩)
            | (go_at_call 11; change Calls _ _ _ _ _; (with_reducible refine (HRg.out _ (((hO1.trans hO2).trans hO3).trans hO4)).mono ?_); rintro e w5 ⟨rfl, hO5⟩)
            | (go_at_call 9; change Calls _ _ _ _ _; (with_reducible refine (HRt.out _ ((((hO1.trans hO2).trans hO3).trans hO4).trans hO5)).mono ?_); rintro e w6 ⟨v9, rfl, hE9, hO6⟩)
            | (go_at_call 8; change Calls _ _ _ _ _; (with_reducible refine (HS2.out _ (((((hO1.trans hO2).trans hO3).trans hO4).trans hO5).trans hO6) v9 hE9).mono ?_); rintro e w7 ⟨rfl, hO7⟩))
          go_returns
          exact ⟨rfl, ((((((hO1.trans hO2).trans hO3).trans hO4).trans hO5).trans hO6).trans hO7)⟩
        · have hrn := readL_no hre
          rw [hrn.1, hrn.2] at HRt
          clear hre hrn HS2
          go_enter Tryd.func4, Tryd.ntmps4
          go_wp2_with (first
            | (go_at_call 6; refine HA.out.mono ?_; rintro e w1 ⟨rfl, hO1⟩)
            | (go_at_call 8; change Calls _ _ _ _ _; (with_reducible refine (HS.out _ hO1).mono ?_); rintro e w2 ⟨rfl, hO2⟩)
            | (go_at_call 9; change Calls _ _ _ _ _; (with_reducible refine (HRs.out _ (hO1.trans hO2)).mono ?_); rintro e w3 ⟨v7, rfl, hE7, hO3⟩)
            | (go_at_call 10; change Calls _ _ _ _ _; (with_reducible refine (HSm.out _ ((hO1.trans hO2).trans hO3) v7 hE7).mono ?_); rintro e w4 ⟨rfl, hO4⟩)
            | (go_at_call 11; change Calls _ _ _ _ _; (with_reducible refine (HRg.out _ (((hO1.trans hO2).trans hO3).trans hO4)).mono ?_); rintro e w5 ⟨rfl, hO5⟩)
            | (go_at_call 9; change Calls _ _ _ _ _; (with_reducible refine (HRt.out _ ((((hO1.trans hO2).trans hO3).trans hO4).trans hO5)).mono ?_); rintro e w6 ⟨v9, rfl, hE9, hO6⟩; obtain ⟨p9, c9, rfl⟩ := hE9.len))
          go_returns
          exact ⟨rfl, (((((hO1.trans hO2).trans hO3).trans hO4).trans hO5).trans hO6)⟩
      | false =>
        have e1 : shown l = [] := by simp [shown, hok]
        have e2 : showE l = 4 := by simp [showE, hok]
        rw [e1, e2] at HS
        clear e1 e2 hok hv hg hf HL HV
        by_cases hre : readE t = 0
        · have hrs := read_show hre
          have f1 : shown (readL t) = t := by simp [shown, hrs.1, hrs.2]
          have f2 : showE (readL t) = 0 := by simp [showE, hrs.1]
          rw [hre] at HRt
          rw [f1, f2] at HS2
          clear hre hrs f1 f2
          go_enter Tryd.func4, Tryd.ntmps4
          go_wp2_with (first
            | (go_at_call 6; refine HA.out.mono ?_; rintro e w1 ⟨rfl, hO1⟩)
            | (go_at_call 8; change Calls _ _ _ _ _; (with_reducible refine (HS.out _ hO1).mono ?_); rintro e w2 ⟨rfl, hO2⟩)
            | (go_at_call 9; change Calls _ _ _ _ _; (with_reducible refine (HRt.out _ (hO1.trans hO2)).mono ?_); rintro e w6 ⟨v9, rfl, hE9, hO6⟩)
            | (go_at_call 8; change Calls _ _ _ _ _; (with_reducible refine (HS2.out _ ((hO1.trans hO2).trans hO6) v9 hE9).mono ?_); rintro e w7 ⟨rfl, hO7⟩))
          go_returns
          exact ⟨rfl, (((hO1.trans hO2).trans hO6).trans hO7)⟩
        · have hrn := readL_no hre
          rw [hrn.1, hrn.2] at HRt
          clear hre hrn HS2
          go_enter Tryd.func4, Tryd.ntmps4
          go_wp2_with (first
            | (go_at_call 6; refine HA.out.mono ?_; rintro e w1 ⟨rfl, hO1⟩)
            | (go_at_call 8; change Calls _ _ _ _ _; (with_reducible refine (HS.out _ hO1).mono ?_); rintro e w2 ⟨rfl, hO2⟩)
            | (go_at_call 9; change Calls _ _ _ _ _; (with_reducible refine (HRt.out _ (hO1.trans hO2)).mono ?_); rintro e w6 ⟨v9, rfl, hE9, hO6⟩; obtain ⟨p9, c9, rfl⟩ := hE9.len))
          go_returns
          exact ⟨rfl, ((hO1.trans hO2).trans hO6)⟩
end Go.Proofs.YtojleleohhaigaaDoor
