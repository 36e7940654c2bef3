/- The statement ProgBack, walked. Conditions: the listed variables are laid; words fit. -/
import Derived.Test.YtagmoehjcgjnjaaGreatDoorPgB
import Derived.Test.YtagmoehjcgjnjaaGreatDoorPgB0
import Derived.Test.YtagmoehjcgjnjaaGreatDoorPgW
namespace Go.Proofs.YtagmoehjcgjnjaaGreatDoor
open Go Go.RowKit

/-- Read, its slice at once as the walk wants it. -/
theorem pread_ins (s : List UInt8) (hs : s.length ≤ 800000) (w : World) (hg : Gl w) {l : List In} {n k : Int} (hr : rdA s = (l, n, k)) :
    Calls Tryz.prog 15 #[str s] w fun e w' => ∃ v, e = .returned (.tuple #[v, .int .i64 n, .int .i64 k]) ∧ InS w' v l ∧ Only [] w w' := by
  refine (pread_any s hs w hg).mono fun e w' h => ?_
  obtain ⟨v, rfl, hR, hO⟩ := h
  rw [hr] at hR
  exact ⟨v, by rw [hr], hR.ins, hO⟩

set_option maxRecDepth 100000 in
set_option maxHeartbeats 8000000 in
theorem pback_any (l : List In) (hll : l.length < 9223372036854775808) (hf : ∀ x ∈ l, x.Fits) (t : List UInt8) (htl : t.length < 9223372036854775808) (v : Value) (w : World) (hg : Gl w) (hv : InS w v l) :
    Calls Tryz.prog 6 #[v, str t] w fun e w' => e = .returned (.bool true) ∧ Only [] w w' := by
  have HA := Lib.hid (pawake_any w hg)
  obtain ⟨pv, cv, rfl⟩ := hv.len
  by_cases h1 : 200 < l.length
  · have h1i : (200 : Int) < (l.length : Int) := by omega
    clear hv
    go_enter Tryz.func6, Tryz.ntmps6
    go_wp2_with (go_at_call 8; refine HA.out.mono ?_; rintro e w1 ⟨rfl, hO1⟩)
    go_returns
    exact ⟨rfl, hO1⟩
  · by_cases h2 : 4000 < t.length
    · have h1i : ¬ (200 : Int) < (l.length : Int) := by omega
      have h2i : (4000 : Int) < (t.length : Int) := by omega
      clear hv
      go_enter Tryz.func6, Tryz.ntmps6
      go_wp2_with (go_at_call 8; refine HA.out.mono ?_; rintro e w1 ⟨rfl, hO1⟩)
      go_returns
      exact ⟨rfl, hO1⟩
    · have h1i : ¬ (200 : Int) < (l.length : Int) := by omega
      have h2i : ¬ (4000 : Int) < (t.length : Int) := by omega
      have HS := Lib.hid (fun W (h : Only [] w W) => pshow_any l (by omega) hf _ W (hg.only h) (hv.only0 h))
      have HRg := Lib.hid (fun W (h : Only [] w W) => pright_any l (by omega) hf _ W (hv.only0 h))
      have HV := Lib.hid hv
      have HL : Hid (l.length ≤ 200) := Lib.hid (by omega)
      have HT : Hid (t.length ≤ 800000) := Lib.hid (by omega)
      have HG := Lib.hid hg
      clear h1 h2 hll htl
      cases hok : okR l with
      | true =>
        have e1 : pshown l = showT l := by simp [pshown, hok]
        have e2 : pshowE l = 0 := by simp [pshowE, hok]
        rw [e1, e2] at HS
        rw [hok] at HRg
        have HRs := Lib.hid (fun W (h : Only [] w W) => pread_ins (showT l) (Nat.le_trans (showT_short hf hok) (by decide)) W (HG.out.only h) (rd_show hf hok))
        have HSm := Lib.hid (fun W (h : Only [] w W) u (hu : InS W u l) => same_program l l (by have := HL.out; omega) (by have := HL.out; omega) u _ W hu (HV.out.only0 h))
        rw [decide_eq_true (show l = l from rfl)] at HSm
        clear e1 e2 hok hv hg hf
        generalize showT l = s at HS HRs
        by_cases hre : (rdA t).2.2 = 0
        · obtain ⟨r1, r2, r3, r4⟩ := rd_right hre
          have hr : rdA t = ((rdA t).1, 0, 0) := Prod.ext rfl (Prod.ext r3 hre)
          generalize (rdA t).1 = m at hr r1 r2 r4
          have HM : Hid (m.length ≤ 64) := Lib.hid (okR_iff.1 r1).1
          have HRt := Lib.hid (fun W (h : Only [] w W) => pread_ins t HT.out W (HG.out.only h) hr)
          have HS2 := Lib.hid (fun W (h : Only [] w W) u (hu : InS W u m) => (pshow_any m (by have := HM.out; omega) r4 u W (HG.out.only h) hu))
          have f1 : pshown m = t := by simp [pshown, r1, r2]
          have f2 : pshowE m = 0 := by simp [pshowE, r1]
          rw [f1, f2] at HS2
          have HR2 := Lib.hid (fun W (h : Only [] w W) u W0 (hu : InS W0 u m) (h0 : Only [] W0 W) => pright_any m (by have := HM.out; omega) r4 u W (hu.only0 h0))
          rw [r1] at HR2
          clear f1 f2 hr r1 r2 r3 r4 hre
          go_enter Tryz.func6, Tryz.ntmps6
          go_wp2_with (first
            | (go_at_call 8; refine HA.out.mono ?_; rintro e w1 ⟨rfl, hO1⟩)
            | (go_at_call 14; change Calls _ _ _ _ _; (with_reducible refine (HS.out _ hO1).mono ?_); rintro e w2 ⟨rfl, hO2⟩)
            | (go_at_call 9; change Calls _ _ _ _ _; (with_reducible refine (HRg.out _ (hO1.trans hO2)).mono ?_); rintro e w3 ⟨rfl, hO3⟩)
            | (go_at_call 15; change Calls _ _ _ _ _; (with_reducible refine (HRs.out _ ((hO1.trans hO2).trans hO3)).mono ?_); rintro e w4 ⟨v7, rfl, hE7, hO4⟩)
            | (go_at_call 16; change Calls _ _ _ _ _; (with_reducible refine (HSm.out _ (((hO1.trans hO2).trans hO3).trans hO4) v7 hE7).mono ?_); rintro e w5 ⟨rfl, hO5⟩)
            | (go_at_call 15; change Calls _ _ _ _ _; (with_reducible refine (HRt.out _ ((((hO1.trans hO2).trans hO3).trans hO4).trans hO5)).mono ?_); rintro e w6 ⟨v9, rfl, hE9, hO6⟩)
            | (go_at_call 14; change Calls _ _ _ _ _; (with_reducible refine (HS2.out _ (((((hO1.trans hO2).trans hO3).trans hO4).trans hO5).trans hO6) v9 hE9).mono ?_); rintro e w7 ⟨rfl, hO7⟩)
            | (go_at_call 9; change Calls _ _ _ _ _; (with_reducible refine (HR2.out _ ((((((hO1.trans hO2).trans hO3).trans hO4).trans hO5).trans hO6).trans hO7) v9 _ hE9 hO7).mono ?_); rintro e w8 ⟨rfl, hO8⟩))
          go_returns
          exact ⟨rfl, (((((((hO1.trans hO2).trans hO3).trans hO4).trans hO5).trans hO6).trans hO7).trans hO8)⟩
        · obtain ⟨r1, r2⟩ := rd_wrong hre
          have hr : rdA t = ([], (rdA t).2.1, (rdA t).2.2) := by rw [← r1]
          generalize (rdA t).2.1 = n at hr r2
          generalize (rdA t).2.2 = k at hr hre
          have hkb : (k != 0) = true := by simpa using hre
          have HRt := Lib.hid (fun W (h : Only [] w W) => pread_ins t HT.out W (HG.out.only h) hr)
          clear hr
          go_enter Tryz.func6, Tryz.ntmps6
          go_wp2_with (first
            | (go_at_call 8; refine HA.out.mono ?_; rintro e w1 ⟨rfl, hO1⟩)
            | (go_at_call 14; change Calls _ _ _ _ _; (with_reducible refine (HS.out _ hO1).mono ?_); rintro e w2 ⟨rfl, hO2⟩)
            | (go_at_call 9; change Calls _ _ _ _ _; (with_reducible refine (HRg.out _ (hO1.trans hO2)).mono ?_); rintro e w3 ⟨rfl, hO3⟩)
            | (go_at_call 15; change Calls _ _ _ _ _; (with_reducible refine (HRs.out _ ((hO1.trans hO2).trans hO3)).mono ?_); rintro e w4 ⟨v7, rfl, hE7, hO4⟩)
            | (go_at_call 16; change Calls _ _ _ _ _; (with_reducible refine (HSm.out _ (((hO1.trans hO2).trans hO3).trans hO4) v7 hE7).mono ?_); rintro e w5 ⟨rfl, hO5⟩)
            | (go_at_call 15; change Calls _ _ _ _ _; (with_reducible refine (HRt.out _ ((((hO1.trans hO2).trans hO3).trans hO4).trans hO5)).mono ?_); rintro e w6 ⟨v9, rfl, hE9, hO6⟩; obtain ⟨p9, c9, rfl⟩ := hE9.len))
          go_returns
          exact ⟨rfl, (((((hO1.trans hO2).trans hO3).trans hO4).trans hO5).trans hO6)⟩
      | false =>
        have e1 : pshown l = [] := by simp [pshown, hok]
        have e2 : pshowE l = 4 := by simp [pshowE, hok]
        rw [e1, e2] at HS
        rw [hok] at HRg
        clear e1 e2 hok hv hg hf HL HV
        by_cases hre : (rdA t).2.2 = 0
        · obtain ⟨r1, r2, r3, r4⟩ := rd_right hre
          have hr : rdA t = ((rdA t).1, 0, 0) := Prod.ext rfl (Prod.ext r3 hre)
          generalize (rdA t).1 = m at hr r1 r2 r4
          have HM : Hid (m.length ≤ 64) := Lib.hid (okR_iff.1 r1).1
          have HRt := Lib.hid (fun W (h : Only [] w W) => pread_ins t HT.out W (HG.out.only h) hr)
          have HS2 := Lib.hid (fun W (h : Only [] w W) u (hu : InS W u m) => (pshow_any m (by have := HM.out; omega) r4 u W (HG.out.only h) hu))
          have f1 : pshown m = t := by simp [pshown, r1, r2]
          have f2 : pshowE m = 0 := by simp [pshowE, r1]
          rw [f1, f2] at HS2
          have HR2 := Lib.hid (fun W (h : Only [] w W) u W0 (hu : InS W0 u m) (h0 : Only [] W0 W) => pright_any m (by have := HM.out; omega) r4 u W (hu.only0 h0))
          rw [r1] at HR2
          clear f1 f2 hr r1 r2 r3 r4 hre
          go_enter Tryz.func6, Tryz.ntmps6
          go_wp2_with (first
            | (go_at_call 8; refine HA.out.mono ?_; rintro e w1 ⟨rfl, hO1⟩)
            | (go_at_call 14; change Calls _ _ _ _ _; (with_reducible refine (HS.out _ hO1).mono ?_); rintro e w2 ⟨rfl, hO2⟩)
            | (go_at_call 9; change Calls _ _ _ _ _; (with_reducible refine (HRg.out _ (hO1.trans hO2)).mono ?_); rintro e w3 ⟨rfl, hO3⟩)
            | (go_at_call 15; change Calls _ _ _ _ _; (with_reducible refine (HRt.out _ ((hO1.trans hO2).trans hO3)).mono ?_); rintro e w6 ⟨v9, rfl, hE9, hO6⟩)
            | (go_at_call 14; change Calls _ _ _ _ _; (with_reducible refine (HS2.out _ (((hO1.trans hO2).trans hO3).trans hO6) v9 hE9).mono ?_); rintro e w7 ⟨rfl, hO7⟩)
            | (go_at_call 9; change Calls _ _ _ _ _; (with_reducible refine (HR2.out _ ((((hO1.trans hO2).trans hO3).trans hO6).trans hO7) v9 _ hE9 hO7).mono ?_); rintro e w8 ⟨rfl, hO8⟩))
          go_returns
          exact ⟨rfl, (((((hO1.trans hO2).trans hO3).trans hO6).trans hO7).trans hO8)⟩
        · obtain ⟨r1, r2⟩ := rd_wrong hre
          have hr : rdA t = ([], (rdA t).2.1, (rdA t).2.2) := by rw [← r1]
          generalize (rdA t).2.1 = n at hr r2
          generalize (rdA t).2.2 = k at hr hre
          have hkb : (k != 0) = true := by simpa using hre
          have HRt := Lib.hid (fun W (h : Only [] w W) => pread_ins t HT.out W (HG.out.only h) hr)
          clear hr
          go_enter Tryz.func6, Tryz.ntmps6
          go_wp2_with (first
            | (go_at_call 8; refine HA.out.mono ?_; rintro e w1 ⟨rfl, hO1⟩)
            | (go_at_call 14; change Calls _ _ _ _ _; (with_reducible refine (HS.out _ hO1).mono ?_); rintro e w2 ⟨rfl, hO2⟩)
            | (go_at_call 9; change Calls _ _ _ _ _; (with_reducible refine (HRg.out _ (hO1.trans hO2)).mono ?_); rintro e w3 ⟨rfl, hO3⟩)
            | (go_at_call 15; change Calls _ _ _ _ _; (with_reducible refine (HRt.out _ ((hO1.trans hO2).trans hO3)).mono ?_); rintro e w6 ⟨v9, rfl, hE9, hO6⟩; obtain ⟨p9, c9, rfl⟩ := hE9.len))
          go_returns
          exact ⟨rfl, (((hO1.trans hO2).trans hO3).trans hO6)⟩
end Go.Proofs.YtagmoehjcgjnjaaGreatDoor
