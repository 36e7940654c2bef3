/- The statement TraceReads, walked. Conditions: the listed variables are laid; values fit. -/
import Derived.Test.YtojleleohhaigaaDoorTsD
import Derived.Test.YtojleleohhaigaaDoorTrBk
namespace Go.Proofs.YtojleleohhaigaaDoor
open Go Go.RowKit

theorem readE_i64 (t : List UInt8) : readE t = 0 ∨ readE t = 8 := by
  unfold readE
  split
  · exact .inl rfl
  · exact .inr rfl
set_option maxHeartbeats 1000000 in
theorem reads_walk (t : List UInt8) (ht : t.length ≤ 4000) (w : World) (hg : Gl w) :
    Calls Tryd.prog 7 #[str t] w fun e w' => e = .returned (.bool true) ∧ Only [] w w' := by
  have HRt := Lib.hid (read_any t (by omega) w hg)
  have HD := Lib.hid (fun W => rread_ev t ht W)
  have HS := Lib.hid (fun W u v (hu : EvS W u (readL t)) (hv : EvS W v (readL t)) => same_events (readL t) (readL t) (by have := readL_len (s := t) (by omega); omega) (by have := readL_len (s := t) (by omega); omega) u v W hu hv)
  rw [decide_eq_true (show readL t = readL t from rfl)] at HS
  have hee : (readE t == readE t) = true := by simp
  generalize readE t = E at *
  generalize readL t = R at *
  go_enter Tryd.func7, Tryd.ntmps7
  go_wp2_with (first
    | (go_at_call 9; change Calls _ _ _ _ _; (with_reducible refine HRt.out.mono ?_); rintro e w1 ⟨v1, rfl, hE1, hO1⟩; have HE1 := Lib.hid hE1; clear hE1)
    | (go_at_call 17; change Calls _ _ _ _ _; (with_reducible refine (HD.out _).mono ?_); rintro e w2 ⟨v2, rfl, hE2, hO2⟩; have HE2 := Lib.hid hE2; clear hE2)
    | (go_at_call 10; change Calls _ _ _ _ _; (with_reducible refine (HS.out _ _ _ (HE1.out.only0 hO2) HE2.out).mono ?_); rintro e w3 ⟨rfl, hO3⟩))
  go_returns
  exact ⟨rfl, (hO1.trans hO2).trans hO3⟩

set_option maxHeartbeats 1000000 in
theorem reads_any (t : List UInt8) (htl : t.length < 9223372036854775808) (w : World) (hg : Gl w) :
    Calls Tryd.prog 3 #[str t] w fun e w' => e = .returned (.bool true) ∧ Only [] w w' := by
  have HA := Lib.hid (fun W (h : Only [] w W) => awake_any W (hg.only h))
  by_cases h2 : 4000 < t.length
  · have h2i : (4000 : Int) < (t.length : Int) := by omega
    go_enter Tryd.func3, Tryd.ntmps3
    go_wp2_with (go_at_call 6; refine (HA.out _ (Only.refl _ _)).mono ?_; rintro e w1 ⟨rfl, hO1⟩)
    go_returns
    exact ⟨rfl, hO1⟩
  · have h2i : ¬ (4000 : Int) < (t.length : Int) := by omega
    have HR := Lib.hid (reads_walk t (by omega) w hg)
    go_enter Tryd.func3, Tryd.ntmps3
    go_wp2_with (first
      | (go_at_call 7; refine HR.out.mono ?_; rintro e w1 ⟨rfl, hO1⟩)
      | (go_at_call 6; refine (HA.out _ hO1).mono ?_; rintro e w2 ⟨rfl, hO2⟩))
    go_returns
    exact ⟨rfl, hO1.trans hO2⟩
end Go.Proofs.YtojleleohhaigaaDoor
