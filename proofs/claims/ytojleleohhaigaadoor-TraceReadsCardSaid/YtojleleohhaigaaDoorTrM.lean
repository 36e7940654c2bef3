/- (event).may and Right of package trace, walked. No condition. -/
import Derived.Test.YtojleleohhaigaaDoorTrE
namespace Go.Proofs.YtojleleohhaigaaDoor
open Go Go.RowKit

set_option maxRecDepth 100000 in
set_option maxHeartbeats 1000000 in
theorem may_rng (x : Ev) (pv : Value) (w : World) (h : x.rng = false) : Calls Tryd.prog 30 #[x.agg, pv] w fun e w' => e = .returned (.bool false) ∧ Only [] w w' := by
  by_cases h1 : x.cy < 0
  · go_enter Tryd.func30, Tryd.ntmps30
    go_wp2
    go_returns
    exact ⟨rfl, (Only.refl _ _).alloc _⟩
  · by_cases h2 : 4096 ≤ x.cy
    · go_enter Tryd.func30, Tryd.ntmps30
      go_wp2
      go_returns
      exact ⟨rfl, (Only.refl _ _).alloc _⟩
    · by_cases h3 : x.ln < 0
      · go_enter Tryd.func30, Tryd.ntmps30
        go_wp2
        go_returns
        exact ⟨rfl, (Only.refl _ _).alloc _⟩
      · have h4 : 8 ≤ x.ln := by
          rcases Int.lt_or_le x.ln 8 with h4 | h4
          · have : x.rng = true := by simp [Ev.rng]; omega
            rw [this] at h; cases h
          · exact h4
        go_enter Tryd.func30, Tryd.ntmps30
        go_wp2
        go_returns
        exact ⟨rfl, (Only.refl _ _).alloc _⟩

set_option maxRecDepth 100000 in
set_option maxHeartbeats 2000000 in
theorem may_own (x : Ev) (a : Option Ev) (pv : Value) (w : World) (hp : PtrEv w pv a) (h : x.rng = true) : Calls Tryd.prog 30 #[x.agg, pv] w fun e w' => e = .returned (.bool (x.own && x.behind a)) ∧ Only [] w w' := by
  have h' : 0 ≤ x.cy ∧ x.cy < 4096 ∧ 0 ≤ x.ln ∧ x.ln < 8 := by simp [Ev.rng] at h; omega
  obtain ⟨h1, h2, h3, h4⟩ := h'
  have n1 : ¬ x.cy < 0 := by omega
  have n2 : ¬ 4096 ≤ x.cy := by omega
  have n3 : ¬ x.ln < 0 := by omega
  have n4 : ¬ 8 ≤ x.ln := by omega
  clear h h1 h2 h3 h4
  have HP := Lib.hid hp
  clear hp
  go_enter Tryd.func30, Tryd.ntmps30
  go_upto_region 3 with fail
  have hbx : Blk (w.alloc (.cells #[.int .i64 x.cy, .int .i64 x.kd, .int .u32 x.va, .int .i64 x.er, .int .i64 x.ln] 55)) w.heap.size 55 #[.int .i64 x.cy, .int .i64 x.kd, .int .u32 x.va, .int .i64 x.er, .int .i64 x.ln] := Blk.new _ _ _
  have hOx : Only [] w (w.alloc (.cells #[.int .i64 x.cy, .int .i64 x.kd, .int .u32 x.va, .int .i64 x.er, .int .i64 x.ln] 55)) := (Only.refl _ _).alloc _
  generalize hwx : w.alloc (.cells #[.int .i64 x.cy, .int .i64 x.kd, .int .u32 x.va, .int .i64 x.er, .int .i64 x.ln] 55) = wx at hbx hOx ⊢
  obtain ⟨b0, b1, b2, b3, b4, -⟩ := Blk.ev hbx
  go_cut [5] (fun v wy => v = .bool x.own ∧ Only [] wx wy)
  case first =>
    clear HP n1 n2 n3 n4
    go_wp2_with (first
      | (go_at_call 21; refine (reply_5 _ _ _ _ _ _).mono ?_; rintro e w' ⟨rfl, hO1⟩; obtain ⟨d0, d1, d2, d3, d4, -⟩ := Blk.ev (hO1.blk hbx (by simp)))
      | (go_at_call 37; refine (call_5 _ _ _ _ _ _).mono ?_; rintro e w' ⟨rfl, hO2⟩; obtain ⟨d0, d1, d2, d3, d4, -⟩ := Blk.ev ((hO1.trans hO2).blk hbx (by simp))))
    all_goals go_meet
    all_goals refine ⟨congrArg Value.bool ?_, by first | exact hO1.trans hO2 | exact hO1⟩
    all_goals first
      | (have e1 : x.kd = 1 := by assumption
         have e2 : x.ln = 0 := by assumption
         simp [Ev.own, e1, e2]; done)
      | (have e1 : x.kd = 1 := by assumption
         simp [Ev.own, e1]; done)
      | (have e1 : ¬ x.kd = 1 := by assumption
         have e2 : x.kd = 2 := by assumption
         have e3 : x.va = 0 := by assumption
         simp [Ev.own, e2, e3]; done)
      | (have e1 : ¬ x.kd = 1 := by assumption
         have e2 : x.kd = 2 := by assumption
         have e3 : ¬ x.va = 0 := by assumption
         simp [Ev.own, e2, e3]; done)
      | (have e1 : ¬ x.kd = 1 := by assumption
         have e2 : ¬ x.kd = 2 := by assumption
         simp [Ev.own, e1, e2]; done)
  case rest =>
    obtain ⟨rfl, hOy⟩ := hcut
    obtain ⟨d0, d1, d2, d3, d4, -⟩ := Blk.ev (hOy.blk hbx (by simp))
    have hOw : Only [] w wc := hOx.trans hOy
    clear b0 b1 b2 b3 b4 hbx hOx n1 n2 n3 n4 hOy hwx
    cases ho : x.own with
    | false =>
      go_wp2_with fail
      go_quiet (fail)
      go_wp2
      go_returns
      exact ⟨by simp [ho, Ev.behind], hOw.drewN _⟩
    | true =>
      cases a with
      | none =>
        obtain rfl : pv = .pointer none := HP.out
        go_wp2_with fail
        go_quiet (fail)
        go_wp2
        go_returns
        exact ⟨by simp [ho, Ev.behind], hOw.drewN _⟩
      | some a =>
        obtain ⟨b, o, rfl, hb, hE⟩ := HP.out
        obtain ⟨p0, p1, p2, p3, p4⟩ := hE.only hOw hb (by simp)
        by_cases hc : a.cy < x.cy
        · have g1 : decide (a.cy < x.cy) = true := by simpa using hc
          go_wp2_with fail
          go_quiet (fail)
          go_wp2
          go_returns
          exact ⟨by simp [ho, Ev.behind, hc], hOw.drewN _⟩
        · have g1 : decide (a.cy < x.cy) = false := by simpa using hc
          by_cases hq : x.cy = a.cy
          · have g2 : (x.cy == a.cy) = true := by simpa using hq
            go_wp2_with fail
            go_quiet (fail)
            go_wp2
            go_returns
            exact ⟨by simp [ho, Ev.behind, hq, g1], hOw.drewN _⟩
          · have g2 : (x.cy == a.cy) = false := by simpa using hq
            go_wp2_with fail
            go_quiet (fail)
            go_wp2
            go_returns
            exact ⟨by simp [ho, Ev.behind, g1, g2], hOw.drewN _⟩

theorem may_any (x : Ev) (a : Option Ev) (pv : Value) (w : World) (hp : PtrEv w pv a) : Calls Tryd.prog 30 #[x.agg, pv] w fun e w' => e = .returned (.bool (x.may a)) ∧ Only [] w w' := by
  cases h : x.rng with
  | false =>
    have e : x.may a = false := by simp [Ev.may, h]
    rw [e]
    exact may_rng x pv w h
  | true =>
    have e : x.may a = (x.own && x.behind a) := by simp [Ev.may, h]
    rw [e]
    exact may_own x a pv w hp h

/-- A slice holds these events. -/
def EvS (w : World) (v : Value) (l : List Ev) : Prop :=
  (∃ p c, v = .slice p 0 c ∧ l = []) ∨ ∃ b off c, v = .slice (some ⟨b, off, none⟩) l.length c ∧ 0 < l.length ∧ l.length ≤ c ∧ b < w.heap.size ∧ ∀ (j : Nat) x, l[j]? = some x → EvAt w b (off + j * 5) x
theorem EvS.only {S : List Nat} {w w' : World} {v : Value} {l : List Ev} (h : EvS w v l) (hO : Only S w w') (hS : ∀ b off n c, v = .slice (some ⟨b, off, none⟩) n c → b ∉ S) : EvS w' v l := by
  rcases h with h | ⟨b, off, c, rfl, h0, hc, hb, hE⟩
  · exact .inl h
  · exact .inr ⟨b, off, c, rfl, h0, hc, Nat.lt_of_lt_of_le hb hO.size, fun j x hj => (hE j x hj).only hO hb (hS _ _ _ _ rfl)⟩
theorem EvS.only0 {w w' : World} {v : Value} {l : List Ev} (h : EvS w v l) (hO : Only [] w w') : EvS w' v l := h.only hO (fun _ _ _ _ _ => by simp)

set_option maxRecDepth 100000 in
set_option maxHeartbeats 2000000 in
theorem right_any (l : List Ev) (hl : l.length ≤ 1000000) (v : Value) (w : World) (hv : EvS w v l) : Calls Tryd.prog 11 #[v] w fun e w' => e = .returned (.bool (rightL l)) ∧ Only [] w w' := by
  rcases hv with ⟨p, c, rfl, rfl⟩ | ⟨b, off, c, rfl, h0, hlc, hb, hE⟩
  · go_enter Tryd.func11, Tryd.ntmps11
    go_wp2
    go_loopw [7] (fun s wr => s = .int .i64 0 ∧ Only [] w wr) (fun _ _ => 0)
    case atStart => exact ⟨rfl, Only.refl _ _⟩
    case round =>
      obtain ⟨rfl, hO⟩ := hrel
      go_wp2
      go_returns
      exact ⟨rfl, hO⟩
  · have HE := Lib.hid hE
    clear hE
    go_enter Tryd.func11, Tryd.ntmps11
    go_wp2
    go_loopw [3, 7] (fun s3 s7 wr => ∃ (k : Nat) (a : Option Ev), s7 = .int .i64 k ∧ k ≤ l.length ∧ Hid (PtrEv wr s3 a) ∧ Hid (rightL l = rightF a (l.drop k)) ∧ Only [] w wr) (fun _ i _ => l.length - (intOf i).toNat)
    case atStart => exact ⟨0, none, rfl, by omega, rfl, rfl, Only.refl _ _⟩
    case round =>
      obtain ⟨k, a, rfl, hk, hP, HR, hO⟩ := hrel
      by_cases hkl : k < l.length
      · have hki : (k : Int) < (l.length : Int) := by omega
        have hdrop : l.drop k = l[k] :: l.drop (k + 1) := List.drop_eq_getElem_cons hkl
        have hEw := HE.out k l[k] (by simp)
        have hEk := hEw.only hO hb (by simp)
        rw [hdrop] at HR
        generalize l[k] = x at HR hEk
        obtain ⟨c0, c1, c2, c3, c4⟩ := hEk
        have HM := Lib.hid (may_any x a u3 wr hP.out)
        have hlk : k < l.length := hkl
        cases hm : x.may a with
        | false =>
          rw [hm] at HM
          have HV : Hid (rightL l = false) := Lib.hid (by rw [HR.out]; simp [rightF, hm])
          clear HR
          go_wp2_with (go_at_call 30; refine HM.out.mono ?_; rintro e w' ⟨rfl, hO2⟩)
          go_returns
          exact ⟨by rw [HV.out]; rfl, hO.trans hO2⟩
        | true =>
          rw [hm] at HM
          have HV : Hid (rightL l = rightF (some x) (l.drop (k + 1))) := Lib.hid (by rw [HR.out]; simp [rightF, hm])
          have HP2 : ∀ w', Only [] wr w' → Hid (PtrEv w' (.pointer (some ⟨b, off + k * 5, none⟩)) (some x)) := fun w' h => Lib.hid ⟨b, off + k * 5, rfl, by have := hO.size; have := h.size; omega, EvAt.only ⟨c0, c1, c2, c3, c4⟩ h (Nat.lt_of_lt_of_le hb hO.size) (by simp)⟩
          have HP3 := Lib.hid HP2
          clear HR HP2 HE hP
          go_wp2_with (go_at_call 30; refine HM.out.mono ?_; rintro e w' ⟨rfl, hO2⟩)
          refine ⟨⟨k + 1, some x, by go_num, by omega, HP3.out _ hO2, HV, hO.trans hO2⟩, ?_⟩
          simp [intOf]
          omega
      · have hki : ¬ (k : Int) < (l.length : Int) := by omega
        have HV : Hid (rightL l = true) := Lib.hid (by rw [HR.out, List.drop_eq_nil_of_le (by omega)]; rfl)
        clear HR
        go_wp2
        go_returns
        exact ⟨by rw [HV.out]; rfl, hO⟩
end Go.Proofs.YtojleleohhaigaaDoor
