/- SameEvents of the statements' kit, walked. No condition. -/
import Derived.Test.YtojleleohhaigaaDoorTrM
namespace Go.Proofs.YtojleleohhaigaaDoor
open Go Go.RowKit

def Ev.same (c d : Ev) : Bool := c.cy == d.cy && c.kd == d.kd && c.va == d.va && c.er == d.er && c.ln == d.ln
theorem Ev.same_iff (c d : Ev) : c.same d = true ↔ c = d := by
  obtain ⟨a1, a2, a3, a4, a5⟩ := c
  obtain ⟨b1, b2, b3, b4, b5⟩ := d
  simp [Ev.same, and_assoc]
theorem Ev.same_no {c d : Ev} (h : c.same d = false) : c ≠ d := fun e => by rw [(Ev.same_iff c d).2 e] at h; cases h
theorem ite_okE (p : Prop) [Decidable p] (b : Bool) (w : World) : (if p then Result.ok (Value.bool b) w else Result.ok (Value.bool false) w) = Result.ok (Value.bool (decide p && b)) w := by
  by_cases h : p <;> simp [h]
theorem ite_koE (p : Prop) [Decidable p] (b : Bool) (w : World) : (if p then Result.ok (Value.bool b) w else Result.ok (Value.bool true) w) = Result.ok (Value.bool (!decide p || b)) w := by
  by_cases h : p <;> simp [h]
theorem ev_eql (c d : Ev) (w : World) : (binOp .eql 44 c.agg d.agg).run Tryd.prog w = .ok (.bool (c.same d)) w := by
  simp [go_sem]
  simp only [ite_okE, Ev.same, Bool.beq_eq_decide_eq, Bool.and_assoc, Bool.and_true]
theorem ev_neq (c d : Ev) (w : World) : (binOp .neq 44 c.agg d.agg).run Tryd.prog w = .ok (.bool (!c.same d)) w := by
  simp [go_sem]
  simp only [ite_koE, Ev.same, Bool.beq_eq_decide_eq, Bool.not_and, Bool.or_assoc, Bool.or_false]
section
variable (a1 a2 a3 a4 a5 b1 b2 b3 b4 b5 : Int) (w : World)
/-- The same, for the walk, ahead of all other rules. -/
theorem ev_neq10 : (binOp .neq 44 (.agg #[.int .i64 a1, .int .i64 a2, .int .u32 a3, .int .i64 a4, .int .i64 a5]) (.agg #[.int .i64 b1, .int .i64 b2, .int .u32 b3, .int .i64 b4, .int .i64 b5])).run Tryd.prog w
    = .ok (.bool (!Ev.same ⟨a1, a2, a3, a4, a5⟩ ⟨b1, b2, b3, b4, b5⟩)) w := ev_neq ⟨a1, a2, a3, a4, a5⟩ ⟨b1, b2, b3, b4, b5⟩ w
theorem ev_eql10 : (binOp .eql 44 (.agg #[.int .i64 a1, .int .i64 a2, .int .u32 a3, .int .i64 a4, .int .i64 a5]) (.agg #[.int .i64 b1, .int .i64 b2, .int .u32 b3, .int .i64 b4, .int .i64 b5])).run Tryd.prog w
    = .ok (.bool (Ev.same ⟨a1, a2, a3, a4, a5⟩ ⟨b1, b2, b3, b4, b5⟩)) w := ev_eql ⟨a1, a2, a3, a4, a5⟩ ⟨b1, b2, b3, b4, b5⟩ w
end
attribute [local go_sem high] ev_neq10 ev_eql10

theorem EvS.len {w : World} {v : Value} {l : List Ev} (h : EvS w v l) : ∃ p c, v = .slice p l.length c := by
  rcases h with ⟨p, c, rfl, rfl⟩ | ⟨b, off, c, rfl, -⟩
  · exact ⟨p, c, rfl⟩
  · exact ⟨_, _, rfl⟩

set_option maxRecDepth 100000 in
set_option maxHeartbeats 2000000 in
theorem same_events (l m : List Ev) (hl : l.length ≤ 1000000) (hm : m.length ≤ 1000000) (v u : Value) (w : World) (hv : EvS w v l) (hu : EvS w u m) :
    Calls Tryd.prog 10 #[v, u] w fun e w' => e = .returned (.bool (decide (l = m))) ∧ Only [] w w' := by
  by_cases hn : l.length = m.length
  · by_cases h0 : l = []
    · subst h0
      obtain rfl : m = [] := List.eq_nil_of_length_eq_zero hn.symm
      obtain ⟨p, c, rfl⟩ := hv.len
      obtain ⟨p2, c2, rfl⟩ := hu.len
      clear hv hu
      go_enter Tryd.func10, Tryd.ntmps10
      go_wp2
      go_loopw [5] (fun s wr => s = .int .i64 0 ∧ Only [] w wr) (fun _ _ => 0)
      case atStart => exact ⟨rfl, Only.refl _ _⟩
      case round =>
        obtain ⟨rfl, hO⟩ := hrel
        go_wp2
        go_returns
        exact ⟨by simp, hO⟩
    · have hlp := List.length_pos_iff.2 h0
      obtain ⟨b, off, c, rfl, -, hlc, hb, hE⟩ := hv.resolve_left (fun ⟨_, _, _, h⟩ => h0 h)
      obtain ⟨b2, off2, c2, rfl, -, hlc2, hb2, hE2⟩ := hu.resolve_left (fun ⟨_, _, _, h⟩ => by rw [h] at hn; simp at hn; exact h0 hn)
      have HE := Lib.hid hE
      have HE2 := Lib.hid hE2
      clear hE hE2 hv hu
      have hni : (l.length : Int) = (m.length : Int) := by omega
      have Hn := Lib.hid hn
      have hnb : ((l.length : Int) != (m.length : Int)) = false := by simp [hni]
      clear hn
      go_enter Tryd.func10, Tryd.ntmps10
      go_wp2
      go_loopw [5] (fun s wr => ∃ k : Nat, s = .int .i64 k ∧ k ≤ l.length ∧ Hid (l.take k = m.take k) ∧ Only [] w wr) (fun i _ => l.length - (intOf i).toNat)
      case atStart => exact ⟨0, rfl, by omega, by simp [Hid], Only.refl _ _⟩
      case round =>
        obtain ⟨k, rfl, hk, HT, hO⟩ := hrel
        by_cases hkl : k < l.length
        · have hki : (k : Int) < (l.length : Int) := by omega
          have hkm : k < m.length := by have := Hn.out; omega
          have hkm2 : (k : Int) < (m.length : Int) := by omega
          have ht1 : l.take (k + 1) = l.take k ++ [l[k]] := by simp
          have ht2 : m.take (k + 1) = m.take k ++ [m[k]] := by simp
          have e1 : l[k]? = some l[k] := by simp
          have e2 : m[k]? = some m[k] := by simp
          obtain ⟨c0, c1, c2, c3, c4⟩ := (HE.out k l[k] e1).only hO hb (by simp)
          obtain ⟨d0, d1, d2, d3, d4⟩ := (HE2.out k m[k] e2).only hO hb2 (by simp)
          generalize l[k] = x at c0 c1 c2 c3 c4 ht1 e1
          generalize m[k] = y at d0 d1 d2 d3 d4 ht2 e2
          have HX := Lib.hid (And.intro (And.intro ht1 ht2) (And.intro e1 e2))
          clear ht1 ht2 e1 e2 hkl
          cases hs : x.same y with
          | true =>
            have HN : Hid (l.take (k + 1) = m.take (k + 1)) := Lib.hid (by rw [HX.out.1.1, HX.out.1.2, HT.out, (Ev.same_iff _ _).1 hs])
            have hs2 : Ev.same ⟨x.cy, x.kd, x.va, x.er, x.ln⟩ ⟨y.cy, y.kd, y.va, y.er, y.ln⟩ = true := hs
            clear HT HX HE HE2
            go_wp2_with fail
            go_quiet (fail)
            go_wp2
            go_roundw
            case rel => exact ⟨k + 1, by go_num, by omega, HN, hO.drewN _⟩
            case measure => simp [intOf]; omega
          | false =>
            have HN : Hid (l ≠ m) := Lib.hid (by
              intro e
              subst e
              have := HX.out.2.1.symm.trans HX.out.2.2
              injection this with this
              exact Ev.same_no hs this)
            have hs2 : Ev.same ⟨x.cy, x.kd, x.va, x.er, x.ln⟩ ⟨y.cy, y.kd, y.va, y.er, y.ln⟩ = false := hs
            clear HT HX HE HE2
            go_wp2_with fail
            go_quiet (fail)
            go_wp2
            go_returns
            exact ⟨by simp [HN.out], hO.drewN _⟩
        · have hki : ¬ (k : Int) < (l.length : Int) := by omega
          have HV : Hid (l = m) := Lib.hid (by
            have h := HT.out
            rwa [List.take_of_length_le (by omega), List.take_of_length_le (by have := Hn.out; omega)] at h)
          clear HT HE HE2
          go_wp2
          go_returns
          exact ⟨by simp [HV.out], hO⟩
  · have hne : l ≠ m := fun e => hn (by rw [e])
    obtain ⟨p, c, rfl⟩ := hv.len
    obtain ⟨p2, c2, rfl⟩ := hu.len
    clear hv hu
    have hnb : ((l.length : Int) != (m.length : Int)) = true := by simpa using by omega
    go_enter Tryd.func10, Tryd.ntmps10
    go_wp2
    go_returns
    exact ⟨by simp [hne], Only.refl _ _⟩
end Go.Proofs.YtojleleohhaigaaDoor
