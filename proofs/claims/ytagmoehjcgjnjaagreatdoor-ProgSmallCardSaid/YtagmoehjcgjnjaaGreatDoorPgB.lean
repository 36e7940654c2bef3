/- SameProgram of the statements' kit, walked. No condition. -/
import Derived.Test.YtagmoehjcgjnjaaGreatDoorPgR
import Derived.LoopTactic
namespace Go.Proofs.YtagmoehjcgjnjaaGreatDoor
open Go Go.RowKit
attribute [local go_sem ↓] in_eql36 in_neq36

theorem st_ld {D : World → Prop} {op : Oper} {a : Act} {w : World} (y : Operand) (ho : op.op = .load 33 y) (b o : Nat) (hx : a.eval y = .pointer (some ⟨b, o, none⟩)) (x : In) (h : w.rangeAt b o x.cs.toList) (hD : D w) :
    StUpon Tryz.prog x.agg D ((execOp a.eval op).run Tryz.prog w) := by
  have hr : (execOp a.eval op).run Tryz.prog w = .ok (.value x.agg) w := by
    unfold execOp
    simp only [ho, hx, Instr.loadAt, Instr.sureAddr, Sem.run_bind, Sem.run_pure, Result.andThen_ok, run_loadVar_mid w b o _ x.cs.toList _ h Tryz.underlying33 rfl (by kernel_rfl)]
  rw [hr]
  exact ⟨rfl, hD⟩
instance inEq : DecidableEq In := fun a b => decidable_of_iff _ (In.same_iff a b)
theorem In.same_no {c d : In} (h : c.same d = false) : c ≠ d := fun e => by rw [(In.same_iff c d).2 e] at h; cases h

set_option maxRecDepth 100000 in
set_option maxHeartbeats 2000000 in
theorem same_program (l m : List In) (hl : l.length ≤ 1000000) (hm : m.length ≤ 1000000) (v u : Value) (w : World) (hv : InS w v l) (hu : InS w u m) :
    Calls Tryz.prog 16 #[v, u] w fun e w' => e = .returned (.bool (decide (l = m))) ∧ Only [] w w' := by
  by_cases hn : l.length = m.length
  · by_cases h0 : l = []
    · subst h0
      obtain rfl : m = [] := List.eq_nil_of_length_eq_zero hn.symm
      obtain ⟨p, c, rfl⟩ := hv.len
      obtain ⟨p2, c2, rfl⟩ := hu.len
      clear hv hu
      go_enter Tryz.func16, Tryz.ntmps16
      go_wp2
      go_loopw [5] (fun s wr => s = .int .i64 0 ∧ Only [] w wr) (fun _ _ => 0)
      case atStart => exact ⟨rfl, Only.refl _ _⟩
      case round =>
        obtain ⟨rfl, hO⟩ := hrel
        go_wp2
        go_returns
        exact ⟨by simp, hO⟩
    · have hlp := List.length_pos_iff.2 h0
      obtain ⟨b, off, c, rfl, -, hlc, hb, hE⟩ := hv.resolve_left (fun ⟨_, _, _, h⟩ => h0 h)
      obtain ⟨b2, off2, c2, rfl, -, hlc2, hb2, hE2⟩ := hu.resolve_left (fun ⟨_, _, _, h⟩ => by rw [h] at hn; simp at hn; exact h0 hn)
      have HE := Lib.hid hE
      have HE2 := Lib.hid hE2
      clear hE hE2 hv hu
      have hni : (l.length : Int) = (m.length : Int) := by omega
      have Hn := Lib.hid hn
      have hnb : ((l.length : Int) != (m.length : Int)) = false := by simp [hni]
      clear hn
      go_enter Tryz.func16, Tryz.ntmps16
      go_wp2
      go_loopw [5] (fun s wr => ∃ k : Nat, s = .int .i64 k ∧ k ≤ l.length ∧ Hid (l.take k = m.take k) ∧ Only [] w wr) (fun i _ => l.length - (intOf i).toNat)
      case atStart => exact ⟨0, rfl, by omega, by simp [Hid], Only.refl _ _⟩
      case round =>
        obtain ⟨k, rfl, hk, HT, hO⟩ := hrel
        by_cases hkl : k < l.length
        · have hki : (k : Int) < (l.length : Int) := by omega
          have hkm : k < m.length := by have := Hn.out; omega
          have hkm2 : (k : Int) < (m.length : Int) := by omega
          have ht1 : l.take (k + 1) = l.take k ++ [l[k]] := by simp
          have ht2 : m.take (k + 1) = m.take k ++ [m[k]] := by simp
          have e1 : l[k]? = some l[k] := by simp
          have e2 : m[k]? = some m[k] := by simp
          have HX1 := Lib.hid ((World.rangeAt_drew _ _ _ _).2 (rng_only (HE.out k l[k] e1) hO hb (by simp)))
          have HX2 := Lib.hid ((World.rangeAt_drew _ _ _ _).2 (rng_only (HE2.out k m[k] e2) hO hb2 (by simp)))
          generalize l[k] = x at HX1 ht1 e1
          generalize m[k] = y at HX2 ht2 e2
          have HX := Lib.hid (And.intro (And.intro ht1 ht2) (And.intro e1 e2))
          clear ht1 ht2 e1 e2 hkl
          cases hs : x.same y with
          | true =>
            have HN : Hid (l.take (k + 1) = m.take (k + 1)) := Lib.hid (by rw [HX.out.1.1, HX.out.1.2, HT.out, (In.same_iff _ _).1 hs])
            have hs2 : In.same ⟨x.op, x.sz, x.ad, x.ix, x.dt, x.to, ⟨x.cf.kd, x.cf.ix, x.cf.wo, x.cf.ln, x.cf.on, x.cf.rw, x.cf.fr, x.cf.tt, x.cf.rd, x.cf.wt, x.cf.rk, x.cf.lk⟩⟩ ⟨y.op, y.sz, y.ad, y.ix, y.dt, y.to, ⟨y.cf.kd, y.cf.ix, y.cf.wo, y.cf.ln, y.cf.on, y.cf.rw, y.cf.fr, y.cf.tt, y.cf.rd, y.cf.wt, y.cf.rk, y.cf.lk⟩⟩ = true := hs
            clear HT HX HE HE2 hs
            go_wp2_with fail
            refine wp_region_D (fun z => z = wr.drew) (by kernel_rfl) (by kernel_rfl) rfl ?_
            repeat (
              refine wpT_step ?_ (stD rfl (fun w1 hD => ?_)) ?_
              rotate_left
              · subst hD
                first
                  | (refine @st_ld (fun z => z = wr.drew) _ _ _ (.tmp 19) ?_ b (off + k * 18) ?_ x HX1.out rfl <;> rfl)
                  | (refine @st_ld (fun z => z = wr.drew) _ _ _ (.tmp 23) ?_ b2 (off2 + k * 18) ?_ y HX2.out rfl <;> rfl)
                  | (go_simp; refine ⟨?_, rfl⟩; rfl)
              simp only [Act.put, List.setIfInBounds_toArray, List.set_cons_succ, List.set_cons_zero, Nat.reduceAdd])
            refine wpT_nil ?_
            intro w6 hD
            subst hD
            go_wp2_with fail
            refine ⟨⟨k + 1, by go_num, by omega, HN, hO.drew⟩, ?_⟩
            simp [intOf]; omega
          | false =>
            have HN : Hid (l ≠ m) := Lib.hid (by
              intro e
              subst e
              have := HX.out.2.1.symm.trans HX.out.2.2
              injection this with this
              exact In.same_no hs this)
            have hs2 : In.same ⟨x.op, x.sz, x.ad, x.ix, x.dt, x.to, ⟨x.cf.kd, x.cf.ix, x.cf.wo, x.cf.ln, x.cf.on, x.cf.rw, x.cf.fr, x.cf.tt, x.cf.rd, x.cf.wt, x.cf.rk, x.cf.lk⟩⟩ ⟨y.op, y.sz, y.ad, y.ix, y.dt, y.to, ⟨y.cf.kd, y.cf.ix, y.cf.wo, y.cf.ln, y.cf.on, y.cf.rw, y.cf.fr, y.cf.tt, y.cf.rd, y.cf.wt, y.cf.rk, y.cf.lk⟩⟩ = false := hs
            clear HT HX HE HE2 hs
            go_wp2_with fail
            refine wp_region_D (fun z => z = wr.drew) (by kernel_rfl) (by kernel_rfl) rfl ?_
            repeat (
              refine wpT_step ?_ (stD rfl (fun w1 hD => ?_)) ?_
              rotate_left
              · subst hD
                first
                  | (refine @st_ld (fun z => z = wr.drew) _ _ _ (.tmp 19) ?_ b (off + k * 18) ?_ x HX1.out rfl <;> rfl)
                  | (refine @st_ld (fun z => z = wr.drew) _ _ _ (.tmp 23) ?_ b2 (off2 + k * 18) ?_ y HX2.out rfl <;> rfl)
                  | (go_simp; refine ⟨?_, rfl⟩; rfl)
              simp only [Act.put, List.setIfInBounds_toArray, List.set_cons_succ, List.set_cons_zero, Nat.reduceAdd])
            refine wpT_nil ?_
            intro w6 hD
            subst hD
            go_wp2_with fail
            go_returns
            exact ⟨by simp [HN.out], hO.drew⟩
        · have hki : ¬ (k : Int) < (l.length : Int) := by omega
          have HV : Hid (l = m) := Lib.hid (by
            have h := HT.out
            rwa [List.take_of_length_le (by omega), List.take_of_length_le (by have := Hn.out; omega)] at h)
          clear HT HE HE2
          go_wp2
          go_returns
          exact ⟨by simp [HV.out], hO⟩
  · have hne : l ≠ m := fun e => hn (by rw [e])
    obtain ⟨p, c, rfl⟩ := hv.len
    obtain ⟨p2, c2, rfl⟩ := hu.len
    clear hv hu
    have hnb : ((l.length : Int) != (m.length : Int)) = true := by simpa using by omega
    go_enter Tryz.func16, Tryz.ntmps16
    go_wp2
    go_returns
    exact ⟨by simp [hne], Only.refl _ _⟩
end Go.Proofs.YtagmoehjcgjnjaaGreatDoor
