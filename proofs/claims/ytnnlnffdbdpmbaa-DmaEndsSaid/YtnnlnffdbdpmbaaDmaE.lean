/- The engine's Step when it holds a word, or does nothing, walked, whatever is asked. Conditions: as in the text before. -/
import Derived.Test.YtnnlnffdbdpmbaaDmaD
import Derived.Deep.RegionWith
import Derived.Deep.DeepCutAuto
namespace Go.Proofs.Ytnnlnffdbdpmbaa
open Go Go.RowKit

set_option maxHeartbeats 400000 in
theorem let_eng (b : Nat) (s : ES) (w : World) (hb : EngB w b s) :
    Calls Try.prog 25 #[.pointer (some ⟨b, 0, none⟩)] w fun e w' => e = .returned (.tuple #[]) ∧ EngB w' b { s with has := false, h := 0 } ∧ Only [b] w w' := by
  obtain ⟨c0, c1, c2, c3, c4, c5, c6, c7, c8, c9, fr⟩ := hb.c
  have f3 := fr 3
  have f4 := fr 4
  clear fr
  go_enter Try.func25, Try.ntmps25
  go_wp2
  go_end0
  exact ⟨rfl, (hb.set_ 4 _).set_ 3 _, ((Only.refl _ _).set1 (by simp) _ _).set1 (by simp) _ _⟩

/-- How it stands behind the asking. -/
def Mid (w : World) (b r : Nat) (s : ES) (R : Int → Int → World → World → Prop) (wx : World) : Prop :=
  ∃ val err w1 w2 cs, Only [] w w1 ∧ R val err w1 w2 ∧ EngB wx b s ∧ Blk wx r 33 #[.int .u32 val, .int .i64 err] ∧ Blk w2 r 33 cs ∧ Only [r] w2 wx

set_option maxRecDepth 100000 in
set_option maxHeartbeats 4000000 in
theorem step_write (b F : Nat) (first cap : Array Value) (s : ES) (wd : Int) (w : World) (hb : EngB w b s) (hB : s.busy = true) (hH : s.has = true) (S : List Nat) (R : Int → Int → World → World → Prop) (ha : Asker w S b F first cap (s.asks wd) R) :
    Calls Try.prog 12 #[.pointer (some ⟨b, 0, none⟩), .int .i64 wd, .func (.func F) first cap] w (Stepped1 w b s R) := by
  have hlt := hb.lt
  obtain ⟨c0, c1, c2, c3, c4, c5, c6, c7, c8, c9, -⟩ := hb.c
  obtain ⟨f, t, l, h, has, busy, den, done, calls⟩ := s
  simp only at hB hH
  subst hB
  subst hH
  obtain ⟨hrun, hask, honly, hlow, hown⟩ := ha
  simp only [ES.asks, if_true] at *
  have he : ∀ (w : World), (binOp .eql 34 (.func (.func F) first cap) .nilFunc).run Try.prog w = .ok (.bool false) w := fun _ => by kernel_rfl
  have Hask := Lib.hid hask
  have Honly := Lib.hid honly
  have Hlow := Lib.hid hlow
  have Hown := Lib.hid hown
  clear hask honly hlow hown
  have hS : w.heap.size ∉ S := fun h => by have := Hlow.out _ h; omega
  go_enter Try.func12, Try.ntmps12
  go_wp2
  refine wp_scope_n 2 ?_
  unfold wpScope
  have hne1 : ¬ b = w.heap.size := by omega
  have hne2 : ¬ w.heap.size = b := by omega
  go_wp2_with (go_at_call 26; go_in)
  go_step3
  simp only [Exit.then]
  go_big_open
  rw [gotos_goto]
  refine ⟨_, rfl, ?_⟩
  unfold wpScope
  go_upto_region 10 with fail
  go_cut [] (fun wx => Mid w b w.heap.size ⟨f, t, l, h, true, true, den, done, calls⟩ R wx)
  case first =>
    go_region_with (refine (Hask.out _ (((Only.refl _ _).alloc _).drew)).mono ?_; rintro e w2 ⟨val, err, rfl, hR⟩; have hO2 := Honly.out _ _ _ _ hR; have hb2 := hO2.blk ((hb.alloc _).drew) Hown.out; have hr2 := hO2.blk ((Blk.new' (w := w) rfl rfl).drew) hS; have r0 : w2.cell? ⟨w.heap.size, 0, none⟩ = some (.int .u32 0) := hr2.cell 0; have r1 : w2.cell? ⟨w.heap.size, 1, none⟩ = some (.int .i64 0) := hr2.cell 1; have q0 := hr2.frozen 0; have q1 := hr2.frozen 1; clear c0 c1 c2 c3 c4 c5 c6 c7 c8 c9)
    all_goals
      go_wp2_with fail
      go_meet
      refine ⟨val, err, _, w2, _, ((Only.refl _ _).alloc _).drew, hR, (hb2.far hne1 _).far hne1 _, (hr2.set_ 0 _).set_ 1 _, hr2, ((Only.refl _ _).set1 (by simp) _ _).set1 (by simp) _ _⟩
  case rest =>
    obtain ⟨val, err, wa, w2, cs, hA, hR, hE, hr, hr2, hO⟩ := hcut
    have hrl := hr.lt
    have r0 : wc.cell? ⟨w.heap.size, 0, none⟩ = some (.int .u32 val) := hr.cell 0
    have r1 : wc.cell? ⟨w.heap.size, 1, none⟩ = some (.int .i64 err) := hr.cell 1
    clear c0 c1 c2 c3 c4 c5 c6 c7 c8 c9 he hrun
    go_wp2_with fail
    refine (let_eng b _ _ hE).mono ?_
    rintro e w3 ⟨rfl, hE3, hO3⟩
    simp only at hE3
    have hr3 := hO3.blk hr (by simpa using hne2)
    have hO' : Only [b, w.heap.size] w2 w3 := (hO.mono (by simp)).trans (hO3.mono (by simp))
    clear r0 hO hO3 hE
    have r1 : w3.cell? ⟨w.heap.size, 1, none⟩ = some (.int .i64 err) := hr3.cell 1
    obtain ⟨d0, d1, d2, d3, d4, d5, d6, d7, d8, d9, fr⟩ := hE3.c
    simp only at d0 d1 d2 d3 d4 d5 d6 d7 d8 d9
    have g1 := fr 1
    have g2 := fr 2
    have g5 := fr 5
    have g6 := fr 6
    have g7 := fr 7
    clear fr d0 d3 d4 d8 d9
    by_cases hz : err = 0
    · subst hz
      by_cases hl : (l - 1) % 4294967296 > 0
      · have nl : decide ((l - 1) % 4294967296 > 0) = true := by simpa using hl
        cases done
        all_goals
          go_wp2
          try rw [Exit.noGoto_ret]
          go_ret
          refine ⟨val, 0, _, w2, _, _, hA, hR, rfl, ?_, Nat.le_refl _, hr2, (((hO'.set1 (by simp) _ _).set1 (by simp) _ _).set1 (by simp) _ _).set1 (by simp) _ _⟩
          unfold ES.told
          rw [if_neg (by simp), if_pos rfl]
          simp only [nl]
          exact (((hE3.set_ 1 _).set_ 2 _).set_ 5 _).set_ 7 _
      · have nl : decide ((l - 1) % 4294967296 > 0) = false := by simpa using hl
        cases done
        all_goals
          go_wp2
          try rw [Exit.noGoto_ret]
          go_ret
          refine ⟨val, 0, _, w2, _, _, hA, hR, rfl, ?_, Nat.le_refl _, hr2, (((hO'.set1 (by simp) _ _).set1 (by simp) _ _).set1 (by simp) _ _).set1 (by simp) _ _⟩
          unfold ES.told
          rw [if_neg (by simp), if_pos rfl]
          simp only [nl]
          exact (((hE3.set_ 1 _).set_ 2 _).set_ 5 _).set_ 7 _
    · have hz1 : (err != 0) = true := by simpa using hz
      go_wp2
      go_step3
      simp only [Exit.then]
      go_big_open
      rw [gotos_goto]
      refine ⟨_, rfl, ?_⟩
      unfold wpScope
      go_wp2
      try rw [Exit.noGoto_ret]
      go_ret
      refine ⟨val, err, _, w2, _, _, hA, hR, rfl, ?_, Nat.le_refl _, hr2, (hO'.set1 (by simp) _ _).set1 (by simp) _ _⟩
      unfold ES.told
      rw [if_pos hz]
      exact (hE3.set_ 6 _).set_ 5 _
end Go.Proofs.Ytnnlnffdbdpmbaa
