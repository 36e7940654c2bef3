/- The engine's Step, walked, whatever is asked. Conditions: the engine's block as New or Of makes it; what the asker does is a premise. -/
import Derived.Test.YtnnlnffdbdpmbaaDmaA
import Derived.Test.YtnnlnffdbdpmbaaScope
import Derived.Lib.Hide
namespace Go.Proofs.Ytnnlnffdbdpmbaa
open Go Go.RowKit

/-- What comes of an answer. -/
def ES.told (s : ES) (val err : Int) : ES :=
  if err ≠ 0 then { s with has := false, h := 0, den := true, busy := false }
  else if s.has then { s with has := false, h := 0, t := (s.t + 4) % 4294967296, l := (s.l - 1) % 4294967296, busy := decide ((s.l - 1) % 4294967296 > 0), done := s.done || !decide ((s.l - 1) % 4294967296 > 0) }
  else { s with has := true, h := val, f := (s.f + 4) % 4294967296 }

/-- What is asked. -/
def ES.asks (s : ES) (wd : Int) : Value :=
  if s.has then .agg #[.int .i64 wd, .bool true, .int .u32 s.t, .int .i64 4, .int .u32 s.h]
  else .agg #[.int .i64 wd, .bool false, .int .u32 s.f, .int .i64 4, .int .u32 0]

abbrev reply (val err : Int) : Value := .agg #[.int .u32 val, .int .i64 err]

/-- What the asker is: a function that is called so, and answers; it turns the blocks of S alone. -/
structure Asker (w : World) (S : List Nat) (b F : Nat) (first cap : Array Value) (A : Value) (R : Int → Int → World → World → Prop) : Prop where
  run : ∀ args w, (callFunc F args).run Try.prog w = .ok (.enter F args) w
  ask : ∀ w1, Only [] w w1 → Calls Try.prog F (first.push A ++ cap) w1 fun e w2 => ∃ val err, e = .returned (reply val err) ∧ R val err w1 w2
  only : ∀ val err w1 w2, R val err w1 w2 → Only S w1 w2
  low : ∀ x ∈ S, x < w.heap.size
  own : b ∉ S

/-- What a step comes to. -/
def Stepped1 (w : World) (b : Nat) (s : ES) (R : Int → Int → World → World → Prop) (e : Ending) (w' : World) : Prop :=
  ∃ val err w1 w2 r cs, Only [] w w1 ∧ R val err w1 w2 ∧ e = .returned (.bool true) ∧ EngB w' b (s.told val err) ∧ w.heap.size ≤ r ∧ Blk w2 r 33 cs ∧ Only [b, r] w2 w'

set_option maxHeartbeats 1000000 in
theorem step_read (b F : Nat) (first cap : Array Value) (s : ES) (wd : Int) (w : World) (hb : EngB w b s) (hB : s.busy = true) (hH : s.has = false) (hz : s.h = 0) (S : List Nat) (R : Int → Int → World → World → Prop) (ha : Asker w S b F first cap (s.asks wd) R) :
    Calls Try.prog 12 #[.pointer (some ⟨b, 0, none⟩), .int .i64 wd, .func (.func F) first cap] w (Stepped1 w b s R) := by
  have hlt := hb.lt
  obtain ⟨c0, c1, c2, c3, c4, c5, c6, c7, c8, c9, -⟩ := hb.c
  obtain ⟨f, t, l, h, has, busy, den, done, calls⟩ := s
  simp only at hB hH hz
  subst hB
  subst hH
  subst hz
  obtain ⟨hrun, hask, honly, hlow, hown⟩ := ha
  simp only [ES.asks, Bool.false_eq_true, if_false] at *
  have he : ∀ (w : World), (binOp .eql 34 (.func (.func F) first cap) .nilFunc).run Try.prog w = .ok (.bool false) w := fun _ => by kernel_rfl
  have Hask := Lib.hid hask
  have Honly := Lib.hid honly
  have Hlow := Lib.hid hlow
  have Hown := Lib.hid hown
  clear hask honly hlow hown
  have hS : w.heap.size ∉ S := fun h => by have := Hlow.out _ h; omega
  go_enter Try.func12, Try.ntmps12
  go_wp2
  refine wp_scope_n 1 ?_
  unfold wpScope
  have hne1 : ¬ b = w.heap.size := by omega
  have hne2 : ¬ w.heap.size = b := by omega
  go_wp2_with (go_at_call 26; go_in)
  refine (Hask.out _ ((Only.refl _ _).alloc _)).mono ?_
  rintro e w2 ⟨val, err, rfl, hR⟩
  have hO2 := Honly.out _ _ _ _ hR
  have hb2 := hO2.blk (hb.alloc _) Hown.out
  have hr2 := hO2.blk (Blk.new' (w := w) rfl rfl) hS
  have r0 : w2.cell? ⟨w.heap.size, 0, none⟩ = some (.int .u32 0) := hr2.cell 0
  have r1 : w2.cell? ⟨w.heap.size, 1, none⟩ = some (.int .i64 0) := hr2.cell 1
  have q0 := hr2.frozen 0
  have q1 := hr2.frozen 1
  have d0 : w2.cell? ⟨b, 0, none⟩ = some (.int .u32 f) := hb2.cell 0
  have d1 : w2.cell? ⟨b, 1, none⟩ = some (.int .u32 t) := hb2.cell 1
  have d2 : w2.cell? ⟨b, 2, none⟩ = some (.int .u32 l) := hb2.cell 2
  have d3 : w2.cell? ⟨b, 3, none⟩ = some (.int .u32 0) := hb2.cell 3
  have d4 : w2.cell? ⟨b, 4, none⟩ = some (.bool false) := hb2.cell 4
  have d5 : w2.cell? ⟨b, 5, none⟩ = some (.bool true) := hb2.cell 5
  have d6 : w2.cell? ⟨b, 6, none⟩ = some (.bool den) := hb2.cell 6
  have d7 : w2.cell? ⟨b, 7, none⟩ = some (.bool done) := hb2.cell 7
  have g0 := hb2.frozen 0
  have g3 := hb2.frozen 3
  have g4 := hb2.frozen 4
  have g5 := hb2.frozen 5
  have g6 := hb2.frozen 6
  clear c0 c1 c2 c3 c4 c5 c6 c7 c8 c9
  by_cases hz : err = 0
  · subst hz
    go_wp2
    go_region
    all_goals go_wp2
    go_ret
    refine ⟨val, 0, _, w2, _, _, (Only.refl _ _).alloc _, hR, rfl, ?_, Nat.le_refl _, hr2, ?_⟩
    · unfold ES.told
      rw [if_neg (by simp), if_neg (by simp)]
      exact (((((hb2.far hne1 _).far hne1 _).drew).set_ 4 _).set_ 3 _).set_ 0 _
    · repeat (first | exact Only.refl _ _ | refine Only.set1 ?_ (by simp) _ _ | refine Only.drew ?_)
  · have hz1 : (err != 0) = true := by simpa using hz
    go_wp2
    go_step3
    simp only [Exit.then]
    go_big_open
    rw [gotos_goto]
    refine ⟨_, rfl, ?_⟩
    unfold wpScope
    go_wp2
    rw [Exit.noGoto_ret]
    go_ret
    refine ⟨val, err, _, w2, _, _, (Only.refl _ _).alloc _, hR, rfl, ?_, Nat.le_refl _, hr2, ?_⟩
    · unfold ES.told
      rw [if_pos hz]
      first
        | exact ((((hb2.far hne1 _).far hne1 _).set_ 6 _).set_ 5 _)
    · repeat (first | exact Only.refl _ _ | refine Only.set1 ?_ (by simp) _ _ | refine Only.drew ?_)
end Go.Proofs.Ytnnlnffdbdpmbaa
