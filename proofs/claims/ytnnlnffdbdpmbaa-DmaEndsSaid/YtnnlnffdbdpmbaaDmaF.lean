/- The engine's Step when it does nothing, walked. Conditions: the engine's block as New or Of makes it. -/
import Derived.Test.YtnnlnffdbdpmbaaDmaD
namespace Go.Proofs.Ytnnlnffdbdpmbaa
open Go Go.RowKit

set_option maxHeartbeats 1000000 in
theorem step_idle (b : Nat) (ask : Value) (s : ES) (wd : Int) (w : World) (hb : EngB w b s) (hB : s.busy = false) :
    Calls Try.prog 12 #[.pointer (some ⟨b, 0, none⟩), .int .i64 wd, ask] w fun e w' => e = .returned (.bool false) ∧ Only [] w w' := by
  have hlt := hb.lt
  obtain ⟨c0, c1, c2, c3, c4, c5, c6, c7, c8, c9, -⟩ := hb.c
  obtain ⟨f, t, l, h, has, busy, den, done, calls⟩ := s
  simp only at hB
  subst hB
  simp only at *
  have hne1 : ¬ b = w.heap.size := by omega
  have hne2 : ¬ w.heap.size = b := by omega
  go_enter Try.func12, Try.ntmps12
  go_wp2
  refine wp_scope_n 0 ?_
  unfold wpScope
  go_wp2_with (go_at_call 26; go_in)
  try rw [Exit.noGoto_ret]
  go_ret
  exact ⟨rfl, (Only.refl _ _).alloc _⟩
end Go.Proofs.Ytnnlnffdbdpmbaa
