/- The engine's small methods, walked: what each answers, and what becomes of the engine's block. Conditions: the engine's block as New or Of makes it. -/
import Derived.Test.YtnnlnffdbdpmbaaMem
import Derived.Test.YtnnlnffdbdpmbaaStage
import Derived.Test.YtnnlnffdbdpmbaaRows
import Derived.BigRegion
import Derived.BigQuiet
import Derived.Deep.QuietTactic
import Derived.Handy
namespace Go.Proofs.Ytnnlnffdbdpmbaa
open Go Go.RowKit

/-- What an engine has. -/
structure ES where
  f : Int
  t : Int
  l : Int
  h : Int
  has : Bool
  busy : Bool
  den : Bool
  done : Bool
  calls : Bool

def ES.vals (s : ES) : List Value := [.int .u32 s.f, .int .u32 s.t, .int .u32 s.l, .int .u32 s.h, .bool s.has, .bool s.busy, .bool s.den, .bool s.done, .bool s.calls]
/-- The program's engine lies in block b. -/
def EngB (w : World) (b : Nat) (s : ES) : Prop := Blk w b 53 #[.int .u32 s.f, .int .u32 s.t, .int .u32 s.l, .int .u32 s.h, .bool s.has, .bool s.busy, .bool s.den, .bool s.done, .bool s.calls, .bool true]

structure EngC (w : World) (b : Nat) (s : ES) : Prop where
  c0 : w.cell? ⟨b, 0, none⟩ = some (.int .u32 s.f)
  c1 : w.cell? ⟨b, 1, none⟩ = some (.int .u32 s.t)
  c2 : w.cell? ⟨b, 2, none⟩ = some (.int .u32 s.l)
  c3 : w.cell? ⟨b, 3, none⟩ = some (.int .u32 s.h)
  c4 : w.cell? ⟨b, 4, none⟩ = some (.bool s.has)
  c5 : w.cell? ⟨b, 5, none⟩ = some (.bool s.busy)
  c6 : w.cell? ⟨b, 6, none⟩ = some (.bool s.den)
  c7 : w.cell? ⟨b, 7, none⟩ = some (.bool s.done)
  c8 : w.cell? ⟨b, 8, none⟩ = some (.bool s.calls)
  c9 : w.cell? ⟨b, 9, none⟩ = some (.bool true)
  fr : ∀ i, w.frozen? ⟨b, i, none⟩ = false
theorem EngB.c {w : World} {b : Nat} {s : ES} (h : EngB w b s) : EngC w b s :=
  ⟨h.cell 0, h.cell 1, h.cell 2, h.cell 3, h.cell 4, h.cell 5, h.cell 6, h.cell 7, h.cell 8, h.cell 9, h.frozen⟩


/-- Register 3. -/
def bit (b : Bool) (n : Int) : Int := if b then n else 0
def ES.status (s : ES) : Int := bit s.busy 1 + bit s.den 2 + bit s.done 4 + bit s.calls 256
def ES.read (s : ES) (reg : Int) : Int := if reg = 0 then s.f else if reg = 1 then s.t else if reg = 2 then s.l else if reg = 3 then s.status else 0

abbrev ES.agg (s : ES) : Value := .agg #[.int .u32 s.f, .int .u32 s.t, .int .u32 s.l, .int .u32 s.h, .bool s.has, .bool s.busy, .bool s.den, .bool s.done, .bool s.calls]
def ES.zero : ES := ⟨0, 0, 0, 0, false, false, false, false, false⟩

theorem ret_agg {x : Value} {v : Value} (h : x = v) : Ending.returned x = .returned v := by rw [h]

set_option maxHeartbeats 400000 in
theorem state_any (b : Nat) (s : ES) (w : World) (hb : EngB w b s) :
    Calls Try.prog 9 #[.pointer (some ⟨b, 0, none⟩)] w fun e w' => e = .returned s.agg ∧ Only [] w w' := by
  have hlt := hb.lt
  obtain ⟨c0, c1, c2, c3, c4, c5, c6, c7, c8, c9, -⟩ := hb.c
  go_enter Try.func9, Try.ntmps9
  go_wp2
  exact bodyPost_ret (v := s.agg) (by simp [results, Try.results9, go_sem]) rfl ⟨rfl, (Only.refl _ _).alloc _⟩

set_option maxHeartbeats 1000000 in
theorem status_any (b : Nat) (s : ES) (w : World) (hb : Blk w b 51 #[.int .u32 s.f, .int .u32 s.t, .int .u32 s.l, .int .u32 s.h, .bool s.has, .bool s.busy, .bool s.den, .bool s.done, .bool s.calls]) :
    Calls Try.prog 32 #[.pointer (some ⟨b, 0, none⟩)] w fun e w' => e = .returned (.int .u32 s.status) ∧ Only [] w w' := by
  have hlt := hb.lt
  have c5 := hb.cell 5
  have c6 := hb.cell 6
  have c7 := hb.cell 7
  have c8 := hb.cell 8
  simp only [List.getElem?_toArray, List.getElem?_cons_succ, List.getElem?_cons_zero] at c5 c6 c7 c8
  obtain ⟨f, t, l, h, has, busy, den, done, calls⟩ := s
  simp only at *
  clear hb
  go_enter Try.func32, Try.ntmps32
  go_wp2
  go_quiet (fail)
  have hq : Only [] w (w.drewN nq) := (Only.refl _ _).drewN _
  clear c5 c6 c7 c8 hlt
  generalize w.drewN nq = w1 at *
  have i0 : ∀ (p q r s : Bool) w, (Instr.index 69 (.agg #[.bool p, .int .u32 1, .bool q, .int .u32 2, .bool r, .int .u32 4, .bool s, .int .u32 256]) (.int .i64 0)).run Try.prog w = .ok (.agg #[.bool p, .int .u32 1]) w := fun _ _ _ _ _ => by kernel_rfl
  have i1 : ∀ (p q r s : Bool) w, (Instr.index 69 (.agg #[.bool p, .int .u32 1, .bool q, .int .u32 2, .bool r, .int .u32 4, .bool s, .int .u32 256]) (.int .i64 1)).run Try.prog w = .ok (.agg #[.bool q, .int .u32 2]) w := fun _ _ _ _ _ => by kernel_rfl
  have i2 : ∀ (p q r s : Bool) w, (Instr.index 69 (.agg #[.bool p, .int .u32 1, .bool q, .int .u32 2, .bool r, .int .u32 4, .bool s, .int .u32 256]) (.int .i64 2)).run Try.prog w = .ok (.agg #[.bool r, .int .u32 4]) w := fun _ _ _ _ _ => by kernel_rfl
  have i3 : ∀ (p q r s : Bool) w, (Instr.index 69 (.agg #[.bool p, .int .u32 1, .bool q, .int .u32 2, .bool r, .int .u32 4, .bool s, .int .u32 256]) (.int .i64 3)).run Try.prog w = .ok (.agg #[.bool s, .int .u32 256]) w := fun _ _ _ _ _ => by kernel_rfl
  go_wp2
  go_rounds 5
  all_goals go_ret
  all_goals refine ⟨?_, (((hq.alloc _).alloc _).alloc _).alloc _⟩
  all_goals (clear i0 i1 i2 i3; cases busy <;> cases den <;> cases done <;> cases calls <;> first | contradiction | rfl)

set_option maxHeartbeats 400000 in
theorem read_any (b : Nat) (s : ES) (reg : Int) (w : World) (hb : EngB w b s) :
    Calls Try.prog 13 #[.pointer (some ⟨b, 0, none⟩), .int .i64 reg] w fun e w' => e = .returned (.int .u32 (s.read reg)) ∧ Only [] w w' := by
  by_cases e0 : reg = 0
  · subst e0
    go_enter Try.func13, Try.ntmps13
    go_wp2_with (go_at_call 9; refine (state_any b s _ hb).mono ?_; rintro e w1 ⟨rfl, h1⟩)
    go_ret
    exact ⟨rfl, h1.alloc _⟩
  have n0 : (reg == 0) = false := by simpa using e0
  by_cases e1 : reg = 1
  · subst e1
    go_enter Try.func13, Try.ntmps13
    go_wp2_with (go_at_call 9; refine (state_any b s _ hb).mono ?_; rintro e w1 ⟨rfl, h1⟩)
    go_ret
    exact ⟨rfl, h1.alloc _⟩
  have n1 : (reg == 1) = false := by simpa using e1
  by_cases e2 : reg = 2
  · subst e2
    go_enter Try.func13, Try.ntmps13
    go_wp2_with (go_at_call 9; refine (state_any b s _ hb).mono ?_; rintro e w1 ⟨rfl, h1⟩)
    go_ret
    exact ⟨rfl, h1.alloc _⟩
  have n2 : (reg == 2) = false := by simpa using e2
  by_cases e3 : reg = 3
  · subst e3
    go_enter Try.func13, Try.ntmps13
    go_wp2_with (first | (go_at_call 9; refine (state_any b s _ hb).mono ?_; rintro e w1 ⟨rfl, h1⟩) | (go_at_call 32; refine (status_any _ s _ (Blk.new' rfl (by simp))).mono ?_; rintro e w2 ⟨rfl, h2⟩))
    go_ret
    exact ⟨rfl, ((h1.alloc _).alloc _).trans' h2 (by simp)⟩
  have n3 : (reg == 3) = false := by simpa using e3
  go_enter Try.func13, Try.ntmps13
  go_wp2_with (go_at_call 9; refine (state_any b s _ hb).mono ?_; rintro e w1 ⟨rfl, h1⟩)
  go_ret
  exact ⟨by simp [ES.read, e0, e1, e2, e3], h1.alloc _⟩

set_option maxHeartbeats 400000 in
theorem line_any (b : Nat) (s : ES) (w : World) (hb : EngB w b s) :
    Calls Try.prog 21 #[.pointer (some ⟨b, 0, none⟩)] w fun e w' => e = .returned (.bool (s.calls && (s.den || s.done))) ∧ Only [] w w' := by
  have hlt := hb.lt
  obtain ⟨c0, c1, c2, c3, c4, c5, c6, c7, c8, c9, -⟩ := hb.c
  obtain ⟨f, t, l, h, has, busy, den, done, calls⟩ := s
  simp only at *
  clear hb
  cases calls <;> cases den <;> cases done <;>
  · go_enter Try.func21, Try.ntmps21
    go_wp2
    go_ret
    exact ⟨rfl, Only.refl _ _⟩

def ES.of (s : ES) : ES :=
  let busy := s.busy && decide (s.l > 0)
  let has := s.has && busy
  ⟨s.f, s.t, s.l, if has then s.h else 0, has, busy, s.den, s.done, s.calls⟩

end Go.Proofs.Ytnnlnffdbdpmbaa
