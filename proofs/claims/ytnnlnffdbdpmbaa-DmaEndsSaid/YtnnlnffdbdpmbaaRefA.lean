/- The document's engine of layer 14: each of its methods, walked. Conditions: its block as Of makes it. -/
import Derived.Test.YtnnlnffdbdpmbaaDmaB
import Derived.Test.YtnnlnffdbdpmbaaStageD
namespace Go.Proofs.Ytnnlnffdbdpmbaa
open Go Go.RowKit

/-- The document's engine lies in block b. -/
def RefB (w : World) (b : Nat) (s : ES) : Prop := Blk w b 42 #[.int .u32 s.f, .int .u32 s.t, .int .u32 s.l, .int .u32 s.h, .bool s.has, .bool s.busy, .bool s.den, .bool s.done, .bool s.calls]

structure RefC (w : World) (b : Nat) (s : ES) : Prop where
  c0 : w.cell? ⟨b, 0, none⟩ = some (.int .u32 s.f)
  c1 : w.cell? ⟨b, 1, none⟩ = some (.int .u32 s.t)
  c2 : w.cell? ⟨b, 2, none⟩ = some (.int .u32 s.l)
  c3 : w.cell? ⟨b, 3, none⟩ = some (.int .u32 s.h)
  c4 : w.cell? ⟨b, 4, none⟩ = some (.bool s.has)
  c5 : w.cell? ⟨b, 5, none⟩ = some (.bool s.busy)
  c6 : w.cell? ⟨b, 6, none⟩ = some (.bool s.den)
  c7 : w.cell? ⟨b, 7, none⟩ = some (.bool s.done)
  c8 : w.cell? ⟨b, 8, none⟩ = some (.bool s.calls)
  fr : ∀ i, w.frozen? ⟨b, i, none⟩ = false
theorem RefB.c {w : World} {b : Nat} {s : ES} (h : RefB w b s) : RefC w b s :=
  ⟨h.cell 0, h.cell 1, h.cell 2, h.cell 3, h.cell 4, h.cell 5, h.cell 6, h.cell 7, h.cell 8, h.frozen⟩
theorem RefB.alloc {w : World} {b : Nat} {s : ES} (h : RefB w b s) (o : Obj) : RefB (w.alloc o) b s := Blk.alloc h o
theorem Only.ref {S : List Nat} {w w' : World} {b : Nat} {s : ES} (hO : Only S w w') (h : RefB w b s) (hb : b ∉ S) : RefB w' b s := hO.blk h hb

set_option maxHeartbeats 4000000 in
theorem rof_any (s : ES) (w : World) :
    Calls Try.prog 14 #[s.agg] w fun e w' => ∃ b, e = .returned (.pointer (some ⟨b, 0, none⟩)) ∧ w.heap.size ≤ b ∧ RefB w' b s.of ∧ Only [] w w' := by
  obtain ⟨f, t, l, h, has, busy, den, done, calls⟩ := s
  by_cases hl : l > 0
  · have nl : decide (l > 0) = true := by simpa using hl
    cases busy <;> cases has <;>
    · go_enter Try.func14, Try.ntmps14
      go_wp2
      go_ret
      refine ⟨_, rfl, Nat.le_refl _, ?_, ?_⟩
      rotate_left
      · repeat (first | exact Only.refl _ _ | refine Only.setCell ?_ (.inr (by simp)) _ | refine Only.alloc ?_ _)
      simp only [ES.of, nl]
      exact Blk.new' rfl rfl
  · have nl : decide (l > 0) = false := by simpa using hl
    cases busy <;> cases has <;>
    · go_enter Try.func14, Try.ntmps14
      go_wp2
      go_ret
      refine ⟨_, rfl, Nat.le_refl _, ?_, ?_⟩
      rotate_left
      · repeat (first | exact Only.refl _ _ | refine Only.setCell ?_ (.inr (by simp)) _ | refine Only.alloc ?_ _)
      simp only [ES.of, nl]
      exact Blk.new' rfl rfl

theorem bit_any (is : Bool) (v : Int) (w : World) :
    Calls Try.prog 34 #[.bool is, .int .u32 v] w fun e w' => e = .returned (.int .u32 (bit is v)) ∧ w' = w := by
  cases is <;>
  · go_enter Try.func34, Try.ntmps34
    go_wp2
    go_ret
    exact ⟨rfl, rfl⟩

theorem pick_any (a : Int) (w : World) :
    Calls Try.prog 16 #[.int .i64 a, .int .i64 3] w fun e w' => ∃ k, e = .returned (.int .i64 k) ∧ (k = 0 ∨ k = 1 ∨ k = 2) ∧ w' = w := by
  go_enter Try.func16, Try.ntmps16
  have hlt : a.tmod 3 < 3 := Int.tmod_lt_of_pos a (by omega)
  have hgt : -3 < a.tmod 3 := by have := Int.lt_tmod_of_pos a (b := 3) (by omega); omega
  go_wp2
  · go_ret
    exact ⟨_, rfl, by omega, rfl⟩
  · have : wrap64 (a.tmod 3 + 3) = a.tmod 3 + 3 := by unfold wrap64; omega
    go_ret
    exact ⟨_, rfl, by omega, rfl⟩

set_option maxHeartbeats 1000000 in
theorem rread_any (b : Nat) (s : ES) (reg : Int) (w : World) (hb : RefB w b s) :
    Calls Try.prog 17 #[.pointer (some ⟨b, 0, none⟩), .int .i64 reg] w fun e w' => e = .returned (.int .u32 (s.read reg)) ∧ Only [] w w' := by
  have hlt := hb.lt
  obtain ⟨c0, c1, c2, c3, c4, c5, c6, c7, c8, fr⟩ := hb.c
  clear fr
  by_cases e0 : reg = 0
  · subst e0
    go_enter Try.func17, Try.ntmps17
    go_wp2
    go_ret
    exact ⟨rfl, Only.refl _ _⟩
  have n0 : (reg == 0) = false := by simpa using e0
  by_cases e1 : reg = 1
  · subst e1
    go_enter Try.func17, Try.ntmps17
    go_wp2
    go_ret
    exact ⟨rfl, Only.refl _ _⟩
  have n1 : (reg == 1) = false := by simpa using e1
  by_cases e2 : reg = 2
  · subst e2
    go_enter Try.func17, Try.ntmps17
    go_wp2
    go_ret
    exact ⟨rfl, Only.refl _ _⟩
  have n2 : (reg == 2) = false := by simpa using e2
  by_cases e3 : reg = 3
  · subst e3
    obtain ⟨f, t, l, h, has, busy, den, done, calls⟩ := s
    simp only at *
    go_enter Try.func17, Try.ntmps17
    go_wp2
    refine wp_region_D (Only [] w) (by kernel_rfl) (by kernel_rfl) ((Only.refl _ _).drew) ?_
    repeat (first
      | (refine wpT_step ?_ (stD rfl (fun w' hD => ?_)) ?_
         rotate_left
         · obtain ⟨c0, c1, c2, c3, c4, c5, c6, c7, c8, -⟩ := (hD.ref hb (by simp)).c
           simp only at c0 c1 c2 c3 c4 c5 c6 c7 c8
           go_simp
           first
             | (refine ⟨?_, hD⟩; rfl)
             | (refine (bit_any _ _ w').mono ?_; rintro e w'' ⟨rfl, rfl⟩; refine ⟨?_, hD⟩; rfl)
         simp only [Act.put, List.setIfInBounds_toArray, List.set_cons_succ, List.set_cons_zero, Nat.zero_add, Nat.reduceAdd])
      | (refine wpT_step _ (stD_skip rfl) ?_
         simp only [Act.put, List.setIfInBounds_toArray, List.set_cons_succ, List.set_cons_zero, Nat.zero_add, Nat.reduceAdd]))
    refine wpT_nil ?_
    intro w5 hD
    go_wp2
    go_ret
    exact ⟨by cases busy <;> cases den <;> cases done <;> cases calls <;> rfl, hD⟩
  have n3 : (reg == 3) = false := by simpa using e3
  go_enter Try.func17, Try.ntmps17
  go_wp2
  go_ret
  exact ⟨by simp [ES.read, e0, e1, e2, e3], Only.refl _ _⟩

set_option maxHeartbeats 400000 in
theorem rline_any (b : Nat) (s : ES) (w : World) (hb : RefB w b s) :
    Calls Try.prog 33 #[.pointer (some ⟨b, 0, none⟩)] w fun e w' => e = .returned (.bool (s.calls && (s.den || s.done))) ∧ Only [] w w' := by
  have hlt := hb.lt
  obtain ⟨c0, c1, c2, c3, c4, c5, c6, c7, c8, -⟩ := hb.c
  obtain ⟨f, t, l, h, has, busy, den, done, calls⟩ := s
  simp only at *
  clear hb
  cases calls <;> cases den <;> cases done <;>
  · go_enter Try.func33, Try.ntmps33
    go_wp2
    go_ret
    exact ⟨rfl, Only.refl _ _⟩

end Go.Proofs.Ytnnlnffdbdpmbaa
