/- The engine's greater methods, walked: Of, New, Write, Step. Conditions: the engine's block as New or Of makes it. -/
import Derived.Test.YtnnlnffdbdpmbaaDmaA
import Derived.Test.YtnnlnffdbdpmbaaMap
import Derived.Lib.Hide
namespace Go.Proofs.Ytnnlnffdbdpmbaa
open Go Go.RowKit

set_option maxHeartbeats 400000 in
theorem of_any (s : ES) (w : World) :
    Calls Try.prog 8 #[s.agg] w fun e w' => ∃ b, e = .returned (.pointer (some ⟨b, 0, none⟩)) ∧ w.heap.size ≤ b ∧ EngB w' b s.of ∧ Only [] w w' := by
  obtain ⟨f, t, l, h, has, busy, den, done, calls⟩ := s
  by_cases hl : l > 0
  · have nl : decide (l > 0) = true := by simpa using hl
    cases busy <;> cases has <;>
    · go_enter Try.func8, Try.ntmps8
      go_wp2
      go_ret
      refine ⟨_, rfl, by omega, ?_, ((Only.refl _ _).alloc _).alloc _⟩
      simp only [ES.of, nl]
      exact Blk.new' rfl (by simp)
  · have nl : decide (l > 0) = false := by simpa using hl
    cases busy <;> cases has <;>
    · go_enter Try.func8, Try.ntmps8
      go_wp2
      go_ret
      refine ⟨_, rfl, by omega, ?_, ((Only.refl _ _).alloc _).alloc _⟩
      simp only [ES.of, nl]
      exact Blk.new' rfl (by simp)

set_option maxHeartbeats 400000 in
theorem new_any (w : World) :
    Calls Try.prog 20 #[] w fun e w' => ∃ b, e = .returned (.pointer (some ⟨b, 0, none⟩)) ∧ w.heap.size ≤ b ∧ EngB w' b ES.zero ∧ Only [] w w' := by
  go_enter Try.func20, Try.ntmps20
  go_wp2_with (go_at_call 8; refine (of_any ES.zero _).mono ?_; rintro e w1 ⟨b, rfl, h1, h2, h3⟩)
  go_ret
  exact ⟨b, rfl, h1, h2, h3⟩

def ES.ctrl (s : ES) (v : Int) : ES :=
  let c := decide (v / 256 % 2 = 1)
  if v % 2 = 0 then { s with calls := c, busy := false, has := false, h := 0 }
  else if s.busy then { s with calls := c }
  else { s with calls := c, has := false, h := 0, busy := decide (s.l > 0), done := s.done || !decide (s.l > 0) }

def ES.write (s : ES) (reg v : Int) : ES :=
  if reg = 0 then (if s.busy then s else { s with f := v })
  else if reg = 1 then (if s.busy then s else { s with t := v })
  else if reg = 2 then (if s.busy then s else { s with l := v })
  else if reg = 3 then s.ctrl v
  else if reg = 4 then { s with den := false, done := false }
  else s

/-- The methods by their registers. -/
def regFns (b : Nat) : List (Nat × Value × Value) :=
  [(5, .int .i64 0, .func (.func 27) #[.pointer (some ⟨b, 0, none⟩)] #[]), (10, .int .i64 1, .func (.func 28) #[.pointer (some ⟨b, 0, none⟩)] #[]),
   (15, .int .i64 2, .func (.func 29) #[.pointer (some ⟨b, 0, none⟩)] #[]), (20, .int .i64 3, .func (.func 30) #[.pointer (some ⟨b, 0, none⟩)] #[]),
   (25, .int .i64 4, .func (.func 31) #[.pointer (some ⟨b, 0, none⟩)] #[])]

theorem regFns_keys (b : Nat) : ∀ x ∈ regFns b, MapKept.IsKey (.int .i64) x.2.1 := by
  intro x hx
  simp only [regFns, List.mem_cons, List.not_mem_nil, or_false] at hx
  rcases hx with rfl | rfl | rfl | rfl | rfl <;> rfl

theorem regFns_rows (b : Nat) : Rows1 (regFns b) := by simp [Rows1, regFns]

/-- The method of a register. -/
def regFn (b : Nat) (reg : Int) : Value :=
  if reg = 0 then .func (.func 27) #[.pointer (some ⟨b, 0, none⟩)] #[]
  else if reg = 1 then .func (.func 28) #[.pointer (some ⟨b, 0, none⟩)] #[]
  else if reg = 2 then .func (.func 29) #[.pointer (some ⟨b, 0, none⟩)] #[]
  else if reg = 3 then .func (.func 30) #[.pointer (some ⟨b, 0, none⟩)] #[]
  else if reg = 4 then .func (.func 31) #[.pointer (some ⟨b, 0, none⟩)] #[]
  else .nilFunc

theorem regFn_val (b : Nat) (reg : Int) : ∀ x ∈ regFns b, x.2.1 = .int .i64 reg → x.2.2 = regFn b reg := by
  intro x hx
  simp only [regFns, List.mem_cons, List.not_mem_nil, or_false] at hx
  rcases hx with rfl | rfl | rfl | rfl | rfl <;> intro h <;> injection h with _ h <;> subst h <;> rfl

theorem regFn_nil (w : World) : (zeroValue 58).run Try.prog w = .ok .nilFunc w := by kernel_rfl

theorem regFn_zero (b : Nat) (reg : Int) (h : ∀ x ∈ regFns b, x.2.1 ≠ .int .i64 reg) (w : World) : (zeroValue 58).run Try.prog w = .ok (regFn b reg) w := by
  simp only [regFns, List.mem_cons, List.not_mem_nil, or_false, forall_eq_or_imp, forall_eq, ne_eq, Value.int.injEq, true_and] at h
  obtain ⟨h0, h1, h2, h3, h4⟩ := h
  have : regFn b reg = .nilFunc := by
    unfold regFn
    rw [if_neg (fun e => h0 e.symm), if_neg (fun e => h1 e.symm), if_neg (fun e => h2 e.symm), if_neg (fun e => h3 e.symm), if_neg (fun e => h4 e.symm)]
  rw [this]
  exact regFn_nil w

theorem nat_and_256 (x : Nat) : x &&& 256 = x / 256 % 2 * 256 := by
  apply Nat.eq_of_testBit_eq
  intro i
  rw [Nat.testBit_and, show 256 = 2 ^ 8 from rfl, Nat.testBit_two_pow, Nat.testBit_mul_two_pow]
  have h2 : (x / 2 ^ 8 % 2).testBit (i - 8) = (decide (i - 8 < 1) && (x / 2 ^ 8).testBit (i - 8)) := by
    rw [show (2 : Nat) = 2 ^ 1 from rfl, ← Nat.pow_mul, Nat.testBit_mod_two_pow]
  rw [h2, Nat.testBit_div_two_pow]
  by_cases h : i = 8
  · subst h; simp
  · have h1 : decide (8 = i) = false := by simp; omega
    rw [h1]
    by_cases h3 : 8 ≤ i
    · simp; omega
    · have : decide (i ≥ 8) = false := by simp; omega
      simp [this]
/-- Bits 0 and 8 of a word. -/
theorem and_one (v : Int) (h0 : 0 ≤ v) (h1 : v < 4294967296) : bits .and .u32 v 1 = v % 2 := by
  rw [u32_and v 1 h0 h1 (by omega) (by omega)]
  have : (1 : Int).toNat = 2 ^ 1 - 1 := rfl
  rw [this, Nat.and_two_pow_sub_one_eq_mod]
  omega
theorem and_256 (v : Int) (h0 : 0 ≤ v) (h1 : v < 4294967296) : bits .and .u32 v 256 = v / 256 % 2 * 256 := by
  rw [u32_and v 256 h0 h1 (by omega) (by omega)]
  have e : v.toNat &&& (256 : Int).toNat = v.toNat / 256 % 2 * 256 := nat_and_256 _
  omega

set_option maxHeartbeats 2000000 in
theorem ctrl_any (b : Nat) (s : ES) (v : Int) (w : World) (hb : EngB w b s) (hv0 : 0 ≤ v) (hv1 : v < 4294967296) :
    Calls Try.prog 30 #[.pointer (some ⟨b, 0, none⟩), .int .u32 v] w fun e w' => e = .returned (.tuple #[]) ∧ EngB w' b (s.ctrl v) ∧ Only [b] w w' := by
  have hc := hb.c
  obtain ⟨c0, c1, c2, c3, c4, c5, c6, c7, c8, c9, fr⟩ := hc
  have f3 := fr 3
  have f4 := fr 4
  have f5 := fr 5
  have f7 := fr 7
  have f8 := fr 8
  clear fr
  have a1 := and_one v hv0 hv1
  have a8 := and_256 v hv0 hv1
  obtain ⟨f, t, l, h, has, busy, den, done, calls⟩ := s
  simp only at *
  have hcc : v / 256 % 2 = 0 ∨ v / 256 % 2 = 1 := by omega
  have hce : v % 2 = 0 ∨ v % 2 = 1 := by omega
  have hO : Only [b] w w := Only.refl _ _
  have H1 := Lib.hid hcc
  have H2 := Lib.hid hce
  clear hcc hce hv0 hv1
  rcases H2.out with k2 | k2 <;> rcases H1.out with k1 | k1 <;> rw [k1] at a8 <;> rw [k2] at a1 <;> have K1 := Lib.hid k1 <;> have K2 := Lib.hid k2 <;> clear k1 k2 H1 H2
  rotate_left 2
  iterate 2

    · cases busy
      · by_cases hl : l > 0
        · have nl : decide (l > 0) = true := by simpa using hl
          cases done
          all_goals
            go_enter Try.func30, Try.ntmps30
            go_wp2
            go_end0
            refine ⟨rfl, ?_, by repeat (first | exact hO | refine Only.set1 ?_ (by simp) _ _)⟩
            unfold ES.ctrl
            simp only [K1.out, K2.out, nl]
            exact (((((hb.set_ 8 _).set_ 4 _).set_ 3 _).set_ 5 _).set_ 7 _)
        · have nl : decide (l > 0) = false := by simpa using hl
          cases done
          all_goals
            go_enter Try.func30, Try.ntmps30
            go_wp2
            go_end0
            refine ⟨rfl, ?_, by repeat (first | exact hO | refine Only.set1 ?_ (by simp) _ _)⟩
            unfold ES.ctrl
            simp only [K1.out, K2.out, nl]
            exact (((((hb.set_ 8 _).set_ 4 _).set_ 3 _).set_ 5 _).set_ 7 _)
      · go_enter Try.func30, Try.ntmps30
        go_wp2
        go_end0
        refine ⟨rfl, ?_, by repeat (first | exact hO | refine Only.set1 ?_ (by simp) _ _)⟩
        unfold ES.ctrl
        simp only [K1.out, K2.out]
        exact hb.set_ 8 _
  all_goals
    go_enter Try.func30, Try.ntmps30
    go_wp2
    go_end0
    refine ⟨rfl, ?_, by repeat (first | exact hO | refine Only.set1 ?_ (by simp) _ _)⟩
    unfold ES.ctrl
    simp only [K1.out, K2.out]
    exact (((hb.set_ 8 _).set_ 5 _).set_ 4 _).set_ 3 _

end Go.Proofs.Ytnnlnffdbdpmbaa
