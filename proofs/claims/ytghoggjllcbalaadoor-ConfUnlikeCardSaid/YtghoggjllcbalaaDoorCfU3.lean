/- Plain law: a right command with something more, or of another kind, is not right but for those whose parts are alike. No program, no condition. -/
import Derived.Test.YtghoggjllcbalaaDoorCfL3
namespace Go.Proofs.YtghoggjllcbalaaDoor
open Go

def Cf.withIx (c : Cf) (n : Int) : Cf := { c with ix := n }
def Cf.withWo (c : Cf) (n : Int) : Cf := { c with wo := n }
def Cf.withLn (c : Cf) (n : Int) : Cf := { c with ln := n }
def Cf.withRk (c : Cf) (n : Int) : Cf := { c with rk := n }
def Cf.withKd (c : Cf) (n : Int) : Cf := { c with kd := n }

theorem more_ix {c : Cf} (h : Shape c) {n : Int} (hn : n ≠ 0) (hk : c.kd = 7) : (c.withIx n).right = false := by
  cases h with
  | region => simp at hk
  | one k ix hk2 => simp at hk; omega
  | two k ix wo hk2 => simp at hk; omega
  | route => simp at hk
  | lock => simp [Cf.right, Cf.withIx, Cf.same, Cf.named, hn]
theorem more_wo {c : Cf} (h : Shape c) {n : Int} (hn : n ≠ 0) (h3 : c.kd ≠ 3) (h5 : c.kd ≠ 5) : (c.withWo n).right = false := by
  cases h with
  | region => simp [Cf.right, Cf.withWo, Cf.same, Cf.named, hn]
  | one k ix hk2 => rcases hk2 with rfl | rfl <;> simp [Cf.right, Cf.withWo, Cf.same, Cf.named, hn]
  | two k ix wo hk2 => simp at h3 h5; omega
  | route => simp [Cf.right, Cf.withWo, Cf.same, Cf.named, hn]
  | lock => simp [Cf.right, Cf.withWo, Cf.same, Cf.named, hn]
theorem more_ln {c : Cf} (h : Shape c) {n : Int} (hn : n ≠ 0) (h6 : c.kd ≠ 6) : (c.withLn n).right = false := by
  cases h with
  | region => simp [Cf.right, Cf.withLn, Cf.same, Cf.named, hn]
  | one k ix hk2 => rcases hk2 with rfl | rfl <;> simp [Cf.right, Cf.withLn, Cf.same, Cf.named, hn]
  | two k ix wo hk2 => rcases hk2 with rfl | rfl <;> simp [Cf.right, Cf.withLn, Cf.same, Cf.named, hn]
  | route => simp at h6
  | lock => simp [Cf.right, Cf.withLn, Cf.same, Cf.named, hn]
theorem more_rk {c : Cf} (h : Shape c) {n : Int} (hn : n ≠ 0) (h1 : c.kd ≠ 1) : (c.withRk n).right = false := by
  cases h with
  | region => simp at h1
  | one k ix hk2 => rcases hk2 with rfl | rfl <;> simp [Cf.right, Cf.withRk, Cf.same, Cf.named, hn]
  | two k ix wo hk2 => rcases hk2 with rfl | rfl <;> simp [Cf.right, Cf.withRk, Cf.same, Cf.named, hn]
  | route => simp [Cf.right, Cf.withRk, Cf.same, Cf.named, hn]
  | lock => simp [Cf.right, Cf.withRk, Cf.same, Cf.named, hn]

/-- The same command, of another kind. -/
theorem other_kd {c : Cf} (h : Shape c) {j : Int} (hj : (c.withKd j).right = true) (hne : j ≠ c.kd) :
    1 ≤ j ∧ j ≤ 7 ∧ (c.wo = 0 ∨ j = 3 ∨ j = 5) ∧ (c.ln = 0 ∨ j = 6) ∧ (c.ix = 0 ∨ j ≠ 7) ∧ c.on = false ∧ j ≠ 1 := by
  have h12 : 1 ≤ j ∧ j ≤ 7 := by
    simp only [Cf.right, Bool.and_eq_true] at hj
    exact ⟨of_decide_eq_true hj.1.1.1.1, of_decide_eq_true hj.1.1.1.2⟩
  have hj7 : j = 1 ∨ j = 2 ∨ j = 3 ∨ j = 4 ∨ j = 5 ∨ j = 6 ∨ j = 7 := by omega
  cases h with
  | region ix rw rk fr tt rd wt lk =>
    exfalso
    rcases hj7 with rfl | rfl | rfl | rfl | rfl | rfl | rfl <;> simp [Cf.right, Cf.withKd, Cf.same, Cf.named] at hj hne
  | one k ix hk =>
    rcases hk with rfl | rfl <;> rcases hj7 with rfl | rfl | rfl | rfl | rfl | rfl | rfl <;> simp [Cf.right, Cf.withKd, Cf.same, Cf.named, inB] at hj hne ⊢ <;> omega
  | two k ix wo hk =>
    rcases hk with rfl | rfl <;> rcases hj7 with rfl | rfl | rfl | rfl | rfl | rfl | rfl <;> simp [Cf.right, Cf.withKd, Cf.same, Cf.named, inB] at hj hne ⊢ <;> omega
  | route ix ln h1 h2 h3 =>
    rcases hj7 with rfl | rfl | rfl | rfl | rfl | rfl | rfl <;> simp [Cf.right, Cf.withKd, Cf.same, Cf.named, inB] at hj hne ⊢ <;> omega
  | lock =>
    rcases hj7 with rfl | rfl | rfl | rfl | rfl | rfl | rfl <;> simp [Cf.right, Cf.withKd, Cf.same, Cf.named, inB] at hj hne ⊢

/-- Texts are alike just where commands are. -/
theorem text_same {a b : Cf} (ha : a.Fits) (hb : b.Fits) (ra : a.right = true) (rb : b.right = true) : (a.text == b.text) = a.same b := by
  rw [Bool.eq_iff_iff, beq_iff_eq, Cf.same_iff]
  exact ⟨fun h => says_one (s := b.text) ⟨ha, ra, h⟩ ⟨hb, rb, rfl⟩, fun h => by rw [h]⟩
end Go.Proofs.YtghoggjllcbalaaDoor
