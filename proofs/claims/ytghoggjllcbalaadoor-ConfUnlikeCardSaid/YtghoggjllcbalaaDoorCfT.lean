/- Show of package conf: the text of a command that can be said. Conditions: addresses are uint32; the listed variables are laid. -/
import Derived.Test.YtghoggjllcbalaaDoorCfS1
import Derived.Test.YtghoggjllcbalaaDoorCfS2
import Derived.Test.YtghoggjllcbalaaDoorCfS3
import Derived.Test.YtghoggjllcbalaaDoorCfS4
import Derived.Test.YtghoggjllcbalaaDoorCfS5
import Derived.Test.YtghoggjllcbalaaDoorCfS6
import Derived.Test.YtghoggjllcbalaaDoorCfS7
namespace Go.Proofs.YtghoggjllcbalaaDoor
open Go Go.RowKit

/-- A number's words. -/
def dec (n : Int) : List UInt8 := numL 10 n.toNat
def hexa (n : Int) : List UInt8 := numL 16 n.toNat

/-- The words of a command's text. -/
def Cf.words (c : Cf) : List (List UInt8) :=
  if c.kd = 1 then [kindW 1, dec c.ix, dec c.rw, hexa c.fr, hexa c.tt, rightsL c.rd c.wt, dec c.rk] ++ (if c.lk then [[108, 111, 99, 107, 101, 100]] else [])
  else if c.kd = 2 ∨ c.kd = 4 then [kindW c.kd, dec c.ix]
  else if c.kd = 3 ∨ c.kd = 5 then [kindW c.kd, dec c.ix, dec c.wo]
  else if c.kd = 6 then [kindW 6, dec c.ix, lineL c.ln]
  else [kindW 7]
/-- A command's text. -/
def Cf.text (c : Cf) : List UInt8 := Lib.join c.words [32]

/-- The addresses are uint32. -/
structure Cf.Fits (c : Cf) : Prop where
  fr : 0 ≤ c.fr ∧ c.fr < 4294967296
  tt : 0 ≤ c.tt ∧ c.tt < 4294967296

/-- What a right command is made of. -/
inductive Shape : Cf → Prop
  | region (ix rw rk : Nat) (fr tt : Nat) (rd wt lk : Bool) : ix ≤ 999 → rw ≤ 99 → rk ≤ 999 → fr < 4294967296 → tt < 4294967296 → Shape ⟨1, ix, 0, 0, true, rw, fr, tt, rd, wt, rk, lk⟩
  | one (k : Int) (ix : Nat) : (k = 2 ∨ k = 4) → ix ≤ 999 → Shape ⟨k, ix, 0, 0, false, 0, 0, 0, false, false, 0, false⟩
  | two (k : Int) (ix wo : Nat) : (k = 3 ∨ k = 5) → ix ≤ 999 → wo ≤ 99 → Shape ⟨k, ix, wo, 0, false, 0, 0, 0, false, false, 0, false⟩
  | route (ix : Nat) (ln : Int) : ix ≤ 999 → -1 ≤ ln → ln ≤ 99 → Shape ⟨6, ix, 0, ln, false, 0, 0, 0, false, false, 0, false⟩
  | lock : Shape ⟨7, 0, 0, 0, false, 0, 0, 0, false, false, 0, false⟩

theorem Shape.of (c : Cf) (hf : c.Fits) (hr : c.right = true) : Shape c := by
  simp only [Cf.right, Bool.and_eq_true, decide_eq_true_eq] at hr
  obtain ⟨⟨⟨⟨h1, h2⟩, h3⟩, h4⟩, h5⟩ := hr
  have h3' := (Cf.same_iff _ _).1 h3
  obtain ⟨hf1, hf2⟩ := hf
  rw [inB_true] at h4
  obtain ⟨kd, ix, wo, ln, on, rw, fr, tt, rd, wt, rk, lk⟩ := c
  simp only at h1 h2 h4 h5 hf1 hf2
  obtain ⟨ix, rfl⟩ : ∃ n : Nat, ix = n := ⟨ix.toNat, by omega⟩
  have hk : kd = 1 ∨ (kd = 2 ∨ kd = 4) ∨ (kd = 3 ∨ kd = 5) ∨ kd = 6 ∨ kd = 7 := by omega
  rcases hk with rfl | hk | hk | rfl | rfl
  · simp only [Cf.named, if_true, Cf.mk.injEq, and_true, true_and] at h3'
    obtain ⟨rfl, rfl⟩ := h3'
    simp only [if_true, Bool.and_eq_true, inB_true] at h5
    obtain ⟨⟨rfl, h6⟩, h7⟩ := h5
    obtain ⟨rw, rfl⟩ : ∃ n : Nat, rw = n := ⟨rw.toNat, by omega⟩
    obtain ⟨rk, rfl⟩ : ∃ n : Nat, rk = n := ⟨rk.toNat, by omega⟩
    obtain ⟨fr, rfl⟩ : ∃ n : Nat, fr = n := ⟨fr.toNat, by omega⟩
    obtain ⟨tt, rfl⟩ : ∃ n : Nat, tt = n := ⟨tt.toNat, by omega⟩
    exact .region ix rw rk fr tt rd wt lk (by omega) (by omega) (by omega) (by omega) (by omega)
  · have e : Cf.named ⟨kd, ix, wo, ln, on, rw, fr, tt, rd, wt, rk, lk⟩ = ⟨kd, ix, 0, 0, false, 0, 0, 0, false, false, 0, false⟩ := by
      rcases hk with rfl | rfl <;> rfl
    rw [e] at h3'
    simp only [Cf.mk.injEq, true_and] at h3'
    obtain ⟨rfl, rfl, rfl, rfl, rfl, rfl, rfl, rfl, rfl, rfl⟩ := h3'
    exact .one kd ix hk (by omega)
  · have e : Cf.named ⟨kd, ix, wo, ln, on, rw, fr, tt, rd, wt, rk, lk⟩ = ⟨kd, ix, wo, 0, false, 0, 0, 0, false, false, 0, false⟩ := by
      rcases hk with rfl | rfl <;> rfl
    rw [e] at h3'
    simp only [Cf.mk.injEq, true_and] at h3'
    obtain ⟨rfl, rfl, rfl, rfl, rfl, rfl, rfl, rfl, rfl⟩ := h3'
    rw [if_neg (by omega)] at h5
    simp only [Bool.and_eq_true, inB_true, decide_eq_true_eq] at h5
    obtain ⟨wo, rfl⟩ : ∃ n : Nat, wo = n := ⟨wo.toNat, by omega⟩
    exact .two kd ix wo hk (by omega) (by omega)
  · have e : Cf.named ⟨6, ix, wo, ln, on, rw, fr, tt, rd, wt, rk, lk⟩ = ⟨6, ix, 0, ln, false, 0, 0, 0, false, false, 0, false⟩ := rfl
    rw [e] at h3'
    simp only [Cf.mk.injEq, true_and] at h3'
    obtain ⟨rfl, rfl, rfl, rfl, rfl, rfl, rfl, rfl, rfl⟩ := h3'
    rw [if_neg (by omega)] at h5
    simp only [Bool.and_eq_true, inB_true, decide_eq_true_eq] at h5
    exact .route ix ln (by omega) (by omega) (by omega)
  · have e : Cf.named ⟨7, ix, wo, ln, on, rw, fr, tt, rd, wt, rk, lk⟩ = ⟨7, 0, 0, 0, false, 0, 0, 0, false, false, 0, false⟩ := rfl
    rw [e] at h3'
    simp only [Cf.mk.injEq, true_and] at h3'
    obtain ⟨hx, rfl, rfl, rfl, rfl, rfl, rfl, rfl, rfl, rfl, rfl⟩ := h3'
    rw [hx]
    exact .lock

theorem show_ok (c : Cf) (hf : c.Fits) (hr : c.right = true) (w : World) (hg : Gl w) :
    Calls Tryd.prog 9 #[c.agg] w fun e w' => e = .returned (.tuple #[str c.text, .int .i64 0]) ∧ Only [] w w' := by
  cases Shape.of c hf hr with
  | region ix rw rk fr tt rd wt lk h1 h2 h3 h4 h5 => exact show_1 ix rw fr tt rk rd wt lk h1 h2 h4 h5 h3 _ rfl hr w hg
  | one k ix hk h1 =>
    rcases hk with rfl | rfl
    · exact show_2 ix h1 _ rfl hr w hg
    · exact show_4 ix h1 _ rfl hr w hg
  | two k ix wo hk h1 h2 =>
    rcases hk with rfl | rfl
    · exact show_3 ix wo h1 h2 _ rfl hr w hg
    · exact show_5 ix wo h1 h2 _ rfl hr w hg
  | route ix ln h1 h2 h3 => exact show_6 ix ln h1 h3 _ rfl hr w hg
  | lock => exact show_7 _ rfl hr w hg

set_option maxHeartbeats 1000000 in
theorem show_no (c : Cf) (hr : c.right = false) (w : World) :
    Calls Tryd.prog 9 #[c.agg] w fun e w' => e = .returned (.tuple #[str [], .int .i64 4]) ∧ Only [] w w' := by
  have Hr := Lib.hid (right_any c)
  rw [hr] at Hr
  clear hr
  obtain ⟨kd, ix, wo, ln, on, rw, fr, tt, rd, wt, rk, lk⟩ := c
  go_enter Tryd.func9, Tryd.ntmps9
  go_wp2_with fail
  refine (Hr.out _).mono ?_
  rintro e w1 ⟨rfl, hO1⟩
  go_wp2_with fail
  go_ret2
  exact ⟨rfl, ((Only.refl [] w).alloc _).trans hO1⟩

/-- What Show answers. -/
def Cf.shown (c : Cf) : List UInt8 := if c.right then c.text else []
def Cf.err (c : Cf) : Int := if c.right then 0 else 4
theorem show_any (c : Cf) (hf : c.Fits) (w : World) (hg : Gl w) :
    Calls Tryd.prog 9 #[c.agg] w fun e w' => e = .returned (.tuple #[str c.shown, .int .i64 c.err]) ∧ Only [] w w' := by
  unfold Cf.shown Cf.err
  cases hr : c.right with
  | true => exact show_ok c hf hr w hg
  | false => exact show_no c hr w
end Go.Proofs.YtghoggjllcbalaaDoor
