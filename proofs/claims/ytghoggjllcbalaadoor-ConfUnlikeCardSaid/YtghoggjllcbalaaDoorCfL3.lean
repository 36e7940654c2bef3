/- Plain law: what Read answers is the one right command that has the text, if there is one. No program, no condition. -/
import Derived.Test.YtghoggjllcbalaaDoorCfL2
namespace Go.Proofs.YtghoggjllcbalaaDoor
open Go

theorem splitK_short : ∀ (k : Nat) (s : List UInt8), (Lib.splitK [32] 0 k s).length ≤ k + 1 ∧ ∀ l ∈ Lib.splitK [32] 0 k s, l.length ≤ s.length
  | 0, s => by simp [Lib.splitK]
  | k + 1, s => by
    unfold Lib.splitK
    split
    · simp
    · have ih := splitK_short k (s.drop ((Lib.index s [32]).toNat + ([32] : List UInt8).length))
      refine ⟨by rw [List.length_cons]; exact Nat.succ_le_succ ih.1, fun l hl => ?_⟩
      rcases List.mem_cons.1 hl with rfl | hl
      · simp only [List.length_take]; omega
      · have h1 := ih.2 l hl
        have h2 : (s.drop ((Lib.index s [32]).toNat + ([32] : List UInt8).length)).length ≤ s.length := by rw [List.length_drop]; omega
        omega
theorem words_short {s : List UInt8} (h : s.length < 1000000) : Short (wordsOf s) := by
  rw [wordsOf_eq]
  have h1 := splitK_short (s.count 32) s
  have h2 := List.count_le_length (a := (32 : UInt8)) (l := s)
  exact ⟨by omega, fun l hl => by have := h1.2 l hl; omega⟩

theorem parse_fits (s : List UInt8) : (parse s).1.Fits := by
  have h0 : ∀ c : Cf, c.fr = 0 → c.tt = 0 → c.Fits := fun c h1 h2 => ⟨⟨by omega, by omega⟩, ⟨by omega, by omega⟩⟩
  have hC : ∀ k ix p, (parseC k ix p).1.Fits := by
    intro k ix p
    unfold parseC
    split
    · have m1 : p.n.xv ≤ 4294967295 := hex_max _
      have m2 : p.n.x.xv ≤ 4294967295 := hex_max _
      exact ⟨⟨by simp only; omega, by simp only; omega⟩, ⟨by simp only; omega, by simp only; omega⟩⟩
    · split
      · exact h0 _ rfl rfl
      · split <;> exact h0 _ rfl rfl
  unfold parse parseK
  split <;> exact hC _ _ _

/-- A text's command, if there is one. -/
def Says (s : List UInt8) (c : Cf) : Prop := c.Fits ∧ c.right = true ∧ c.text = s

theorem says_one {s : List UInt8} {c d : Cf} (h : Says s c) (k : Says s d) : c = d := by
  obtain ⟨h1, h2, h3⟩ := h
  obtain ⟨k1, k2, k3⟩ := k
  obtain ⟨r, hr⟩ := parse_text (Shape.of c h1 h2)
  obtain ⟨r', hr'⟩ := parse_text (Shape.of d k1 k2)
  rw [h3] at hr
  rw [k3, hr] at hr'
  exact congrArg Prod.fst hr'
theorem read_yes {s : List UInt8} {c : Cf} (h : Says s c) : readC s (parse s) = c ∧ readE s (parse s) = 0 := by
  obtain ⟨h1, h2, h3⟩ := h
  obtain ⟨r, hr⟩ := parse_text (Shape.of c h1 h2)
  rw [h3] at hr
  rw [hr]
  simp [readC, readE, h2, h3]
theorem read_no {s : List UInt8} (h : ∀ c, ¬ Says s c) : readC s (parse s) = .none ∧ readE s (parse s) = 8 := by
  have : ((parse s).2.2 && (parse s).1.right && (parse s).1.text == s) = false := by
    cases hb : ((parse s).2.2 && (parse s).1.right && (parse s).1.text == s) with
    | false => rfl
    | true =>
      simp only [Bool.and_eq_true, beq_iff_eq] at hb
      exact absurd ⟨parse_fits s, hb.1.2, hb.2⟩ (h (parse s).1)
  simp [readC, readE, this]

theorem numL_le {b : Nat} (hb : 2 ≤ b) {k n : Nat} (h : n < b ^ (k + 1)) : (numL b n).length ≤ k + 1 := numL_len b hb k n h
/-- A right command's text is short. -/
theorem text_len {c : Cf} (h : Shape c) : c.text.length ≤ 60 := by
  cases h with
  | region ix rw rk fr tt rd wt lk h1 h2 h3 h4 h5 =>
    have b1 := numL_len 10 (by omega) 2 ix (by omega)
    have b2 := numL_len 10 (by omega) 1 rw (by omega)
    have b3 := numL_len 16 (by omega) 7 fr h4
    have b4 := numL_len 16 (by omega) 7 tt h5
    have b5 := numL_len 10 (by omega) 2 rk (by omega)
    have b6 : (rightsL rd wt).length ≤ 2 := by cases rd <;> cases wt <;> simp [rightsL]
    cases lk
    · simp [Cf.text, Cf.words, Lib.join, kindW, List.intercalate, dec, hexa]
      omega
    · simp [Cf.text, Cf.words, Lib.join, kindW, List.intercalate, dec, hexa]
      omega
  | one k ix hk h1 =>
    have b1 := numL_len 10 (by omega) 2 ix (by omega)
    rcases hk with rfl | rfl <;> (simp [Cf.text, Cf.words, Lib.join, kindW, List.intercalate, dec]; omega)
  | two k ix wo hk h1 h2 =>
    have b1 := numL_len 10 (by omega) 2 ix (by omega)
    have b2 := numL_len 10 (by omega) 1 wo (by omega)
    rcases hk with rfl | rfl <;> (simp [Cf.text, Cf.words, Lib.join, kindW, List.intercalate, dec]; omega)
  | route ix ln h1 h2 h3 =>
    have b1 := numL_len 10 (by omega) 2 ix (by omega)
    have b2 := lineL_len ln h3
    simp [Cf.text, Cf.words, Lib.join, kindW, List.intercalate, dec]
    omega
  | lock => decide
end Go.Proofs.YtghoggjllcbalaaDoor
