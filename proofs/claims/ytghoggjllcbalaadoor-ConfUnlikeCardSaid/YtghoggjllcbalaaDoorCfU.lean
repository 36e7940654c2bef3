/- Plain law: the text of a right command has no byte but small letters, digits, blanks and -, no two blanks together, none at its ends. No program, no condition. -/
import Derived.Test.YtghoggjllcbalaaDoorCfL3
namespace Go.Proofs.YtghoggjllcbalaaDoor
open Go

/-- A byte of a word. -/
def Good (c : UInt8) : Prop := c.toNat = 45 ∨ (48 ≤ c.toNat ∧ c.toNat ≤ 57) ∨ (97 ≤ c.toNat ∧ c.toNat ≤ 122)
instance (c : UInt8) : Decidable (Good c) := by unfold Good; infer_instance
/-- A byte of a text at a place. -/
def Fine (t : List UInt8) (i : Nat) (c : UInt8) : Prop := Good c ∨ (c = 32 ∧ 0 < i ∧ i + 1 < t.length ∧ ∃ d, t[i - 1]? = some d ∧ d ≠ 32)
def GoodW (l : List UInt8) : Prop := l ≠ [] ∧ ∀ c ∈ l, Good c

theorem good_ne {c : UInt8} (h : Good c) : c ≠ 32 := by
  rintro rfl
  revert h
  decide
theorem join_ne (y : List UInt8) (r : List (List UInt8)) (h : y ≠ []) : Lib.join (y :: r) [32] ≠ [] := by
  rw [Lib.join_cons]
  simp [h]
theorem join_fine : ∀ (r : List (List UInt8)) (x : List UInt8), (∀ y ∈ x :: r, GoodW y) → ∀ (i : Nat) (c : UInt8), (Lib.join (x :: r) [32])[i]? = some c → Fine (Lib.join (x :: r) [32]) i c
  | [], x, h, i, c, hc => by
    rw [Lib.join_one] at hc ⊢
    exact .inl ((h x (by simp)).2 c (List.mem_of_getElem? hc))
  | y :: r, x, h, i, c, hc => by
    have hx := h x (by simp)
    have hy := h y (by simp)
    have hne := join_ne y r hy.1
    have hl : 0 < (Lib.join (y :: r) [32]).length := List.length_pos_iff.2 hne
    have hxl : 0 < x.length := List.length_pos_iff.2 hx.1
    rw [join_two] at hc ⊢
    rcases Nat.lt_trichotomy i x.length with hi | hi | hi
    · rw [List.getElem?_append_left hi] at hc
      exact .inl (hx.2 c (List.mem_of_getElem? hc))
    · subst hi
      rw [List.getElem?_append_right (Nat.le_refl _), Nat.sub_self] at hc
      simp at hc
      subst hc
      refine .inr ⟨rfl, hxl, by simp; omega, ?_⟩
      have hj : x.length - 1 < x.length := by omega
      refine ⟨x[x.length - 1], ?_, good_ne (hx.2 _ (List.getElem_mem hj))⟩
      rw [List.getElem?_append_left hj, List.getElem?_eq_getElem hj]
    · obtain ⟨k, rfl⟩ : ∃ k, i = x.length + (k + 1) := ⟨i - x.length - 1, by omega⟩
      rw [List.getElem?_append_right (by omega), show x.length + (k + 1) - x.length = k + 1 by omega, List.getElem?_cons_succ] at hc
      rcases join_fine r y (fun z hz => h z (by simp at hz ⊢; exact .inr hz)) k c hc with hg | ⟨h1, h2, h3, d, h4, h5⟩
      · exact .inl hg
      · refine .inr ⟨h1, by omega, by simp; omega, d, ?_, h5⟩
        obtain ⟨j, rfl⟩ : ∃ j, k = j + 1 := ⟨k - 1, by omega⟩
        rw [List.getElem?_append_right (by omega), show x.length + (j + 1 + 1) - 1 - x.length = j + 1 by omega, List.getElem?_cons_succ]
        simpa using h4

theorem hx_good : ∀ d, d < 16 → Good (hx d) := by decide
theorem numL_good {b : Nat} (hb : 2 ≤ b) (hb2 : b ≤ 16) (n : Nat) : GoodW (numL b n) := by
  refine ⟨numL_ne b n, ?_⟩
  induction n using Nat.strongRecOn with
  | ind n ih =>
    intro c hc
    by_cases hn : n < b
    · rw [numL_lt hn] at hc
      simp at hc
      subst hc
      exact hx_good n (by omega)
    · rw [numL_ge hb (by omega)] at hc
      rcases List.mem_append.1 hc with h | h
      · exact ih (n / b) (Nat.div_lt_self (by omega) (by omega)) c h
      · simp at h
        subst h
        exact hx_good _ (by have := Nat.mod_lt n (show b > 0 by omega); omega)
theorem good_of (l : List UInt8) (h : l ≠ [] ∧ l.all (fun c => decide (Good c)) = true) : GoodW l := ⟨h.1, fun c hc => by simpa using List.all_eq_true.1 h.2 c hc⟩
theorem kind_good (k : Int) : GoodW (kindW k) := by
  unfold kindW
  repeat' split
  all_goals exact good_of _ (by decide)
theorem rights_good (rd wt : Bool) : GoodW (rightsL rd wt) := by
  cases rd <;> cases wt <;> exact good_of _ (by decide)
theorem line_good (n : Int) : GoodW (lineL n) := by
  unfold lineL
  split
  · exact good_of _ (by decide)
  · exact numL_good (by omega) (by omega) _
theorem words_good (c : Cf) : ∃ x r, c.words = x :: r ∧ ∀ y ∈ x :: r, GoodW y := by
  have h1 : ∀ n, GoodW (dec n) := fun n => numL_good (by omega) (by omega) _
  have h2 : ∀ n, GoodW (hexa n) := fun n => numL_good (by omega) (by omega) _
  unfold Cf.words
  split
  · refine ⟨_, _, rfl, ?_⟩
    intro y hy
    have h3 : GoodW [108, 111, 99, 107, 101, 100] := good_of _ (by decide)
    cases hlk : c.lk
    · rw [hlk] at hy
      simp at hy
      rcases hy with rfl | rfl | rfl | rfl | rfl | rfl | rfl
      · exact kind_good _
      · exact h1 _
      · exact h1 _
      · exact h2 _
      · exact h2 _
      · exact rights_good _ _
      · exact h1 _
    · rw [hlk] at hy
      simp at hy
      rcases hy with rfl | rfl | rfl | rfl | rfl | rfl | rfl | rfl
      · exact kind_good _
      · exact h1 _
      · exact h1 _
      · exact h2 _
      · exact h2 _
      · exact rights_good _ _
      · exact h1 _
      · exact h3
  · split
    · refine ⟨_, _, rfl, ?_⟩
      intro y hy
      simp at hy
      rcases hy with rfl | rfl
      · exact kind_good _
      · exact h1 _
    · split
      · refine ⟨_, _, rfl, ?_⟩
        intro y hy
        simp at hy
        rcases hy with rfl | rfl | rfl
        · exact kind_good _
        · exact h1 _
        · exact h1 _
      · split
        · refine ⟨_, _, rfl, ?_⟩
          intro y hy
          simp at hy
          rcases hy with rfl | rfl | rfl
          · exact kind_good _
          · exact h1 _
          · exact line_good _
        · refine ⟨_, _, rfl, ?_⟩
          intro y hy
          simp at hy
          subst hy
          exact kind_good _
theorem text_fine (c : Cf) (i : Nat) (x : UInt8) (h : c.text[i]? = some x) : Fine c.text i x := by
  obtain ⟨y, r, hw, hg⟩ := words_good c
  unfold Cf.text at h ⊢
  rw [hw] at h ⊢
  exact join_fine r y hg i x h
theorem text_ne (c : Cf) : c.text ≠ [] := by
  obtain ⟨y, r, hw, hg⟩ := words_good c
  unfold Cf.text
  rw [hw]
  exact join_ne y r (hg y (by simp)).1
end Go.Proofs.YtghoggjllcbalaaDoor
