/- Plain law: what the document's Read finds is what the program's finds. No program, no condition. -/
import Derived.Test.YtghoggjllcbalaaDoorCrO
import Derived.Test.YtghoggjllcbalaaDoorCrW
import Derived.Test.YtghoggjllcbalaaDoorCfGi
namespace Go.Proofs.YtghoggjllcbalaaDoor
open Go

theorem rwGo_app : ∀ (x : List UInt8) (acc : List (List UInt8)) (cur r : List UInt8), NoB x → rwGo acc cur (x ++ r) = rwGo acc (cur ++ x) r
  | [], acc, cur, r, _ => by simp
  | c :: x, acc, cur, r, h => by
    have hc : c ≠ 32 := h c (by simp)
    rw [List.cons_append, rwGo, if_neg hc, rwGo_app x acc (cur ++ [c]) r (fun d hd => h d (by simp [hd]))]
    simp
theorem rwGo_join : ∀ (r : List (List UInt8)) (x : List UInt8) (acc : List (List UInt8)), (∀ y ∈ x :: r, NoB y) → rwGo acc [] (Lib.join (x :: r) [32]) = acc ++ x :: r
  | [], x, acc, h => by
    rw [Lib.join_one]
    have := rwGo_app x acc [] [] (h x (by simp))
    rw [List.append_nil] at this
    rw [this]
    simp [rwGo]
  | y :: r, x, acc, h => by
    rw [join_two, rwGo_app x acc [] _ (h x (by simp)), rwGo, if_pos rfl, rwGo_join r y _ (fun z hz => h z (by simp at hz ⊢; exact .inr hz))]
    simp
theorem rWords_join (x : List UInt8) (r : List (List UInt8)) (h : ∀ y ∈ x :: r, NoB y) : rWords (Lib.join (x :: r) [32]) = x :: r := by
  have := rwGo_join r x [] h
  simpa [rWords] using this

theorem rwGo_len (M : Nat) : ∀ (l : List UInt8) (acc : List (List UInt8)) (cur : List UInt8), (∀ y ∈ acc, y.length ≤ M) → cur.length + l.length ≤ M → ∀ y ∈ rwGo acc cur l, y.length ≤ M
  | [], acc, cur, h1, h2, y, hy => by
    simp only [rwGo, List.mem_append, List.mem_cons, List.not_mem_nil, or_false] at hy
    rcases hy with hy | rfl
    · exact h1 y hy
    · simpa using h2
  | c :: r, acc, cur, h1, h2, y, hy => by
    simp only [List.length_cons] at h2
    unfold rwGo at hy
    split at hy
    · refine rwGo_len M r _ _ (fun z hz => ?_) (by simp; omega) y hy
      simp only [List.mem_append, List.mem_cons, List.not_mem_nil, or_false] at hz
      rcases hz with hz | rfl
      · exact h1 z hz
      · omega
    · exact rwGo_len M r _ _ h1 (by simp; omega) y hy
theorem rWords_len (s : List UInt8) (k : Nat) : ((rWords s).getD k []).length ≤ s.length := by
  rw [List.getD_eq_getElem?_getD]
  cases h : (rWords s)[k]? with
  | none => simp
  | some y => exact rwGo_len s.length s [] [] (by simp) (by simp) y (List.mem_of_getElem? h)
theorem rgo_app (b : Nat) : ∀ (x : List UInt8) (acc : Nat) (r : List UInt8), rgo b acc (x ++ r) = match rgo b acc x with | none => none | some v => rgo b v r
  | [], acc, r => rfl
  | c :: x, acc, r => by
    simp only [List.cons_append, rgo]
    cases rdig b c with
    | none => rfl
    | some d => exact rgo_app b x _ r
theorem rgo_num {b : Nat} (hb : b = 10 ∨ b = 16) (n : Nat) : rgo b 0 (numL b n) = some n := by
  induction n using Nat.strongRecOn with
  | ind n ih =>
    by_cases h : n < b
    · rw [numL_lt h]
      simp only [rgo, rdig_hx hb h]
      simp
    · rw [numL_ge (by omega) (by omega), rgo_app, ih (n / b) (Nat.div_lt_self (by omega) (by omega))]
      simp only [rgo, rdig_hx hb (Nat.mod_lt n (by omega))]
      congr 1
      exact Nat.div_add_mod' n b
theorem hx_zero : ∀ d, d < 16 → hx d = 48 → d = 0 := by decide
theorem num_head {b : Nat} (hb : b = 10 ∨ b = 16) (n : Nat) : 0 < n → (numL b n).head? ≠ some 48 := by
  induction n using Nat.strongRecOn with
  | ind n ih =>
    intro hn
    by_cases h : n < b
    · rw [numL_lt h]
      simp only [List.head?_cons]
      intro e
      injection e with e
      have := hx_zero n (by omega) e
      omega
    · have h2 := ih (n / b) (Nat.div_lt_self (by omega) (by omega)) (Nat.div_pos (by omega) (by omega))
      rw [numL_ge (by omega) (by omega), List.head?_append]
      cases hq : (numL b (n / b)).head? with
      | none => exact absurd (List.head?_eq_none_iff.1 hq) (numL_ne _ _)
      | some c =>
        rw [hq] at h2
        exact h2
theorem rOf_num {b : Nat} (hb : b = 10 ∨ b = 16) {most n : Nat} (h : (numL b n).length ≤ most) : rOf b most (numL b n) = n := by
  unfold rOf
  rw [if_neg (by omega), rgo_num hb]
  simp only
  rw [if_neg]
  rintro (h1 | ⟨h1, h2⟩)
  · exact numL_ne _ _ h1
  · by_cases hn : n = 0
    · subst hn
      rw [numL_lt (by omega)] at h2
      simp at h2
    · exact num_head hb n (by omega) h1

/-- The first words, by their kinds. -/
def rkn (w : List UInt8) : Nat :=
  if w = kindW 1 then 1 else if w = kindW 2 then 2 else if w = kindW 3 then 3 else if w = kindW 4 then 4 else if w = kindW 5 then 5 else if w = kindW 6 then 6 else if w = kindW 7 then 7 else 0
/-- A number made a uint32. -/
def mod32 (n : Int) : Int := n % 4294967296
/-- A word, or the empty one. -/
def wAt (ws : List (List UInt8)) (k : Nat) : List UInt8 := ws.getD k []
/-- The command that the document's Read makes of words. -/
def rcand (ws : List (List UInt8)) : Cf :=
  let a := wAt ws
  if rkn (a 0) = 1 then ⟨1, rOf 10 3 (a 1), 0, 0, true, rOf 10 2 (a 2), mod32 (rOf 16 8 (a 3)), mod32 (rOf 16 8 (a 4)), (a 5 == [114]) || (a 5 == [114, 119]), (a 5 == [119]) || (a 5 == [114, 119]), rOf 10 3 (a 6), a 7 == [108, 111, 99, 107, 101, 100]⟩
  else if rkn (a 0) = 3 ∨ rkn (a 0) = 5 then ⟨rkn (a 0), rOf 10 3 (a 1), rOf 10 2 (a 2), 0, false, 0, 0, 0, false, false, 0, false⟩
  else if rkn (a 0) = 6 then ⟨6, rOf 10 3 (a 1), 0, rOf 10 2 (a 2), false, 0, 0, 0, false, false, 0, false⟩
  else if rkn (a 0) = 7 then ⟨7, 0, 0, 0, false, 0, 0, 0, false, false, 0, false⟩
  else ⟨rkn (a 0), rOf 10 3 (a 1), 0, 0, false, 0, 0, 0, false, false, 0, false⟩
theorem mod32_fits (n : Int) : 0 ≤ mod32 n ∧ mod32 n < 4294967296 := by unfold mod32; omega
theorem rcand_fits (ws : List (List UInt8)) : (rcand ws).Fits := by
  have h0 : ∀ c : Cf, c.fr = 0 → c.tt = 0 → c.Fits := fun c h1 h2 => ⟨⟨by omega, by omega⟩, ⟨by omega, by omega⟩⟩
  unfold rcand
  simp only
  split
  · exact ⟨mod32_fits _, mod32_fits _⟩
  · repeat' split
    all_goals exact h0 _ rfl rfl

theorem rw_yes (rd wt : Bool) : ((rightsL rd wt == [114]) || (rightsL rd wt == [114, 119])) = rd ∧ ((rightsL rd wt == [119]) || (rightsL rd wt == [114, 119])) = wt := by
  cases rd <;> cases wt <;> decide
theorem mod32_nat {n : Nat} (h : n < 4294967296) : mod32 (n : Int) = n := by unfold mod32; omega
theorem numL_l {b : Nat} (hb : b = 10 ∨ b = 16) (k n : Nat) (h : n < b ^ (k + 1)) : (numL b n).length ≤ k + 1 := numL_len b (by omega) k n h

/-- A right command's words say it. -/
theorem rcand_words {c : Cf} (h : Shape c) : rcand c.words = c := by
  cases h with
  | region ix rw rk fr tt rd wt lk h1 h2 h3 h4 h5 =>
    have e1 := rOf_num (b := 10) (.inl rfl) (numL_l (.inl rfl) 2 ix (by omega))
    have e2 := rOf_num (b := 10) (.inl rfl) (numL_l (.inl rfl) 1 rw (by omega))
    have e3 := rOf_num (b := 16) (.inr rfl) (numL_l (.inr rfl) 7 fr h4)
    have e4 := rOf_num (b := 16) (.inr rfl) (numL_l (.inr rfl) 7 tt h5)
    have e5 := rOf_num (b := 10) (.inl rfl) (numL_l (.inl rfl) 2 rk (by omega))
    have hk : rkn (kindW 1) = 1 := by decide
    have hr := rw_yes rd wt
    cases lk <;> simp [rcand, wAt, Cf.words, hk, dec, hexa, e1, e2, e3, e4, e5, hr.1, hr.2, mod32_nat h4, mod32_nat h5] <;> exact ⟨by simpa using hr.1, by simpa using hr.2⟩
  | one k ix hk h1 =>
    have e1 := rOf_num (b := 10) (.inl rfl) (numL_l (.inl rfl) 2 ix (by omega))
    have k2 : rkn (kindW 2) = 2 := by decide
    have k4 : rkn (kindW 4) = 4 := by decide
    rcases hk with rfl | rfl <;> simp [rcand, wAt, Cf.words, k2, k4, dec, e1]
  | two k ix wo hk h1 h2 =>
    have e1 := rOf_num (b := 10) (.inl rfl) (numL_l (.inl rfl) 2 ix (by omega))
    have e2 := rOf_num (b := 10) (.inl rfl) (numL_l (.inl rfl) 1 wo (by omega))
    have k3 : rkn (kindW 3) = 3 := by decide
    have k5 : rkn (kindW 5) = 5 := by decide
    rcases hk with rfl | rfl <;> simp [rcand, wAt, Cf.words, k3, k5, dec, e1, e2]
  | route ix ln h1 h2 h3 =>
    have e1 := rOf_num (b := 10) (.inl rfl) (numL_l (.inl rfl) 2 ix (by omega))
    have k6 : rkn (kindW 6) = 6 := by decide
    by_cases hn : ln < 0
    · have : ln = -1 := by omega
      subst this
      have e2 : rOf 10 2 [45] = -1 := by decide
      simp [rcand, wAt, Cf.words, k6, dec, e1, lineL, e2]
    · obtain ⟨m, rfl⟩ : ∃ m : Nat, ln = m := ⟨ln.toNat, by omega⟩
      have e2 := rOf_num (b := 10) (.inl rfl) (numL_l (.inl rfl) 1 m (by omega))
      simp [rcand, wAt, Cf.words, k6, dec, e1, lineL, hn, e2]
  | lock =>
    have k7 : rkn (kindW 7) = 7 := by decide
    simp [rcand, wAt, Cf.words, k7]
theorem words_noB {c : Cf} : ∃ x r, c.words = x :: r ∧ ∀ y ∈ x :: r, NoB y := by
  have h1 : ∀ n, NoB (dec n) := fun n => numL_noB (by omega) (by omega) _
  have h2 : ∀ n, NoB (hexa n) := fun n => numL_noB (by omega) (by omega) _
  have h3 : NoB [108, 111, 99, 107, 101, 100] := by intro c hc; simp at hc; rcases hc with rfl | rfl | rfl | rfl | rfl | rfl <;> decide
  have h4 : ∀ n, NoB (lineL n) := by
    intro n
    unfold lineL
    split
    · intro c hc; simp at hc; subst hc; decide
    · exact numL_noB (by omega) (by omega) _
  unfold Cf.words
  split
  · rw [List.cons_append]
    refine ⟨_, _, rfl, ?_⟩
    intro y hy
    simp only [List.cons_append, List.nil_append, List.mem_cons] at hy
    rcases hy with rfl | rfl | rfl | rfl | rfl | rfl | rfl | hy
    · exact kind_noB _
    · exact h1 _
    · exact h1 _
    · exact h2 _
    · exact h2 _
    · exact rights_noB _ _
    · exact h1 _
    · split at hy
      · simp at hy
        subst hy
        exact h3
      · cases hy
  · repeat' split
    all_goals
      refine ⟨_, _, rfl, ?_⟩
      intro y hy
      simp only [List.mem_cons, List.not_mem_nil, or_false] at hy
    · rcases hy with rfl | rfl
      · exact kind_noB _
      · exact h1 _
    · rcases hy with rfl | rfl | rfl
      · exact kind_noB _
      · exact h1 _
      · exact h1 _
    · rcases hy with rfl | rfl | rfl
      · exact kind_noB _
      · exact h1 _
      · exact h4 _
    · subst hy
      exact kind_noB _
theorem rcand_text {c : Cf} (h : Shape c) : rcand (rWords c.text) = c := by
  obtain ⟨x, r, hw, hn⟩ := words_noB (c := c)
  have : rWords c.text = c.words := by
    unfold Cf.text
    rw [hw]
    exact rWords_join x r hn
  rw [this]
  exact rcand_words h

/-- What the document's Read answers. -/
def rres (s : List UInt8) : Bool := decide (s.length ≤ 100) && (rcand (rWords s)).right && (rcand (rWords s)).text == s
theorem rres_yes {s : List UInt8} (h : rres s = true) : Says s (rcand (rWords s)) := by
  simp only [rres, Bool.and_eq_true, beq_iff_eq] at h
  exact ⟨rcand_fits _, h.1.2, h.2⟩
theorem rres_says {s : List UInt8} {c : Cf} (h : Says s c) : rres s = true ∧ rcand (rWords s) = c := by
  obtain ⟨h1, h2, h3⟩ := h
  have hs := Shape.of c h1 h2
  have hc := rcand_text hs
  rw [h3] at hc
  have hl := text_len hs
  rw [h3] at hl
  refine ⟨?_, hc⟩
  simp only [rres, Bool.and_eq_true, beq_iff_eq, decide_eq_true_eq]
  rw [hc]
  exact ⟨⟨by omega, h2⟩, h3⟩
theorem rres_read (s : List UInt8) : (if rres s then rcand (rWords s) else Cf.none) = readC s (parse s) ∧ (if rres s then 0 else 8) = readE s (parse s) := by
  cases hr : rres s with
  | true =>
    have h := read_yes (rres_yes hr)
    rw [h.1, h.2]
    exact ⟨rfl, rfl⟩
  | false =>
    have h := read_no (s := s) (fun c hc => by rw [(rres_says hc).1] at hr; cases hr)
    rw [h.1, h.2]
    exact ⟨rfl, rfl⟩
end Go.Proofs.YtghoggjllcbalaaDoor
