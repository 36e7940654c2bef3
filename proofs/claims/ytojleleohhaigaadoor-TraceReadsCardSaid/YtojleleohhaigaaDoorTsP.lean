/- Plain law: what the document's Read finds is what the program's finds. No program, no condition. -/
import Derived.Test.YtojleleohhaigaaDoorTsO
import Derived.Test.YtojleleohhaigaaDoorTsW
import Derived.Test.YtojleleohhaigaaDoorTsL
import Derived.Test.YtojleleohhaigaaDoorTrZ
namespace Go.Proofs.YtojleleohhaigaaDoor
open Go

theorem rwGo_app : ∀ (x : List UInt8) (acc : List (List UInt8)) (cur r : List UInt8), NoB x → rwGo acc cur (x ++ r) = rwGo acc (cur ++ x) r
  | [], acc, cur, r, _ => by simp
  | c :: x, acc, cur, r, h => by
    have hc : c ≠ 32 := h c (by simp)
    rw [List.cons_append, rwGo, if_neg hc, rwGo_app x acc (cur ++ [c]) r (fun d hd => h d (by simp [hd]))]
    simp
theorem rwGo_join : ∀ (r : List (List UInt8)) (x : List UInt8) (acc : List (List UInt8)), (∀ y ∈ x :: r, NoB y) → rwGo acc [] (Lib.join (x :: r) [32]) = acc ++ x :: r
  | [], x, acc, h => by
    rw [Lib.join_one]
    have := rwGo_app x acc [] [] (h x (by simp))
    rw [List.append_nil] at this
    rw [this]
    simp [rwGo]
  | y :: r, x, acc, h => by
    rw [join_two, rwGo_app x acc [] _ (h x (by simp)), rwGo, if_pos rfl, rwGo_join r y _ (fun z hz => h z (by simp at hz ⊢; exact .inr hz))]
    simp
theorem rWords_join (x : List UInt8) (r : List (List UInt8)) (h : ∀ y ∈ x :: r, NoB y) : rWords (Lib.join (x :: r) [32]) = x :: r := by
  have := rwGo_join r x [] h
  simpa [rWords] using this

theorem rwGo_len (M : Nat) : ∀ (l : List UInt8) (acc : List (List UInt8)) (cur : List UInt8), (∀ y ∈ acc, y.length ≤ M) → cur.length + l.length ≤ M → ∀ y ∈ rwGo acc cur l, y.length ≤ M
  | [], acc, cur, h1, h2, y, hy => by
    simp only [rwGo, List.mem_append, List.mem_cons, List.not_mem_nil, or_false] at hy
    rcases hy with hy | rfl
    · exact h1 y hy
    · simpa using h2
  | c :: r, acc, cur, h1, h2, y, hy => by
    simp only [List.length_cons] at h2
    unfold rwGo at hy
    split at hy
    · refine rwGo_len M r _ _ (fun z hz => ?_) (by simp; omega) y hy
      simp only [List.mem_append, List.mem_cons, List.not_mem_nil, or_false] at hz
      rcases hz with hz | rfl
      · exact h1 z hz
      · omega
    · exact rwGo_len M r _ _ h1 (by simp; omega) y hy
theorem rWords_len (s : List UInt8) (k : Nat) : ((rWords s).getD k []).length ≤ s.length := by
  rw [List.getD_eq_getElem?_getD]
  cases h : (rWords s)[k]? with
  | none => simp
  | some y => exact rwGo_len s.length s [] [] (by simp) (by simp) y (List.mem_of_getElem? h)
theorem rgo_app (b : Nat) : ∀ (x : List UInt8) (acc : Nat) (r : List UInt8), rgo b acc (x ++ r) = match rgo b acc x with | none => none | some v => rgo b v r
  | [], acc, r => rfl
  | c :: x, acc, r => by
    simp only [List.cons_append, rgo]
    cases rdig b c with
    | none => rfl
    | some d => exact rgo_app b x _ r
theorem rgo_num {b : Nat} (hb : b = 10 ∨ b = 16) (n : Nat) : rgo b 0 (numL b n) = some n := by
  induction n using Nat.strongRecOn with
  | ind n ih =>
    by_cases h : n < b
    · rw [numL_lt h]
      simp only [rgo, rdig_hx hb h]
      simp
    · rw [numL_ge (by omega) (by omega), rgo_app, ih (n / b) (Nat.div_lt_self (by omega) (by omega))]
      simp only [rgo, rdig_hx hb (Nat.mod_lt n (by omega))]
      congr 1
      exact Nat.div_add_mod' n b
theorem hx_zero : ∀ d, d < 16 → hx d = 48 → d = 0 := by decide
theorem num_head {b : Nat} (hb : b = 10 ∨ b = 16) (n : Nat) : 0 < n → (numL b n).head? ≠ some 48 := by
  induction n using Nat.strongRecOn with
  | ind n ih =>
    intro hn
    by_cases h : n < b
    · rw [numL_lt h]
      simp only [List.head?_cons]
      intro e
      injection e with e
      have := hx_zero n (by omega) e
      omega
    · have h2 := ih (n / b) (Nat.div_lt_self (by omega) (by omega)) (Nat.div_pos (by omega) (by omega))
      rw [numL_ge (by omega) (by omega), List.head?_append]
      cases hq : (numL b (n / b)).head? with
      | none => exact absurd (List.head?_eq_none_iff.1 hq) (numL_ne _ _)
      | some c =>
        rw [hq] at h2
        exact h2
theorem rOf_num {b : Nat} (hb : b = 10 ∨ b = 16) {most n : Nat} (h : (numL b n).length ≤ most) : rOf b most (numL b n) = n := by
  unfold rOf
  rw [if_neg (by omega), rgo_num hb]
  simp only
  rw [if_neg]
  rintro (h1 | ⟨h1, h2⟩)
  · exact numL_ne _ _ h1
  · by_cases hn : n = 0
    · subst hn
      rw [numL_lt (by omega)] at h2
      simp at h2
    · exact num_head hb n (by omega) h1

/-- A number made a uint32. -/
def mod32 (n : Int) : Int := n % 4294967296
/-- A word, or the empty one. -/
def wAt (ws : List (List UInt8)) (k : Nat) : List UInt8 := ws.getD k []
/-- The event that the document's Read makes of words. -/
def rEv (ws : List (List UInt8)) : Ev :=
  if wAt ws 1 = [114, 101, 112, 108, 121] then ⟨rOf 10 4 (wAt ws 0), 1, mod32 (rOf 16 8 (wAt ws 2)), rOf 10 2 (wAt ws 3), 0⟩ else ⟨rOf 10 4 (wAt ws 0), 2, 0, 0, rOf 10 1 (wAt ws 2)⟩
/-- The rows ahead of the first that is empty. -/
def nonE : List (List UInt8) → List (List UInt8)
  | [] => []
  | x :: r => if x = [] then [] else x :: nonE r
def rParse (s : List UInt8) : List Ev := (nonE (rLines s)).map fun x => rEv (rWords x)
theorem mod32_fits (n : Int) : 0 ≤ mod32 n ∧ mod32 n < 4294967296 := by unfold mod32; omega
theorem mod32_nat {n : Nat} (h : n < 4294967296) : mod32 (n : Int) = n := by unfold mod32; omega
theorem rEv_fits (ws : List (List UInt8)) : (rEv ws).Fits := by
  unfold rEv
  split
  · exact mod32_fits _
  · exact ⟨by simp, by simp⟩
theorem rParse_fits (s : List UInt8) : ∀ x ∈ rParse s, x.Fits := by
  intro x hx
  obtain ⟨y, -, rfl⟩ := List.mem_map.1 hx
  exact rEv_fits _
theorem rlGo_app : ∀ (x : List UInt8) (acc : List (List UInt8)) (cur r : List UInt8), (10 : UInt8) ∉ x → rlGo acc cur (x ++ r) = rlGo acc (cur ++ x) r
  | [], acc, cur, r, _ => by simp
  | c :: x, acc, cur, r, h => by
    have hc : ¬ c = 10 := fun e => h (by simp [e])
    rw [List.cons_append, rlGo, if_neg hc, rlGo_app x acc (cur ++ [c]) r (fun hm => h (List.mem_cons_of_mem _ hm))]
    simp
theorem rlGo_show : ∀ (l : List Ev) (acc : List (List UInt8)), (∀ x ∈ l, LineS x) → rlGo acc [] (showT l) = acc ++ (l.map Ev.line ++ [[]])
  | [], acc, _ => by simp [showT, rlGo]
  | x :: r, acc, h => by
    have hx := line_no10 (h x (by simp))
    have ih := rlGo_show r (acc ++ [x.line]) (fun z hz => h z (by simp [hz]))
    rw [showT, List.append_assoc, rlGo_app _ _ _ _ hx, List.nil_append, List.singleton_append, rlGo, if_pos rfl, ih]
    simp
theorem line_ne {x : Ev} (h : LineS x) : x.line ≠ [] := by
  cases h with
  | reply a v e h1 h2 h3 =>
    show Lib.join [numL 10 a, [114, 101, 112, 108, 121], numL 16 v, numL 10 e] [32] ≠ []
    rw [join_two]
    simp
  | call a n h1 h2 =>
    show Lib.join [numL 10 a, [99, 97, 108, 108], numL 10 n] [32] ≠ []
    rw [join_two]
    simp
theorem nonE_lines : ∀ (l : List Ev), (∀ x ∈ l, LineS x) → nonE (l.map Ev.line ++ [[]]) = l.map Ev.line
  | [], _ => by simp [nonE]
  | x :: r, h => by
    have ih := nonE_lines r (fun z hz => h z (by simp [hz]))
    rw [List.map_cons, List.cons_append, nonE, if_neg (line_ne (h x (by simp))), ih]
theorem rWords_line {x : Ev} (h : LineS x) : rWords x.line = x.words := by
  obtain ⟨⟨y, r, hw⟩, hn, -⟩ := words_good h
  unfold Ev.line
  rw [hw] at hn ⊢
  exact rWords_join y r hn
theorem rlen {b : Nat} (hb : b = 10 ∨ b = 16) (k n : Nat) (h : n < b ^ (k + 1)) : (numL b n).length ≤ k + 1 := numL_len b (by omega) k n h
theorem rEv_words {x : Ev} (h : LineS x) : rEv x.words = x := by
  cases h with
  | reply a v e h1 h2 h3 =>
    have e1 := rOf_num (b := 10) (.inl rfl) (rlen (.inl rfl) 3 a (by omega))
    have e2 := rOf_num (b := 16) (.inr rfl) (rlen (.inr rfl) 7 v (by omega))
    have e3 := rOf_num (b := 10) (.inl rfl) (rlen (.inl rfl) 1 e (by omega))
    show rEv [numL 10 a, [114, 101, 112, 108, 121], numL 16 v, numL 10 e] = _
    unfold rEv
    rw [if_pos (by rfl)]
    show (⟨rOf 10 4 (numL 10 a), 1, mod32 (rOf 16 8 (numL 16 v)), rOf 10 2 (numL 10 e), 0⟩ : Ev) = _
    rw [e1, e2, e3, mod32_nat h2]
  | call a n h1 h2 =>
    have e1 := rOf_num (b := 10) (.inl rfl) (rlen (.inl rfl) 3 a (by omega))
    have e2 := rOf_num (b := 10) (.inl rfl) (rlen (.inl rfl) 0 n (by omega))
    show rEv [numL 10 a, [99, 97, 108, 108], numL 10 n] = _
    unfold rEv
    rw [if_neg (show ¬ wAt [numL 10 a, [99, 97, 108, 108], numL 10 n] 1 = [114, 101, 112, 108, 121] from (by decide : ¬ ([99, 97, 108, 108] : List UInt8) = [114, 101, 112, 108, 121]))]
    show (⟨rOf 10 4 (numL 10 a), 2, 0, 0, rOf 10 1 (numL 10 n)⟩ : Ev) = _
    rw [e1, e2]
theorem rParse_show {l : List Ev} (h : ∀ x ∈ l, LineS x) : rParse (showT l) = l := by
  unfold rParse rLines
  rw [rlGo_show l [] h, List.nil_append, nonE_lines l h, List.map_map]
  have : ∀ x ∈ l, ((fun x => rEv (rWords x)) ∘ Ev.line) x = x := fun x hx => by
    simp only [Function.comp]
    rw [rWords_line (h x hx), rEv_words (h x hx)]
  rw [List.map_congr_left this]
  simp
/-- What the document's Read answers. -/
theorem read_yes {t : List UInt8} (h : readE t = 0) : rParse t = readL t ∧ okT (readL t) = true ∧ showT (readL t) = t := by
  obtain ⟨h1, h2⟩ := read_show h
  refine ⟨?_, h1, h2⟩
  have := rParse_show (okT_shape (readL_fits t) h1)
  rw [h2] at this
  exact this
theorem read_not {t : List UInt8} (h : readE t ≠ 0) : okT (rParse t) = true → showT (rParse t) ≠ t := by
  intro h1 h2
  have := (read_back (rParse_fits t) h1).2
  rw [h2] at this
  exact h this

/-- Lines and words of a text are short. -/
theorem rlGo_short (M : Nat) : ∀ (l : List UInt8) (acc : List (List UInt8)) (cur : List UInt8), (∀ y ∈ acc, y.length ≤ M) → cur.length + l.length ≤ M → ∀ y ∈ rlGo acc cur l, y.length ≤ M
  | [], acc, cur, h1, h2, y, hy => by
    simp only [rlGo, List.mem_append, List.mem_cons, List.not_mem_nil, or_false] at hy
    rcases hy with hy | rfl
    · exact h1 y hy
    · simpa using h2
  | c :: r, acc, cur, h1, h2, y, hy => by
    simp only [List.length_cons] at h2
    unfold rlGo at hy
    split at hy
    · refine rlGo_short M r _ _ (fun z hz => ?_) (by simp; omega) y hy
      simp only [List.mem_append, List.mem_cons, List.not_mem_nil, or_false] at hz
      rcases hz with hz | rfl
      · exact h1 z hz
      · omega
    · exact rlGo_short M r _ _ h1 (by simp; omega) y hy
theorem rLines_short (s : List UInt8) : ∀ y ∈ rLines s, y.length ≤ s.length := rlGo_short s.length s [] [] (by simp) (by simp)
theorem rlGo_count : ∀ (l : List UInt8) (acc : List (List UInt8)) (cur : List UInt8), (rlGo acc cur l).length ≤ acc.length + l.length + 1
  | [], acc, cur => by simp [rlGo]
  | c :: r, acc, cur => by
    unfold rlGo
    split
    · have := rlGo_count r (acc ++ [cur]) []
      simp at this ⊢
      omega
    · have := rlGo_count r acc (cur ++ [c])
      simp at this ⊢
      omega
theorem rLines_count (s : List UInt8) : (rLines s).length ≤ s.length + 1 := by simpa [rLines] using rlGo_count s [] []
theorem rwGo_count : ∀ (l : List UInt8) (acc : List (List UInt8)) (cur : List UInt8), (rwGo acc cur l).length ≤ acc.length + l.length + 1 ∧ acc.length + 1 ≤ (rwGo acc cur l).length
  | [], acc, cur => by simp [rwGo]
  | c :: r, acc, cur => by
    unfold rwGo
    split
    · have := rwGo_count r (acc ++ [cur]) []
      simp at this ⊢
      omega
    · have := rwGo_count r acc (cur ++ [c])
      simp at this ⊢
      omega
theorem rWords_count (s : List UInt8) : (rWords s).length ≤ s.length + 1 ∧ 1 ≤ (rWords s).length := by simpa [rWords] using rwGo_count s [] []
theorem rWords_short (s : List UInt8) : ∀ y ∈ rWords s, y.length ≤ s.length := rwGo_len s.length s [] [] (by simp) (by simp)
theorem nonE_count : ∀ (l : List (List UInt8)), (nonE l).length ≤ l.length
  | [] => by simp [nonE]
  | x :: r => by
    unfold nonE
    have := nonE_count r
    split
    · simp
    · simp; omega
theorem rParse_count (s : List UInt8) : (rParse s).length ≤ s.length + 1 := by
  unfold rParse
  rw [List.length_map]
  exact Nat.le_trans (nonE_count _) (rLines_count s)
end Go.Proofs.YtojleleohhaigaaDoor
