/- Plain laws: an instruction's text is read as it; a program's too. Conditions: words fit. -/
import Derived.Test.YtagmoehjcgjnjaaGreatDoorPgE
namespace Go.Proofs.YtagmoehjcgjnjaaGreatDoor
open Go Go.RowKit

theorem d32_back {n : Nat} (h : n ≤ 4294967295) : parseD32 (numL 10 n) = .ok n := by
  unfold parseD32 Lib.parseUintB
  rw [if_neg (numL_ne _ _)]
  exact uintM_num _ (by decide) n (by omega)
theorem numV_10 {n : Nat} (h : n ≤ 4294967295) : numV 10 (numL 10 n) = n ∧ numK 10 (numL 10 n) = true := by
  unfold numV numK numP
  rw [if_pos rfl, d32_back h]
  exact ⟨rfl, rfl⟩
theorem numV_16 {n : Nat} (h : n ≤ 4294967295) : numV 16 (numL 16 n) = n ∧ numK 16 (numL 16 n) = true := by
  unfold numV numK numP
  rw [if_neg (by decide), hex_back h]
  exact ⟨rfl, rfl⟩

/-- A byte stands nowhere in it. -/
def NoC (c : UInt8) (l : List UInt8) : Prop := ∀ d ∈ l, d ≠ c
theorem ixc_app (c : UInt8) (t : List UInt8) : ∀ (x : List UInt8), NoC c x → Lib.indexByte (x ++ c :: t) c = x.length
  | [], _ => by simp [Lib.indexByte]
  | d :: r, h => by
    have h1 : (d == c) = false := by simpa using h d (by simp)
    have h2 := ixc_app c t r (fun e he => h e (by simp [he]))
    simp only [List.cons_append, Lib.indexByte, h1, h2]
    rw [if_neg (by simp), if_neg (by simp)]
    simp
theorem noC_count {c : UInt8} {x : List UInt8} (h : NoC c x) : x.count c = 0 := List.count_eq_zero.2 fun hm => h c hm rfl
theorem joinC_two (c : UInt8) (x y : List UInt8) (r : List (List UInt8)) : Lib.join (x :: y :: r) [c] = x ++ c :: Lib.join (y :: r) [c] := by
  rw [Lib.join_cons, Lib.join_cons]
  simp [Lib.joinTail]
theorem splitC_join (c : UInt8) : ∀ (r : List (List UInt8)) (x : List UInt8), (∀ y ∈ x :: r, NoC c y) → Lib.splitK [c] 0 ((Lib.join (x :: r) [c]).count c) (Lib.join (x :: r) [c]) = x :: r
  | [], x, h => by
    rw [Lib.join_one, noC_count (h x (by simp))]
    rfl
  | y :: r, x, h => by
    have hx := h x (by simp)
    rw [joinC_two, List.count_append, noC_count hx, List.count_cons_self, Nat.zero_add]
    simp only [Lib.splitK, Lib.index_one, ixc_app c _ x hx]
    rw [if_neg (by simp)]
    have h1 : (x ++ c :: Lib.join (y :: r) [c]).take (((x.length : Int)).toNat + 0) = x := by simp
    have h2 : (x ++ c :: Lib.join (y :: r) [c]).drop (((x.length : Int)).toNat + ([c] : List UInt8).length) = Lib.join (y :: r) [c] := by simp
    rw [h1, h2, splitC_join c r y (fun z hz => h z (by simp at hz ⊢; exact .inr hz))]
theorem linesOf_join (x : List UInt8) (r : List (List UInt8)) (h : ∀ y ∈ x :: r, NoC 10 y) : linesOf (Lib.join (x :: r) [10]) = x :: r := by
  rw [linesOf_eq, splitC_join 10 r x h]
theorem join_lines (s : List UInt8) : Lib.join (linesOf s) [10] = s := by rw [linesOf_eq, join_split]

theorem hx_no10 : ∀ d, d < 16 → hx d ≠ 10 := by decide
theorem numL_no10 {b : Nat} (hb : 2 ≤ b) (hb2 : b ≤ 16) (n : Nat) : NoC 10 (numL b n) := by
  induction n using Nat.strongRecOn with
  | ind n ih =>
    intro c hc
    by_cases hn : n < b
    · rw [numL_lt hn] at hc
      simp at hc
      subst hc
      exact hx_no10 n (by omega)
    · rw [numL_ge hb (by omega)] at hc
      rcases List.mem_append.1 hc with h | h
      · exact ih (n / b) (Nat.div_lt_self (by omega) (by omega)) c h
      · simp at h
        subst h
        exact hx_no10 _ (by have := Nat.mod_lt n (show b > 0 by omega); omega)
theorem join_mem (c : UInt8) : ∀ (xs : List (List UInt8)) (d : UInt8), d ∈ Lib.join xs [c] → d = c ∨ ∃ x ∈ xs, d ∈ x
  | [], d, h => by simp [Lib.join, List.intercalate] at h
  | [x], d, h => by rw [Lib.join_one] at h; exact .inr ⟨x, by simp, h⟩
  | x :: y :: r, d, h => by
    rw [joinC_two] at h
    rcases List.mem_append.1 h with h | h
    · exact .inr ⟨x, by simp, h⟩
    · rcases List.mem_cons.1 h with rfl | h
      · exact .inl rfl
      · rcases join_mem c (y :: r) d h with h | ⟨z, hz, hd⟩
        · exact .inl h
        · exact .inr ⟨z, by simp at hz ⊢; exact .inr hz, hd⟩
theorem good_no {c : UInt8} (h : Good c) : c ≠ 10 ∧ c ≠ 32 := by
  constructor <;> (rintro rfl; revert h; decide)
theorem text_no10 (c : Cf) : NoC 10 c.text := by
  obtain ⟨y, r, hw, hg⟩ := words_good c
  intro d hd e
  subst e
  unfold Cf.text at hd
  rw [hw] at hd
  rcases join_mem 32 _ _ hd with h | ⟨z, hz, h⟩
  · exact absurd h (by decide)
  · exact (good_no ((hg z hz).2 _ h)).1 rfl
theorem opW_no (n : Int) : NoC 10 (opW n) ∧ NoB (opW n) := by
  unfold opW
  repeat' split
  all_goals exact ⟨by unfold NoC; decide, by unfold NoB; decide⟩

/-- All words, the command's one by one. -/
def In.words2 (x : In) : List (List UInt8) :=
  opW x.op :: ((if 0 < x.sz then [dec x.sz, hexa x.ad] else []) ++ (if x.ix then [[43]] else []) ++
    (if x.op = 2 ∨ x.op = 5 ∨ x.op = 8 then [hexa x.dt] else if x.op = 7 then [dec x.dt] else if x.op = 9 then x.cf.words else []) ++
    (if x.op = 5 ∨ x.op = 6 then [dec x.to] else []))
theorem plus_no : NoC 10 [43] ∧ NoB [43] := ⟨by unfold NoC; decide, by unfold NoB; decide⟩
theorem dec_no (n : Int) : NoC 10 (dec n) ∧ NoB (dec n) := ⟨numL_no10 (by omega) (by omega) _, numL_noB (by omega) (by omega) _⟩
theorem hexa_no (n : Int) : NoC 10 (hexa n) ∧ NoB (hexa n) := ⟨numL_no10 (by omega) (by omega) _, numL_noB (by omega) (by omega) _⟩
theorem cwords_no (c : Cf) : ∀ y ∈ c.words, NoC 10 y ∧ NoB y := by
  obtain ⟨y, r, hw, hg⟩ := words_good c
  rw [hw]
  intro z hz
  exact ⟨fun d hd => (good_no ((hg z hz).2 d hd)).1, fun d hd => (good_no ((hg z hz).2 d hd)).2⟩
theorem words2_no (x : In) : ∀ y ∈ x.words2, NoC 10 y ∧ NoB y := by
  intro y hy
  unfold In.words2 at hy
  simp only [List.mem_cons, List.mem_append] at hy
  rcases hy with rfl | ((hy | hy) | hy) | hy
  · exact opW_no _
  · split at hy
    · simp at hy
      rcases hy with rfl | rfl
      · exact dec_no _
      · exact hexa_no _
    · simp at hy
  · split at hy
    · simp at hy
      subst hy
      exact plus_no
    · simp at hy
  · split at hy
    · simp at hy
      subst hy
      exact hexa_no _
    · split at hy
      · simp at hy
        subst hy
        exact dec_no _
      · split at hy
        · exact cwords_no _ y hy
        · simp at hy
  · split at hy
    · simp at hy
      subst hy
      exact dec_no _
    · simp at hy
theorem line_words2 {x : In} (h : ShI x) : x.line = Lib.join x.words2 [32] := by
  cases h with
  | ld k sz ad ix hk h1 h2 => rcases hk with rfl | rfl <;> rfl
  | st sz ad dt ix h1 h2 h3 => rfl
  | no k hk => rcases hk with rfl | rfl <;> rfl
  | br dt tg h1 h2 => rfl
  | jp tg h1 => rfl
  | id dt h1 => rfl
  | ms dt h1 => rfl
  | cf c h1 h2 =>
    have e1 : c.shown = Lib.join c.words [32] := by unfold Cf.shown; rw [if_pos h2]; rfl
    obtain ⟨y, r, hw, -⟩ := words_good c
    show Lib.join [opW 9, c.shown] [32] = Lib.join (opW 9 :: ([] ++ [] ++ c.words ++ [])) [32]
    rw [e1, hw]
    simp only [List.nil_append, List.append_nil]
    rw [joinC_two, joinC_two, Lib.join_one]
theorem line_no10 {x : In} (h : ShI x) : NoC 10 x.line := by
  rw [line_words2 h]
  intro d hd e
  subst e
  rcases join_mem 32 _ _ hd with h | ⟨z, hz, h⟩
  · exact absurd h (by decide)
  · exact (words2_no x z hz).1 _ h rfl
theorem line_words {x : In} (h : ShI x) : wordsOf x.line = x.words2 := by
  rw [line_words2 h]
  exact wordsOf_join _ _ (fun y hy => (words2_no x y hy).2)
theorem line_ne {x : In} (h : ShI x) : x.line ≠ [] := by
  have hne : opW x.op ≠ [] := by
    cases h with
    | ld k sz ad ix hk h1 h2 => rcases hk with rfl | rfl; exact (by decide : opW 1 ≠ []); exact (by decide : opW 3 ≠ [])
    | st sz ad dt ix h1 h2 h3 => exact (by decide : opW 2 ≠ [])
    | no k hk => rcases hk with rfl | rfl; exact (by decide : opW 4 ≠ []); exact (by decide : opW 10 ≠ [])
    | br dt tg h1 h2 => exact (by decide : opW 5 ≠ [])
    | jp tg h1 => exact (by decide : opW 6 ≠ [])
    | id dt h1 => exact (by decide : opW 7 ≠ [])
    | ms dt h1 => exact (by decide : opW 8 ≠ [])
    | cf c h1 h2 => exact (by decide : opW 9 ≠ [])
  have : x.words = opW x.op :: x.words.tail := rfl
  unfold In.line
  rw [this]
  exact join_ne _ _ hne

theorem scan_line {x : In} (h : ShI x) : scanP x.words2 = x := by
  have hop : ∀ (k : Int) r, 1 ≤ k ∧ k ≤ 10 → scanP (opW k :: r) = restP k r := fun k r hk => by
    unfold scanP
    rw [List.headD_cons, List.tail_cons, opOf_W k hk]
  cases h with
  | ld k sz ad ix hk h1 h2 =>
    have h0 : 0 < sz := by omega
    have a := numV_10 (show sz ≤ 4294967295 by omega)
    have b := numV_16 (show ad ≤ 4294967295 by omega)
    rcases hk with rfl | rfl
    · cases ix <;>
      · show scanP (opW 1 :: _) = _
        rw [hop 1 _ (by decide)]
        simp [restP, atP, numS, In.withAt, In.only, dec, hexa, h0, a.1, a.2, b.1, b.2]
    · cases ix <;>
      · show scanP (opW 3 :: _) = _
        rw [hop 3 _ (by decide)]
        simp [restP, atP, numS, In.withAt, In.only, dec, hexa, h0, a.1, a.2, b.1, b.2]
  | st sz ad dt ix h1 h2 h3 =>
    have h0 : 0 < sz := by omega
    have a := numV_10 (show sz ≤ 4294967295 by omega)
    have b := numV_16 (show ad ≤ 4294967295 by omega)
    have c := numV_16 (show dt ≤ 4294967295 by omega)
    have hn : numL 16 dt ≠ [43] := by
      intro e
      have := hex_back (show dt ≤ 4294967295 by omega)
      rw [e] at this
      rw [show parseHex [43] = Lib.NumEnd.syntax from by decide] at this
      cases this
    cases ix
    · show scanP (opW 2 :: _) = _
      rw [hop _ _ (by decide)]
      simp [restP, atP, dataP, numS, In.withAt, In.withDt, In.only, dec, hexa, h0, a.1, a.2, b.1, b.2, c.1, c.2, hn]
    · show scanP (opW 2 :: _) = _
      rw [hop _ _ (by decide)]
      simp [restP, atP, dataP, numS, In.withAt, In.withDt, In.only, dec, hexa, h0, a.1, a.2, b.1, b.2, c.1, c.2]
  | no k hk =>
    rcases hk with rfl | rfl
    · show scanP (opW 4 :: _) = _
      rw [hop _ _ (by decide)]
      rfl
    · show scanP (opW 10 :: _) = _
      rw [hop _ _ (by decide)]
      rfl
  | br dt tg h1 h2 =>
    have a := numV_10 (show tg ≤ 4294967295 by omega)
    have c := numV_16 (show dt ≤ 4294967295 by omega)
    show scanP (opW 5 :: _) = _
    rw [hop _ _ (by decide)]
    simp [restP, dataP, toP, numS, In.withDt, In.withTo, In.only, dec, hexa, a.1, a.2, c.1, c.2]
  | jp tg h1 =>
    have a := numV_10 (show tg ≤ 4294967295 by omega)
    show scanP (opW 6 :: _) = _
    rw [hop _ _ (by decide)]
    simp [restP, toP, numS, In.withTo, In.only, dec, a.1, a.2]
  | id dt h1 =>
    have a := numV_10 (show dt ≤ 4294967295 by omega)
    show scanP (opW 7 :: _) = _
    rw [hop _ _ (by decide)]
    simp [restP, idleP, numS, In.withDt, In.only, dec, a.1, a.2]
  | ms dt h1 =>
    have c := numV_16 (show dt ≤ 4294967295 by omega)
    show scanP (opW 8 :: _) = _
    rw [hop _ _ (by decide)]
    simp [restP, dataP, numS, In.withDt, In.only, hexa, c.1, c.2]
  | cf c h1 h2 =>
    show scanP (opW 9 :: ([] ++ [] ++ c.words ++ [])) = _
    rw [hop _ _ (by decide)]
    simp only [List.nil_append, List.append_nil]
    have e : Lib.join c.words [32] = c.text := rfl
    have hy := read_yes (s := c.text) (c := c) ⟨h1, h2, rfl⟩
    simp [restP, In.withCf, e, hy.1]

/-- A line is one instruction's text, if any. -/
theorem one_line {x : In} (hf : x.Fits) (h : x.ok = true) : oneOk x.line = true ∧ oneX x.line = x ∧ oneE x.line = 0 := by
  have hs := ShI.of x hf h
  have h1 : oneOk x.line = true := by
    unfold oneOk
    rw [line_words hs, scan_line hs, h]
    simp
  refine ⟨h1, ?_, ?_⟩
  · unfold oneX
    rw [if_pos h1, line_words hs, scan_line hs]
  · unfold oneE
    rw [if_pos h1]
theorem one_back {s : List UInt8} (h : oneOk s = true) : (oneX s).ok = true ∧ (oneX s).line = s ∧ (oneX s).Fits := by
  have e : oneX s = scanP (wordsOf s) := by unfold oneX; rw [if_pos h]
  rw [e]
  unfold oneOk at h
  simp only [Bool.and_eq_true, beq_iff_eq] at h
  exact ⟨h.1, h.2, scanP_fits _⟩
end Go.Proofs.YtagmoehjcgjnjaaGreatDoor
