/- Plain laws of traces: what is shown is read back; where two traces part. No program, no condition. -/
import Derived.Test.YtojleleohhaigaaDoorTrY
import Derived.Test.YtojleleohhaigaaDoorTrD
import Derived.Test.YtojleleohhaigaaDoorTrK
namespace Go.Proofs.YtojleleohhaigaaDoor
open Go

/-! ### Shown, and read back -/
theorem cutN_line : ∀ (x t : List UInt8), (10 : UInt8) ∉ x → cutN (x ++ 10 :: t) = (x ++ [10], t)
  | [], t, _ => by simp [cutN]
  | c :: r, t, h => by
    have hc : ¬ c = 10 := fun e => h (by simp [e])
    have ih := cutN_line r t (fun hm => h (List.mem_cons_of_mem _ hm))
    show cutN (c :: (r ++ 10 :: t)) = _
    unfold cutN
    rw [if_neg hc, ih]
    rfl
theorem trim_line (x : List UInt8) : Lib.trimSuffix (x ++ [10]) [10] = x := by
  unfold Lib.trimSuffix Lib.hasSuffix
  rw [if_pos (by simp)]
  simp
theorem numV_ok {n : Nat} (h : n < 4294967296) : numV (.ok n) = n := by
  have h1 : endOk (Lib.NumEnd.ok n) = true := rfl
  have h2 : endV 4294967295 (Lib.NumEnd.ok n) = n := rfl
  unfold numV
  rw [if_pos h1, h2]
  omega
theorem numW_10 {n : Nat} (h : n < 4294967296) (r : List (List UInt8)) : numW 10 (numL 10 n :: r) = n := by
  show numV (if 10 = 10 then parseDec (numL 10 n) else parseHex (numL 10 n)) = n
  rw [if_pos rfl, dec_back (by omega), numV_ok h]
theorem numW_16 {n : Nat} (h : n < 4294967296) (r : List (List UInt8)) : numW 16 (numL 16 n :: r) = n := by
  show numV (if 16 = 10 then parseDec (numL 16 n) else parseHex (numL 16 n)) = n
  rw [if_neg (by decide), hex_back (by omega), numV_ok h]
theorem evOf_words {x : Ev} (h : LineS x) : evOf x.words = x := by
  cases h with
  | reply a v e h1 h2 h3 =>
    show evOf [numL 10 a, [114, 101, 112, 108, 121], numL 16 v, numL 10 e] = _
    have e1 := numW_10 (n := a) (by omega) [[114, 101, 112, 108, 121], numL 16 v, numL 10 e]
    have e2 := numW_16 h2 [numL 10 e]
    have e3 := numW_10 (n := e) (by omega) []
    unfold evOf
    rw [if_pos (by rfl)]
    show (⟨numW 10 (numL 10 a :: [[114, 101, 112, 108, 121], numL 16 v, numL 10 e]), 1, numW 16 (numL 16 v :: [numL 10 e]), numW 10 (numL 10 e :: []), 0⟩ : Ev) = _
    rw [e1, e2, e3]
  | call a n h1 h2 =>
    show evOf [numL 10 a, [99, 97, 108, 108], numL 10 n] = _
    have e1 := numW_10 (n := a) (by omega) [[99, 97, 108, 108], numL 10 n]
    have e2 := numW_10 (n := n) (by omega) []
    unfold evOf
    rw [if_neg (show ¬ (([numL 10 a, [99, 97, 108, 108], numL 10 n].tail.head?).getD [] = [114, 101, 112, 108, 121]) from (by decide : ¬ ([99, 97, 108, 108] : List UInt8) = [114, 101, 112, 108, 121]))]
    show (⟨numW 10 (numL 10 a :: [[99, 97, 108, 108], numL 10 n]), 2, 0, 0, numW 10 (numL 10 n :: [])⟩ : Ev) = _
    rw [e1, e2]
theorem hx_no10 : ∀ d, d < 16 → hx d ≠ 10 := by decide
theorem numL_no10 {b : Nat} (hb : 2 ≤ b) (hb2 : b ≤ 16) (n : Nat) : (10 : UInt8) ∉ numL b n := by
  induction n using Nat.strongRecOn with
  | ind n ih =>
    by_cases hn : n < b
    · rw [numL_lt hn]
      intro h
      simp at h
      exact hx_no10 n (by omega) h.symm
    · rw [numL_ge hb (by omega)]
      intro h
      rcases List.mem_append.1 h with h | h
      · exact ih (n / b) (Nat.div_lt_self (by omega) (by omega)) h
      · simp at h
        exact hx_no10 (n % b) (Nat.lt_of_lt_of_le (Nat.mod_lt _ (by omega)) hb2) h.symm
theorem join_mem : ∀ (xs : List (List UInt8)) (c : UInt8), c ∈ Lib.join xs [32] → c = 32 ∨ ∃ x ∈ xs, c ∈ x
  | [], c, h => by simp [Lib.join] at h
  | [x], c, h => by rw [Lib.join_one] at h; exact .inr ⟨x, by simp, h⟩
  | x :: y :: r, c, h => by
    rw [join_two] at h
    rcases List.mem_append.1 h with h | h
    · exact .inr ⟨x, by simp, h⟩
    · rcases List.mem_cons.1 h with h | h
      · exact .inl h
      · rcases join_mem (y :: r) c h with h | ⟨z, hz, hc⟩
        · exact .inl h
        · exact .inr ⟨z, List.mem_cons_of_mem _ hz, hc⟩
theorem words_good {x : Ev} (h : LineS x) : (∃ y r, x.words = y :: r) ∧ (∀ y ∈ x.words, NoB y) ∧ ∀ y ∈ x.words, (10 : UInt8) ∉ y := by
  cases h with
  | reply a v e h1 h2 h3 =>
    show (∃ y r, [numL 10 a, [114, 101, 112, 108, 121], numL 16 v, numL 10 e] = y :: r) ∧ (∀ y ∈ [numL 10 a, [114, 101, 112, 108, 121], numL 16 v, numL 10 e], NoB y) ∧ ∀ y ∈ [numL 10 a, [114, 101, 112, 108, 121], numL 16 v, numL 10 e], (10 : UInt8) ∉ y
    refine ⟨⟨_, _, rfl⟩, ?_, ?_⟩
    · intro y hy
      simp only [List.mem_cons, List.not_mem_nil, or_false] at hy
      rcases hy with rfl | rfl | rfl | rfl
      · exact numL_noB (by omega) (by omega) _
      · intro c hc e; subst e; simp at hc
      · exact numL_noB (by omega) (by omega) _
      · exact numL_noB (by omega) (by omega) _
    · intro y hy
      simp only [List.mem_cons, List.not_mem_nil, or_false] at hy
      rcases hy with rfl | rfl | rfl | rfl
      · exact numL_no10 (by omega) (by omega) _
      · simp
      · exact numL_no10 (by omega) (by omega) _
      · exact numL_no10 (by omega) (by omega) _
  | call a n h1 h2 =>
    show (∃ y r, [numL 10 a, [99, 97, 108, 108], numL 10 n] = y :: r) ∧ (∀ y ∈ [numL 10 a, [99, 97, 108, 108], numL 10 n], NoB y) ∧ ∀ y ∈ [numL 10 a, [99, 97, 108, 108], numL 10 n], (10 : UInt8) ∉ y
    refine ⟨⟨_, _, rfl⟩, ?_, ?_⟩
    · intro y hy
      simp only [List.mem_cons, List.not_mem_nil, or_false] at hy
      rcases hy with rfl | rfl | rfl
      · exact numL_noB (by omega) (by omega) _
      · intro c hc e; subst e; simp at hc
      · exact numL_noB (by omega) (by omega) _
    · intro y hy
      simp only [List.mem_cons, List.not_mem_nil, or_false] at hy
      rcases hy with rfl | rfl | rfl
      · exact numL_no10 (by omega) (by omega) _
      · simp
      · exact numL_no10 (by omega) (by omega) _
theorem line_no10 {x : Ev} (h : LineS x) : (10 : UInt8) ∉ x.line := by
  intro hm
  rcases join_mem _ _ hm with h1 | ⟨y, hy, hc⟩
  · cases h1
  · exact (words_good h).2.2 y hy hc
theorem lineW_line {x : Ev} (h : LineS x) : lineW (x.line ++ [10]) = x.words := by
  unfold lineW
  rw [trim_line]
  obtain ⟨⟨y, r, hw⟩, hn, -⟩ := words_good h
  unfold Ev.line
  rw [hw] at hn ⊢
  exact wordsOf_join y r hn
theorem evs_back : ∀ {l : List Ev}, (∀ x ∈ l, LineS x) → evsOf (showT l) = l
  | [], _ => by unfold evsOf showT; rw [linesP_nil]; rfl
  | x :: r, h => by
    have hx := h x (by simp)
    have ih := evs_back (l := r) (fun z hz => h z (by simp [hz]))
    unfold evsOf at ih ⊢
    have hne : showT (x :: r) ≠ [] := by simp [showT]
    have hc : cutN (showT (x :: r)) = (x.line ++ [10], showT r) := by
      show cutN (x.line ++ [10] ++ showT r) = _
      rw [List.append_assoc]
      exact cutN_line x.line (showT r) (line_no10 hx)
    rw [linesP_cons hne, hc, List.map_cons, ih]
    simp only [lineW_line hx, evOf_words hx]
theorem okT_iff {l : List Ev} : okT l = true ↔ rightL l = true ∧ l.any Ev.odd = false := by simp [okT]
theorem okT_shape {l : List Ev} (hf : ∀ x ∈ l, x.Fits) (h : okT l = true) : ∀ x ∈ l, LineS x := shape_of hf (okT_iff.1 h).1 (okT_iff.1 h).2
theorem read_back {l : List Ev} (hf : ∀ x ∈ l, x.Fits) (h : okT l = true) : readL (showT l) = l ∧ readE (showT l) = 0 := by
  have hb := evs_back (okT_shape hf h)
  have hk : readOk (showT l) = true := by simp [readOk, hb, h]
  exact ⟨by unfold readL; rw [if_pos hk, hb], by unfold readE; rw [if_pos hk]⟩
theorem read_show {s : List UInt8} (h : readE s = 0) : okT (readL s) = true ∧ showT (readL s) = s := by
  unfold readE at h
  split at h
  · rename_i hk
    unfold readL
    rw [if_pos hk]
    simpa [readOk] using hk
  · cases h
theorem readL_no {s : List UInt8} (h : readE s ≠ 0) : readL s = [] ∧ readE s = 8 := by
  unfold readE at h ⊢
  unfold readL
  split
  · rename_i hk; rw [if_pos hk] at h; exact absurd rfl h
  · exact ⟨rfl, rfl⟩
theorem readL_fits (s : List UInt8) : ∀ x ∈ readL s, x.Fits := by
  unfold readL
  split
  · exact evsOf_fits s
  · simp

/-! ### Where two traces part -/
theorem strip_self (l : List Ev) : strip l l = ([], []) := by
  induction l with
  | nil => rfl
  | cons x r ih => rw [strip, if_pos rfl]; exact ih
theorem strip_comm : ∀ (l m : List Ev), strip m l = ((strip l m).2, (strip l m).1)
  | [], [] => rfl
  | [], y :: s => rfl
  | x :: r, [] => rfl
  | x :: r, y :: s => by
    rw [strip, strip]
    by_cases h : x = y
    · rw [if_pos h, if_pos h.symm]
      exact strip_comm r s
    · rw [if_neg h, if_neg (Ne.symm h)]
/-- What two rows begin with alike. -/
theorem strip_spec : ∀ (l m : List Ev), ∃ p, l = p ++ (strip l m).1 ∧ m = p ++ (strip l m).2 ∧ ∀ x y r s, (strip l m).1 = x :: r → (strip l m).2 = y :: s → x ≠ y
  | [], m => ⟨[], by simp [strip], by simp [strip], by intro x y r s h; simp [strip] at h⟩
  | x :: r, [] => ⟨[], by simp [strip], by simp [strip], by intro x y r s _ h; simp [strip] at h⟩
  | x :: r, y :: s => by
    rw [strip]
    by_cases h : x = y
    · rw [if_pos h]
      obtain ⟨p, h1, h2, h3⟩ := strip_spec r s
      exact ⟨x :: p, by rw [List.cons_append, ← h1], by rw [List.cons_append, ← h2, h], h3⟩
    · rw [if_neg h]
      refine ⟨[], rfl, rfl, ?_⟩
      intro x' y' r' s' e1 e2
      simp only [List.cons.injEq] at e1 e2
      rw [← e1.1, ← e2.1]
      exact h
theorem right_sorted : ∀ {l : List Ev} {a : Ev}, rightF (some a) l = true → ∀ x ∈ l, a.cy ≤ x.cy
  | [], _, _ => by simp
  | y :: r, a, h => by
    simp only [rightF, Bool.and_eq_true] at h
    have h1 : a.cy ≤ y.cy := by
      have := h.1
      simp [Ev.may, Ev.behind] at this
      omega
    intro x hx
    rcases List.mem_cons.1 hx with rfl | hx
    · exact h1
    · have := right_sorted h.2 x hx; omega
theorem right_app : ∀ {p l : List Ev} {a : Option Ev}, rightF a (p ++ l) = true → ∃ b, rightF b l = true
  | [], _, a, h => ⟨a, h⟩
  | x :: r, l, a, h => by
    simp only [List.cons_append, rightF, Bool.and_eq_true] at h
    exact right_app h.2
theorem filter_none {n : Int} {l : List Ev} (h : ∀ x ∈ l, n ≤ x.cy) : l.filter (ahead n) = [] := by
  rw [List.filter_eq_nil_iff]
  intro x hx
  have := h x hx
  simp [ahead]
  omega
theorem tail_ge {x : Ev} {r p : List Ev} (h : rightL (p ++ x :: r) = true) : ∀ z ∈ x :: r, x.cy ≤ z.cy := by
  obtain ⟨b, hb⟩ := right_app h
  simp only [rightF, Bool.and_eq_true] at hb
  intro z hz
  rcases List.mem_cons.1 hz with rfl | hz
  · exact Int.le_refl _
  · exact right_sorted hb.2 z hz

theorem parts_comm {a b : List Ev} : differN b a = differN a b := by
  unfold differN
  rw [strip_comm a b]
  rcases h : strip a b with ⟨u, v⟩
  cases u with
  | nil => cases v <;> rfl
  | cons x r =>
    cases v with
    | nil => rfl
    | cons y s =>
      show (if x.cy < y.cy then x.cy else y.cy, true) = (if y.cy < x.cy then y.cy else x.cy, true)
      congr 1
      split <;> split <;> omega
theorem parts_is {a b : List Ev} : (differN a b).2 = !decide (a = b) := by
  obtain ⟨p, h1, h2, h3⟩ := strip_spec a b
  unfold differN
  rcases h : strip a b with ⟨u, v⟩
  rw [h] at h1 h2 h3
  cases u with
  | nil =>
    cases v with
    | nil => simp [h1, h2]
    | cons y s => have hn : a ≠ b := by rw [h1, h2]; simp
                  simp [hn]
  | cons x r =>
    cases v with
    | nil => have hn : a ≠ b := by rw [h1, h2]; simp
             simp [hn]
    | cons y s =>
      have hne := h3 x y r s rfl rfl
      have hn : a ≠ b := by
        rw [h1, h2]
        intro e
        have := List.append_cancel_left e
        simp only [List.cons.injEq] at this
        exact hne this.1
      simp [hn]
theorem parts_ahead {a b : List Ev} (ha : rightL a = true) (hb : rightL b = true) : a.filter (ahead (differN a b).1) = b.filter (ahead (differN a b).1) := by
  obtain ⟨p, h1, h2, h3⟩ := strip_spec a b
  unfold differN
  rcases h : strip a b with ⟨u, v⟩
  rw [h] at h1 h2 h3
  simp only at h1 h2
  rw [h1] at ha ⊢
  rw [h2] at hb ⊢
  cases u with
  | nil =>
    cases v with
    | nil => rfl
    | cons y s =>
      simp only [List.filter_append]
      rw [filter_none (tail_ge hb)]
      rfl
  | cons x r =>
    have hx := tail_ge ha
    cases v with
    | nil =>
      simp only [List.filter_append]
      rw [filter_none hx]
      rfl
    | cons y s =>
      have hy := tail_ge hb
      simp only [List.filter_append]
      rw [filter_none (l := x :: r) (fun z hz => by have := hx z hz; split <;> omega), filter_none (l := y :: s) (fun z hz => by have := hy z hz; split <;> omega)]
theorem parts_behind {a b : List Ev} (ha : rightL a = true) (hb : rightL b = true) (hn : a ≠ b) : a.filter (ahead ((differN a b).1 + 1)) ≠ b.filter (ahead ((differN a b).1 + 1)) := by
  obtain ⟨p, h1, h2, h3⟩ := strip_spec a b
  unfold differN
  rcases h : strip a b with ⟨u, v⟩
  rw [h] at h1 h2 h3
  simp only at h1 h2
  have hcons : ∀ (n : Int) (x : Ev) (r : List Ev), x.cy = n → (x :: r).filter (ahead (n + 1)) = x :: r.filter (ahead (n + 1)) := by
    intro n x r hx
    rw [List.filter_cons_of_pos (by simp [ahead]; omega)]
  cases u with
  | nil =>
    cases v with
    | nil => exact absurd (h1.trans h2.symm) hn
    | cons y s =>
      rw [h1, h2]
      simp only [List.filter_append, hcons _ y s rfl, List.filter_nil]
      intro e
      have := List.append_cancel_left e
      cases this
  | cons x r =>
    cases v with
    | nil =>
      rw [h1, h2]
      simp only [List.filter_append, hcons _ x r rfl, List.filter_nil]
      intro e
      have := List.append_cancel_left e
      cases this
    | cons y s =>
      have hne := h3 x y r s rfl rfl
      rw [h1] at ha ⊢
      rw [h2] at hb ⊢
      have hx := tail_ge ha
      have hy := tail_ge hb
      simp only [List.filter_append]
      intro e
      have e := List.append_cancel_left e
      by_cases hc : y.cy < x.cy
      · simp only [if_pos hc] at e
        rw [hcons _ y s rfl, filter_none (l := x :: r) (fun z hz => by have := hx z hz; omega)] at e
        cases e
      · simp only [if_neg hc] at e
        rw [hcons _ x r rfl] at e
        by_cases hq : y.cy = x.cy
        · rw [hcons _ y s hq] at e
          simp only [List.cons.injEq] at e
          exact hne e.1
        · rw [filter_none (l := y :: s) (fun z hz => by have := hy z hz; omega)] at e
          cases e
theorem right_own : ∀ {l : List Ev} {a : Option Ev}, rightF a l = true → ∀ x ∈ l, x.own = true
  | [], _, _ => by simp
  | y :: r, a, h => by
    simp only [rightF, Bool.and_eq_true] at h
    intro x hx
    rcases List.mem_cons.1 hx with rfl | hx
    · have := h.1
      simp [Ev.may] at this
      exact this.1.2
    · exact right_own h.2 x hx
theorem kinds_len : ∀ {l : List Ev}, (∀ x ∈ l, x.own = true) → (l.filter isReply).length + (l.filter isCall).length = l.length
  | [], _ => rfl
  | x :: r, h => by
    have ih := kinds_len (l := r) (fun z hz => h z (by simp [hz]))
    have hx := h x (by simp)
    simp [Ev.own] at hx
    rcases hx with ⟨hk, -⟩ | ⟨⟨hk, -⟩, -⟩
    · rw [List.filter_cons_of_pos (by simp [isReply, hk]), List.filter_cons_of_neg (by simp [isCall, hk])]
      simp only [List.length_cons]
      omega
    · rw [List.filter_cons_of_neg (by simp [isReply, hk]), List.filter_cons_of_pos (by simp [isCall, hk])]
      simp only [List.length_cons]
      omega
end Go.Proofs.YtojleleohhaigaaDoor
