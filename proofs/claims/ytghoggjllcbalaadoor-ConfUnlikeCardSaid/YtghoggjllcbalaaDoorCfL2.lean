/- Plain law: the text of a right command is read as that command. No program, no condition. -/
import Derived.Test.YtghoggjllcbalaaDoorCfL
import Derived.Test.YtghoggjllcbalaaDoorCfD
namespace Go.Proofs.YtghoggjllcbalaaDoor
open Go

theorem wordsOf_eq (s : List UInt8) : wordsOf s = Lib.splitK [32] 0 (s.count 32) s := by
  unfold wordsOf wordsB
  rw [Lib.splitB_data]
  have : Lib.countB ⟨s.toArray⟩ ⟨#[32]⟩ = s.count 32 := by
    unfold Lib.countB
    rw [show (ByteArray.mk #[32]).data.toList = [32] from rfl, Lib.count_one]
  rw [this]
theorem wordsOf_join (x : List UInt8) (r : List (List UInt8)) (h : ∀ y ∈ x :: r, NoB y) : wordsOf (Lib.join (x :: r) [32]) = x :: r := by
  rw [wordsOf_eq, splitK_join r x h]

theorem nv_cons {n : Nat} (h : n ≤ 65535) (r : List (List UInt8)) (ok : Bool) : Rds.nv (numL 10 n :: r, ok) = n := by
  simp [Rds.nv, dec_back h, endV]
theorem n_cons {n : Nat} (h : n ≤ 65535) (r : List (List UInt8)) (ok : Bool) : Rds.n (numL 10 n :: r, ok) = (r, ok) := by
  simp [Rds.n, dec_back h, endOk]
theorem xv_cons {n : Nat} (h : n ≤ 4294967295) (r : List (List UInt8)) (ok : Bool) : Rds.xv (numL 16 n :: r, ok) = n := by
  simp [Rds.xv, hex_back h, endV]
theorem x_cons {n : Nat} (h : n ≤ 4294967295) (r : List (List UInt8)) (ok : Bool) : Rds.x (numL 16 n :: r, ok) = (r, ok) := by
  simp [Rds.x, hex_back h, endOk]
theorem t_cons (x : List UInt8) (r : List (List UInt8)) (ok : Bool) : Rds.t (x :: r, ok) = (r, ok) := by
  simp [Rds.t]
theorem h_cons (x : List UInt8) (r : List (List UInt8)) (ok : Bool) : Rds.h (x :: r, ok) = x := rfl
theorem num_line {n : Nat} (h : n ≤ 65535) : numL 10 n ≠ [45] := by
  intro e
  have := dec_back h
  rw [e] at this
  cases this
theorem lv_num {n : Nat} (h : n ≤ 65535) (r : List (List UInt8)) (ok : Bool) : Rds.lv (numL 10 n :: r, ok) = n := by
  unfold Rds.lv
  rw [if_neg (by simpa using num_line h), nv_cons h]
theorem l_num {n : Nat} (h : n ≤ 65535) (r : List (List UInt8)) (ok : Bool) : Rds.l (numL 10 n :: r, ok) = (r, ok) := by
  unfold Rds.l
  rw [if_neg (by simpa using num_line h), n_cons h]
theorem has_r (rd wt : Bool) : hasB (rightsL rd wt) 114 = rd := by cases rd <;> cases wt <;> decide
theorem has_w (rd wt : Bool) : hasB (rightsL rd wt) 119 = wt := by cases rd <;> cases wt <;> decide
theorem rights_noB (rd wt : Bool) : NoB (rightsL rd wt) := by
  intro c hc
  cases rd <;> cases wt <;> simp [rightsL] at hc
  · subst hc; decide
  · subst hc; decide
  · subst hc; decide
  · rcases hc with rfl | rfl <;> decide
theorem kind_noB (k : Int) : NoB (kindW k) := by
  intro c hc e
  subst e
  unfold kindW at hc
  repeat (first | (split at hc; · simp at hc) | simp at hc)
theorem lock_noB : NoB [108, 111, 99, 107, 101, 100] := by
  intro c hc e
  subst e
  simp at hc

theorem kindOf_W : ∀ k : Fin 8, k.val ≠ 0 → kindOf (kindW k.val) = k.val := by decide

theorem parse_of (c : Cf) (x : List UInt8) (r : List (List UInt8)) (hw : c.words = x :: r) (hn : ∀ y ∈ x :: r, NoB y) : parse c.text = parseK (kindOf x) (r, true) := by
  unfold parse Cf.text
  rw [hw, wordsOf_join x r hn, h_cons, t_cons]

theorem parse_text {c : Cf} (h : Shape c) : ∃ r, parse c.text = (c, (r, true)) := by
  cases h with
  | region ix rw rk fr tt rd wt lk h1 h2 h3 h4 h5 =>
    have hw : Cf.words ⟨1, ix, 0, 0, true, rw, fr, tt, rd, wt, rk, lk⟩ = kindW 1 :: ([numL 10 ix, numL 10 rw, numL 16 fr, numL 16 tt, rightsL rd wt, numL 10 rk] ++ (if lk then [[108, 111, 99, 107, 101, 100]] else [])) := by
      simp [Cf.words, dec, hexa]
    have hn : ∀ y ∈ kindW 1 :: ([numL 10 ix, numL 10 rw, numL 16 fr, numL 16 tt, rightsL rd wt, numL 10 rk] ++ (if lk then [[108, 111, 99, 107, 101, 100]] else [])), NoB y := by
      intro y hy
      simp only [List.mem_cons, List.mem_append, List.not_mem_nil, or_false] at hy
      rcases hy with rfl | (rfl | rfl | rfl | rfl | rfl | rfl) | hy
      · exact kind_noB 1
      · exact numL_noB (by omega) (by omega) _
      · exact numL_noB (by omega) (by omega) _
      · exact numL_noB (by omega) (by omega) _
      · exact numL_noB (by omega) (by omega) _
      · exact rights_noB _ _
      · exact numL_noB (by omega) (by omega) _
      · cases lk
        · simp at hy
        · simp at hy
          subst hy
          exact lock_noB
    rw [parse_of _ _ _ hw hn, show kindOf (kindW 1) = 1 from kindOf_W 1 (by decide)]
    unfold parseK parseC
    rw [if_neg (by decide), if_pos rfl]
    simp only [List.cons_append, List.nil_append, nv_cons (show ix ≤ 65535 by omega), n_cons (show ix ≤ 65535 by omega), nv_cons (show rw ≤ 65535 by omega), n_cons (show rw ≤ 65535 by omega), xv_cons (show fr ≤ 4294967295 by omega), x_cons (show fr ≤ 4294967295 by omega), xv_cons (show tt ≤ 4294967295 by omega), x_cons (show tt ≤ 4294967295 by omega), h_cons, t_cons, nv_cons (show rk ≤ 65535 by omega), n_cons (show rk ≤ 65535 by omega), has_r, has_w, Rds.g]
    cases lk
    · exact ⟨_, rfl⟩
    · exact ⟨_, rfl⟩
  | one k ix hk h1 =>
    rcases hk with rfl | rfl
    · rw [parse_of _ (kindW 2) [numL 10 ix] (by simp [Cf.words, dec]) (by
        intro y hy
        simp only [List.mem_cons, List.not_mem_nil, or_false] at hy
        rcases hy with rfl | rfl
        · exact kind_noB _
        · exact numL_noB (by omega) (by omega) _), show kindOf (kindW 2) = 2 from kindOf_W 2 (by decide)]
      simp only [parseK, parseC, nv_cons (show ix ≤ 65535 by omega), n_cons (show ix ≤ 65535 by omega)]
      exact ⟨_, rfl⟩
    · rw [parse_of _ (kindW 4) [numL 10 ix] (by simp [Cf.words, dec]) (by
        intro y hy
        simp only [List.mem_cons, List.not_mem_nil, or_false] at hy
        rcases hy with rfl | rfl
        · exact kind_noB _
        · exact numL_noB (by omega) (by omega) _), show kindOf (kindW 4) = 4 from kindOf_W 4 (by decide)]
      simp only [parseK, parseC, nv_cons (show ix ≤ 65535 by omega), n_cons (show ix ≤ 65535 by omega)]
      exact ⟨_, rfl⟩
  | two k ix wo hk h1 h2 =>
    rcases hk with rfl | rfl
    · rw [parse_of _ (kindW 3) [numL 10 ix, numL 10 wo] (by simp [Cf.words, dec]) (by
        intro y hy
        simp only [List.mem_cons, List.not_mem_nil, or_false] at hy
        rcases hy with rfl | rfl | rfl
        · exact kind_noB _
        · exact numL_noB (by omega) (by omega) _
        · exact numL_noB (by omega) (by omega) _), show kindOf (kindW 3) = 3 from kindOf_W 3 (by decide)]
      simp only [parseK, parseC, nv_cons (show ix ≤ 65535 by omega), n_cons (show ix ≤ 65535 by omega), nv_cons (show wo ≤ 65535 by omega), n_cons (show wo ≤ 65535 by omega)]
      exact ⟨_, rfl⟩
    · rw [parse_of _ (kindW 5) [numL 10 ix, numL 10 wo] (by simp [Cf.words, dec]) (by
        intro y hy
        simp only [List.mem_cons, List.not_mem_nil, or_false] at hy
        rcases hy with rfl | rfl | rfl
        · exact kind_noB _
        · exact numL_noB (by omega) (by omega) _
        · exact numL_noB (by omega) (by omega) _), show kindOf (kindW 5) = 5 from kindOf_W 5 (by decide)]
      simp only [parseK, parseC, nv_cons (show ix ≤ 65535 by omega), n_cons (show ix ≤ 65535 by omega), nv_cons (show wo ≤ 65535 by omega), n_cons (show wo ≤ 65535 by omega)]
      exact ⟨_, rfl⟩
  | route ix ln h1 h2 h3 =>
    have hl : NoB (lineL ln) := by
      unfold lineL
      split
      · intro c hc e; subst e; simp at hc
      · exact numL_noB (by omega) (by omega) _
    rw [parse_of _ (kindW 6) [numL 10 ix, lineL ln] (by simp [Cf.words, dec]) (by
        intro y hy
        simp only [List.mem_cons, List.not_mem_nil, or_false] at hy
        rcases hy with rfl | rfl | rfl
        · exact kind_noB _
        · exact numL_noB (by omega) (by omega) _
        · exact hl), show kindOf (kindW 6) = 6 from kindOf_W 6 (by decide)]
    simp only [parseK, parseC, nv_cons (show ix ≤ 65535 by omega), n_cons (show ix ≤ 65535 by omega)]
    by_cases hneg : ln = -1
    · subst hneg
      exact ⟨_, rfl⟩
    · obtain ⟨n, rfl⟩ : ∃ n : Nat, ln = n := ⟨ln.toNat, by omega⟩
      have : lineL (n : Int) = numL 10 n := by unfold lineL; rw [if_neg (by omega)]; rfl
      rw [this]
      have hl2 := lv_num (show n ≤ 65535 by omega) [] true
      have hl3 := l_num (show n ≤ 65535 by omega) [] true
      refine ⟨[], ?_⟩
      simp only [show ¬ (6 : Int) = 7 by decide, show ¬ (6 : Int) = 1 by decide, show ¬ ((6 : Int) = 3 ∨ (6 : Int) = 5) by decide, if_false, if_true, hl2, hl3]
  | lock =>
    rw [parse_of _ (kindW 7) [] (by simp [Cf.words]) (by
      intro y hy
      simp only [List.mem_cons, List.not_mem_nil, or_false] at hy
      subst hy
      exact kind_noB _), show kindOf (kindW 7) = 7 from kindOf_W 7 (by decide)]
    exact ⟨_, rfl⟩
end Go.Proofs.YtghoggjllcbalaaDoor
