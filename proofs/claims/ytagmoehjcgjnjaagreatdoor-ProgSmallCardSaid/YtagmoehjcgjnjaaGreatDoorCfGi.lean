/- Plain laws: a number's digits are read back; joined words are parted again. No program, no condition. Plain law: the text of a right command is read as that command. No program, no condition. Plain law: what Read answers is the one right command that has the text, if there is one. No program, no condition. The chapter's examples, in plain words. No program, no condition. Plain law: the text of a right command has no byte but small letters, digits, blanks and -, no two blanks together, none at its ends. No program, no condition. Plain law: a right command with something more, or of another kind, is not right but for those whose parts are alike. No program, no condition. -/
import Derived.Test.YtagmoehjcgjnjaaGreatDoorCfGe
import Derived.Test.YtagmoehjcgjnjaaGreatDoorCfGd
import Derived.Lib.SplitLaws
import Derived.Lib.IndexBytes
import Derived.Test.YtagmoehjcgjnjaaGreatDoorCfGf
import Derived.KernelRfl
namespace Go.Proofs.YtagmoehjcgjnjaaGreatDoor
open Go

theorem uintM_snoc (M : Nat) (c : UInt8) : ∀ (l : List UInt8) (acc u : Nat), Lib.parseUintM M acc l = .ok u → Lib.parseUintM M acc (l ++ [c]) = Lib.parseUintM M u [c]
  | [], acc, u, h => by
    simp only [Lib.parseUintM] at h
    injection h with h
    subst h
    rfl
  | d :: r, acc, u, h => by
    simp only [Lib.parseUintM, List.cons_append] at h ⊢
    split at h
    · rename_i h1
      rw [if_pos h1]
      split at h
      · cases h
      · rename_i h2
        rw [if_neg h2]
        split at h
        · cases h
        · rename_i h3
          rw [if_neg h3]
          have := uintM_snoc M c r _ u h
          simpa only [Lib.parseUintM] using this
    · cases h
theorem uintM_one {M acc d : Nat} (hd : d < 10) (ha : acc < 1844674407370955162) (hM : acc * 10 + d ≤ M) : Lib.parseUintM M acc [hx d] = .ok (acc * 10 + d) := by
  have h1 : (hx d).toNat = 48 + d := by rw [hx_toNat (by omega), if_pos hd]
  simp only [Lib.parseUintM, h1]
  rw [if_pos (by omega), if_neg (by omega), if_neg (by omega), show 48 + d - 48 = d by omega]
theorem uintM_num (M : Nat) (hM : M < 1844674407370955162) (n : Nat) : n ≤ M → Lib.parseUintM M 0 (numL 10 n) = .ok n := by
  induction n using Nat.strongRecOn with
  | ind n ih =>
    intro h
    by_cases hn : n < 10
    · rw [numL_lt hn, uintM_one hn (by omega) (by omega)]
      simp
    · rw [numL_ge (by omega) (by omega), uintM_snoc M _ _ _ _ (ih (n / 10) (by omega) (by omega)), uintM_one (by omega) (by omega) (by omega)]
      congr 1
      omega
theorem numL_ne (b n : Nat) : numL b n ≠ [] := by
  rw [numL]
  split <;> simp
theorem dec_back {n : Nat} (h : n ≤ 65535) : parseDec (numL 10 n) = .ok n := by
  unfold parseDec Lib.parseUintB
  rw [if_neg (numL_ne _ _)]
  exact uintM_num _ (by decide) n (by omega)

theorem hexP_snoc (c : UInt8) : ∀ (l : List UInt8) (acc u : Nat), hexP acc l = .ok u → hexP acc (l ++ [c]) = hexP u [c]
  | [], acc, u, h => by
    simp only [hexP] at h
    injection h with h
    subst h
    rfl
  | d :: r, acc, u, h => by
    simp only [hexP, List.cons_append] at h ⊢
    split at h
    · cases h
    · rename_i e h1
      split at h
      · cases h
      · rename_i h2
        rw [if_neg h2]
        have := hexP_snoc c r _ u h
        simpa only [hexP] using this
theorem hexDig_hx : ∀ d, d < 16 → hexDig (hx d) = some d := by decide
theorem hexP_one {acc d : Nat} (hd : d < 16) (hM : acc * 16 + d ≤ 4294967295) : hexP acc [hx d] = .ok (acc * 16 + d) := by
  simp only [hexP, hexDig_hx d hd]
  rw [if_neg (by omega)]
theorem hexP_num (n : Nat) : n ≤ 4294967295 → hexP 0 (numL 16 n) = .ok n := by
  induction n using Nat.strongRecOn with
  | ind n ih =>
    intro h
    by_cases hn : n < 16
    · rw [numL_lt hn, hexP_one hn (by omega)]
      simp
    · rw [numL_ge (by omega) (by omega), hexP_snoc _ _ _ _ (ih (n / 16) (by omega) (by omega)), hexP_one (by omega) (by omega)]
      congr 1
      omega
theorem hex_back {n : Nat} (h : n ≤ 4294967295) : parseHex (numL 16 n) = .ok n := by
  unfold parseHex
  rw [if_neg (numL_ne _ _)]
  exact hexP_num n h

/-- No blank is in it. -/
def NoB (l : List UInt8) : Prop := ∀ c ∈ l, c ≠ 32
theorem hx_noB : ∀ d, d < 16 → hx d ≠ 32 := by decide
theorem numL_noB {b : Nat} (hb : 2 ≤ b) (hb2 : b ≤ 16) (n : Nat) : NoB (numL b n) := by
  induction n using Nat.strongRecOn with
  | ind n ih =>
    intro c hc
    by_cases hn : n < b
    · rw [numL_lt hn] at hc
      simp at hc
      subst hc
      exact hx_noB n (by omega)
    · rw [numL_ge hb (by omega)] at hc
      rcases List.mem_append.1 hc with h | h
      · exact ih (n / b) (Nat.div_lt_self (by omega) (by omega)) c h
      · simp at h
        subst h
        exact hx_noB _ (by have := Nat.mod_lt n (show b > 0 by omega); omega)

theorem ixb_app (t : List UInt8) : ∀ (x : List UInt8), NoB x → Lib.indexByte (x ++ 32 :: t) 32 = x.length
  | [], _ => by simp [Lib.indexByte]
  | c :: r, h => by
    have h1 : (c == 32) = false := by simpa using h c (by simp)
    have h2 := ixb_app t r (fun d hd => h d (by simp [hd]))
    simp only [List.cons_append, Lib.indexByte, h1, h2]
    rw [if_neg (by simp), if_neg (by simp)]
    simp
theorem noB_count {x : List UInt8} (h : NoB x) : x.count 32 = 0 := List.count_eq_zero.2 fun hm => h 32 hm rfl
theorem join_two (x y : List UInt8) (r : List (List UInt8)) : Lib.join (x :: y :: r) [32] = x ++ 32 :: Lib.join (y :: r) [32] := by
  rw [Lib.join_cons, Lib.join_cons]
  simp [Lib.joinTail]
theorem splitK_join : ∀ (r : List (List UInt8)) (x : List UInt8), (∀ y ∈ x :: r, NoB y) → Lib.splitK [32] 0 ((Lib.join (x :: r) [32]).count 32) (Lib.join (x :: r) [32]) = x :: r
  | [], x, h => by
    rw [Lib.join_one, noB_count (h x (by simp))]
    rfl
  | y :: r, x, h => by
    have hx := h x (by simp)
    rw [join_two, List.count_append, noB_count hx, List.count_cons_self, Nat.zero_add]
    simp only [Lib.splitK, Lib.index_one, ixb_app _ x hx]
    rw [if_neg (by simp)]
    have h1 : (x ++ 32 :: Lib.join (y :: r) [32]).take (((x.length : Int)).toNat + 0) = x := by simp
    have h2 : (x ++ 32 :: Lib.join (y :: r) [32]).drop (((x.length : Int)).toNat + ([32] : List UInt8).length) = Lib.join (y :: r) [32] := by
      simp
    rw [h1, h2, splitK_join r y (fun z hz => h z (by simp at hz ⊢; exact .inr hz))]
end Go.Proofs.YtagmoehjcgjnjaaGreatDoor

namespace Go.Proofs.YtagmoehjcgjnjaaGreatDoor
open Go

theorem wordsOf_eq (s : List UInt8) : wordsOf s = Lib.splitK [32] 0 (s.count 32) s := by
  unfold wordsOf wordsB
  rw [Lib.splitB_data]
  have : Lib.countB ⟨s.toArray⟩ ⟨#[32]⟩ = s.count 32 := by
    unfold Lib.countB
    rw [show (ByteArray.mk #[32]).data.toList = [32] from rfl, Lib.count_one]
  rw [this]
theorem wordsOf_join (x : List UInt8) (r : List (List UInt8)) (h : ∀ y ∈ x :: r, NoB y) : wordsOf (Lib.join (x :: r) [32]) = x :: r := by
  rw [wordsOf_eq, splitK_join r x h]

theorem nv_cons {n : Nat} (h : n ≤ 65535) (r : List (List UInt8)) (ok : Bool) : Rds.nv (numL 10 n :: r, ok) = n := by
  simp [Rds.nv, dec_back h, endV]
theorem n_cons {n : Nat} (h : n ≤ 65535) (r : List (List UInt8)) (ok : Bool) : Rds.n (numL 10 n :: r, ok) = (r, ok) := by
  simp [Rds.n, dec_back h, endOk]
theorem xv_cons {n : Nat} (h : n ≤ 4294967295) (r : List (List UInt8)) (ok : Bool) : Rds.xv (numL 16 n :: r, ok) = n := by
  simp [Rds.xv, hex_back h, endV]
theorem x_cons {n : Nat} (h : n ≤ 4294967295) (r : List (List UInt8)) (ok : Bool) : Rds.x (numL 16 n :: r, ok) = (r, ok) := by
  simp [Rds.x, hex_back h, endOk]
theorem t_cons (x : List UInt8) (r : List (List UInt8)) (ok : Bool) : Rds.t (x :: r, ok) = (r, ok) := by
  simp [Rds.t]
theorem h_cons (x : List UInt8) (r : List (List UInt8)) (ok : Bool) : Rds.h (x :: r, ok) = x := rfl
theorem num_line {n : Nat} (h : n ≤ 65535) : numL 10 n ≠ [45] := by
  intro e
  have := dec_back h
  rw [e] at this
  cases this
theorem lv_num {n : Nat} (h : n ≤ 65535) (r : List (List UInt8)) (ok : Bool) : Rds.lv (numL 10 n :: r, ok) = n := by
  unfold Rds.lv
  rw [if_neg (by simpa using num_line h), nv_cons h]
theorem l_num {n : Nat} (h : n ≤ 65535) (r : List (List UInt8)) (ok : Bool) : Rds.l (numL 10 n :: r, ok) = (r, ok) := by
  unfold Rds.l
  rw [if_neg (by simpa using num_line h), n_cons h]
theorem has_r (rd wt : Bool) : hasB (rightsL rd wt) 114 = rd := by cases rd <;> cases wt <;> decide
theorem has_w (rd wt : Bool) : hasB (rightsL rd wt) 119 = wt := by cases rd <;> cases wt <;> decide
theorem rights_noB (rd wt : Bool) : NoB (rightsL rd wt) := by
  intro c hc
  cases rd <;> cases wt <;> simp [rightsL] at hc
  · subst hc; decide
  · subst hc; decide
  · subst hc; decide
  · rcases hc with rfl | rfl <;> decide
theorem kind_noB (k : Int) : NoB (kindW k) := by
  intro c hc e
  subst e
  unfold kindW at hc
  repeat (first | (split at hc; · simp at hc) | simp at hc)
theorem lock_noB : NoB [108, 111, 99, 107, 101, 100] := by
  intro c hc e
  subst e
  simp at hc

theorem kindOf_W : ∀ k : Fin 8, k.val ≠ 0 → kindOf (kindW k.val) = k.val := by decide

theorem parse_of (c : Cf) (x : List UInt8) (r : List (List UInt8)) (hw : c.words = x :: r) (hn : ∀ y ∈ x :: r, NoB y) : parse c.text = parseK (kindOf x) (r, true) := by
  unfold parse Cf.text
  rw [hw, wordsOf_join x r hn, h_cons, t_cons]

theorem parse_text {c : Cf} (h : Shape c) : ∃ r, parse c.text = (c, (r, true)) := by
  cases h with
  | region ix rw rk fr tt rd wt lk h1 h2 h3 h4 h5 =>
    have hw : Cf.words ⟨1, ix, 0, 0, true, rw, fr, tt, rd, wt, rk, lk⟩ = kindW 1 :: ([numL 10 ix, numL 10 rw, numL 16 fr, numL 16 tt, rightsL rd wt, numL 10 rk] ++ (if lk then [[108, 111, 99, 107, 101, 100]] else [])) := by
      simp [Cf.words, dec, hexa]
    have hn : ∀ y ∈ kindW 1 :: ([numL 10 ix, numL 10 rw, numL 16 fr, numL 16 tt, rightsL rd wt, numL 10 rk] ++ (if lk then [[108, 111, 99, 107, 101, 100]] else [])), NoB y := by
      intro y hy
      simp only [List.mem_cons, List.mem_append, List.not_mem_nil, or_false] at hy
      rcases hy with rfl | (rfl | rfl | rfl | rfl | rfl | rfl) | hy
      · exact kind_noB 1
      · exact numL_noB (by omega) (by omega) _
      · exact numL_noB (by omega) (by omega) _
      · exact numL_noB (by omega) (by omega) _
      · exact numL_noB (by omega) (by omega) _
      · exact rights_noB _ _
      · exact numL_noB (by omega) (by omega) _
      · cases lk
        · simp at hy
        · simp at hy
          subst hy
          exact lock_noB
    rw [parse_of _ _ _ hw hn, show kindOf (kindW 1) = 1 from kindOf_W 1 (by decide)]
    unfold parseK parseC
    rw [if_neg (by decide), if_pos rfl]
    simp only [List.cons_append, List.nil_append, nv_cons (show ix ≤ 65535 by omega), n_cons (show ix ≤ 65535 by omega), nv_cons (show rw ≤ 65535 by omega), n_cons (show rw ≤ 65535 by omega), xv_cons (show fr ≤ 4294967295 by omega), x_cons (show fr ≤ 4294967295 by omega), xv_cons (show tt ≤ 4294967295 by omega), x_cons (show tt ≤ 4294967295 by omega), h_cons, t_cons, nv_cons (show rk ≤ 65535 by omega), n_cons (show rk ≤ 65535 by omega), has_r, has_w, Rds.g]
    cases lk
    · exact ⟨_, rfl⟩
    · exact ⟨_, rfl⟩
  | one k ix hk h1 =>
    rcases hk with rfl | rfl
    · rw [parse_of _ (kindW 2) [numL 10 ix] (by simp [Cf.words, dec]) (by
        intro y hy
        simp only [List.mem_cons, List.not_mem_nil, or_false] at hy
        rcases hy with rfl | rfl
        · exact kind_noB _
        · exact numL_noB (by omega) (by omega) _), show kindOf (kindW 2) = 2 from kindOf_W 2 (by decide)]
      simp only [parseK, parseC, nv_cons (show ix ≤ 65535 by omega), n_cons (show ix ≤ 65535 by omega)]
      exact ⟨_, rfl⟩
    · rw [parse_of _ (kindW 4) [numL 10 ix] (by simp [Cf.words, dec]) (by
        intro y hy
        simp only [List.mem_cons, List.not_mem_nil, or_false] at hy
        rcases hy with rfl | rfl
        · exact kind_noB _
        · exact numL_noB (by omega) (by omega) _), show kindOf (kindW 4) = 4 from kindOf_W 4 (by decide)]
      simp only [parseK, parseC, nv_cons (show ix ≤ 65535 by omega), n_cons (show ix ≤ 65535 by omega)]
      exact ⟨_, rfl⟩
  | two k ix wo hk h1 h2 =>
    rcases hk with rfl | rfl
    · rw [parse_of _ (kindW 3) [numL 10 ix, numL 10 wo] (by simp [Cf.words, dec]) (by
        intro y hy
        simp only [List.mem_cons, List.not_mem_nil, or_false] at hy
        rcases hy with rfl | rfl | rfl
        · exact kind_noB _
        · exact numL_noB (by omega) (by omega) _
        · exact numL_noB (by omega) (by omega) _), show kindOf (kindW 3) = 3 from kindOf_W 3 (by decide)]
      simp only [parseK, parseC, nv_cons (show ix ≤ 65535 by omega), n_cons (show ix ≤ 65535 by omega), nv_cons (show wo ≤ 65535 by omega), n_cons (show wo ≤ 65535 by omega)]
      exact ⟨_, rfl⟩
    · rw [parse_of _ (kindW 5) [numL 10 ix, numL 10 wo] (by simp [Cf.words, dec]) (by
        intro y hy
        simp only [List.mem_cons, List.not_mem_nil, or_false] at hy
        rcases hy with rfl | rfl | rfl
        · exact kind_noB _
        · exact numL_noB (by omega) (by omega) _
        · exact numL_noB (by omega) (by omega) _), show kindOf (kindW 5) = 5 from kindOf_W 5 (by decide)]
      simp only [parseK, parseC, nv_cons (show ix ≤ 65535 by omega), n_cons (show ix ≤ 65535 by omega), nv_cons (show wo ≤ 65535 by omega), n_cons (show wo ≤ 65535 by omega)]
      exact ⟨_, rfl⟩
  | route ix ln h1 h2 h3 =>
    have hl : NoB (lineL ln) := by
      unfold lineL
      split
      · intro c hc e; subst e; simp at hc
      · exact numL_noB (by omega) (by omega) _
    rw [parse_of _ (kindW 6) [numL 10 ix, lineL ln] (by simp [Cf.words, dec]) (by
        intro y hy
        simp only [List.mem_cons, List.not_mem_nil, or_false] at hy
        rcases hy with rfl | rfl | rfl
        · exact kind_noB _
        · exact numL_noB (by omega) (by omega) _
        · exact hl), show kindOf (kindW 6) = 6 from kindOf_W 6 (by decide)]
    simp only [parseK, parseC, nv_cons (show ix ≤ 65535 by omega), n_cons (show ix ≤ 65535 by omega)]
    by_cases hneg : ln = -1
    · subst hneg
      exact ⟨_, rfl⟩
    · obtain ⟨n, rfl⟩ : ∃ n : Nat, ln = n := ⟨ln.toNat, by omega⟩
      have : lineL (n : Int) = numL 10 n := by unfold lineL; rw [if_neg (by omega)]; rfl
      rw [this]
      have hl2 := lv_num (show n ≤ 65535 by omega) [] true
      have hl3 := l_num (show n ≤ 65535 by omega) [] true
      refine ⟨[], ?_⟩
      simp only [show ¬ (6 : Int) = 7 by decide, show ¬ (6 : Int) = 1 by decide, show ¬ ((6 : Int) = 3 ∨ (6 : Int) = 5) by decide, if_false, if_true, hl2, hl3]
  | lock =>
    rw [parse_of _ (kindW 7) [] (by simp [Cf.words]) (by
      intro y hy
      simp only [List.mem_cons, List.not_mem_nil, or_false] at hy
      subst hy
      exact kind_noB _), show kindOf (kindW 7) = 7 from kindOf_W 7 (by decide)]
    exact ⟨_, rfl⟩
end Go.Proofs.YtagmoehjcgjnjaaGreatDoor

namespace Go.Proofs.YtagmoehjcgjnjaaGreatDoor
open Go

theorem splitK_short : ∀ (k : Nat) (s : List UInt8), (Lib.splitK [32] 0 k s).length ≤ k + 1 ∧ ∀ l ∈ Lib.splitK [32] 0 k s, l.length ≤ s.length
  | 0, s => by simp [Lib.splitK]
  | k + 1, s => by
    unfold Lib.splitK
    split
    · simp
    · have ih := splitK_short k (s.drop ((Lib.index s [32]).toNat + ([32] : List UInt8).length))
      refine ⟨by rw [List.length_cons]; exact Nat.succ_le_succ ih.1, fun l hl => ?_⟩
      rcases List.mem_cons.1 hl with rfl | hl
      · simp only [List.length_take]; omega
      · have h1 := ih.2 l hl
        have h2 : (s.drop ((Lib.index s [32]).toNat + ([32] : List UInt8).length)).length ≤ s.length := by rw [List.length_drop]; omega
        omega
theorem words_short {s : List UInt8} (h : s.length < 1000000) : Short (wordsOf s) := by
  rw [wordsOf_eq]
  have h1 := splitK_short (s.count 32) s
  have h2 := List.count_le_length (a := (32 : UInt8)) (l := s)
  exact ⟨by omega, fun l hl => by have := h1.2 l hl; omega⟩

theorem parse_fits (s : List UInt8) : (parse s).1.Fits := by
  have h0 : ∀ c : Cf, c.fr = 0 → c.tt = 0 → c.Fits := fun c h1 h2 => ⟨⟨by omega, by omega⟩, ⟨by omega, by omega⟩⟩
  have hC : ∀ k ix p, (parseC k ix p).1.Fits := by
    intro k ix p
    unfold parseC
    split
    · have m1 : p.n.xv ≤ 4294967295 := hex_max _
      have m2 : p.n.x.xv ≤ 4294967295 := hex_max _
      exact ⟨⟨by simp only; omega, by simp only; omega⟩, ⟨by simp only; omega, by simp only; omega⟩⟩
    · split
      · exact h0 _ rfl rfl
      · split <;> exact h0 _ rfl rfl
  unfold parse parseK
  split <;> exact hC _ _ _

/-- A text's command, if there is one. -/
def Says (s : List UInt8) (c : Cf) : Prop := c.Fits ∧ c.right = true ∧ c.text = s

theorem says_one {s : List UInt8} {c d : Cf} (h : Says s c) (k : Says s d) : c = d := by
  obtain ⟨h1, h2, h3⟩ := h
  obtain ⟨k1, k2, k3⟩ := k
  obtain ⟨r, hr⟩ := parse_text (Shape.of c h1 h2)
  obtain ⟨r', hr'⟩ := parse_text (Shape.of d k1 k2)
  rw [h3] at hr
  rw [k3, hr] at hr'
  exact congrArg Prod.fst hr'
theorem read_yes {s : List UInt8} {c : Cf} (h : Says s c) : readC s (parse s) = c ∧ readE s (parse s) = 0 := by
  obtain ⟨h1, h2, h3⟩ := h
  obtain ⟨r, hr⟩ := parse_text (Shape.of c h1 h2)
  rw [h3] at hr
  rw [hr]
  simp [readC, readE, h2, h3]
theorem read_no {s : List UInt8} (h : ∀ c, ¬ Says s c) : readC s (parse s) = .none ∧ readE s (parse s) = 8 := by
  have : ((parse s).2.2 && (parse s).1.right && (parse s).1.text == s) = false := by
    cases hb : ((parse s).2.2 && (parse s).1.right && (parse s).1.text == s) with
    | false => rfl
    | true =>
      simp only [Bool.and_eq_true, beq_iff_eq] at hb
      exact absurd ⟨parse_fits s, hb.1.2, hb.2⟩ (h (parse s).1)
  simp [readC, readE, this]

theorem numL_le {b : Nat} (hb : 2 ≤ b) {k n : Nat} (h : n < b ^ (k + 1)) : (numL b n).length ≤ k + 1 := numL_len b hb k n h
/-- A right command's text is short. -/
theorem text_len {c : Cf} (h : Shape c) : c.text.length ≤ 60 := by
  cases h with
  | region ix rw rk fr tt rd wt lk h1 h2 h3 h4 h5 =>
    have b1 := numL_len 10 (by omega) 2 ix (by omega)
    have b2 := numL_len 10 (by omega) 1 rw (by omega)
    have b3 := numL_len 16 (by omega) 7 fr h4
    have b4 := numL_len 16 (by omega) 7 tt h5
    have b5 := numL_len 10 (by omega) 2 rk (by omega)
    have b6 : (rightsL rd wt).length ≤ 2 := by cases rd <;> cases wt <;> simp [rightsL]
    cases lk
    · simp [Cf.text, Cf.words, Lib.join, kindW, List.intercalate, dec, hexa]
      omega
    · simp [Cf.text, Cf.words, Lib.join, kindW, List.intercalate, dec, hexa]
      omega
  | one k ix hk h1 =>
    have b1 := numL_len 10 (by omega) 2 ix (by omega)
    rcases hk with rfl | rfl <;> (simp [Cf.text, Cf.words, Lib.join, kindW, List.intercalate, dec]; omega)
  | two k ix wo hk h1 h2 =>
    have b1 := numL_len 10 (by omega) 2 ix (by omega)
    have b2 := numL_len 10 (by omega) 1 wo (by omega)
    rcases hk with rfl | rfl <;> (simp [Cf.text, Cf.words, Lib.join, kindW, List.intercalate, dec]; omega)
  | route ix ln h1 h2 h3 =>
    have b1 := numL_len 10 (by omega) 2 ix (by omega)
    have b2 := lineL_len ln h3
    simp [Cf.text, Cf.words, Lib.join, kindW, List.intercalate, dec]
    omega
  | lock => decide
end Go.Proofs.YtagmoehjcgjnjaaGreatDoor

namespace Go.Proofs.YtagmoehjcgjnjaaGreatDoor
open Go

def exC : Cf := ⟨1, 3, 0, 0, true, 1, 256, 511, true, true, 5, true⟩
def exR : Cf := ⟨6, 2, 0, -1, false, 0, 0, 0, false, false, 0, false⟩
def exT : List UInt8 := [114, 101, 103, 105, 111, 110, 32, 51, 32, 49, 32, 49, 48, 48, 32, 49, 102, 102, 32, 114, 119, 32, 53, 32, 108, 111, 99, 107, 101, 100]
def exS : List UInt8 := [114, 111, 117, 116, 101, 32, 50, 32, 45]
def exB : List (List UInt8) := [[116, 97, 107, 101, 32, 48, 50], [116, 97, 107, 101, 32, 32, 50], [103, 105, 118, 101, 32, 50], [108, 111, 99, 107, 32, 110, 111, 119], [114, 101, 103, 105, 111, 110, 32, 51, 32, 49, 32, 48, 49, 48, 48, 32, 49, 102, 102, 32, 114, 119, 32, 53]]

theorem n10_one {n : Nat} (h : n < 10) : numL 10 n = [hx n] := numL_lt h
theorem n16_100 : numL 16 256 = [49, 48, 48] := by
  rw [numL_ge (by decide) (by decide), numL_ge (by decide) (by decide), numL_lt (by decide)]
  decide
theorem n16_1ff : numL 16 511 = [49, 102, 102] := by
  rw [numL_ge (by decide) (by decide), numL_ge (by decide) (by decide), numL_lt (by decide)]
  decide
theorem exC_right : exC.right = true := by decide
theorem exR_right : exR.right = true := by decide
theorem exC_fits : exC.Fits := ⟨⟨by decide, by decide⟩, ⟨by decide, by decide⟩⟩
theorem exR_fits : exR.Fits := ⟨⟨by decide, by decide⟩, ⟨by decide, by decide⟩⟩
theorem exC_text : exC.text = exT := by
  have h : exC.words = [kindW 1, numL 10 3, numL 10 1, numL 16 256, numL 16 511, rightsL true true, numL 10 5, [108, 111, 99, 107, 101, 100]] := rfl
  rw [Cf.text, h, n16_100, n16_1ff, n10_one (by decide), n10_one (by decide), n10_one (by decide)]
  decide
theorem exR_text : exR.text = exS := by
  have h : exR.words = [kindW 6, numL 10 2, lineL (-1)] := rfl
  rw [Cf.text, h, n10_one (by decide)]
  decide
theorem ex_says : Says exT exC := ⟨exC_fits, exC_right, exC_text⟩

theorem readE_text {s : List UInt8} {r : Cf × Rds} (h : parse s = r) (ht : r.1.text ≠ s) : readE s (parse s) = 8 := by
  rw [h]
  unfold readE
  have : (r.1.text == s) = false := by simpa using ht
  rw [this]
  simp
theorem readE_ok {s : List UInt8} {r : Cf × Rds} (h : parse s = r) (ht : r.2.2 = false) : readE s (parse s) = 8 := by
  rw [h]
  unfold readE
  rw [ht]
  simp
theorem bad_p0 : parse [116, 97, 107, 101, 32, 48, 50] = (⟨4, 2, 0, 0, false, 0, 0, 0, false, false, 0, false⟩, ([], true)) := by
  unfold parse
  rw [wordsOf_eq]
  kernel_rfl
theorem bad_p1 : parse [116, 97, 107, 101, 32, 32, 50] = (⟨4, 0, 0, 0, false, 0, 0, 0, false, false, 0, false⟩, ([[50]], false)) := by
  unfold parse
  rw [wordsOf_eq]
  kernel_rfl
theorem bad_p2 : parse [103, 105, 118, 101, 32, 50] = (⟨3, 2, 0, 0, false, 0, 0, 0, false, false, 0, false⟩, ([], false)) := by
  unfold parse
  rw [wordsOf_eq]
  kernel_rfl
theorem bad_p3 : parse [108, 111, 99, 107, 32, 110, 111, 119] = (⟨7, 0, 0, 0, false, 0, 0, 0, false, false, 0, false⟩, ([[110, 111, 119]], true)) := by
  unfold parse
  rw [wordsOf_eq]
  kernel_rfl
theorem bad_p4 : parse [114, 101, 103, 105, 111, 110, 32, 51, 32, 49, 32, 48, 49, 48, 48, 32, 49, 102, 102, 32, 114, 119, 32, 53] = (⟨1, 3, 0, 0, true, 1, 256, 511, true, true, 5, false⟩, ([], true)) := by
  unfold parse
  rw [wordsOf_eq]
  kernel_rfl
theorem bad_0 : readE [116, 97, 107, 101, 32, 48, 50] (parse [116, 97, 107, 101, 32, 48, 50]) = 8 := readE_text bad_p0 (by
  rw [Cf.text, show Cf.words ⟨4, 2, 0, 0, false, 0, 0, 0, false, false, 0, false⟩ = [kindW 4, numL 10 2] from rfl, n10_one (by decide)]
  decide)
theorem bad_1 : readE [116, 97, 107, 101, 32, 32, 50] (parse [116, 97, 107, 101, 32, 32, 50]) = 8 := readE_ok bad_p1 rfl
theorem bad_2 : readE [103, 105, 118, 101, 32, 50] (parse [103, 105, 118, 101, 32, 50]) = 8 := readE_ok bad_p2 rfl
theorem bad_3 : readE [108, 111, 99, 107, 32, 110, 111, 119] (parse [108, 111, 99, 107, 32, 110, 111, 119]) = 8 := readE_text bad_p3 (by decide)
theorem bad_4 : readE [114, 101, 103, 105, 111, 110, 32, 51, 32, 49, 32, 48, 49, 48, 48, 32, 49, 102, 102, 32, 114, 119, 32, 53] (parse [114, 101, 103, 105, 111, 110, 32, 51, 32, 49, 32, 48, 49, 48, 48, 32, 49, 102, 102, 32, 114, 119, 32, 53]) = 8 := readE_text bad_p4 (by
  rw [Cf.text, show Cf.words ⟨1, 3, 0, 0, true, 1, 256, 511, true, true, 5, false⟩ = [kindW 1, numL 10 3, numL 10 1, numL 16 256, numL 16 511, rightsL true true, numL 10 5] from rfl, n16_100, n16_1ff, n10_one (by decide), n10_one (by decide), n10_one (by decide)]
  decide)
theorem bad_all (k : Nat) (h : k < 5) : readE (exB.getD k []) (parse (exB.getD k [])) = 8 := by
  have : k = 0 ∨ k = 1 ∨ k = 2 ∨ k = 3 ∨ k = 4 := by omega
  rcases this with rfl | rfl | rfl | rfl | rfl
  · exact bad_0
  · exact bad_1
  · exact bad_2
  · exact bad_3
  · exact bad_4
theorem bad_short (k : Nat) (h : k < 5) : (exB.getD k []).length < 100 := by
  have : k = 0 ∨ k = 1 ∨ k = 2 ∨ k = 3 ∨ k = 4 := by omega
  rcases this with rfl | rfl | rfl | rfl | rfl <;> decide
end Go.Proofs.YtagmoehjcgjnjaaGreatDoor

namespace Go.Proofs.YtagmoehjcgjnjaaGreatDoor
open Go

/-- A byte of a word. -/
def Good (c : UInt8) : Prop := c.toNat = 45 ∨ (48 ≤ c.toNat ∧ c.toNat ≤ 57) ∨ (97 ≤ c.toNat ∧ c.toNat ≤ 122)
instance (c : UInt8) : Decidable (Good c) := by unfold Good; infer_instance
/-- A byte of a text at a place. -/
def Fine (t : List UInt8) (i : Nat) (c : UInt8) : Prop := Good c ∨ (c = 32 ∧ 0 < i ∧ i + 1 < t.length ∧ ∃ d, t[i - 1]? = some d ∧ d ≠ 32)
def GoodW (l : List UInt8) : Prop := l ≠ [] ∧ ∀ c ∈ l, Good c

theorem good_ne {c : UInt8} (h : Good c) : c ≠ 32 := by
  rintro rfl
  revert h
  decide
theorem join_ne (y : List UInt8) (r : List (List UInt8)) (h : y ≠ []) : Lib.join (y :: r) [32] ≠ [] := by
  rw [Lib.join_cons]
  simp [h]
theorem join_fine : ∀ (r : List (List UInt8)) (x : List UInt8), (∀ y ∈ x :: r, GoodW y) → ∀ (i : Nat) (c : UInt8), (Lib.join (x :: r) [32])[i]? = some c → Fine (Lib.join (x :: r) [32]) i c
  | [], x, h, i, c, hc => by
    rw [Lib.join_one] at hc ⊢
    exact .inl ((h x (by simp)).2 c (List.mem_of_getElem? hc))
  | y :: r, x, h, i, c, hc => by
    have hx := h x (by simp)
    have hy := h y (by simp)
    have hne := join_ne y r hy.1
    have hl : 0 < (Lib.join (y :: r) [32]).length := List.length_pos_iff.2 hne
    have hxl : 0 < x.length := List.length_pos_iff.2 hx.1
    rw [join_two] at hc ⊢
    rcases Nat.lt_trichotomy i x.length with hi | hi | hi
    · rw [List.getElem?_append_left hi] at hc
      exact .inl (hx.2 c (List.mem_of_getElem? hc))
    · subst hi
      rw [List.getElem?_append_right (Nat.le_refl _), Nat.sub_self] at hc
      simp at hc
      subst hc
      refine .inr ⟨rfl, hxl, by simp; omega, ?_⟩
      have hj : x.length - 1 < x.length := by omega
      refine ⟨x[x.length - 1], ?_, good_ne (hx.2 _ (List.getElem_mem hj))⟩
      rw [List.getElem?_append_left hj, List.getElem?_eq_getElem hj]
    · obtain ⟨k, rfl⟩ : ∃ k, i = x.length + (k + 1) := ⟨i - x.length - 1, by omega⟩
      rw [List.getElem?_append_right (by omega), show x.length + (k + 1) - x.length = k + 1 by omega, List.getElem?_cons_succ] at hc
      rcases join_fine r y (fun z hz => h z (by simp at hz ⊢; exact .inr hz)) k c hc with hg | ⟨h1, h2, h3, d, h4, h5⟩
      · exact .inl hg
      · refine .inr ⟨h1, by omega, by simp; omega, d, ?_, h5⟩
        obtain ⟨j, rfl⟩ : ∃ j, k = j + 1 := ⟨k - 1, by omega⟩
        rw [List.getElem?_append_right (by omega), show x.length + (j + 1 + 1) - 1 - x.length = j + 1 by omega, List.getElem?_cons_succ]
        simpa using h4

theorem hx_good : ∀ d, d < 16 → Good (hx d) := by decide
theorem numL_good {b : Nat} (hb : 2 ≤ b) (hb2 : b ≤ 16) (n : Nat) : GoodW (numL b n) := by
  refine ⟨numL_ne b n, ?_⟩
  induction n using Nat.strongRecOn with
  | ind n ih =>
    intro c hc
    by_cases hn : n < b
    · rw [numL_lt hn] at hc
      simp at hc
      subst hc
      exact hx_good n (by omega)
    · rw [numL_ge hb (by omega)] at hc
      rcases List.mem_append.1 hc with h | h
      · exact ih (n / b) (Nat.div_lt_self (by omega) (by omega)) c h
      · simp at h
        subst h
        exact hx_good _ (by have := Nat.mod_lt n (show b > 0 by omega); omega)
theorem good_of (l : List UInt8) (h : l ≠ [] ∧ l.all (fun c => decide (Good c)) = true) : GoodW l := ⟨h.1, fun c hc => by simpa using List.all_eq_true.1 h.2 c hc⟩
theorem kind_good (k : Int) : GoodW (kindW k) := by
  unfold kindW
  repeat' split
  all_goals exact good_of _ (by decide)
theorem rights_good (rd wt : Bool) : GoodW (rightsL rd wt) := by
  cases rd <;> cases wt <;> exact good_of _ (by decide)
theorem line_good (n : Int) : GoodW (lineL n) := by
  unfold lineL
  split
  · exact good_of _ (by decide)
  · exact numL_good (by omega) (by omega) _
theorem words_good (c : Cf) : ∃ x r, c.words = x :: r ∧ ∀ y ∈ x :: r, GoodW y := by
  have h1 : ∀ n, GoodW (dec n) := fun n => numL_good (by omega) (by omega) _
  have h2 : ∀ n, GoodW (hexa n) := fun n => numL_good (by omega) (by omega) _
  unfold Cf.words
  split
  · refine ⟨_, _, rfl, ?_⟩
    intro y hy
    have h3 : GoodW [108, 111, 99, 107, 101, 100] := good_of _ (by decide)
    cases hlk : c.lk
    · rw [hlk] at hy
      simp at hy
      rcases hy with rfl | rfl | rfl | rfl | rfl | rfl | rfl
      · exact kind_good _
      · exact h1 _
      · exact h1 _
      · exact h2 _
      · exact h2 _
      · exact rights_good _ _
      · exact h1 _
    · rw [hlk] at hy
      simp at hy
      rcases hy with rfl | rfl | rfl | rfl | rfl | rfl | rfl | rfl
      · exact kind_good _
      · exact h1 _
      · exact h1 _
      · exact h2 _
      · exact h2 _
      · exact rights_good _ _
      · exact h1 _
      · exact h3
  · split
    · refine ⟨_, _, rfl, ?_⟩
      intro y hy
      simp at hy
      rcases hy with rfl | rfl
      · exact kind_good _
      · exact h1 _
    · split
      · refine ⟨_, _, rfl, ?_⟩
        intro y hy
        simp at hy
        rcases hy with rfl | rfl | rfl
        · exact kind_good _
        · exact h1 _
        · exact h1 _
      · split
        · refine ⟨_, _, rfl, ?_⟩
          intro y hy
          simp at hy
          rcases hy with rfl | rfl | rfl
          · exact kind_good _
          · exact h1 _
          · exact line_good _
        · refine ⟨_, _, rfl, ?_⟩
          intro y hy
          simp at hy
          subst hy
          exact kind_good _
theorem text_fine (c : Cf) (i : Nat) (x : UInt8) (h : c.text[i]? = some x) : Fine c.text i x := by
  obtain ⟨y, r, hw, hg⟩ := words_good c
  unfold Cf.text at h ⊢
  rw [hw] at h ⊢
  exact join_fine r y hg i x h
theorem text_ne (c : Cf) : c.text ≠ [] := by
  obtain ⟨y, r, hw, hg⟩ := words_good c
  unfold Cf.text
  rw [hw]
  exact join_ne y r (hg y (by simp)).1
end Go.Proofs.YtagmoehjcgjnjaaGreatDoor

namespace Go.Proofs.YtagmoehjcgjnjaaGreatDoor
open Go

def Cf.withIx (c : Cf) (n : Int) : Cf := { c with ix := n }
def Cf.withWo (c : Cf) (n : Int) : Cf := { c with wo := n }
def Cf.withLn (c : Cf) (n : Int) : Cf := { c with ln := n }
def Cf.withRk (c : Cf) (n : Int) : Cf := { c with rk := n }
def Cf.withKd (c : Cf) (n : Int) : Cf := { c with kd := n }

theorem more_ix {c : Cf} (h : Shape c) {n : Int} (hn : n ≠ 0) (hk : c.kd = 7) : (c.withIx n).right = false := by
  cases h with
  | region => simp at hk
  | one k ix hk2 => simp at hk; omega
  | two k ix wo hk2 => simp at hk; omega
  | route => simp at hk
  | lock => simp [Cf.right, Cf.withIx, Cf.same, Cf.named, hn]
theorem more_wo {c : Cf} (h : Shape c) {n : Int} (hn : n ≠ 0) (h3 : c.kd ≠ 3) (h5 : c.kd ≠ 5) : (c.withWo n).right = false := by
  cases h with
  | region => simp [Cf.right, Cf.withWo, Cf.same, Cf.named, hn]
  | one k ix hk2 => rcases hk2 with rfl | rfl <;> simp [Cf.right, Cf.withWo, Cf.same, Cf.named, hn]
  | two k ix wo hk2 => simp at h3 h5; omega
  | route => simp [Cf.right, Cf.withWo, Cf.same, Cf.named, hn]
  | lock => simp [Cf.right, Cf.withWo, Cf.same, Cf.named, hn]
theorem more_ln {c : Cf} (h : Shape c) {n : Int} (hn : n ≠ 0) (h6 : c.kd ≠ 6) : (c.withLn n).right = false := by
  cases h with
  | region => simp [Cf.right, Cf.withLn, Cf.same, Cf.named, hn]
  | one k ix hk2 => rcases hk2 with rfl | rfl <;> simp [Cf.right, Cf.withLn, Cf.same, Cf.named, hn]
  | two k ix wo hk2 => rcases hk2 with rfl | rfl <;> simp [Cf.right, Cf.withLn, Cf.same, Cf.named, hn]
  | route => simp at h6
  | lock => simp [Cf.right, Cf.withLn, Cf.same, Cf.named, hn]
theorem more_rk {c : Cf} (h : Shape c) {n : Int} (hn : n ≠ 0) (h1 : c.kd ≠ 1) : (c.withRk n).right = false := by
  cases h with
  | region => simp at h1
  | one k ix hk2 => rcases hk2 with rfl | rfl <;> simp [Cf.right, Cf.withRk, Cf.same, Cf.named, hn]
  | two k ix wo hk2 => rcases hk2 with rfl | rfl <;> simp [Cf.right, Cf.withRk, Cf.same, Cf.named, hn]
  | route => simp [Cf.right, Cf.withRk, Cf.same, Cf.named, hn]
  | lock => simp [Cf.right, Cf.withRk, Cf.same, Cf.named, hn]

/-- The same command, of another kind. -/
theorem other_kd {c : Cf} (h : Shape c) {j : Int} (hj : (c.withKd j).right = true) (hne : j ≠ c.kd) :
    1 ≤ j ∧ j ≤ 7 ∧ (c.wo = 0 ∨ j = 3 ∨ j = 5) ∧ (c.ln = 0 ∨ j = 6) ∧ (c.ix = 0 ∨ j ≠ 7) ∧ c.on = false ∧ j ≠ 1 := by
  have h12 : 1 ≤ j ∧ j ≤ 7 := by
    simp only [Cf.right, Bool.and_eq_true] at hj
    exact ⟨of_decide_eq_true hj.1.1.1.1, of_decide_eq_true hj.1.1.1.2⟩
  have hj7 : j = 1 ∨ j = 2 ∨ j = 3 ∨ j = 4 ∨ j = 5 ∨ j = 6 ∨ j = 7 := by omega
  cases h with
  | region ix rw rk fr tt rd wt lk =>
    exfalso
    rcases hj7 with rfl | rfl | rfl | rfl | rfl | rfl | rfl <;> simp [Cf.right, Cf.withKd, Cf.same, Cf.named] at hj hne
  | one k ix hk =>
    rcases hk with rfl | rfl <;> rcases hj7 with rfl | rfl | rfl | rfl | rfl | rfl | rfl <;> simp [Cf.right, Cf.withKd, Cf.same, Cf.named, inB] at hj hne ⊢ <;> omega
  | two k ix wo hk =>
    rcases hk with rfl | rfl <;> rcases hj7 with rfl | rfl | rfl | rfl | rfl | rfl | rfl <;> simp [Cf.right, Cf.withKd, Cf.same, Cf.named, inB] at hj hne ⊢ <;> omega
  | route ix ln h1 h2 h3 =>
    rcases hj7 with rfl | rfl | rfl | rfl | rfl | rfl | rfl <;> simp [Cf.right, Cf.withKd, Cf.same, Cf.named, inB] at hj hne ⊢ <;> omega
  | lock =>
    rcases hj7 with rfl | rfl | rfl | rfl | rfl | rfl | rfl <;> simp [Cf.right, Cf.withKd, Cf.same, Cf.named, inB] at hj hne ⊢

/-- Texts are alike just where commands are. -/
theorem text_same {a b : Cf} (ha : a.Fits) (hb : b.Fits) (ra : a.right = true) (rb : b.right = true) : (a.text == b.text) = a.same b := by
  rw [Bool.eq_iff_iff, beq_iff_eq, Cf.same_iff]
  exact ⟨fun h => says_one (s := b.text) ⟨ha, ra, h⟩ ⟨hb, rb, rfl⟩, fun h => by rw [h]⟩
end Go.Proofs.YtagmoehjcgjnjaaGreatDoor
