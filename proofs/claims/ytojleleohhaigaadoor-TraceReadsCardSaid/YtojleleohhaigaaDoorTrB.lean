/- Plain laws of words and numbers, for package trace. No condition. -/
import Derived.Test.YtojleleohhaigaaDoorTrP
import Derived.Lib.SplitLaws
import Derived.Lib.IndexBytes
namespace Go.Proofs.YtojleleohhaigaaDoor
open Go

theorem uintM_snoc (M : Nat) (c : UInt8) : ∀ (l : List UInt8) (acc u : Nat), Lib.parseUintM M acc l = .ok u → Lib.parseUintM M acc (l ++ [c]) = Lib.parseUintM M u [c]
  | [], acc, u, h => by
    simp only [Lib.parseUintM] at h
    injection h with h
    subst h
    rfl
  | d :: r, acc, u, h => by
    simp only [Lib.parseUintM, List.cons_append] at h ⊢
    split at h
    · rename_i h1
      rw [if_pos h1]
      split at h
      · cases h
      · rename_i h2
        rw [if_neg h2]
        split at h
        · cases h
        · rename_i h3
          rw [if_neg h3]
          have := uintM_snoc M c r _ u h
          simpa only [Lib.parseUintM] using this
    · cases h
theorem uintM_one {M acc d : Nat} (hd : d < 10) (ha : acc < 1844674407370955162) (hM : acc * 10 + d ≤ M) : Lib.parseUintM M acc [hx d] = .ok (acc * 10 + d) := by
  have h1 : (hx d).toNat = 48 + d := by rw [hx_toNat (by omega), if_pos hd]
  simp only [Lib.parseUintM, h1]
  rw [if_pos (by omega), if_neg (by omega), if_neg (by omega), show 48 + d - 48 = d by omega]
theorem uintM_num (M : Nat) (hM : M < 1844674407370955162) (n : Nat) : n ≤ M → Lib.parseUintM M 0 (numL 10 n) = .ok n := by
  induction n using Nat.strongRecOn with
  | ind n ih =>
    intro h
    by_cases hn : n < 10
    · rw [numL_lt hn, uintM_one hn (by omega) (by omega)]
      simp
    · rw [numL_ge (by omega) (by omega), uintM_snoc M _ _ _ _ (ih (n / 10) (by omega) (by omega)), uintM_one (by omega) (by omega) (by omega)]
      congr 1
      omega
theorem numL_ne (b n : Nat) : numL b n ≠ [] := by
  rw [numL]
  split <;> simp
theorem dec_back {n : Nat} (h : n ≤ 4294967295) : parseDec (numL 10 n) = .ok n := by
  unfold parseDec Lib.parseUintB
  rw [if_neg (numL_ne _ _)]
  exact uintM_num _ (by decide) n (by omega)

theorem hexP_snoc (c : UInt8) : ∀ (l : List UInt8) (acc u : Nat), hexP acc l = .ok u → hexP acc (l ++ [c]) = hexP u [c]
  | [], acc, u, h => by
    simp only [hexP] at h
    injection h with h
    subst h
    rfl
  | d :: r, acc, u, h => by
    simp only [hexP, List.cons_append] at h ⊢
    split at h
    · cases h
    · rename_i e h1
      split at h
      · cases h
      · rename_i h2
        rw [if_neg h2]
        have := hexP_snoc c r _ u h
        simpa only [hexP] using this
theorem hexDig_hx : ∀ d, d < 16 → hexDig (hx d) = some d := by decide
theorem hexP_one {acc d : Nat} (hd : d < 16) (hM : acc * 16 + d ≤ 4294967295) : hexP acc [hx d] = .ok (acc * 16 + d) := by
  simp only [hexP, hexDig_hx d hd]
  rw [if_neg (by omega)]
theorem hexP_num (n : Nat) : n ≤ 4294967295 → hexP 0 (numL 16 n) = .ok n := by
  induction n using Nat.strongRecOn with
  | ind n ih =>
    intro h
    by_cases hn : n < 16
    · rw [numL_lt hn, hexP_one hn (by omega)]
      simp
    · rw [numL_ge (by omega) (by omega), hexP_snoc _ _ _ _ (ih (n / 16) (by omega) (by omega)), hexP_one (by omega) (by omega)]
      congr 1
      omega
theorem hex_back {n : Nat} (h : n ≤ 4294967295) : parseHex (numL 16 n) = .ok n := by
  unfold parseHex
  rw [if_neg (numL_ne _ _)]
  exact hexP_num n h

/-- No blank is in it. -/
def NoB (l : List UInt8) : Prop := ∀ c ∈ l, c ≠ 32
theorem hx_noB : ∀ d, d < 16 → hx d ≠ 32 := by decide
theorem numL_noB {b : Nat} (hb : 2 ≤ b) (hb2 : b ≤ 16) (n : Nat) : NoB (numL b n) := by
  induction n using Nat.strongRecOn with
  | ind n ih =>
    intro c hc
    by_cases hn : n < b
    · rw [numL_lt hn] at hc
      simp at hc
      subst hc
      exact hx_noB n (by omega)
    · rw [numL_ge hb (by omega)] at hc
      rcases List.mem_append.1 hc with h | h
      · exact ih (n / b) (Nat.div_lt_self (by omega) (by omega)) c h
      · simp at h
        subst h
        exact hx_noB _ (by have := Nat.mod_lt n (show b > 0 by omega); omega)

theorem ixb_app (t : List UInt8) : ∀ (x : List UInt8), NoB x → Lib.indexByte (x ++ 32 :: t) 32 = x.length
  | [], _ => by simp [Lib.indexByte]
  | c :: r, h => by
    have h1 : (c == 32) = false := by simpa using h c (by simp)
    have h2 := ixb_app t r (fun d hd => h d (by simp [hd]))
    simp only [List.cons_append, Lib.indexByte, h1, h2]
    rw [if_neg (by simp), if_neg (by simp)]
    simp
theorem noB_count {x : List UInt8} (h : NoB x) : x.count 32 = 0 := List.count_eq_zero.2 fun hm => h 32 hm rfl
theorem join_two (x y : List UInt8) (r : List (List UInt8)) : Lib.join (x :: y :: r) [32] = x ++ 32 :: Lib.join (y :: r) [32] := by
  rw [Lib.join_cons, Lib.join_cons]
  simp [Lib.joinTail]
theorem splitK_join : ∀ (r : List (List UInt8)) (x : List UInt8), (∀ y ∈ x :: r, NoB y) → Lib.splitK [32] 0 ((Lib.join (x :: r) [32]).count 32) (Lib.join (x :: r) [32]) = x :: r
  | [], x, h => by
    rw [Lib.join_one, noB_count (h x (by simp))]
    rfl
  | y :: r, x, h => by
    have hx := h x (by simp)
    rw [join_two, List.count_append, noB_count hx, List.count_cons_self, Nat.zero_add]
    simp only [Lib.splitK, Lib.index_one, ixb_app _ x hx]
    rw [if_neg (by simp)]
    have h1 : (x ++ 32 :: Lib.join (y :: r) [32]).take (((x.length : Int)).toNat + 0) = x := by simp
    have h2 : (x ++ 32 :: Lib.join (y :: r) [32]).drop (((x.length : Int)).toNat + ([32] : List UInt8).length) = Lib.join (y :: r) [32] := by
      simp
    rw [h1, h2, splitK_join r y (fun z hz => h z (by simp at hz ⊢; exact .inr hz))]
open Go Go.RowKit

/-- A text's words, parted by one blank. -/
def wordsB (s : List UInt8) : List ByteArray := Lib.splitB ⟨#[32]⟩ 0 (Lib.countB ⟨s.toArray⟩ ⟨#[32]⟩) ⟨s.toArray⟩
def wordsOf (s : List UInt8) : List (List UInt8) := (wordsB s).map (·.data.toList)

theorem wordsOf_length (s : List UInt8) : (wordsOf s).length = Lib.countB ⟨s.toArray⟩ ⟨#[32]⟩ + 1 := by
  unfold wordsOf wordsB
  rw [List.length_map, Lib.splitB_all _ (by decide) 0 _ _ rfl]
theorem wordsB_str (s : List UInt8) : (wordsB s).map Value.string = (wordsOf s).map str := by
  unfold wordsOf
  rw [List.map_map]
  refine List.map_congr_left fun b _ => ?_
  simp

open Go

theorem wordsOf_eq (s : List UInt8) : wordsOf s = Lib.splitK [32] 0 (s.count 32) s := by
  unfold wordsOf wordsB
  rw [Lib.splitB_data]
  have : Lib.countB ⟨s.toArray⟩ ⟨#[32]⟩ = s.count 32 := by
    unfold Lib.countB
    rw [show (ByteArray.mk #[32]).data.toList = [32] from rfl, Lib.count_one]
  rw [this]
theorem wordsOf_join (x : List UInt8) (r : List (List UInt8)) (h : ∀ y ∈ x :: r, NoB y) : wordsOf (Lib.join (x :: r) [32]) = x :: r := by
  rw [wordsOf_eq, splitK_join r x h]

open Go

theorem splitK_short : ∀ (k : Nat) (s : List UInt8), (Lib.splitK [32] 0 k s).length ≤ k + 1 ∧ ∀ l ∈ Lib.splitK [32] 0 k s, l.length ≤ s.length
  | 0, s => by simp [Lib.splitK]
  | k + 1, s => by
    unfold Lib.splitK
    split
    · simp
    · have ih := splitK_short k (s.drop ((Lib.index s [32]).toNat + ([32] : List UInt8).length))
      refine ⟨by rw [List.length_cons]; exact Nat.succ_le_succ ih.1, fun l hl => ?_⟩
      rcases List.mem_cons.1 hl with rfl | hl
      · simp only [List.length_take]; omega
      · have h1 := ih.2 l hl
        have h2 : (s.drop ((Lib.index s [32]).toNat + ([32] : List UInt8).length)).length ≤ s.length := by rw [List.length_drop]; omega
        omega
end Go.Proofs.YtojleleohhaigaaDoor
