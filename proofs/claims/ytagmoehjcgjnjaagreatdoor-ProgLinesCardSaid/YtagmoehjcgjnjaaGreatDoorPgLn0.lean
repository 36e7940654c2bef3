/- Plain laws of lines, for the statement ProgLines. No condition. -/
import Derived.Test.YtagmoehjcgjnjaaGreatDoorPgB0
namespace Go.Proofs.YtagmoehjcgjnjaaGreatDoor
open Go Go.RowKit

theorem linesOf_cut (t r : List UInt8) (h : NoC 10 t) : linesOf (t ++ 10 :: r) = t :: linesOf r := by
  rw [linesOf_eq, linesOf_eq, List.count_append, noC_count h, List.count_cons_self, Nat.zero_add]
  simp only [Lib.splitK, Lib.index_one, ixc_app 10 _ t h]
  rw [if_neg (by simp)]
  have h1 : (t ++ 10 :: r).take (((t.length : Int)).toNat + 0) = t := by simp
  have h2 : (t ++ 10 :: r).drop (((t.length : Int)).toNat + ([10] : List UInt8).length) = r := by simp
  rw [h1, h2]
theorem linesOf_last (t : List UInt8) (h : NoC 10 t) : linesOf t = [t] := by
  have := linesOf_join t [] (fun y hy => by simp at hy; subst hy; exact h)
  rwa [Lib.join_one] at this
theorem idxG_ge {p : List UInt8 → Bool} : ∀ (l : List (List UInt8)) (k : Int), idxG p l k = -1 ∨ k ≤ idxG p l k
  | [], _ => .inl rfl
  | y :: r, k => by
    unfold idxG
    split
    · exact .inr (Int.le_refl _)
    · rcases idxG_ge r (k + 1) with h | h
      · exact .inl h
      · exact .inr (by omega)
/-- How far one has come in a text: j lines are behind, the next begins at f, up to i no byte 10 came; k is the first bad line. -/
structure Fr (s : List UInt8) (k : Int) (j f i : Nat) : Prop where
  fi : f ≤ i
  il : i ≤ s.length
  no : NoC 10 ((s.drop f).take (i - f))
  ix : idxG badL (linesOf (s.drop f)) j = k
theorem Fr.start {s : List UInt8} {k : Int} (h : idxG badL (linesOf s) 0 = k) : Fr s k 0 0 0 :=
  ⟨Nat.le_refl _, Nat.zero_le _, fun d hd => by simp at hd, h⟩
theorem Fr.next {s : List UInt8} {k : Int} {j f i : Nat} (h : Fr s k j f i) (hi : i < s.length) (hne : s[i] ≠ 10) : Fr s k j f (i + 1) := by
  refine ⟨by have := h.fi; omega, hi, ?_, h.ix⟩
  have hfi := h.fi
  have e : (s.drop f).take (i + 1 - f) = (s.drop f).take (i - f) ++ [s[i]] := by
    rw [show i + 1 - f = (i - f) + 1 by omega, List.take_succ_eq_append_getElem (by rw [List.length_drop]; omega)]
    congr 2
    rw [List.getElem_drop]
    congr 1
    omega
  rw [e]
  intro d hd
  rcases List.mem_append.1 hd with hd | hd
  · exact h.no d hd
  · simp at hd; subst hd; exact hne
theorem Fr.cut {s : List UInt8} {k : Int} {j f i : Nat} (h : Fr s k j f i) (hi : i < s.length) (h10 : s[i] = 10) (hk : 0 ≤ k) :
    (badL ((s.drop f).take (i - f)) = true → k = j) ∧ (badL ((s.drop f).take (i - f)) = false → Fr s k (j + 1) (i + 1) (i + 1) ∧ k ≠ j) := by
  have hfi := h.fi
  have e : s.drop f = (s.drop f).take (i - f) ++ 10 :: s.drop (i + 1) := by
    have e1 : (s.drop f).drop (i - f) = s.drop i := by rw [List.drop_drop]; congr 1; omega
    have e2 : s.drop i = s[i] :: s.drop (i + 1) := List.drop_eq_getElem_cons hi
    rw [← h10, ← e2, ← e1, List.take_append_drop]
  have hx := h.ix
  rw [e, linesOf_cut _ _ h.no] at hx
  unfold idxG at hx
  constructor
  · intro hb
    rw [hb, if_pos rfl] at hx
    exact hx.symm
  · intro hb
    rw [hb, if_neg (by simp)] at hx
    refine ⟨⟨Nat.le_refl _, hi, fun d hd => by simp at hd, by rw [← hx]; rfl⟩, ?_⟩
    rcases idxG_ge (linesOf (s.drop (i + 1))) ((j : Int) + 1) with hg | hg <;> rw [hx] at hg <;> omega
theorem Fr.last {s : List UInt8} {k : Int} {j f : Nat} (h : Fr s k j f s.length) (hk : 0 ≤ k) : badL ((s.drop f).take (s.length - f)) = true ∧ k = j := by
  have e : (s.drop f).take (s.length - f) = s.drop f := List.take_of_length_le (by rw [List.length_drop]; exact Nat.le_refl _)
  have hx := h.ix
  have hn := h.no
  rw [e] at hn ⊢
  rw [linesOf_last _ hn] at hx
  unfold idxG at hx
  cases hb : badL (s.drop f) with
  | true => rw [hb, if_pos rfl] at hx; exact ⟨rfl, hx.symm⟩
  | false => rw [hb, if_neg (by simp)] at hx; unfold idxG at hx; omega

theorem joinC_snoc (c : UInt8) (y : List UInt8) : ∀ (xs : List (List UInt8)), xs ≠ [] → Lib.join (xs ++ [y]) [c] = Lib.join xs [c] ++ c :: y
  | [], h => absurd rfl h
  | [x], _ => by
    show Lib.join (x :: y :: []) [c] = _
    rw [joinC_two, Lib.join_one, Lib.join_one]
  | x :: z :: r, _ => by
    have ih := joinC_snoc c y (z :: r) (by simp)
    show Lib.join (x :: z :: (r ++ [y])) [c] = _
    rw [joinC_two, joinC_two]
    show x ++ c :: Lib.join ((z :: r) ++ [y]) [c] = _
    rw [ih]
    simp
theorem cut_any (l : List UInt8) (f k : Nat) : (ByteArray.mk l.toArray).extract f k = ⟨((l.drop f).take (k - f)).toArray⟩ := by
  apply ByteArray.ext
  simp only [ByteArray.data_extract]
  apply Array.ext'
  simp [List.take_drop]
theorem byte_at (t : List UInt8) (i : Nat) (h : i < (ByteArray.mk t.toArray).size) (h' : i < t.length) : (ByteArray.mk t.toArray)[i]'h = t[i] := by
  show t.toArray[i] = t[i]
  simp
theorem byte_is (t : List UInt8) (i : Nat) (h : i < (ByteArray.mk t.toArray).size) (h' : i < t.length) (h10 : t[i] = 10) : ((((ByteArray.mk t.toArray)[i]'h).toNat : Int) != 10) = false := by
  rw [byte_at t i h h', h10]
  rfl
theorem byte_not (t : List UInt8) (i : Nat) (h : i < (ByteArray.mk t.toArray).size) (h' : i < t.length) (h10 : t[i] ≠ 10) : ((((ByteArray.mk t.toArray)[i]'h).toNat : Int) != 10) = true := by
  rw [byte_at t i h h']
  have : t[i].toNat ≠ 10 := fun e => h10 (UInt8.toNat_inj.1 e)
  simp
  omega
/-- The text of the first so many. -/
def allT (l : List In) (k : Nat) : List UInt8 := Lib.join ((l.take k).map In.line) [10]
theorem allT_first (l : List In) (h : 0 < l.length) : allT l 1 = l[0].line := by
  cases l with
  | nil => cases h
  | cons x r => simp [allT, Lib.join_one]
theorem allT_next (l : List In) (k : Nat) (h : k < l.length) (h0 : 0 < k) : allT l (k + 1) = allT l k ++ 10 :: l[k].line := by
  unfold allT
  rw [List.take_succ_eq_append_getElem h, List.map_append]
  exact joinC_snoc 10 _ _ (by
    intro e
    have h2 := congrArg List.length e
    rw [List.length_map, List.length_take, List.length_nil] at h2
    omega)
theorem str_two (a b : List UInt8) : Value.string ((ByteArray.mk a.toArray) ++ (ByteArray.mk b.toArray)) = str (a ++ b) := by
  exact congrArg Value.string (ByteArray.ext (by simp [ByteArray.data_append]))
theorem str_nl (a b : List UInt8) : Value.string ((ByteArray.mk a.toArray) ++ (ByteArray.mk #[10]) ++ (ByteArray.mk b.toArray)) = str (a ++ 10 :: b) := by
  exact congrArg Value.string (ByteArray.ext (by simp [ByteArray.data_append]))
theorem allT_len {l : List In} (hf : ∀ x ∈ l, x.Fits) (h : okR l = true) (k : Nat) (hk : k ≤ l.length) : (allT l k).length ≤ 200000 := by
  obtain ⟨hl, hx⟩ := okR_iff.1 h
  unfold allT
  have := joins_len 10 600 ((l.take k).map In.line) (fun y hy => by
    obtain ⟨x, hm, rfl⟩ := List.mem_map.1 hy
    have hm' := List.mem_of_mem_take hm
    exact line_len (ShI.of x (hf x hm') (hx x hm').1))
  rw [List.length_map, List.length_take] at this
  have h2 : min k l.length ≤ 64 := by omega
  have := Nat.mul_le_mul_right 601 h2
  omega
theorem allT_all (l : List In) : allT l l.length = showT l := by unfold allT showT; rw [List.take_length]
/-- A text whose Read answers ErrSyntax has a first bad line. -/
theorem rd_eight {s : List UInt8} (h : (rdA s).2.2 = 8) : ∃ k : Int, 0 ≤ k ∧ idxG badL (linesOf s) 0 = k ∧ (rdA s).2.1 = k + 1 := by
  by_cases hs : s = []
  · subst hs; cases h
  · by_cases hb : idxG badL (linesOf s) 0 = -1
    · by_cases hl : 64 < (linesOf s).length
      · rw [rd_long hs hb hl] at h; cases h
      · by_cases h0 : 0 ≤ idxF (In.far (linesOf s).length) ((linesOf s).map oneX) 0
        · rw [rd_far hs hb hl rfl h0] at h; cases h
        · rw [rd_ok hs hb hl rfl h0] at h; cases h
    · have hn := idxG_nn _ _ (by omega) hb
      obtain ⟨k, hk⟩ := Int.eq_ofNat_of_zero_le hn
      exact ⟨k, by omega, hk, by rw [rd_bad hs hk]⟩
end Go.Proofs.YtagmoehjcgjnjaaGreatDoor
