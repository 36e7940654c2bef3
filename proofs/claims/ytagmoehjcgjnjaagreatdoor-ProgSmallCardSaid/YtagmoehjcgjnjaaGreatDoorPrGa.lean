/- Plain laws: what the document's One and Read find is what the program's find. No program, no condition. The document's Lines of prog, walked. Condition: the text is short. -/
import Derived.Test.YtagmoehjcgjnjaaGreatDoorPgW0
import Derived.Test.YtagmoehjcgjnjaaGreatDoorCrG
namespace Go.Proofs.YtagmoehjcgjnjaaGreatDoor
open Go Go.RowKit

/-- The instruction that the document's One makes of a line. -/
def rIn (s : List UInt8) : In :=
  let a := wAt (rWords s)
  let op := opOf (a 0)
  if op = 1 ∨ op = 3 then ⟨op, rOf 10 1 (a 1), mod32 (rOf 16 8 (a 2)), a 3 == [43], 0, 0, Cf.zero⟩
  else if op = 2 then ⟨2, rOf 10 1 (a 1), mod32 (rOf 16 8 (a 2)), a 3 == [43], mod32 (rOf 16 8 (if a 3 == [43] then a 4 else a 3)), 0, Cf.zero⟩
  else if op = 5 then ⟨5, 0, 0, false, mod32 (rOf 16 8 (a 1)), rOf 10 2 (a 2), Cf.zero⟩
  else if op = 6 then ⟨6, 0, 0, false, 0, rOf 10 2 (a 1), Cf.zero⟩
  else if op = 7 then ⟨7, 0, 0, false, mod32 (rOf 10 4 (a 1)), 0, Cf.zero⟩
  else if op = 8 then ⟨8, 0, 0, false, mod32 (rOf 16 2 (a 1)), 0, Cf.zero⟩
  else if op = 9 then ⟨9, 0, 0, false, 0, 0, if 5 < s.length then readC (s.drop 5) (parse (s.drop 5)) else Cf.zero⟩
  else In.only op
theorem rIn_fits (s : List UInt8) : (rIn s).Fits := by
  have z : (0 : Int) ≤ 0 ∧ (0 : Int) < 4294967296 := by decide
  unfold rIn
  simp only
  split
  · exact ⟨mod32_fits _, z, Cf.zero_fits⟩
  · split
    · exact ⟨mod32_fits _, mod32_fits _, Cf.zero_fits⟩
    · split
      · exact ⟨z, mod32_fits _, Cf.zero_fits⟩
      · split
        · exact ⟨z, z, Cf.zero_fits⟩
        · split
          · exact ⟨z, mod32_fits _, Cf.zero_fits⟩
          · split
            · exact ⟨z, mod32_fits _, Cf.zero_fits⟩
            · split
              · refine ⟨z, z, ?_⟩
                split
                · exact readC_fits _
                · exact Cf.zero_fits
              · exact In.only_fits _
theorem rWords_line {x : In} (h : ShI x) : rWords x.line = x.words2 := by
  rw [line_words2 h]
  exact rWords_join (opW x.op) _ (fun y hy => (words2_no x y hy).2)

theorem rIn_eq (s : List UInt8) (k : Int) (r : List (List UInt8)) (hk : 1 ≤ k ∧ k ≤ 10) (h : rWords s = opW k :: r) : opOf (wAt (rWords s) 0) = k ∧ ∀ j, wAt (rWords s) (j + 1) = wAt r j := by
  rw [h]
  refine ⟨opOf_W k hk, fun j => ?_⟩
  simp [wAt]
theorem dig1 {n : Nat} (h : n < 10) : (numL 10 n).length ≤ 1 := numL_len 10 (by omega) 0 n (by omega)
theorem dig2 {n : Nat} (h : n < 100) : (numL 10 n).length ≤ 2 := numL_len 10 (by omega) 1 n (by omega)
theorem dig4 {n : Nat} (h : n < 10000) : (numL 10 n).length ≤ 4 := numL_len 10 (by omega) 3 n (by omega)
theorem hex2 {n : Nat} (h : n < 256) : (numL 16 n).length ≤ 2 := numL_len 16 (by omega) 1 n (by omega)
theorem hex8 {n : Nat} (h : n < 4294967296) : (numL 16 n).length ≤ 8 := numL_len 16 (by omega) 7 n (by omega)
theorem num_plus (n : Nat) (h : n ≤ 4294967295) : (numL 16 n == [43]) = false := by
  have hn : numL 16 n ≠ [43] := by
    intro e
    have := hex_back h
    rw [e] at this
    rw [show parseHex [43] = Lib.NumEnd.syntax from by decide] at this
    cases this
  simpa using hn

theorem rIn_line {x : In} (h : ShI x) : rIn x.line = x := by
  have hw := rWords_line h
  have hkey : ∀ (k : Int) r, 1 ≤ k ∧ k ≤ 10 → rWords x.line = opW k :: r → rIn x.line = (
      let a := wAt (opW k :: r)
      if k = 1 ∨ k = 3 then ⟨k, rOf 10 1 (a 1), mod32 (rOf 16 8 (a 2)), a 3 == [43], 0, 0, Cf.zero⟩
      else if k = 2 then ⟨2, rOf 10 1 (a 1), mod32 (rOf 16 8 (a 2)), a 3 == [43], mod32 (rOf 16 8 (if a 3 == [43] then a 4 else a 3)), 0, Cf.zero⟩
      else if k = 5 then ⟨5, 0, 0, false, mod32 (rOf 16 8 (a 1)), rOf 10 2 (a 2), Cf.zero⟩
      else if k = 6 then ⟨6, 0, 0, false, 0, rOf 10 2 (a 1), Cf.zero⟩
      else if k = 7 then ⟨7, 0, 0, false, mod32 (rOf 10 4 (a 1)), 0, Cf.zero⟩
      else if k = 8 then ⟨8, 0, 0, false, mod32 (rOf 16 2 (a 1)), 0, Cf.zero⟩
      else if k = 9 then ⟨9, 0, 0, false, 0, 0, if 5 < x.line.length then readC (x.line.drop 5) (parse (x.line.drop 5)) else Cf.zero⟩
      else In.only k) := fun k r hk e => by
    have := (rIn_eq x.line k r hk e).1
    unfold rIn
    simp only
    rw [this, e]
  cases h with
  | ld k sz ad ix hk h1 h2 =>
    have h0 : 0 < sz := by omega
    have a := rOf_num (b := 10) (.inl rfl) (dig1 (show sz < 10 by omega))
    have b := rOf_num (b := 16) (.inr rfl) (hex8 h2)
    have c := mod32_nat h2
    cases ix
    · have e : In.words2 ⟨k, sz, ad, false, 0, 0, Cf.zero⟩ = opW k :: [numL 10 sz, numL 16 ad] := by rcases hk with rfl | rfl <;> simp [In.words2, dec, hexa, h0]
      rw [e] at hw
      rw [hkey k _ (by omega) hw]
      simp [hk, wAt, a, b, c]
    · have e : In.words2 ⟨k, sz, ad, true, 0, 0, Cf.zero⟩ = opW k :: [numL 10 sz, numL 16 ad, [43]] := by rcases hk with rfl | rfl <;> simp [In.words2, dec, hexa, h0]
      rw [e] at hw
      rw [hkey k _ (by omega) hw]
      simp [hk, wAt, a, b, c]
  | st sz ad dt ix h1 h2 h3 =>
    have h0 : 0 < sz := by omega
    have a := rOf_num (b := 10) (.inl rfl) (dig1 (show sz < 10 by omega))
    have b := rOf_num (b := 16) (.inr rfl) (hex8 h2)
    have b2 := rOf_num (b := 16) (.inr rfl) (hex8 h3)
    have c := mod32_nat h2
    have c2 := mod32_nat h3
    have d := num_plus dt (by omega)
    cases ix
    · have e : In.words2 ⟨2, sz, ad, false, dt, 0, Cf.zero⟩ = opW 2 :: [numL 10 sz, numL 16 ad, numL 16 dt] := by simp [In.words2, dec, hexa, h0]
      rw [e] at hw
      rw [hkey 2 _ (by omega) hw]
      simp [wAt, a, b, c, b2, c2, d]
    · have e : In.words2 ⟨2, sz, ad, true, dt, 0, Cf.zero⟩ = opW 2 :: [numL 10 sz, numL 16 ad, [43], numL 16 dt] := by simp [In.words2, dec, hexa, h0]
      rw [e] at hw
      rw [hkey 2 _ (by omega) hw]
      simp [wAt, a, b, c, b2, c2]
  | no k hk =>
    have e : In.words2 ⟨k, 0, 0, false, 0, 0, Cf.zero⟩ = opW k :: [] := by rcases hk with rfl | rfl <;> rfl
    rw [e] at hw
    rw [hkey k _ (by omega) hw]
    rcases hk with rfl | rfl <;> rfl
  | br dt tg h1 h2 =>
    have a := rOf_num (b := 10) (.inl rfl) (dig2 (show tg < 100 by omega))
    have b := rOf_num (b := 16) (.inr rfl) (hex8 h1)
    have c := mod32_nat h1
    have e : In.words2 ⟨5, 0, 0, false, dt, tg, Cf.zero⟩ = opW 5 :: [numL 16 dt, numL 10 tg] := by simp [In.words2, dec, hexa]
    rw [e] at hw
    rw [hkey 5 _ (by omega) hw]
    simp [wAt, a, b, c]
  | jp tg h1 =>
    have a := rOf_num (b := 10) (.inl rfl) (dig2 (show tg < 100 by omega))
    have e : In.words2 ⟨6, 0, 0, false, 0, tg, Cf.zero⟩ = opW 6 :: [numL 10 tg] := by simp [In.words2, dec]
    rw [e] at hw
    rw [hkey 6 _ (by omega) hw]
    simp [wAt, a]
  | id dt h1 =>
    have a := rOf_num (b := 10) (.inl rfl) (dig4 (show dt < 10000 by omega))
    have c := mod32_nat (show dt < 4294967296 by omega)
    have e : In.words2 ⟨7, 0, 0, false, dt, 0, Cf.zero⟩ = opW 7 :: [numL 10 dt] := by simp [In.words2, dec]
    rw [e] at hw
    rw [hkey 7 _ (by omega) hw]
    simp [wAt, a, c]
  | ms dt h1 =>
    have a := rOf_num (b := 16) (.inr rfl) (hex2 (show dt < 256 by omega))
    have c := mod32_nat (show dt < 4294967296 by omega)
    have e : In.words2 ⟨8, 0, 0, false, dt, 0, Cf.zero⟩ = opW 8 :: [numL 16 dt] := by simp [In.words2, hexa]
    rw [e] at hw
    rw [hkey 8 _ (by omega) hw]
    simp [wAt, a, c]
  | cf c h1 h2 =>
    have e : In.words2 ⟨9, 0, 0, false, 0, 0, c⟩ = opW 9 :: c.words := by simp [In.words2]
    rw [e] at hw
    rw [hkey 9 _ (by omega) hw]
    have e1 : c.shown = c.text := by unfold Cf.shown; rw [if_pos h2]
    have el : In.line ⟨9, 0, 0, false, 0, 0, c⟩ = [99, 111, 110, 102, 32] ++ c.text := by
      show Lib.join [opW 9, c.shown] [32] = _
      rw [e1, joinC_two, Lib.join_one]
      rfl
    have hne : 0 < c.text.length := by
      obtain ⟨y, r, hw2, hg⟩ := words_good c
      unfold Cf.text
      rw [hw2, Lib.join_cons]
      have := (hg y (by simp)).1
      have : 0 < y.length := List.length_pos_iff.2 (by simpa using this)
      simp
      omega
    have hy := read_yes (s := c.text) (c := c) ⟨h1, h2, rfl⟩
    rw [el]
    have hd : ([99, 111, 110, 102, 32] ++ c.text).drop 5 = c.text := by simp
    have hl : 5 < ([99, 111, 110, 102, 32] ++ c.text).length := by simp; omega
    simp only [hd, hl, hy.1, if_true]
    rfl

theorem line_120 {x : In} (h : ShI x) : x.line.length ≤ 120 := by
  have j2 : ∀ a b : List UInt8, (Lib.join [a, b] [32]).length = a.length + 1 + b.length := fun a b => by rw [joinC_two, Lib.join_one]; simp; omega
  have j3 : ∀ a b c : List UInt8, (Lib.join [a, b, c] [32]).length = a.length + 1 + (b.length + 1 + c.length) := fun a b c => by rw [joinC_two, List.length_append, List.length_cons, j2]; omega
  have j4 : ∀ a b c d : List UInt8, (Lib.join [a, b, c, d] [32]).length = a.length + 1 + (b.length + 1 + (c.length + 1 + d.length)) := fun a b c d => by rw [joinC_two, List.length_append, List.length_cons, j3]; omega
  have j5 : ∀ a b c d e : List UInt8, (Lib.join [a, b, c, d, e] [32]).length = a.length + 1 + (b.length + 1 + (c.length + 1 + (d.length + 1 + e.length))) := fun a b c d e => by rw [joinC_two, List.length_append, List.length_cons, j4]; omega
  have hop : ∀ n : Int, (opW n).length ≤ 6 := fun n => by
    unfold opW
    repeat' split
    all_goals decide
  have ho := hop x.op
  cases h with
  | ld k sz ad ix hk h1 h2 =>
    have h0 : 0 < sz := by omega
    have a := dig1 (show sz < 10 by omega)
    have b := hex8 h2
    cases ix
    · have e : In.line ⟨k, sz, ad, false, 0, 0, Cf.zero⟩ = Lib.join [opW k, numL 10 sz, numL 16 ad] [32] := by unfold In.line; congr 1; rcases hk with rfl | rfl <;> simp [In.words, dec, hexa, h0]
      rw [e, j3]
      simp only at ho
      omega
    · have e : In.line ⟨k, sz, ad, true, 0, 0, Cf.zero⟩ = Lib.join [opW k, numL 10 sz, numL 16 ad, [43]] [32] := by unfold In.line; congr 1; rcases hk with rfl | rfl <;> simp [In.words, dec, hexa, h0]
      rw [e, j4]
      simp only [List.length_cons, List.length_nil] at ho ⊢
      omega
  | st sz ad dt ix h1 h2 h3 =>
    have h0 : 0 < sz := by omega
    have a := dig1 (show sz < 10 by omega)
    have b := hex8 h2
    have c := hex8 h3
    cases ix
    · have e : In.line ⟨2, sz, ad, false, dt, 0, Cf.zero⟩ = Lib.join [opW 2, numL 10 sz, numL 16 ad, numL 16 dt] [32] := by unfold In.line; congr 1; simp [In.words, dec, hexa, h0]
      rw [e, j4]
      simp only at ho
      omega
    · have e : In.line ⟨2, sz, ad, true, dt, 0, Cf.zero⟩ = Lib.join [opW 2, numL 10 sz, numL 16 ad, [43], numL 16 dt] [32] := by unfold In.line; congr 1; simp [In.words, dec, hexa, h0]
      rw [e, j5]
      simp only [List.length_cons, List.length_nil] at ho ⊢
      omega
  | no k hk =>
    have e : In.line ⟨k, 0, 0, false, 0, 0, Cf.zero⟩ = opW k := by rcases hk with rfl | rfl <;> rfl
    rw [e]
    simp only at ho
    omega
  | br dt tg h1 h2 =>
    have a := dig2 (show tg < 100 by omega)
    have b := hex8 h1
    show (Lib.join [opW 5, numL 16 dt, numL 10 tg] [32]).length ≤ 120
    rw [j3]
    simp only at ho
    omega
  | jp tg h1 =>
    have a := dig2 (show tg < 100 by omega)
    show (Lib.join [opW 6, numL 10 tg] [32]).length ≤ 120
    rw [j2]
    simp only at ho
    omega
  | id dt h1 =>
    have a := dig4 (show dt < 10000 by omega)
    show (Lib.join [opW 7, numL 10 dt] [32]).length ≤ 120
    rw [j2]
    simp only at ho
    omega
  | ms dt h1 =>
    have a := hex2 (show dt < 256 by omega)
    show (Lib.join [opW 8, numL 16 dt] [32]).length ≤ 120
    rw [j2]
    simp only at ho
    omega
  | cf c h1 h2 =>
    have a := shown_len h1
    show (Lib.join [opW 9, c.shown] [32]).length ≤ 120
    rw [j2]
    simp only at ho
    omega

/-- Is what the document's One makes of a line written as the line stands? -/
def rOk (s : List UInt8) : Bool := decide (s.length ≤ 120) && ((rIn s).ok && (rIn s).line == s)
theorem rOk_one (s : List UInt8) : rOk s = oneOk s := by
  cases ho : oneOk s with
  | true =>
    obtain ⟨h1, h2, h3⟩ := one_back ho
    have hs := ShI.of _ h3 h1
    have h4 := rIn_line hs
    have h5 := line_120 hs
    rw [h2] at h4 h5
    unfold rOk
    rw [h4, h1, h2]
    simpa using h5
  | false =>
    cases hr : rOk s with
    | false => rfl
    | true =>
      unfold rOk at hr
      simp only [Bool.and_eq_true, beq_iff_eq] at hr
      have := (one_line (rIn_fits s) hr.2.1).1
      rw [hr.2.2, ho] at this
      cases this
theorem rOk_x {s : List UInt8} (h : oneOk s = true) : rIn s = oneX s := by
  obtain ⟨h1, h2, h3⟩ := one_back h
  have h4 := rIn_line (ShI.of _ h3 h1)
  rwa [h2] at h4

/-- A text's lines, parted by byte 10: those that are whole, the one that is under way. -/
def rlGo (acc : List (List UInt8)) (cur : List UInt8) : List UInt8 → List (List UInt8)
  | [] => acc ++ [cur]
  | c :: r => if c = 10 then rlGo (acc ++ [cur]) [] r else rlGo acc (cur ++ [c]) r
def rLines (l : List UInt8) : List (List UInt8) := rlGo [] [] l
theorem rlGo_no : ∀ (l : List UInt8) (acc : List (List UInt8)) (cur : List UInt8), (∀ y ∈ acc, NoC 10 y) → NoC 10 cur → ∀ y ∈ rlGo acc cur l, NoC 10 y
  | [], acc, cur, h1, h2, y, hy => by
    simp only [rlGo, List.mem_append, List.mem_cons, List.not_mem_nil, or_false] at hy
    rcases hy with hy | rfl
    · exact h1 y hy
    · exact h2
  | c :: r, acc, cur, h1, h2, y, hy => by
    unfold rlGo at hy
    split at hy
    · refine rlGo_no r _ _ (fun z hz => ?_) (fun d hd => by cases hd) y hy
      simp only [List.mem_append, List.mem_cons, List.not_mem_nil, or_false] at hz
      rcases hz with hz | rfl
      · exact h1 z hz
      · exact h2
    · rename_i hc
      refine rlGo_no r _ _ h1 (fun d hd => ?_) y hy
      simp only [List.mem_append, List.mem_cons, List.not_mem_nil, or_false] at hd
      rcases hd with hd | rfl
      · exact h2 d hd
      · exact hc
theorem join_snoc2 (c : UInt8) (a b : List UInt8) : ∀ (acc : List (List UInt8)), Lib.join (acc ++ [a] ++ [b]) [c] = Lib.join (acc ++ [a ++ c :: b]) [c]
  | [] => by simp only [List.nil_append, List.cons_append]; rw [joinC_two, Lib.join_one, Lib.join_one]
  | [x] => by
    simp only [List.nil_append, List.cons_append]
    rw [joinC_two, joinC_two, joinC_two, Lib.join_one, Lib.join_one]
  | x :: y :: r => by
    have := join_snoc2 c a b (y :: r)
    simp only [List.cons_append] at this ⊢
    rw [joinC_two, joinC_two, this]
theorem rlGo_join : ∀ (l : List UInt8) (acc : List (List UInt8)) (cur : List UInt8), Lib.join (rlGo acc cur l) [10] = Lib.join (acc ++ [cur ++ l]) [10]
  | [], acc, cur => by simp [rlGo]
  | c :: r, acc, cur => by
    unfold rlGo
    split
    · rename_i hc
      subst hc
      rw [rlGo_join r, List.nil_append, join_snoc2]
    · rw [rlGo_join r]
      simp
theorem rlGo_ne : ∀ (l : List UInt8) (acc : List (List UInt8)) (cur : List UInt8), ∃ x r, rlGo acc cur l = x :: r
  | [], acc, cur => by
    unfold rlGo
    cases acc with
    | nil => exact ⟨_, _, rfl⟩
    | cons x r => exact ⟨_, _, rfl⟩
  | c :: r, acc, cur => by
    unfold rlGo
    split
    · exact rlGo_ne r _ _
    · exact rlGo_ne r _ _
theorem rLines_eq (s : List UInt8) : rLines s = linesOf s := by
  have hj : Lib.join (rLines s) [10] = s := by
    unfold rLines
    rw [rlGo_join, List.nil_append, List.nil_append, Lib.join_one]
  obtain ⟨x, r, hx⟩ := rlGo_ne s [] []
  have hn := rlGo_no s [] [] (by simp) (fun d hd => by cases hd)
  rw [hx] at hn
  have h := linesOf_join x r hn
  have hx2 : rLines s = x :: r := hx
  rw [← hx2, hj] at h
  rw [h, hx2]
end Go.Proofs.YtagmoehjcgjnjaaGreatDoor

namespace Go.Proofs.YtagmoehjcgjnjaaGreatDoor
open Go Go.RowKit
theorem row_lt {w : World} {base n g cap : Nat} {xs : List Value} (h : w.ownsRow base 9 1 (.slice (some ⟨g, 0, none⟩) n cap) n xs) : g < w.heap.size := by
  obtain ⟨-, ⟨h2, -⟩ | ⟨g', cap', cur, hv, hb, hh, -⟩⟩ := h
  · simp at h2
  · simp only [Value.slice.injEq, Option.some.injEq, Addr.mk.injEq, and_true, true_and] at hv
    obtain ⟨rfl, rfl⟩ := hv
    exact Blk.lt hh
theorem cut_any (l : List UInt8) (f k : Nat) : (ByteArray.mk l.toArray).extract f k = ⟨((l.drop f).take (k - f)).toArray⟩ := by
  apply ByteArray.ext
  simp only [ByteArray.data_extract]
  apply Array.ext'
  simp [List.take_drop]

set_option maxRecDepth 100000 in
set_option maxHeartbeats 4000000 in
theorem rlines_any (l : List UInt8) (hl : l.length ≤ 1000000) (w : World) :
    Calls Tryz.prog 51 #[str l] w fun e w' => ∃ v, e = .returned v ∧ RowOf w' w.heap.size (rLines l).length (rLines l) v ∧ Only [] w w' := by
  go_enter Tryz.func51, Tryz.ntmps51
  go_wp2
  go_loopw [3, 4, 5] (fun s fr i wr => ∃ (k f g cap : Nat) (acc : List (List UInt8)), i = .int .i64 k ∧ fr = .int .i64 f ∧ s = .slice (some ⟨g, 0, none⟩) acc.length cap ∧ w.heap.size ≤ g ∧ k ≤ l.length + 1 ∧ f ≤ k ∧ acc.length ≤ k ∧
    Hid (if k ≤ l.length then rLines l = rlGo acc ((l.drop f).take (k - f)) (l.drop k) else rLines l = acc) ∧
    wr.ownsRow w.heap.size 9 1 (.slice (some ⟨g, 0, none⟩) acc.length cap) acc.length (acc.map str) ∧ Only [] w wr) (fun _ _ i _ => l.length + 1 - (intOf i).toNat)
  case atStart =>
    refine ⟨0, 0, w.heap.size, 0, [], rfl, rfl, rfl, Nat.le_refl _, by omega, by omega, by simp, Lib.hid (by simp [rLines]), ?_, (Only.refl _ _).alloc _⟩
    exact ⟨rfl, .inr ⟨w.heap.size, 0, #[], rfl, Nat.le_refl _, Blk.new' rfl rfl, Nat.le_refl _, by decide, rfl, rfl⟩⟩
  case round =>
    obtain ⟨k, f, g, cap, acc, rfl, rfl, rfl, hgb, hk, hf, hac, hh, hown, hO⟩ := hrel
    by_cases hkl : k ≤ l.length
    · have hki : (k : Int) ≤ (l.length : Int) := by omega
      have HD : Hid (rLines l = rlGo acc ((l.drop f).take (k - f)) (l.drop k)) := Lib.hid (by have := hh.out; rw [if_pos hkl] at this; exact this)
      clear hh
      have hcut := cut_any l f k
      have hcl : ((l.drop f).take (k - f)).length = k - f := by simp; omega
      have hfi : (f : Int) ≤ (k : Int) := by omega
      have hf0 : (0 : Int) ≤ (f : Int) := by omega
      by_cases hke : k = l.length
      · have HN : Hid (rLines l = acc ++ [(l.drop f).take (k - f)]) := Lib.hid (by rw [HD.out, hke, List.drop_eq_nil_of_le (Nat.le_refl _)]; rfl)
        have hkeb : ((k : Int) == (l.length : Int)) = true := by simp [hke]
        generalize (l.drop f).take (k - f) = cur at hcut HN HD hcl
        have HK := Lib.hid hke
        clear HD hke
        obtain ⟨i0, hi0, hz0, hz1, hz2⟩ := info_parts infoString
        have hgl := row_lt hown
        have hbw : w.heap.size ≤ (wr.alloc (.cells #[str cur] 9)).heap.size := by have := hO.size; simp; omega
        have hcap : acc.length + 1 ≤ 1000002 := by omega
        go_wp2_with (at_builtin; refine wpList_append_own _ rfl _ _ 43 rfl w.heap.size 9 i0 (.string ⟨#[]⟩) 1 16 Tryz.underlying43 hi0 hz0 hz1 hz2 rfl (by decide) _ acc.length _ rfl (row_only hown ((Only.refl [] wr).alloc _) (by simp)) ⟨wr.heap.size, 0, none⟩ 1 1 [str cur] rfl rfl ?c1 ?c2 ?c3 ?c4 hbw ?_)
        case c1 => exact news_blk (Blk.new' rfl rfl) rfl
        case c2 => exact one_cell _
        case c3 => unfold maxLen; omega
        case c4 => omega
        intro v' w4 hown4 hgrow _
        obtain ⟨g2, cap2, rfl, hgb2, hgl2, -⟩ := row_form hown4 (by omega)
        have hOn : Only [g] _ w4 := grown_only hgrow
        have hO4 : Only [] w w4 := (hO.alloc _).trans' hOn (by simp; omega)
        clear hgrow hOn hz0 hz1 hz2 hi0 hown hO hcap
        go_wp2_with fail
        refine ⟨⟨k + 1, k + 1, g2, cap2, acc ++ [cur], by go_num, by go_num, by simp, hgb2, by omega, by omega, by simp; omega, Lib.hid (by rw [if_neg (by have := HK.out; omega)]; exact HN.out), by simpa using hown4, hO4⟩, ?_⟩
        simp [intOf]
        omega
      · have hkl2 : k < l.length := by omega
        have hki2 : (k : Int) < (l.length : Int) := by omega
        have hkeb : ((k : Int) == (l.length : Int)) = false := by simp; omega
        have hdrop : l.drop k = l[k] :: l.drop (k + 1) := List.drop_eq_getElem_cons hkl2
        have htk : (l.drop f).take (k + 1 - f) = (l.drop f).take (k - f) ++ [l[k]] := by
          rw [show k + 1 - f = (k - f) + 1 by omega, List.take_add_one]
          congr 1
          rw [List.getElem?_drop, show f + (k - f) = k by omega, List.getElem?_eq_getElem hkl2]
          rfl
        rw [hdrop] at HD
        have hsz : k < (ByteArray.mk l.toArray).size := by simpa [ByteArray.size] using hkl2
        have hat : (ByteArray.mk l.toArray)[k]'hsz = l[k] := rfl
        generalize l[k] = c at HD hat htk
        by_cases h10 : c = 10
        · subst h10
          have HN : Hid (rLines l = rlGo (acc ++ [(l.drop f).take (k - f)]) [] (l.drop (k + 1))) := Lib.hid (by rw [HD.out, rlGo, if_pos rfl])
          generalize (l.drop f).take (k - f) = cur at hcut HN HD hcl htk
          clear HD hdrop htk hke
          obtain ⟨i0, hi0, hz0, hz1, hz2⟩ := info_parts infoString
          have hgl := row_lt hown
          have hbw : w.heap.size ≤ (wr.alloc (.cells #[str cur] 9)).heap.size := by have := hO.size; simp; omega
          have hcap : acc.length + 1 ≤ 1000002 := by omega
          go_wp2_with (at_builtin; refine wpList_append_own _ rfl _ _ 43 rfl w.heap.size 9 i0 (.string ⟨#[]⟩) 1 16 Tryz.underlying43 hi0 hz0 hz1 hz2 rfl (by decide) _ acc.length _ rfl (row_only hown ((Only.refl [] wr).alloc _) (by simp)) ⟨wr.heap.size, 0, none⟩ 1 1 [str cur] rfl rfl ?c1 ?c2 ?c3 ?c4 hbw ?_)
          case c1 => exact news_blk (Blk.new' rfl rfl) rfl
          case c2 => exact one_cell _
          case c3 => unfold maxLen; omega
          case c4 => omega
          intro v' w4 hown4 hgrow _
          obtain ⟨g2, cap2, rfl, hgb2, hgl2, -⟩ := row_form hown4 (by omega)
          have hOn : Only [g] _ w4 := grown_only hgrow
          have hO4 : Only [] w w4 := (hO.alloc _).trans' hOn (by simp; omega)
          clear hgrow hOn hz0 hz1 hz2 hi0 hown hO hcap
          go_wp2_with fail
          refine ⟨⟨k + 1, k + 1, g2, cap2, acc ++ [cur], by go_num, by go_num, by simp, hgb2, by omega, by omega, by simp; omega, Lib.hid (by rw [if_pos (by omega), Nat.sub_self, List.take_zero]; exact HN.out), by simpa using hown4, hO4⟩, ?_⟩
          simp [intOf]
          omega
        · have HN : Hid (rLines l = rlGo acc ((l.drop f).take (k + 1 - f)) (l.drop (k + 1))) := Lib.hid (by rw [htk, HD.out, rlGo, if_neg h10])
          have hne : ¬ (c.toNat : Int) = 10 := by
            intro h
            exact h10 (UInt8.toNat_inj.1 (by have : (10 : UInt8).toNat = 10 := rfl; omega))
          have hne1 : ((c.toNat : Int) == 10) = false := by simpa using hne
          have HW := Lib.hid hown
          clear HD hdrop htk h10 hne hcut hown hke
          go_wp2_with fail
          refine ⟨⟨k + 1, f, g, cap, acc, by go_num, rfl, rfl, hgb, by omega, by omega, by omega, Lib.hid (by rw [if_pos (by omega)]; exact HN.out), HW.out, hO⟩, ?_⟩
          simp [intOf]
          omega
    · have hki : ¬ (k : Int) ≤ (l.length : Int) := by omega
      have HV : Hid (rLines l = acc) := Lib.hid (by have := hh.out; rw [if_neg hkl] at this; exact this)
      clear hh
      go_wp2
      go_ret
      refine ⟨_, rfl, ?_, hO⟩
      rw [HV.out]
      exact ⟨g, cap, rfl, hgb, hown⟩
end Go.Proofs.YtagmoehjcgjnjaaGreatDoor
