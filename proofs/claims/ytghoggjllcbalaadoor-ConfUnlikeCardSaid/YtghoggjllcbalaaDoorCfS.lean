/- Words in rows of the call's own, and how long they are. No condition. -/
import Derived.Test.YtghoggjllcbalaaDoorCfI
import Derived.Test.YtghoggjllcbalaaDoorCfC
namespace Go.Proofs.YtghoggjllcbalaaDoor
open Go Go.RowKit

/-- The first word of a kind. -/
def kindW (k : Int) : List UInt8 :=
  if k = 1 then [114, 101, 103, 105, 111, 110] else if k = 2 then [99, 108, 101, 97, 114] else if k = 3 then [103, 105, 118, 101] else if k = 4 then [116, 97, 107, 101]
  else if k = 5 then [109, 111, 118, 101] else if k = 6 then [114, 111, 117, 116, 101] else [108, 111, 99, 107]

theorem infoString : (Tryd.prog.info? 9).map (fun i => (i.zero, i.size, i.bytes)) = some (some (.string ⟨#[]⟩), 1, 16) := by kernel_rfl

/-- A row of words of the call's own. -/
def RowOf (w : World) (base n : Nat) (xs : List (List UInt8)) (v : Value) : Prop := ∃ g cap, v = .slice (some ⟨g, 0, none⟩) n cap ∧ base ≤ g ∧ w.ownsRow base 9 1 (.slice (some ⟨g, 0, none⟩) n cap) n (xs.map str)

/-- What the first word's statement leaves. -/
def First (w : World) (l : List UInt8) (v : Value) (wx : World) : Prop := RowOf wx w.heap.size 1 [l] v ∧ Only [] w wx

theorem rowof_one {wx : World} {base g : Nat} {l : List UInt8} (h : Blk wx g 9 #[str l]) (hb : base ≤ g) : RowOf wx base 1 [l] (.slice (some ⟨g, 0, none⟩) 1 1) :=
  ⟨g, 1, rfl, hb, rfl, .inr ⟨g, 1, _, rfl, hb, h, Nat.le_refl _, by decide, rfl, rfl⟩⟩
theorem row_form {w : World} {base n : Nat} {v : Value} {xs : List Value} (h : w.ownsRow base 9 1 v n xs) (h0 : 0 < n) : ∃ g cap, v = .slice (some ⟨g, 0, none⟩) n cap ∧ base ≤ g ∧ g < w.heap.size ∧ n ≤ cap := by
  rcases h.2 with ⟨-, h2⟩ | ⟨g, cap, cur, hv, hb, hh, hl, -⟩
  · omega
  · exact ⟨g, cap, hv, hb, Blk.lt hh, hl⟩
theorem row_only {S : List Nat} {w w' : World} {base n g cap : Nat} {xs : List Value} (h : w.ownsRow base 9 1 (.slice (some ⟨g, 0, none⟩) n cap) n xs) (hO : Only S w w') (hg : g ∉ S) : w'.ownsRow base 9 1 (.slice (some ⟨g, 0, none⟩) n cap) n xs := by
  obtain ⟨h1, h2⟩ := h
  refine ⟨h1, ?_⟩
  rcases h2 with h2 | ⟨g', cap', cur, hv, hb, hh, r⟩
  · exact Or.inl h2
  · have hv' := hv
    simp only [Value.slice.injEq, Option.some.injEq, Addr.mk.injEq, and_true, true_and] at hv'
    obtain ⟨rfl, rfl⟩ := hv'
    exact Or.inr ⟨g, cap, cur, hv, hb, (hO.block g (Blk.lt hh) hg).trans hh, r⟩
theorem row_cells {w : World} {base n g cap : Nat} {xs : List (List UInt8)} (h : w.ownsRow base 9 1 (.slice (some ⟨g, 0, none⟩) n cap) n (xs.map str)) : g < w.heap.size ∧ n ≤ cap ∧ n = xs.length ∧ ∀ (j : Nat) l, xs[j]? = some l → w.cell? ⟨g, j, none⟩ = some (str l) := by
  obtain ⟨h1, ⟨h2, -⟩ | ⟨g', cap', cur, hv, hb, hh, hl, hm, hs, htk⟩⟩ := h
  · simp at h2
  · simp only [Value.slice.injEq, Option.some.injEq, Addr.mk.injEq, and_true, true_and] at hv
    obtain ⟨rfl, rfl⟩ := hv
    have hn : n = xs.length := by simpa using h1.symm
    refine ⟨Blk.lt hh, hl, hn, fun j l hj => ?_⟩
    have hjl : j < xs.length := by
      rcases Nat.lt_or_ge j xs.length with h | h
      · exact h
      · rw [List.getElem?_eq_none h] at hj; cases hj
    rw [Blk.cell hh j, ← Array.getElem?_toList, ← List.getElem?_take_of_lt (j := n) (by omega)]
    rw [Nat.mul_one] at htk
    rw [htk, List.getElem?_map, hj]
    rfl
theorem grown_only {w w' : World} {g : Nat} (h : w.grownBy w' (some g)) : Only [g] w w' :=
  ⟨h.os, h.tape, h.output, h.size, fun k hk hn => h.block k hk (fun e => hn (by injection e with e; simp [e]))⟩

/-- How long a number's text is. -/
theorem numL_len (b : Nat) (hb : 2 ≤ b) : ∀ (k n : Nat), n < b ^ (k + 1) → (numL b n).length ≤ k + 1
  | 0, n, h => by rw [numL_lt (by simpa using h)]; simp
  | k + 1, n, h => by
    by_cases hn : n < b
    · rw [numL_lt hn]; simp
    · rw [numL_ge hb (by omega)]
      have := numL_len b hb k (n / b) (Nat.div_lt_of_lt_mul (by rw [Nat.pow_succ] at h; rw [Nat.mul_comm]; exact h))
      simp
      omega
theorem lineL_len (n : Int) (h : n ≤ 99) : (lineL n).length ≤ 2 := by
  unfold lineL
  split
  · simp
  · exact numL_len 10 (by omega) 1 n.toNat (by omega)
theorem news_blk {W : World} {g : Nat} {t : TypeId} {cs : Array Value} {news : List Value} (h : Blk W g t cs) (hl : cs.toList = news) : ∀ (j : Nat) (u : Value), news[j]? = some u → W.cell? ((⟨g, 0, none⟩ : Addr).add j) = some u := by
  intro j u hu
  rw [Lib.add_plain, Nat.zero_add, h.cell j, ← Array.getElem?_toList, hl]
  exact hu
theorem one_cell (l : List UInt8) : ∀ u ∈ [str l], u.oneCell' = true := by
  intro u hu
  simp at hu
  subst hu
  rfl
end Go.Proofs.YtghoggjllcbalaaDoor
