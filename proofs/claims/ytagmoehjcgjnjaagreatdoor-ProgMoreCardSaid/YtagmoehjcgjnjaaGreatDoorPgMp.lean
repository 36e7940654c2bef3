/- Plain laws for one instruction more or less. No condition. -/
import Derived.Test.YtagmoehjcgjnjaaGreatDoorPgU2
import Derived.Test.YtagmoehjcgjnjaaGreatDoorPgB
import Derived.Test.YtagmoehjcgjnjaaGreatDoorPgW
namespace Go.Proofs.YtagmoehjcgjnjaaGreatDoor
open Go Go.RowKit

theorem okR_more {l : List In} (h : okR l = true) (x : In) : okR (l ++ [x]) = (x.ok && decide (x.to ≤ (l.length : Int) + 1) && decide ((l.length : Int) < 64)) := by
  obtain ⟨hl, hx⟩ := okR_iff.1 h
  rw [Bool.eq_iff_iff, okR_iff]
  simp only [List.length_append, List.length_cons, List.length_nil, List.mem_append, List.mem_cons, List.not_mem_nil, or_false, Bool.and_eq_true, decide_eq_true_eq]
  constructor
  · rintro ⟨h1, h2⟩
    have h3 := h2 x (.inr rfl)
    exact ⟨⟨h3.1, by have := h3.2; omega⟩, by omega⟩
  · rintro ⟨⟨h1, h2⟩, h3⟩
    refine ⟨by omega, fun y hy => ?_⟩
    rcases hy with hy | rfl
    · exact ⟨(hx y hy).1, by have := (hx y hy).2; omega⟩
    · exact ⟨h1, by omega⟩
/-- The greatest To, or 0. -/
def maxTo (l : List In) : Int := l.foldl (fun m y => max m y.to) 0
theorem maxTo_snoc (l : List In) (y : In) : maxTo (l ++ [y]) = max (maxTo l) y.to := by simp [maxTo]
theorem fold_lt (N : Int) : ∀ (l : List In) (m : Int), l.foldl (fun m y => max m y.to) m < N ↔ m < N ∧ ∀ y ∈ l, y.to < N
  | [], m => by simp
  | y :: r, m => by
    rw [List.foldl_cons, fold_lt N r]
    simp only [List.mem_cons, forall_eq_or_imp]
    constructor
    · rintro ⟨h1, h2⟩; exact ⟨by omega, by omega, h2⟩
    · rintro ⟨h1, h2, h3⟩; exact ⟨by omega, h3⟩
theorem okR_less {l : List In} (h : okR l = true) (h0 : 0 < l.length) : okR l.dropLast = decide (maxTo l.dropLast < (l.length : Int)) := by
  obtain ⟨hl, hx⟩ := okR_iff.1 h
  rw [Bool.eq_iff_iff, okR_iff, decide_eq_true_eq]
  unfold maxTo
  rw [fold_lt, List.length_dropLast]
  constructor
  · rintro ⟨h1, h2⟩
    exact ⟨by omega, fun y hy => by have := (h2 y hy).2; omega⟩
  · rintro ⟨h1, h2⟩
    exact ⟨by omega, fun y hy => ⟨(hx y ((List.dropLast_sublist _).subset hy)).1, by have := h2 y hy; omega⟩⟩
theorem InS.less {w : World} {b off n c : Nat} {l : List In} (h : InS w (.slice (some ⟨b, off, none⟩) l.length c) l) (hn : n + 1 = l.length) : InS w (.slice (some ⟨b, off, none⟩) n c) l.dropLast := by
  rcases h with ⟨p, c', -, rfl⟩ | ⟨b', off', c', he, h0, hc, hb, hE⟩
  · cases hn
  · cases he
    have hd : l.dropLast.length = n := by rw [List.length_dropLast]; omega
    by_cases hz : l.dropLast = []
    · rw [hz] at hd
      subst hd
      exact .inl ⟨_, _, rfl, hz⟩
    · refine .inr ⟨b, off, c, by rw [hd], List.length_pos_iff.2 hz, by omega, hb, fun j x hj => hE j x ?_⟩
      have hjl : j < l.dropLast.length := by
        rcases Nat.lt_or_ge j l.dropLast.length with h | h
        · exact h
        · rw [List.getElem?_eq_none h] at hj; cases hj
      rw [List.getElem?_dropLast] at hj
      split at hj
      · exact hj
      · cases hj
end Go.Proofs.YtagmoehjcgjnjaaGreatDoor
