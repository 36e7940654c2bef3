/- Plain laws of reading and showing a program. No condition. -/
import Derived.Test.YtagmoehjcgjnjaaGreatDoorPgH
namespace Go.Proofs.YtagmoehjcgjnjaaGreatDoor
open Go Go.RowKit

theorem idxG_ne {p : List UInt8 → Bool} : ∀ (l : List (List UInt8)) (k : Int), 0 ≤ k → idxG p l k = -1 → ∀ x ∈ l, p x = false
  | [], _, _, _ => fun x hx => by cases hx
  | y :: r, k, hk, h => by
    unfold idxG at h
    cases hp : p y with
    | true => rw [hp, if_pos rfl] at h; omega
    | false =>
      rw [hp, if_neg (by simp)] at h
      intro x hx
      rcases List.mem_cons.1 hx with rfl | hx
      · exact hp
      · exact idxG_ne r (k + 1) (by omega) h x hx
theorem idxG_nn {p : List UInt8 → Bool} : ∀ (l : List (List UInt8)) (k : Int), 0 ≤ k → idxG p l k ≠ -1 → 0 ≤ idxG p l k
  | [], _, _, h => absurd rfl h
  | y :: r, k, hk, h => by
    unfold idxG at h ⊢
    cases hp : p y with
    | true => rw [if_pos rfl]; exact hk
    | false =>
      rw [hp, if_neg (by simp)] at h
      rw [if_neg (by simp)]
      exact idxG_nn r (k + 1) (by omega) h
theorem idxF_neg {p : In → Bool} {l : List In} (h : ¬ 0 ≤ idxF p l 0) : ∀ x ∈ l, p x = false := by
  have := idxF_any p l 0 (by omega)
  rw [decide_eq_false h] at this
  intro x hx
  have hn := List.any_eq_false.1 this.symm x hx
  simpa using hn

/-- A text that is read is the program's own. -/
theorem rd_right {s : List UInt8} (h : (rdA s).2.2 = 0) : okR (rdA s).1 = true ∧ showT (rdA s).1 = s ∧ (rdA s).2.1 = 0 ∧ (∀ x ∈ (rdA s).1, x.Fits) := by
  by_cases hs : s = []
  · subst hs
    exact ⟨rfl, rfl, rfl, fun x hx => by cases hx⟩
  · by_cases hb : idxG badL (linesOf s) 0 = -1
    · by_cases hl : 64 < (linesOf s).length
      · rw [rd_long hs hb hl] at h; cases h
      · by_cases h0 : 0 ≤ idxF (In.far (linesOf s).length) ((linesOf s).map oneX) 0
        · rw [rd_far hs hb hl rfl h0] at h; cases h
        · rw [rd_ok hs hb hl rfl h0]
          have hgood : ∀ y ∈ linesOf s, oneOk y = true := fun y hy => by
            have := idxG_ne _ _ (by omega) hb y hy
            unfold badL at this
            simpa using this
          have hfar := idxF_neg h0
          refine ⟨okR_iff.2 ⟨by rw [List.length_map]; omega, fun x hx => ?_⟩, ?_, rfl, fun x hx => ?_⟩
          · obtain ⟨y, hy, rfl⟩ := List.mem_map.1 hx
            refine ⟨(one_back (hgood y hy)).1, ?_⟩
            have := hfar _ hx
            unfold In.far at this
            rw [List.length_map]
            simpa using this
          · unfold showT
            rw [List.map_map]
            have : (linesOf s).map (In.line ∘ oneX) = linesOf s :=
              (List.map_congr_left (g := id) (fun y hy => (one_back (hgood y hy)).2.1)).trans (List.map_id _)
            rw [this, join_lines]
          · obtain ⟨y, hy, rfl⟩ := List.mem_map.1 hx
            exact (one_back (hgood y hy)).2.2
    · obtain ⟨k, hk⟩ := Int.eq_ofNat_of_zero_le (idxG_nn _ _ (by omega) hb)
      rw [rd_bad hs hk] at h; cases h
theorem rd_wrong {s : List UInt8} (h : (rdA s).2.2 ≠ 0) : (rdA s).1 = [] ∧ 0 < (rdA s).2.1 := by
  by_cases hs : s = []
  · subst hs
    exact absurd rfl h
  · by_cases hb : idxG badL (linesOf s) 0 = -1
    · by_cases hl : 64 < (linesOf s).length
      · rw [rd_long hs hb hl]; exact ⟨rfl, by decide⟩
      · by_cases h0 : 0 ≤ idxF (In.far (linesOf s).length) ((linesOf s).map oneX) 0
        · rw [rd_far hs hb hl rfl h0]; exact ⟨rfl, by show 0 < _ + 1; omega⟩
        · rw [rd_ok hs hb hl rfl h0] at h; exact absurd rfl h
    · obtain ⟨k, hk⟩ := Int.eq_ofNat_of_zero_le (idxG_nn _ _ (by omega) hb)
      rw [rd_bad hs hk]; exact ⟨rfl, by show (0 : Int) < (k : Int) + 1; omega⟩
theorem showT_short {l : List In} (hf : ∀ x ∈ l, x.Fits) (h : okR l = true) : (showT l).length ≤ 300000 := by
  obtain ⟨hl, hx⟩ := okR_iff.1 h
  unfold showT
  have := joins_len 10 600 (l.map In.line) (fun y hy => by
    obtain ⟨x, hm, rfl⟩ := List.mem_map.1 hy
    exact line_len (ShI.of x (hf x hm) (hx x hm).1))
  rw [List.length_map] at this
  omega
end Go.Proofs.YtagmoehjcgjnjaaGreatDoor
