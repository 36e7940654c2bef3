/- The chapter's examples of the statements about programs, as plain words. No condition. -/
import Derived.Test.YtagmoehjcgjnjaaGreatDoorPgF
namespace Go.Proofs.YtagmoehjcgjnjaaGreatDoor
open Go Go.RowKit

/-- A right program's text is read as it. -/
def showT (l : List In) : List UInt8 := Lib.join (l.map In.line) [10]
theorem okR_iff {l : List In} : okR l = true ↔ l.length ≤ 64 ∧ ∀ x ∈ l, x.ok = true ∧ x.to ≤ l.length := by
  unfold okR
  simp only [Bool.and_eq_true, decide_eq_true_eq, Bool.not_eq_true', List.any_eq_false]
  refine and_congr_right fun _ => forall_congr' fun x => forall_congr' fun _ => ?_
  unfold In.odd
  cases x.ok <;> simp
theorem idxG_none {ls : List (List UInt8)} : ∀ (k : Int), (∀ l ∈ ls, badL l = false) → idxG badL ls k = -1 := by
  induction ls with
  | nil => intro k _; rfl
  | cons l r ih =>
    intro k h
    unfold idxG
    rw [h l (by simp)]
    exact ih (k + 1) (fun y hy => h y (by simp [hy]))
theorem idxF_none {p : In → Bool} {l : List In} : ∀ (k : Int), (∀ x ∈ l, p x = false) → idxF p l k = -1 := by
  induction l with
  | nil => intro k _; rfl
  | cons x r ih =>
    intro k h
    unfold idxF
    rw [h x (by simp)]
    exact ih (k + 1) (fun y hy => h y (by simp [hy]))
theorem rd_show {l : List In} (hf : ∀ x ∈ l, x.Fits) (h : okR l = true) : rdA (showT l) = (l, 0, 0) := by
  obtain ⟨hlen, hx⟩ := okR_iff.1 h
  cases l with
  | nil => rfl
  | cons y r =>
    have hsh : ∀ x ∈ y :: r, ShI x := fun x hm => ShI.of x (hf x hm) (hx x hm).1
    have hne : showT (y :: r) ≠ [] := by
      unfold showT
      rw [List.map_cons, Lib.join_cons]
      have := line_ne (hsh y (by simp))
      simp [this]
    have hli : linesOf (showT (y :: r)) = (y :: r).map In.line := by
      unfold showT
      rw [List.map_cons]
      exact linesOf_join _ _ (fun z hz => by
        rw [← List.map_cons] at hz
        obtain ⟨x, hm, rfl⟩ := List.mem_map.1 hz
        exact line_no10 (hsh x hm))
    have hone : ((y :: r).map In.line).map oneX = y :: r := by
      rw [List.map_map]
      exact (List.map_congr_left (g := id) (fun x hm => (one_line (hf x hm) (hx x hm).1).2.1)).trans (List.map_id _)
    have hbad : idxG badL ((y :: r).map In.line) 0 = -1 := idxG_none 0 (fun z hz => by
      obtain ⟨x, hm, rfl⟩ := List.mem_map.1 hz
      unfold badL
      rw [(one_line (hf x hm) (hx x hm).1).1]
      rfl)
    have hfar : idxF (In.far (y :: r).length) (y :: r) 0 = -1 := idxF_none 0 (fun x hm => by
      have := (hx x hm).2
      unfold In.far
      simpa using this)
    unfold rdA
    rw [if_neg hne, hli, if_neg (by rw [hbad]; decide), if_neg (by rw [List.length_map]; omega), hone, List.length_map, hfar, if_neg (by decide)]

def pxL : List In := [⟨1, 4, 4096, false, 0, 0, Cf.zero⟩, ⟨2, 2, 16, true, 255, 0, Cf.zero⟩, ⟨5, 0, 0, false, 0, 0, Cf.zero⟩, ⟨9, 0, 0, false, 0, 0, ⟨4, 3, 0, 0, false, 0, 0, 0, false, false, 0, false⟩⟩, ⟨10, 0, 0, false, 0, 0, Cf.zero⟩]
def pxT : List UInt8 := [108, 111, 97, 100, 32, 52, 32, 49, 48, 48, 48, 10, 115, 116, 111, 114, 101, 32, 50, 32, 49, 48, 32, 43, 32, 102, 102, 10, 98, 114, 97, 110, 99, 104, 32, 48, 32, 48, 10, 99, 111, 110, 102, 32, 116, 97, 107, 101, 32, 51, 10, 104, 97, 108, 116]
def pxJ : In := ⟨6, 0, 0, false, 0, 6, Cf.zero⟩
def pxU : List UInt8 := [106, 117, 109, 112, 32, 54]
def pxB : List (List UInt8) := [[108, 111, 97, 100, 32, 51, 32, 48], [108, 111, 97, 100, 32, 52, 32, 48, 49], [119, 97, 105, 116, 32, 110, 111, 119], [104, 97, 108, 116, 32]]
theorem px_fits : ∀ x ∈ pxL, x.Fits := by
  intro x hx
  simp only [pxL, List.mem_cons, List.not_mem_nil, or_false] at hx
  rcases hx with rfl | rfl | rfl | rfl | rfl <;> exact ⟨by decide, by decide, by decide, by decide⟩
theorem px_ok : okR pxL = true := by decide
theorem pxJ_fits : pxJ.Fits := ⟨by decide, by decide, by decide, by decide⟩
theorem n10_4 : numL 10 4 = [52] := (numL_lt (by omega)).trans (by decide)
theorem n10_2 : numL 10 2 = [50] := (numL_lt (by omega)).trans (by decide)
theorem n10_3 : numL 10 3 = [51] := (numL_lt (by omega)).trans (by decide)
theorem n10_0 : numL 10 0 = [48] := (numL_lt (by omega)).trans (by decide)
theorem n10_6 : numL 10 6 = [54] := (numL_lt (by omega)).trans (by decide)
theorem n16_0 : numL 16 0 = [48] := (numL_lt (by omega)).trans (by decide)
theorem n16_1 : numL 16 1 = [49] := (numL_lt (by omega)).trans (by decide)
theorem n16_16 : numL 16 16 = [49, 48] := by rw [numL_ge (by omega) (by omega), show 16 / 16 = 1 from rfl, n16_1]; decide
theorem n16_256 : numL 16 256 = [49, 48, 48] := by rw [numL_ge (by omega) (by omega), show 256 / 16 = 16 from rfl, n16_16]; decide
theorem n16_4096 : numL 16 4096 = [49, 48, 48, 48] := by rw [numL_ge (by omega) (by omega), show 4096 / 16 = 256 from rfl, n16_256]; decide
theorem n16_255 : numL 16 255 = [102, 102] := by rw [numL_ge (by omega) (by omega), show 255 / 16 = 15 from rfl, numL_lt (by omega)]; decide
theorem px_text : showT pxL = pxT := by
  have e4 : Cf.shown ⟨4, 3, 0, 0, false, 0, 0, 0, false, false, 0, false⟩ = [116, 97, 107, 101, 32, 51] := by
    unfold Cf.shown
    rw [if_pos (by decide)]
    show Lib.join [kindW 4, numL 10 3] [32] = _
    rw [n10_3]
    decide
  show Lib.join [Lib.join [opW 1, numL 10 4, numL 16 4096] [32], Lib.join [opW 2, numL 10 2, numL 16 16, [43], numL 16 255] [32], Lib.join [opW 5, numL 16 0, numL 10 0] [32], Lib.join [opW 9, Cf.shown ⟨4, 3, 0, 0, false, 0, 0, 0, false, false, 0, false⟩] [32], Lib.join [opW 10] [32]] [10] = pxT
  rw [n10_4, n16_4096, n10_2, n16_16, n16_255, n16_0, n10_0, e4]
  decide
theorem px_read : rdA pxT = (pxL, 0, 0) := by rw [← px_text]; exact rd_show px_fits px_ok
theorem pxJ_text : pxJ.line = pxU := by
  show Lib.join [opW 6, numL 10 6] [32] = pxU
  rw [n10_6]
  decide
theorem pxU_read : rdA pxU = ([], 1, 6) := by
  have hok : pxJ.ok = true := by decide
  have hs := ShI.of pxJ pxJ_fits hok
  have hli : linesOf pxU = [pxU] := by
    have := linesOf_join pxJ.line [] (fun y hy => by simp at hy; subst hy; exact line_no10 hs)
    rw [Lib.join_one, pxJ_text] at this
    exact this
  have h1 := one_line pxJ_fits hok
  rw [pxJ_text] at h1
  unfold rdA
  rw [if_neg (by decide), hli]
  have hb : idxG badL [pxU] 0 = -1 := idxG_none 0 (fun z hz => by simp at hz; subst hz; unfold badL; rw [h1.1]; rfl)
  rw [if_neg (by rw [hb]; decide), if_neg (by decide)]
  show (if 0 ≤ idxF (In.far 1) [oneX pxU] 0 then (([] : List In), idxF (In.far 1) [oneX pxU] 0 + 1, (6 : Int)) else ([oneX pxU], 0, 0)) = _
  rw [h1.2.1]
  rfl
theorem bad_ok (s : List UInt8) (ws : List (List UInt8)) (hw : Lib.splitK [32] 0 (s.count 32) s = ws) (h : ((scanP ws).ok && (scanP ws).line == s) = false) : oneOk s = false := by
  unfold oneOk
  rw [wordsOf_eq, hw]
  exact h
theorem pbad_all : ∀ k, k < 4 → oneE (pxB.getD k []) = 8 := by
  have h : ∀ s, oneOk s = false → oneE s = 8 := fun s h => by unfold oneE; rw [h]; rfl
  intro k hk
  have : k = 0 ∨ k = 1 ∨ k = 2 ∨ k = 3 := by omega
  rcases this with rfl | rfl | rfl | rfl
  · exact h _ (bad_ok _ [[108, 111, 97, 100], [51], [48]] (by decide) (by decide))
  · refine h _ (bad_ok _ [[108, 111, 97, 100], [52], [48, 49]] (by decide) ?_)
    have e : scanP [[108, 111, 97, 100], [52], [48, 49]] = ⟨1, 4, 1, false, 0, 0, Cf.zero⟩ := by
      have a1 : numV 10 [52] = 4 ∧ numK 10 [52] = true := by decide
      have a2 : numV 16 [48, 49] = 1 ∧ numK 16 [48, 49] = true := by decide
      show atP (In.only 1) [[52], [48, 49]] = _
      simp [atP, numS, In.withAt, In.only, a1.1, a1.2, a2.1, a2.2]
    rw [e]
    have e2 : In.line ⟨1, 4, 1, false, 0, 0, Cf.zero⟩ = [108, 111, 97, 100, 32, 52, 32, 49] := by
      show Lib.join [opW 1, numL 10 4, numL 16 1] [32] = _
      rw [n10_4, n16_1]
      decide
    rw [e2]
    decide
  · exact h _ (bad_ok _ [[119, 97, 105, 116], [110, 111, 119]] (by decide) (by decide))
  · exact h _ (bad_ok _ [[104, 97, 108, 116], []] (by decide) (by decide))
end Go.Proofs.YtagmoehjcgjnjaaGreatDoor
