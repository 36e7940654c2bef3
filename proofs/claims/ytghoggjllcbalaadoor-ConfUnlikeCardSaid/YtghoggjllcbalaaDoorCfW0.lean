/- The chapter's examples, in plain words. No program, no condition. -/
import Derived.Test.YtghoggjllcbalaaDoorCfL3
import Derived.KernelRfl
namespace Go.Proofs.YtghoggjllcbalaaDoor
open Go

def exC : Cf := ⟨1, 3, 0, 0, true, 1, 256, 511, true, true, 5, true⟩
def exR : Cf := ⟨6, 2, 0, -1, false, 0, 0, 0, false, false, 0, false⟩
def exT : List UInt8 := [114, 101, 103, 105, 111, 110, 32, 51, 32, 49, 32, 49, 48, 48, 32, 49, 102, 102, 32, 114, 119, 32, 53, 32, 108, 111, 99, 107, 101, 100]
def exS : List UInt8 := [114, 111, 117, 116, 101, 32, 50, 32, 45]
def exB : List (List UInt8) := [[116, 97, 107, 101, 32, 48, 50], [116, 97, 107, 101, 32, 32, 50], [103, 105, 118, 101, 32, 50], [108, 111, 99, 107, 32, 110, 111, 119], [114, 101, 103, 105, 111, 110, 32, 51, 32, 49, 32, 48, 49, 48, 48, 32, 49, 102, 102, 32, 114, 119, 32, 53]]

theorem n10_one {n : Nat} (h : n < 10) : numL 10 n = [hx n] := numL_lt h
theorem n16_100 : numL 16 256 = [49, 48, 48] := by
  rw [numL_ge (by decide) (by decide), numL_ge (by decide) (by decide), numL_lt (by decide)]
  decide
theorem n16_1ff : numL 16 511 = [49, 102, 102] := by
  rw [numL_ge (by decide) (by decide), numL_ge (by decide) (by decide), numL_lt (by decide)]
  decide
theorem exC_right : exC.right = true := by decide
theorem exR_right : exR.right = true := by decide
theorem exC_fits : exC.Fits := ⟨⟨by decide, by decide⟩, ⟨by decide, by decide⟩⟩
theorem exR_fits : exR.Fits := ⟨⟨by decide, by decide⟩, ⟨by decide, by decide⟩⟩
theorem exC_text : exC.text = exT := by
  have h : exC.words = [kindW 1, numL 10 3, numL 10 1, numL 16 256, numL 16 511, rightsL true true, numL 10 5, [108, 111, 99, 107, 101, 100]] := rfl
  rw [Cf.text, h, n16_100, n16_1ff, n10_one (by decide), n10_one (by decide), n10_one (by decide)]
  decide
theorem exR_text : exR.text = exS := by
  have h : exR.words = [kindW 6, numL 10 2, lineL (-1)] := rfl
  rw [Cf.text, h, n10_one (by decide)]
  decide
theorem ex_says : Says exT exC := ⟨exC_fits, exC_right, exC_text⟩

theorem readE_text {s : List UInt8} {r : Cf × Rds} (h : parse s = r) (ht : r.1.text ≠ s) : readE s (parse s) = 8 := by
  rw [h]
  unfold readE
  have : (r.1.text == s) = false := by simpa using ht
  rw [this]
  simp
theorem readE_ok {s : List UInt8} {r : Cf × Rds} (h : parse s = r) (ht : r.2.2 = false) : readE s (parse s) = 8 := by
  rw [h]
  unfold readE
  rw [ht]
  simp
theorem bad_p0 : parse [116, 97, 107, 101, 32, 48, 50] = (⟨4, 2, 0, 0, false, 0, 0, 0, false, false, 0, false⟩, ([], true)) := by
  unfold parse
  rw [wordsOf_eq]
  kernel_rfl
theorem bad_p1 : parse [116, 97, 107, 101, 32, 32, 50] = (⟨4, 0, 0, 0, false, 0, 0, 0, false, false, 0, false⟩, ([[50]], false)) := by
  unfold parse
  rw [wordsOf_eq]
  kernel_rfl
theorem bad_p2 : parse [103, 105, 118, 101, 32, 50] = (⟨3, 2, 0, 0, false, 0, 0, 0, false, false, 0, false⟩, ([], false)) := by
  unfold parse
  rw [wordsOf_eq]
  kernel_rfl
theorem bad_p3 : parse [108, 111, 99, 107, 32, 110, 111, 119] = (⟨7, 0, 0, 0, false, 0, 0, 0, false, false, 0, false⟩, ([[110, 111, 119]], true)) := by
  unfold parse
  rw [wordsOf_eq]
  kernel_rfl
theorem bad_p4 : parse [114, 101, 103, 105, 111, 110, 32, 51, 32, 49, 32, 48, 49, 48, 48, 32, 49, 102, 102, 32, 114, 119, 32, 53] = (⟨1, 3, 0, 0, true, 1, 256, 511, true, true, 5, false⟩, ([], true)) := by
  unfold parse
  rw [wordsOf_eq]
  kernel_rfl
theorem bad_0 : readE [116, 97, 107, 101, 32, 48, 50] (parse [116, 97, 107, 101, 32, 48, 50]) = 8 := readE_text bad_p0 (by
  rw [Cf.text, show Cf.words ⟨4, 2, 0, 0, false, 0, 0, 0, false, false, 0, false⟩ = [kindW 4, numL 10 2] from rfl, n10_one (by decide)]
  decide)
theorem bad_1 : readE [116, 97, 107, 101, 32, 32, 50] (parse [116, 97, 107, 101, 32, 32, 50]) = 8 := readE_ok bad_p1 rfl
theorem bad_2 : readE [103, 105, 118, 101, 32, 50] (parse [103, 105, 118, 101, 32, 50]) = 8 := readE_ok bad_p2 rfl
theorem bad_3 : readE [108, 111, 99, 107, 32, 110, 111, 119] (parse [108, 111, 99, 107, 32, 110, 111, 119]) = 8 := readE_text bad_p3 (by decide)
theorem bad_4 : readE [114, 101, 103, 105, 111, 110, 32, 51, 32, 49, 32, 48, 49, 48, 48, 32, 49, 102, 102, 32, 114, 119, 32, 53] (parse [114, 101, 103, 105, 111, 110, 32, 51, 32, 49, 32, 48, 49, 48, 48, 32, 49, 102, 102, 32, 114, 119, 32, 53]) = 8 := readE_text bad_p4 (by
  rw [Cf.text, show Cf.words ⟨1, 3, 0, 0, true, 1, 256, 511, true, true, 5, false⟩ = [kindW 1, numL 10 3, numL 10 1, numL 16 256, numL 16 511, rightsL true true, numL 10 5] from rfl, n16_100, n16_1ff, n10_one (by decide), n10_one (by decide), n10_one (by decide)]
  decide)
theorem bad_all (k : Nat) (h : k < 5) : readE (exB.getD k []) (parse (exB.getD k [])) = 8 := by
  have : k = 0 ∨ k = 1 ∨ k = 2 ∨ k = 3 ∨ k = 4 := by omega
  rcases this with rfl | rfl | rfl | rfl | rfl
  · exact bad_0
  · exact bad_1
  · exact bad_2
  · exact bad_3
  · exact bad_4
theorem bad_short (k : Nat) (h : k < 5) : (exB.getD k []).length < 100 := by
  have : k = 0 ∨ k = 1 ∨ k = 2 ∨ k = 3 ∨ k = 4 := by omega
  rcases this with rfl | rfl | rfl | rfl | rfl <;> decide
end Go.Proofs.YtghoggjllcbalaaDoor
