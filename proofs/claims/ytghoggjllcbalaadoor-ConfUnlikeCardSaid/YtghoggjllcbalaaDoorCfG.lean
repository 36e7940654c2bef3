/- What the listed variables hold, carried over worlds in which nothing old has turned. No condition. -/
import Derived.Test.YtghoggjllcbalaaDoorMem
import Derived.Test.YtghoggjllcbalaaDoorProg
import Derived.Lib.LaidTab
import Derived.Lib.ItoaNum
import Derived.Lib.ItoaMem
import Derived.KernelRfl
namespace Go.Proofs.YtghoggjllcbalaaDoor
open Go Go.RowKit

theorem var_only {P : Program} {w w' : World} {n : String} {g : Nat} (hO : Only [] w w') (hg : P.globalNamed n = some g) (hgB : g < w.heap.size) : w'.var? P n = w.var? P n := by
  unfold World.var?
  simp only [hg, Option.bind_some]
  rw [hO.block g hgB (by simp)]

/-- What the library's variables hold. -/
structure Gl (w : World) : Prop where
  tab : Lib.TabIs Tryd.prog w "internal/strconv.uint64pow10" .u64 Lib.pow10Tab
  ml : ∃ m, w.cell? ⟨1, 0, none⟩ = some (.int .i64 m)
  es : ∃ tp p, w.var? Tryd.prog "strconv.ErrSyntax" = some #[.iface tp p]
  er : ∃ tp p, w.var? Tryd.prog "strconv.ErrRange" = some #[.iface tp p]
  db : w.cell? ⟨7, 15, none⟩ = some (.int .u8 4)
  lt : 8 ≤ w.heap.size

theorem Gl.only {w w' : World} (h : Gl w) (hO : Only [] w w') : Gl w' := by
  have hl := h.lt
  refine ⟨?_, ?_, ?_, ?_, ?_, Nat.le_trans hl hO.size⟩
  · have := h.tab
    unfold Lib.TabIs at this ⊢
    rw [var_only hO (g := 0) (by kernel_rfl) (by omega)]
    exact this
  · obtain ⟨m, hm⟩ := h.ml
    exact ⟨m, by rw [hO.cell (by show 1 < _; omega) (by simp)]; exact hm⟩
  · obtain ⟨tp, p, hm⟩ := h.es
    exact ⟨tp, p, by rw [var_only hO (g := 2) (by kernel_rfl) (by omega)]; exact hm⟩
  · obtain ⟨tp, p, hm⟩ := h.er
    exact ⟨tp, p, by rw [var_only hO (g := 3) (by kernel_rfl) (by omega)]; exact hm⟩
  · rw [hO.cell (by show 7 < _; omega) (by simp)]
    exact h.db
/-- A variable of one cell. -/
theorem var_cell {P : Program} {w : World} {n : String} {g : Nat} {v : Value} (hg : P.globalNamed n = some g) (h : w.var? P n = some #[v]) : w.cell? ⟨g, 0, none⟩ = some v := by
  unfold World.var? at h
  simp only [hg, Option.bind_some] at h
  unfold World.cell?
  split at h
  · rename_i cs t f hb
    rw [hb]
    injection h with h
    subst h
    rfl
  · cases h
end Go.Proofs.YtghoggjllcbalaaDoor
