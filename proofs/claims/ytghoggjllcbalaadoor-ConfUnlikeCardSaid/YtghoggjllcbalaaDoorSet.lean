/- A cell that is written: how it reads, without a side condition. No condition. -/
import Derived.Test.YtghoggjllcbalaaDoorMem
namespace Go.Proofs.YtghoggjllcbalaaDoor
open Go Go.RowKit

theorem cell_set_map (w : World) (a : Addr) (v : Value) : (w.setCell a v).cell? a = (w.cell? a).map fun _ => v := by
  cases h : w.cell? a with
  | some u => rw [World.cell?_setCell_same w a v h]; rfl
  | none =>
    unfold World.cell? at h ⊢
    simp only [World.setCell, Array.getElem?_modify, if_true]
    cases hb : w.heap[a.block]? with
    | none => rfl
    | some o =>
      rw [hb] at h
      cases o with
      | cells c t f =>
        simp only [Option.map_some] at h ⊢
        cases hs : a.spot.isSome with
        | true => simp
        | false =>
          simp only [hs, Bool.false_eq_true, if_false] at h ⊢
          rw [Array.getElem?_eq_none_iff] at h
          simp [h]
      | _ => rfl
end Go.Proofs.YtghoggjllcbalaaDoor
