/- What the listed variables hold, from the row's condition and the world's shape. No condition beyond these. -/
import Derived.Test.YtojleleohhaigaaDoorTrB
import Derived.Test.YtojleleohhaigaaDoorShelfP
import Derived.Test.YtojleleohhaigaaDoorRows
import Derived.ProofKit
import Derived.Shelf.Vars
import Derived.LaidMore
import Derived.OpenShut
import Derived.Stop.Joined
namespace Go.Proofs.YtojleleohhaigaaDoor
open Go Go.RowKit Go.ChangeShapes Go.WideShapes Go.ChangeAt

def dbTab : List Int := [0, 1, 56, 2, 57, 49, 28, 3, 61, 58, 42, 50, 38, 29, 17, 4, 62, 47, 59, 36, 45, 43, 51, 22, 53, 39, 33, 30, 24, 18, 12, 5, 63, 55, 48, 27, 60, 41, 37, 16, 46, 35, 44, 21, 52, 32, 23, 11, 54, 26, 40, 15, 34, 20, 31, 10, 25, 14, 19, 9, 13, 8, 7, 6]
theorem gl_of {W : World} (hL : laidMetH Tryd.prog Rows.traceBackRow.laid W) (hsh : W.ShapedOpen Tryd.prog) : Gl W := by
  rw [MakeChecks.laidMetH_plain _ _ _ (by kernel_rfl)] at hL
  obtain ⟨ps, ⟨g0, t0, cs0, f0, p0, q0, hg0, ht0, hv0, hd0, ⟨g1, t1, cs1, f1, p1, q1, hg1, ht1, hv1, hd1, ⟨g2, t2, cs2, f2, p2, q2, hg2, ht2, hv2, hd2, ⟨g3, t3, cs3, f3, p3, q3, hg3, ht3, hv3, hd3, ⟨g4, t4, cs4, f4, p4, q4, hg4, ht4, hv4, hd4, ⟨g5, t5, cs5, f5, p5, q5, hg5, ht5, hv5, hd5, _, _⟩, _⟩, _⟩, _⟩, _⟩, _⟩, _, _⟩ := hL
  obtain rfl := Option.some.inj ((show Tryd.prog.globalNamed "math/bits.deBruijn64tab" = some 3 by kernel_rfl).symm.trans hg1)
  obtain rfl := Option.some.inj ((show Tryd.prog.globalNamed "internal/strconv.uint64pow10" = some 0 by kernel_rfl).symm.trans hg2)
  obtain rfl := Option.some.inj ((show Tryd.prog.globalNamed "strconv.ErrRange" = some 7 by kernel_rfl).symm.trans hg4)
  obtain rfl := Option.some.inj ((show Tryd.prog.globalNamed "strconv.ErrSyntax" = some 6 by kernel_rfl).symm.trans hg5)
  obtain rfl := Option.some.inj ((show (Tryd.prog.globals[3]?).map (·.type) = some 133 by kernel_rfl).symm.trans ht1)
  obtain rfl := Option.some.inj ((show (Tryd.prog.globals[0]?).map (·.type) = some 116 by kernel_rfl).symm.trans ht2)
  obtain rfl := Option.some.inj ((show (Tryd.prog.globals[7]?).map (·.type) = some 59 by kernel_rfl).symm.trans ht4)
  obtain rfl := Option.some.inj ((show (Tryd.prog.globals[6]?).map (·.type) = some 59 by kernel_rfl).symm.trans ht5)
  have e1 := Lib.cells_of_tab (k := .u8) (zs := dbTab) Tryd.underlying133 Tryd.underlying5 (by kernel_rfl) (by kernel_rfl) hd1
  have e2 := Lib.cells_of_tab (k := .u64) (zs := Lib.pow10Tab) Tryd.underlying116 Tryd.underlying57 (by kernel_rfl) (by kernel_rfl) hd2
  have hi : ∀ {f : Nat} {cs : List Value} {d : DataW Unit} {p : List MemPlace} {n : String}, DataW.trod (fun _ => ()) Tryd.prog W 0 (fun _ => true) false f 59 cs = some (.iface n d, p) → ∃ tp q, cs = [.iface tp q] := by
    intro f cs d p n h
    cases f with
    | zero => simp [DataW.trod] at h
    | succ f =>
      simp only [DataW.trod, Tryd.underlying59] at h
      rcases cs with _ | ⟨v, _ | ⟨v2, r⟩⟩
      · simp at h
      · cases v <;> first | exact ⟨_, _, rfl⟩ | simp at h
      · simp at h
  have h15 : W.cell? ⟨3, 15, none⟩ = some (.int .u8 4) := by
    rw [World.var?_cell hg1 hv1 15, ← Array.getElem?_toList, e1]
    rfl
  have h8 : 8 ≤ W.heap.size := by
    obtain ⟨tp, q, e⟩ := hi hd4
    have hc := var_cell hg4 (hv4.trans (congrArg some (Array.eq_one_of_toList e)))
    rcases Nat.lt_or_ge 7 W.heap.size with h | h
    · omega
    · unfold World.cell? at hc
      simp only at hc
      rw [Array.getElem?_eq_none h] at hc
      simp at hc
  refine ⟨?_, ?_, ?_, ?_, h15, h8⟩
  · unfold Lib.TabIs
    rw [hv2, ← e2]
  · exact cell_of_shapedOpen_int (t := 3) (zero := #[.int .i64 0]) hsh (of_decide_eq_true (by kernel_rfl)) (by kernel_rfl) rfl (by kernel_rfl) (by kernel_rfl) Tryd.underlying3
  · obtain ⟨tp, q, e⟩ := hi hd5
    exact ⟨tp, q, by rw [hv5, Array.eq_one_of_toList e]⟩
  · obtain ⟨tp, q, e⟩ := hi hd4
    exact ⟨tp, q, by rw [hv4, Array.eq_one_of_toList e]⟩
end Go.Proofs.YtojleleohhaigaaDoor
