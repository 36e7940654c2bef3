/- What the listed variables hold, from the row's condition and the world's shape. No condition beyond these. -/
import Derived.Test.YtagmoehjcgjnjaaGreatDoorCfGc
import Derived.Test.YtagmoehjcgjnjaaGreatDoorShelfP
import Derived.Test.YtagmoehjcgjnjaaGreatDoorRows
import Derived.ProofKit
import Derived.Shelf.Vars
import Derived.LaidMore
import Derived.OpenShut
import Derived.Stop.Joined
namespace Go.Proofs.YtagmoehjcgjnjaaGreatDoor
open Go Go.RowKit Go.ChangeShapes Go.WideShapes Go.ChangeAt

def dbTab : List Int := [0, 1, 56, 2, 57, 49, 28, 3, 61, 58, 42, 50, 38, 29, 17, 4, 62, 47, 59, 36, 45, 43, 51, 22, 53, 39, 33, 30, 24, 18, 12, 5, 63, 55, 48, 27, 60, 41, 37, 16, 46, 35, 44, 21, 52, 32, 23, 11, 54, 26, 40, 15, 34, 20, 31, 10, 25, 14, 19, 9, 13, 8, 7, 6]
theorem gl_of {W : World} (hL : laidMetH Tryz.prog Rows.progMoreRow.laid W) (hsh : W.ShapedOpen Tryz.prog) : Gl W := by
  rw [MakeChecks.laidMetH_plain _ _ _ (by kernel_rfl)] at hL
  obtain ⟨ps, ⟨g0, t0, cs0, f0, p0, q0, hg0, ht0, hv0, hd0, ⟨g1, t1, cs1, f1, p1, q1, hg1, ht1, hv1, hd1, ⟨g2, t2, cs2, f2, p2, q2, hg2, ht2, hv2, hd2, ⟨g3, t3, cs3, f3, p3, q3, hg3, ht3, hv3, hd3, ⟨g4, t4, cs4, f4, p4, q4, hg4, ht4, hv4, hd4, ⟨g5, t5, cs5, f5, p5, q5, hg5, ht5, hv5, hd5, _, _⟩, _⟩, _⟩, _⟩, _⟩, _⟩, _, _⟩ := hL
  obtain rfl := Option.some.inj ((show Tryz.prog.globalNamed "math/bits.deBruijn64tab" = some 7 by kernel_rfl).symm.trans hg1)
  obtain rfl := Option.some.inj ((show Tryz.prog.globalNamed "internal/strconv.uint64pow10" = some 1 by kernel_rfl).symm.trans hg2)
  obtain rfl := Option.some.inj ((show Tryz.prog.globalNamed "strconv.ErrRange" = some 5 by kernel_rfl).symm.trans hg4)
  obtain rfl := Option.some.inj ((show Tryz.prog.globalNamed "strconv.ErrSyntax" = some 4 by kernel_rfl).symm.trans hg5)
  obtain rfl := Option.some.inj ((show (Tryz.prog.globals[7]?).map (·.type) = some 236 by kernel_rfl).symm.trans ht1)
  obtain rfl := Option.some.inj ((show (Tryz.prog.globals[1]?).map (·.type) = some 215 by kernel_rfl).symm.trans ht2)
  obtain rfl := Option.some.inj ((show (Tryz.prog.globals[5]?).map (·.type) = some 110 by kernel_rfl).symm.trans ht4)
  obtain rfl := Option.some.inj ((show (Tryz.prog.globals[4]?).map (·.type) = some 110 by kernel_rfl).symm.trans ht5)
  have e1 := Lib.cells_of_tab (k := .u8) (zs := dbTab) Tryz.underlying236 Tryz.underlying5 (by kernel_rfl) (by kernel_rfl) hd1
  have e2 := Lib.cells_of_tab (k := .u64) (zs := Lib.pow10Tab) Tryz.underlying215 Tryz.underlying116 (by kernel_rfl) (by kernel_rfl) hd2
  have hi : ∀ {f : Nat} {cs : List Value} {d : DataW Unit} {p : List MemPlace} {n : String}, DataW.trod (fun _ => ()) Tryz.prog W 0 (fun _ => true) false f 110 cs = some (.iface n d, p) → ∃ tp q, cs = [.iface tp q] := by
    intro f cs d p n h
    cases f with
    | zero => simp [DataW.trod] at h
    | succ f =>
      simp only [DataW.trod, Tryz.underlying110] at h
      rcases cs with _ | ⟨v, _ | ⟨v2, r⟩⟩
      · simp at h
      · cases v <;> first | exact ⟨_, _, rfl⟩ | simp at h
      · simp at h
  have h15 : W.cell? ⟨7, 15, none⟩ = some (.int .u8 4) := by
    rw [World.var?_cell hg1 hv1 15, ← Array.getElem?_toList, e1]
    rfl
  have h8 : 8 ≤ W.heap.size := by
    rcases Nat.lt_or_ge 7 W.heap.size with h | h
    · exact h
    · unfold World.cell? at h15
      simp only at h15
      rw [Array.getElem?_eq_none (show W.heap.size ≤ 7 from h)] at h15
      simp at h15
  refine ⟨?_, ?_, ?_, ?_, h15, h8⟩
  · unfold Lib.TabIs
    rw [hv2, ← e2]
  · exact cell_of_shapedOpen_int (t := 3) (zero := #[.int .i64 0]) hsh (of_decide_eq_true (by kernel_rfl)) (by kernel_rfl) rfl (by kernel_rfl) (by kernel_rfl) Tryz.underlying3
  · obtain ⟨tp, q, e⟩ := hi hd5
    exact ⟨tp, q, by rw [hv5, Array.eq_one_of_toList e]⟩
  · obtain ⟨tp, q, e⟩ := hi hd4
    exact ⟨tp, q, by rw [hv4, Array.eq_one_of_toList e]⟩
end Go.Proofs.YtagmoehjcgjnjaaGreatDoor
