/- An instruction that came in by value, as the form hands it. No condition. -/
import Derived.Test.YtagmoehjcgjnjaaGreatDoorPgArg
namespace Go.Proofs.YtagmoehjcgjnjaaGreatDoor
open Go Go.RowKit

set_option maxRecDepth 100000 in
theorem instr_arg {w : World} {r : Reach} {base : Nat} {v : Value} (h : Value.okWide Tryz.prog w r base 33 v) : ∃ x : In, v = x.agg ∧ x.Fits := by
  obtain ⟨cs, rfl, hsz, hc⟩ := agg_cells h Tryz.underlying33 (ts := [23, 3, 24, 4, 24, 3, 25, 3, 3, 3, 4, 3, 24, 24, 4, 4, 3, 4]) (by kernel_rfl) (by kernel_rfl)
  obtain ⟨x0, e0, h0⟩ := hc 0 _ rfl
  obtain ⟨x1, e1, h1⟩ := hc 1 _ rfl
  obtain ⟨x2, e2, h2⟩ := hc 2 _ rfl
  obtain ⟨x3, e3, h3⟩ := hc 3 _ rfl
  obtain ⟨x4, e4, h4⟩ := hc 4 _ rfl
  obtain ⟨x5, e5, h5⟩ := hc 5 _ rfl
  obtain ⟨x6, e6, h6⟩ := hc 6 _ rfl
  obtain ⟨x7, e7, h7⟩ := hc 7 _ rfl
  obtain ⟨x8, e8, h8⟩ := hc 8 _ rfl
  obtain ⟨x9, e9, h9⟩ := hc 9 _ rfl
  obtain ⟨x10, e10, h10⟩ := hc 10 _ rfl
  obtain ⟨x11, e11, h11⟩ := hc 11 _ rfl
  obtain ⟨x12, e12, h12⟩ := hc 12 _ rfl
  obtain ⟨x13, e13, h13⟩ := hc 13 _ rfl
  obtain ⟨x14, e14, h14⟩ := hc 14 _ rfl
  obtain ⟨x15, e15, h15⟩ := hc 15 _ rfl
  obtain ⟨x16, e16, h16⟩ := hc 16 _ rfl
  obtain ⟨x17, e17, h17⟩ := hc 17 _ rfl
  obtain ⟨a0, rfl, -, -⟩ := cell_i64 (by kernel_rfl) h0
  obtain ⟨a1, rfl, -, -⟩ := cell_i64 (by kernel_rfl) h1
  obtain ⟨a2, rfl, b2, d2⟩ := cell_u32 (by kernel_rfl) h2
  obtain ⟨a3, rfl⟩ := cell_bool (by kernel_rfl) h3
  obtain ⟨a4, rfl, b4, d4⟩ := cell_u32 (by kernel_rfl) h4
  obtain ⟨a5, rfl, -, -⟩ := cell_i64 (by kernel_rfl) h5
  obtain ⟨a6, rfl, -, -⟩ := cell_i64 (by kernel_rfl) h6
  obtain ⟨a7, rfl, -, -⟩ := cell_i64 (by kernel_rfl) h7
  obtain ⟨a8, rfl, -, -⟩ := cell_i64 (by kernel_rfl) h8
  obtain ⟨a9, rfl, -, -⟩ := cell_i64 (by kernel_rfl) h9
  obtain ⟨a10, rfl⟩ := cell_bool (by kernel_rfl) h10
  obtain ⟨a11, rfl, -, -⟩ := cell_i64 (by kernel_rfl) h11
  obtain ⟨a12, rfl, b12, d12⟩ := cell_u32 (by kernel_rfl) h12
  obtain ⟨a13, rfl, b13, d13⟩ := cell_u32 (by kernel_rfl) h13
  obtain ⟨a14, rfl⟩ := cell_bool (by kernel_rfl) h14
  obtain ⟨a15, rfl⟩ := cell_bool (by kernel_rfl) h15
  obtain ⟨a16, rfl, -, -⟩ := cell_i64 (by kernel_rfl) h16
  obtain ⟨a17, rfl⟩ := cell_bool (by kernel_rfl) h17
  have hcs := array_of cs [.int .i64 a0, .int .i64 a1, .int .u32 a2, .bool a3, .int .u32 a4, .int .i64 a5, .int .i64 a6, .int .i64 a7, .int .i64 a8, .int .i64 a9, .bool a10, .int .i64 a11, .int .u32 a12, .int .u32 a13, .bool a14, .bool a15, .int .i64 a16, .bool a17] hsz (fun i x hx => by
    match i, hx with
    | 0, hx => cases hx; exact e0
    | 1, hx => cases hx; exact e1
    | 2, hx => cases hx; exact e2
    | 3, hx => cases hx; exact e3
    | 4, hx => cases hx; exact e4
    | 5, hx => cases hx; exact e5
    | 6, hx => cases hx; exact e6
    | 7, hx => cases hx; exact e7
    | 8, hx => cases hx; exact e8
    | 9, hx => cases hx; exact e9
    | 10, hx => cases hx; exact e10
    | 11, hx => cases hx; exact e11
    | 12, hx => cases hx; exact e12
    | 13, hx => cases hx; exact e13
    | 14, hx => cases hx; exact e14
    | 15, hx => cases hx; exact e15
    | 16, hx => cases hx; exact e16
    | 17, hx => cases hx; exact e17)
  subst hcs
  exact ⟨⟨a0, a1, a2, a3, a4, a5, ⟨a6, a7, a8, a9, a10, a11, a12, a13, a14, a15, a16, a17⟩⟩, rfl, ⟨b2, d2⟩, ⟨b4, d4⟩, ⟨b12, d12⟩, ⟨b13, d13⟩⟩
end Go.Proofs.YtagmoehjcgjnjaaGreatDoor
