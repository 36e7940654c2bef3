/- A command that came in, as the form hands it. No condition. -/
import Derived.Test.YtghoggjllcbalaaDoorCfGd
import Derived.Test.YtghoggjllcbalaaDoorLaw
namespace Go.Proofs.YtghoggjllcbalaaDoor
open Go Go.RowKit

set_option maxRecDepth 100000 in
theorem conf_arg {w : World} {r : Reach} {base : Nat} {v : Value} (h : Value.okWide Tryd.prog w r base 29 v) : ∃ c : Cf, v = c.agg ∧ c.Fits := by
  obtain ⟨cs, rfl, hsz, hc⟩ := agg_cells h Tryd.underlying29 (ts := [22, 3, 3, 3, 4, 3, 23, 23, 4, 4, 3, 4]) (by kernel_rfl) (by kernel_rfl)
  obtain ⟨x0, e0, h0⟩ := hc 0 _ rfl
  obtain ⟨x1, e1, h1⟩ := hc 1 _ rfl
  obtain ⟨x2, e2, h2⟩ := hc 2 _ rfl
  obtain ⟨x3, e3, h3⟩ := hc 3 _ rfl
  obtain ⟨x4, e4, h4⟩ := hc 4 _ rfl
  obtain ⟨x5, e5, h5⟩ := hc 5 _ rfl
  obtain ⟨x6, e6, h6⟩ := hc 6 _ rfl
  obtain ⟨x7, e7, h7⟩ := hc 7 _ rfl
  obtain ⟨x8, e8, h8⟩ := hc 8 _ rfl
  obtain ⟨x9, e9, h9⟩ := hc 9 _ rfl
  obtain ⟨x10, e10, h10⟩ := hc 10 _ rfl
  obtain ⟨x11, e11, h11⟩ := hc 11 _ rfl
  obtain ⟨a0, rfl, -, -⟩ := cell_i64 (by kernel_rfl) h0
  obtain ⟨a1, rfl, -, -⟩ := cell_i64 (by kernel_rfl) h1
  obtain ⟨a2, rfl, -, -⟩ := cell_i64 (by kernel_rfl) h2
  obtain ⟨a3, rfl, -, -⟩ := cell_i64 (by kernel_rfl) h3
  obtain ⟨a4, rfl⟩ := cell_bool (by kernel_rfl) h4
  obtain ⟨a5, rfl, -, -⟩ := cell_i64 (by kernel_rfl) h5
  obtain ⟨a6, rfl, b6, d6⟩ := cell_u32 (by kernel_rfl) h6
  obtain ⟨a7, rfl, b7, d7⟩ := cell_u32 (by kernel_rfl) h7
  obtain ⟨a8, rfl⟩ := cell_bool (by kernel_rfl) h8
  obtain ⟨a9, rfl⟩ := cell_bool (by kernel_rfl) h9
  obtain ⟨a10, rfl, -, -⟩ := cell_i64 (by kernel_rfl) h10
  obtain ⟨a11, rfl⟩ := cell_bool (by kernel_rfl) h11
  have hcs := array_of cs [.int .i64 a0, .int .i64 a1, .int .i64 a2, .int .i64 a3, .bool a4, .int .i64 a5, .int .u32 a6, .int .u32 a7, .bool a8, .bool a9, .int .i64 a10, .bool a11] hsz (fun i x hx => by
    match i, hx with
    | 0, hx => cases hx; exact e0
    | 1, hx => cases hx; exact e1
    | 2, hx => cases hx; exact e2
    | 3, hx => cases hx; exact e3
    | 4, hx => cases hx; exact e4
    | 5, hx => cases hx; exact e5
    | 6, hx => cases hx; exact e6
    | 7, hx => cases hx; exact e7
    | 8, hx => cases hx; exact e8
    | 9, hx => cases hx; exact e9
    | 10, hx => cases hx; exact e10
    | 11, hx => cases hx; exact e11)
  subst hcs
  exact ⟨⟨a0, a1, a2, a3, a4, a5, a6, a7, a8, a9, a10, a11⟩, rfl, ⟨b6, d6⟩, ⟨b7, d7⟩⟩
end Go.Proofs.YtghoggjllcbalaaDoor
