/- The reader of package conf: region, walked. Conditions: as in the texts before. -/
import Derived.Test.YtghoggjllcbalaaDoorCfR3
import Derived.Outline
namespace Go.Proofs.YtghoggjllcbalaaDoor
open Go Go.RowKit

attribute [local go_sem] cell_set_map Option.map_some

set_option maxRecDepth 100000 in
set_option maxHeartbeats 8000000 in
theorem region_p (rb sb : Nat) (p : Rds) (hS : Short p.1) (w : World) (hR : RdP w rb sb p) (hg : Gl w) (hrb : 8 ≤ rb) :
    Calls Tryd.prog 26 #[.pointer (some ⟨rb, 0, none⟩)] w fun e w' =>
      e = .returned (.agg #[.bool true, .int .i64 p.nv, .int .u32 p.n.xv, .int .u32 p.n.x.xv, .bool (hasB p.n.x.x.h 114), .bool (hasB p.n.x.x.h 119), .int .i64 p.n.x.x.t.nv, .bool (!p.n.x.x.t.n.1.isEmpty)]) ∧ RdP w' rb sb p.g ∧ Only [rb] w w' := by
  have hgg : p.g = if p.n.x.x.t.n.1.isEmpty then p.n.x.x.t.n else p.n.x.x.t.n.t := rfl
  rw [hgg]
  obtain ⟨q, hq⟩ : ∃ q, p.n.x.x.t.n = q := ⟨_, rfl⟩
  have hST : Short p.n.x.x.t.n.1 := hS.n.x.x.t.n
  rw [hq] at hST ⊢
  have HQ := Lib.hid hq
  clear hq hgg
  obtain ⟨ws, ok⟩ := q
  simp only at hST
  have hrl := hR.lt
  have hsl := hR.lt2
  have hne := hR.ne
  have hO0 := (Only.refl [] w).alloc (.cells #[.bool false, .int .i64 0, .int .u32 0, .int .u32 0, .bool false, .bool false, .int .i64 0, .bool false] 27)
  have hR0 := hR.only hO0 (by simp) (by simp)
  have hg0 := hg.only hO0
  have hZ0 : Blk (w.alloc (.cells #[.bool false, .int .i64 0, .int .u32 0, .int .u32 0, .bool false, .bool false, .int .i64 0, .bool false] 27)) w.heap.size 27 #[.bool false, .int .i64 0, .int .u32 0, .int .u32 0, .bool false, .bool false, .int .i64 0, .bool false] := Blk.new' rfl rfl
  have N1 := Lib.hid (number_p rb sb p hS _ hR0 hg0 hrb)
  have v1 : (p.nv : Int) ≤ 65535 := by have := dec_max (p.1.headD []); unfold Rds.nv; omega
  have v2 : (p.n.xv : Int) ≤ 4294967295 := by have := hex_max (p.n.1.headD []); unfold Rds.xv; omega
  have v3 : (p.n.x.xv : Int) ≤ 4294967295 := by have := hex_max (p.n.x.1.headD []); unfold Rds.xv; omega
  have v4 : (p.n.x.x.t.nv : Int) ≤ 65535 := by have := dec_max (p.n.x.x.t.1.headD []); unfold Rds.nv; omega
  generalize hx1 : p.nv = x1 at *
  clear hR hR0 hg0
  go_enter Tryd.func26, Tryd.ntmps26
  go_wp2_with fail
  refine N1.out.mono ?_
  rintro e w1 ⟨rfl, hR1, hO1⟩
  have hZ1 := hO1.blk hZ0 (by simp; omega)
  have hOa : Only [rb] w w1 := (hO0.mono (by simp)).trans hO1
  have hG1 : Blk (w1.alloc (.cells #[.bool true, .int .i64 x1, .int .u32 0, .int .u32 0, .bool false, .bool false, .int .i64 0, .bool false] 27)) w1.heap.size 27 #[.bool true, .int .i64 x1, .int .u32 0, .int .u32 0, .bool false, .bool false, .int .i64 0, .bool false] := Blk.new' rfl rfl
  have hOn := (Only.refl [] w1).alloc (.cells #[.bool true, .int .i64 x1, .int .u32 0, .int .u32 0, .bool false, .bool false, .int .i64 0, .bool false] 27)
  have hR2 := hR1.only hOn (by simp) (by simp)
  have hZ2 := hOn.blk hZ1 (by simp)
  have hOb : Only [rb] w (w1.alloc (.cells #[.bool true, .int .i64 x1, .int .u32 0, .int .u32 0, .bool false, .bool false, .int .i64 0, .bool false] 27)) := hOa.trans (hOn.mono (by simp))
  have hgbl : rb < w1.heap.size := hR1.lt
  have hgbs : sb < w1.heap.size := hR1.lt2
  have hwz : w.heap.size < w1.heap.size := hZ1.lt
  go_wp2_with fail
  generalize hgb : w1.heap.size = gb at *
  generalize w1.alloc (.cells #[.bool true, .int .i64 x1, .int .u32 0, .int .u32 0, .bool false, .bool false, .int .i64 0, .bool false] 27) = W1 at *
  clear hZ1 hOa hR1 hO1 hOn
  refine (address_p rb sb p.n hS.n _ hR2 (hg.onlyS hOb (by simpa using hrb)) hrb).mono ?_
  rintro e w2 ⟨rfl, hR3, hO2⟩
  have hZ3 := hO2.blk hZ2 (by simp; omega)
  have hG3 := hO2.blk hG1 (by simp; omega)
  have hOc := hOb.trans hO2
  clear hR2 hZ2 hG1 hOb hO2
  go_wp2_with fail
  refine (address_p rb sb p.n.x hS.n.x _ hR3 (hg.onlyS hOc (by simpa using hrb)) hrb).mono ?_
  rintro e w3 ⟨rfl, hR4, hO3⟩
  have hZ4 := hO3.blk hZ3 (by simp; omega)
  have hG4 := hO3.blk hG3 (by simp; omega)
  have hOd := hOc.trans hO3
  clear hR3 hZ3 hG3 hOc hO3
  have g2 : w3.cell? ⟨gb, 2, none⟩ = some (.int .u32 0) := hG4.cell 2
  have g3 : w3.cell? ⟨gb, 3, none⟩ = some (.int .u32 0) := hG4.cell 3
  have f2 := hG4.frozen 2
  have f3 := hG4.frozen 3
  have hG5 := (hG4.set_ 2 (.int .u32 p.n.xv)).set_ 3 (.int .u32 p.n.x.xv)
  have hOs := ((Only.refl [gb] w3).set1 (b := gb) (by simp) 2 (.int .u32 p.n.xv)).set1 (b := gb) (by simp) 3 (.int .u32 p.n.x.xv)
  have hR5 := hR4.only hOs (by simp; omega) (by simp; omega)
  have hZ5 := hOs.blk hZ4 (by simp; omega)
  have hOe := hOd.trans' hOs (by simp; omega)
  have HH := Lib.hid (And.intro hG5 (And.intro hR5 (And.intro hZ5 hOe)))
  clear hG4 hR4 hZ4 hG5 hR5 hZ5 hOd hOe hOs
  go_wp2_with fail
  obtain ⟨hG5, hR5, hZ5, hOe⟩ := HH.out
  clear HH g2 g3 f2 f3
  refine (take_p rb sb p.n.x.x hS.n.x.x _ hR5).mono ?_
  rintro e w4 ⟨rfl, hR6, hO4⟩
  have hZ6 := hO4.blk hZ5 (by simp; omega)
  have hG6 := hO4.blk hG5 (by simp; omega)
  have hOf := hOe.trans hO4
  clear hR5 hZ5 hG5 hOe hO4
  simp only [List.setIfInBounds_toArray, List.set_cons_succ, List.set_cons_zero] at hG6
  have g4 : w4.cell? ⟨gb, 4, none⟩ = some (.bool false) := hG6.cell 4
  have g5 : w4.cell? ⟨gb, 5, none⟩ = some (.bool false) := hG6.cell 5
  have f4 := hG6.frozen 4
  have f5 := hG6.frozen 5
  have hG7 := (hG6.set_ 4 (.bool (hasB p.n.x.x.h 114))).set_ 5 (.bool (hasB p.n.x.x.h 119))
  have hOs := ((Only.refl [gb] w4).set1 (b := gb) (by simp) 4 (.bool (hasB p.n.x.x.h 114))).set1 (b := gb) (by simp) 5 (.bool (hasB p.n.x.x.h 119))
  have hR7 := hR6.only hOs (by simp; omega) (by simp; omega)
  have hZ7 := hOs.blk hZ6 (by simp; omega)
  have hOg := hOf.trans' hOs (by simp; omega)
  have HH := Lib.hid (And.intro hG7 (And.intro hR7 (And.intro hZ7 hOg)))
  clear hG6 hR6 hZ6 hG7 hR7 hZ7 hOf hOg hOs
  go_wp2_with (go_at_call 41; refine (has_any _ _ _).mono ?_; rintro e w' ⟨rfl, rfl⟩)
  obtain ⟨hG7, hR7, hZ7, hOg⟩ := HH.out
  clear HH g4 g5 f4 f5
  refine (number_p rb sb p.n.x.x.t hS.n.x.x.t _ hR7 (hg.onlyS hOg (by simpa using hrb)) hrb).mono ?_
  rintro e w5 ⟨rfl, hR8, hO5⟩
  have hZ8 := hO5.blk hZ7 (by simp; omega)
  have hG8 := hO5.blk hG7 (by simp; omega)
  have hOh := hOg.trans hO5
  clear hR7 hZ7 hG7 hOg hO5
  simp only [List.setIfInBounds_toArray, List.set_cons_succ, List.set_cons_zero] at hG8
  have g6 : w5.cell? ⟨gb, 6, none⟩ = some (.int .i64 0) := hG8.cell 6
  have f6 := hG8.frozen 6
  have hG9 := hG8.set_ 6 (.int .i64 p.n.x.x.t.nv)
  have hOs := (Only.refl [gb] w5).set1 (b := gb) (by simp) 6 (.int .i64 p.n.x.x.t.nv)
  have hR9 := hR8.only hOs (by simp; omega) (by simp; omega)
  have hZ9 := hOs.blk hZ8 (by simp; omega)
  have hOi := hOh.trans' hOs (by simp; omega)
  simp only [List.setIfInBounds_toArray, List.set_cons_succ, List.set_cons_zero] at hG9
  have hq := HQ.out
  rw [hq] at hR8 hR9
  have HH := Lib.hid (And.intro hG9 (And.intro hR9 (And.intro hZ9 hOi)))
  have n1 : ¬ rb = gb := by omega
  have n2 : ¬ gb = rb := by omega
  have n3 : ¬ w.heap.size = gb := by omega
  have n4 : ¬ gb = w.heap.size := by omega
  have n5 : ¬ w.heap.size = rb := by omega
  have n6 : ¬ rb = w.heap.size := by omega
  have g0 : w5.cell? ⟨gb, 0, none⟩ = some (.bool true) := hG8.cell 0
  have g1 : w5.cell? ⟨gb, 1, none⟩ = some (.int .i64 x1) := hG8.cell 1
  have g2 : w5.cell? ⟨gb, 2, none⟩ = some (.int .u32 p.n.xv) := hG8.cell 2
  have g3 : w5.cell? ⟨gb, 3, none⟩ = some (.int .u32 p.n.x.xv) := hG8.cell 3
  have g4 : w5.cell? ⟨gb, 4, none⟩ = some (.bool (hasB p.n.x.x.h 114)) := hG8.cell 4
  have g5 : w5.cell? ⟨gb, 5, none⟩ = some (.bool (hasB p.n.x.x.h 119)) := hG8.cell 5
  have g7 : w5.cell? ⟨gb, 7, none⟩ = some (.bool false) := hG8.cell 7
  have f7 := hG8.frozen 7
  have z0 : w5.cell? ⟨w.heap.size, 0, none⟩ = some (.bool false) := hZ8.cell 0
  have z1 : w5.cell? ⟨w.heap.size, 1, none⟩ = some (.int .i64 0) := hZ8.cell 1
  have z2 : w5.cell? ⟨w.heap.size, 2, none⟩ = some (.int .u32 0) := hZ8.cell 2
  have z3 : w5.cell? ⟨w.heap.size, 3, none⟩ = some (.int .u32 0) := hZ8.cell 3
  have z4 : w5.cell? ⟨w.heap.size, 4, none⟩ = some (.bool false) := hZ8.cell 4
  have z5 : w5.cell? ⟨w.heap.size, 5, none⟩ = some (.bool false) := hZ8.cell 5
  have z6 : w5.cell? ⟨w.heap.size, 6, none⟩ = some (.int .i64 0) := hZ8.cell 6
  have z7 : w5.cell? ⟨w.heap.size, 7, none⟩ = some (.bool false) := hZ8.cell 7
  have fz0 := hZ8.frozen 0
  have fz1 := hZ8.frozen 1
  have fz2 := hZ8.frozen 2
  have fz3 := hZ8.frozen 3
  have fz4 := hZ8.frozen 4
  have fz5 := hZ8.frozen 5
  have fz6 := hZ8.frozen 6
  have fz7 := hZ8.frozen 7
  have hgl := hG8.lt
  have hzl := hZ8.lt
  obtain ⟨off, hb8, -⟩ := hR8
  clear hG8 hZ8 hG9 hR9 hZ9 hOh hOi hOs HQ hq
  rcases ws with _ | ⟨y, r⟩
  · have c0 : w5.cell? ⟨rb, 0, none⟩ = some (.slice (some ⟨sb, off, none⟩) 0 0) := hb8.cell 0
    clear hb8
    go_wp2_with fail
    refine bodyPost_ret (v := .agg #[.bool true, .int .i64 x1, .int .u32 p.n.xv, .int .u32 p.n.x.xv, .bool (hasB p.n.x.x.h 114), .bool (hasB p.n.x.x.h 119), .int .i64 p.n.x.x.t.nv, .bool false]) (by simp [results, Tryd.results26, go_sem, z0, z1, z2, z3, z4, z5, z6, z7]) rfl ?_
    obtain ⟨hG9, hR9, hZ9, hOi⟩ := HH.out
    refine ⟨rfl, ?_, ?_⟩
    · exact hR9.only (S := [gb, w.heap.size]) (by repeat (first | with_reducible exact Only.refl _ _ | with_reducible refine Only.set1 ?_ (by simp) _ _)) (by simp only [List.mem_cons, List.not_mem_nil, or_false]; omega) (by simp only [List.mem_cons, List.not_mem_nil, or_false]; omega)
    · exact hOi.trans' (S' := [gb, w.heap.size]) (by repeat (first | with_reducible exact Only.refl _ _ | with_reducible refine Only.set1 ?_ (by simp) _ _)) (by intro x hx; simp only [List.mem_cons, List.not_mem_nil, or_false] at hx; intro h; omega)
  · obtain ⟨m, hm⟩ : ∃ m, r.length = m := ⟨_, rfl⟩
    have c0 : w5.cell? ⟨rb, 0, none⟩ = some (.slice (some ⟨sb, off, none⟩) (m + 1) (m + 1)) := by rw [← hm]; exact hb8.cell 0
    have hm2 : m + 1 ≤ 1000000 := by rw [← hm]; exact hST.1
    clear hb8 hm
    go_wp2_with fail
    obtain ⟨hG9, hR9, hZ9, hOi⟩ := HH.out
    have hG10 := hG9.set_ 7 (.bool true)
    have hOs : Only [gb] (w5.setCell ⟨gb, 6, none⟩ (.int .i64 p.n.x.x.t.nv)) ((w5.setCell ⟨gb, 6, none⟩ (.int .i64 p.n.x.x.t.nv)).setCell ⟨gb, 7, none⟩ (.bool true)) := (Only.refl [gb] _).set1 (b := gb) (by simp) 7 (.bool true)
    have hR10 := hR9.only hOs (by simp only [List.mem_cons, List.not_mem_nil, or_false]; omega) (by simp only [List.mem_cons, List.not_mem_nil, or_false]; omega)
    have hZ10 := hOs.blk hZ9 (by simp only [List.mem_cons, List.not_mem_nil, or_false]; omega)
    have hOj := hOi.trans' hOs (by intro x hx; simp only [List.mem_cons, List.not_mem_nil, or_false] at hx; intro h; omega)
    clear HH hG9 hR9 hZ9 hOi hOs g0 g1 g2 g3 g4 g5 g6 g7 f6 f7 z0 z1 z2 z3 z4 z5 z6 z7 fz0 fz1 fz2 fz3 fz4 fz5 fz6 fz7 c0
    refine (take_p rb sb (y :: r, ok) hST _ hR10).mono ?_
    rintro e w6 ⟨rfl, hR11, hO6⟩
    have hGc := hO6.blk hG10 (by simp only [List.mem_cons, List.not_mem_nil, or_false]; omega)
    have hZc := hO6.blk hZ10 (by simp only [List.mem_cons, List.not_mem_nil, or_false]; omega)
    have hOk := hOj.trans hO6
    simp only [List.setIfInBounds_toArray, List.set_cons_succ, List.set_cons_zero] at hGc
    have g0 : w6.cell? ⟨gb, 0, none⟩ = some (.bool true) := hGc.cell 0
    have g1 : w6.cell? ⟨gb, 1, none⟩ = some (.int .i64 x1) := hGc.cell 1
    have g2 : w6.cell? ⟨gb, 2, none⟩ = some (.int .u32 p.n.xv) := hGc.cell 2
    have g3 : w6.cell? ⟨gb, 3, none⟩ = some (.int .u32 p.n.x.xv) := hGc.cell 3
    have g4 : w6.cell? ⟨gb, 4, none⟩ = some (.bool (hasB p.n.x.x.h 114)) := hGc.cell 4
    have g5 : w6.cell? ⟨gb, 5, none⟩ = some (.bool (hasB p.n.x.x.h 119)) := hGc.cell 5
    have g6 : w6.cell? ⟨gb, 6, none⟩ = some (.int .i64 p.n.x.x.t.nv) := hGc.cell 6
    have g7 : w6.cell? ⟨gb, 7, none⟩ = some (.bool true) := hGc.cell 7
    have z0 : w6.cell? ⟨w.heap.size, 0, none⟩ = some (.bool false) := hZc.cell 0
    have z1 : w6.cell? ⟨w.heap.size, 1, none⟩ = some (.int .i64 0) := hZc.cell 1
    have z2 : w6.cell? ⟨w.heap.size, 2, none⟩ = some (.int .u32 0) := hZc.cell 2
    have z3 : w6.cell? ⟨w.heap.size, 3, none⟩ = some (.int .u32 0) := hZc.cell 3
    have z4 : w6.cell? ⟨w.heap.size, 4, none⟩ = some (.bool false) := hZc.cell 4
    have z5 : w6.cell? ⟨w.heap.size, 5, none⟩ = some (.bool false) := hZc.cell 5
    have z6 : w6.cell? ⟨w.heap.size, 6, none⟩ = some (.int .i64 0) := hZc.cell 6
    have z7 : w6.cell? ⟨w.heap.size, 7, none⟩ = some (.bool false) := hZc.cell 7
    have fz0 := hZc.frozen 0
    have fz1 := hZc.frozen 1
    have fz2 := hZc.frozen 2
    have fz3 := hZc.frozen 3
    have fz4 := hZc.frozen 4
    have fz5 := hZc.frozen 5
    have fz6 := hZc.frozen 6
    have fz7 := hZc.frozen 7
    have hgl6 := hGc.lt
    have hzl6 := hZc.lt
    clear hG10 hR10 hZ10 hOj hO6 hGc hZc
    go_wp2_with fail
    refine bodyPost_ret (v := .agg #[.bool true, .int .i64 x1, .int .u32 p.n.xv, .int .u32 p.n.x.xv, .bool (hasB p.n.x.x.h 114), .bool (hasB p.n.x.x.h 119), .int .i64 p.n.x.x.t.nv, .bool true]) (by simp [results, Tryd.results26, go_sem, z0, z1, z2, z3, z4, z5, z6, z7]) rfl ?_
    refine ⟨rfl, ?_, ?_⟩
    · exact hR11.only (S := [gb, w.heap.size]) (by repeat (first | with_reducible exact Only.refl _ _ | with_reducible refine Only.set1 ?_ (by simp) _ _)) (by simp only [List.mem_cons, List.not_mem_nil, or_false]; omega) (by simp only [List.mem_cons, List.not_mem_nil, or_false]; omega)
    · exact hOk.trans' (S' := [gb, w.heap.size]) (by repeat (first | with_reducible exact Only.refl _ _ | with_reducible refine Only.set1 ?_ (by simp) _ _)) (by intro x hx; simp only [List.mem_cons, List.not_mem_nil, or_false] at hx; intro h; omega)
end Go.Proofs.YtghoggjllcbalaaDoor
