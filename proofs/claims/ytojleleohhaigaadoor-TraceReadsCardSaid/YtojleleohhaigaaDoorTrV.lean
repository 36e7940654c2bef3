/- The reader of package trace: event, walked. Conditions: the listed variables are laid; words are short. -/
import Derived.Test.YtojleleohhaigaaDoorTrW
namespace Go.Proofs.YtojleleohhaigaaDoor
open Go Go.RowKit
attribute [local go_sem] cell_set_map Option.map_some

theorem RdW.cell {w : World} {rb : Nat} {ws : List (List UInt8)} (h : RdW w rb ws) : ∃ v, w.cell? ⟨rb, 0, none⟩ = some v ∧ StS w v ws := by
  obtain ⟨v, hb, hs, -⟩ := h
  exact ⟨v, hb.cell 0, hs⟩
theorem event_r4 {W w : World} {rb gb zb : Nat} {v v' : Value} {x0 z0 : Ev} {ws : List (List UInt8)} (hB : Blk W rb 73 #[v]) (hG : Blk W gb 44 x0.cs) (hZ : Blk W zb 44 z0.cs) (hO : Only [rb] w W) (hgr : gb ≠ rb) (hzr : zb ≠ rb)
    (hS : StS W v' ws) (hN : ws ≠ [] → ∀ b, v'.ownBlock = some b → b ≠ rb) :
    RdW (W.setCell ⟨rb, 0, none⟩ v').drew rb ws ∧ Blk (W.setCell ⟨rb, 0, none⟩ v').drew gb 44 x0.cs ∧ Blk (W.setCell ⟨rb, 0, none⟩ v').drew zb 44 z0.cs ∧ Only [rb] w (W.setCell ⟨rb, 0, none⟩ v').drew := by
  have hs : Only [rb] W (W.setCell ⟨rb, 0, none⟩ v').drew := ((Only.refl _ _).set1 (by simp) 0 _).drew
  refine ⟨⟨v', (hB.set_ 0 v').drew, ?_, hN⟩, ?_, ?_, hO.trans hs⟩
  · rcases hS with ⟨p, c, rfl, rfl⟩ | ⟨b, off, c, rfl, h0, hc, hb, hE⟩
    · exact .inl ⟨p, c, rfl, rfl⟩
    · have hne := hN (List.length_pos_iff.1 h0) b rfl
      exact .inr ⟨b, off, c, rfl, h0, hc, Nat.lt_of_lt_of_le hb hs.size, fun j l hj => (hs.cell (p := ⟨b, off + j, none⟩) hb (by simpa using hne)).trans (hE j l hj)⟩
  · exact hs.blk hG (by simpa using hgr)
  · exact hs.blk hZ (by simpa using hzr)
def evZ : Ev := ⟨0, 0, 0, 0, 0⟩

set_option maxRecDepth 100000 in
set_option maxHeartbeats 8000000 in
theorem event_call (rb : Nat) (ws : List (List UInt8)) (hbig : ws.length ≤ 1000000) (hw : ∀ l ∈ ws, l.length ≤ 1000000) (w : World) (hg : Gl w) (hrb : 8 ≤ rb) (hR : RdW w rb ws) (l0 : List UInt8) (rest : List (List UInt8)) (hws : ws.tail = l0 :: rest) (hl0 : l0 ≠ [114, 101, 112, 108, 121]) :
    Calls Tryd.prog 29 #[.pointer (some ⟨rb, 0, none⟩)] w fun e w' => e = .returned (evOf ws).agg ∧ Only [rb] w w' := by
  have hrl := hR.lt
  have hOa : Only [] w (w.alloc (.cells (Ev.cs ⟨0, 0, 0, 0, 0⟩) 44)) := (Only.refl _ _).alloc _
  have hZa : Blk (w.alloc (.cells (Ev.cs ⟨0, 0, 0, 0, 0⟩) 44)) w.heap.size 44 (Ev.cs ⟨0, 0, 0, 0, 0⟩) := Blk.new _ _ _
  have hRa := hR.only hOa (by simp) (by simp)
  have hga := hg.only hOa
  have hwt : ∀ l ∈ ws.tail, l.length ≤ 1000000 := fun l hl => hw l (List.mem_of_mem_tail hl)
  have hwtt : ∀ l ∈ ws.tail.tail, l.length ≤ 1000000 := fun l hl => hwt l (List.mem_of_mem_tail hl)
  have hwttt : ∀ l ∈ ws.tail.tail.tail, l.length ≤ 1000000 := fun l hl => hwtt l (List.mem_of_mem_tail hl)
  have hbt : ws.tail.tail.length ≤ 1000000 := by simp; omega
  have hbtt : ws.tail.tail.tail.length ≤ 1000000 := by simp; omega
  have hbt1 : ws.tail.length ≤ 1000000 := by simp; omega
  have N1 := Lib.hid (number_any 10 (.inl rfl) rb ws hbig hw _ hga hrb hRa)
  have hn1 := numW_lt 10 ws
  have HEV : Hid (evOf ws = ⟨numW 10 ws, 2, 0, 0, numW 10 ws.tail.tail⟩) := Lib.hid (by unfold evOf; rw [hws]; simp [hl0])
  rw [HEV.out]
  clear HEV
  generalize numW 10 ws = n1 at N1 hn1 ⊢
  have hc1 : IntKind.i64.wrap (n1 : Int) = n1 := IntWalk.i64_in _ (by omega)
  clear hR hRa hga hw hbig
  have HW := Lib.hid (And.intro hwt (And.intro hwtt hwttt))
  clear hwt hwtt hwttt
  go_enter Tryd.func29, Tryd.ntmps29
  go_wp2_with fail
  refine N1.out.mono ?_
  rintro e w1 ⟨rfl, hR1, hO1⟩
  clear N1
  have hZ1 := hO1.blk hZa (by simp; omega)
  have hOb : Only [rb] w w1 := (hOa.mono (by simp)).trans hO1
  have hzl := hZ1.lt
  have hrl1 := hR1.lt
  have hG2 : Blk (w1.alloc (.cells (Ev.cs ⟨n1, 2, 0, 0, 0⟩) 44)) w1.heap.size 44 (Ev.cs ⟨n1, 2, 0, 0, 0⟩) := Blk.new _ _ _
  have hO2 : Only [] w1 (w1.alloc (.cells (Ev.cs ⟨n1, 2, 0, 0, 0⟩) 44)) := (Only.refl _ _).alloc _
  have hR2 := hR1.only hO2 (by simp) (by simp)
  have hZ2 := hO2.blk hZ1 (by simp)
  have hOc : Only [rb] w (w1.alloc (.cells (Ev.cs ⟨n1, 2, 0, 0, 0⟩) 44)) := hOb.trans (hO2.mono (by simp))
  obtain ⟨v2, hv2, hS2⟩ := hR2.cell
  rw [hws] at hS2
  obtain ⟨sb, off, c, rfl, hc, hsl, hcell⟩ := hS2.at_
  obtain ⟨n, hn⟩ : ∃ n, n = rest.length + 1 := ⟨_, rfl⟩
  rw [← hn] at hc hv2
  have hn0 : 0 < n := by omega
  have hn1' : ¬ n = 0 := by omega
  have hn2 : (1 : Int) ≤ (n : Int) := by omega
  have hn3 : (0 : Int) < (n : Int) := by omega
  have hmin : min 1 (n : Int) = 1 := by omega
  have hn4 : n ≤ 1000000 := by rw [hws] at hbt1; simp at hbt1; omega
  have Hn := Lib.hid hn
  clear hn
  have hne1 : (l0 == [114, 101, 112, 108, 121]) = false := by simpa using hl0
  clear hl0
  have hG3 : Blk (w1.alloc (.cells (Ev.cs ⟨n1, 2, 0, 0, 0⟩) 44)) w1.heap.size 44 (Ev.cs ⟨n1, 2, 0, 0, 0⟩) := Blk.new _ _ _
  have hO3 : Only [] w1 (w1.alloc (.cells (Ev.cs ⟨n1, 2, 0, 0, 0⟩) 44)) := (Only.refl _ _).alloc _
  have hR3 := hR1.only hO3 (by simp) (by simp)
  have hZ3 := hO3.blk hZ1 (by simp)
  have hOd : Only [rb] w (w1.alloc (.cells (Ev.cs ⟨n1, 2, 0, 0, 0⟩) 44)) := hOb.trans (hO3.mono (by simp))
  go_upto_region 4 with fail
  generalize w1.alloc (.cells (Ev.cs ⟨n1, 2, 0, 0, 0⟩) 44) = W at *
  clear hG2 hR2 hZ2 hOc hS2 hv2 hO3 hO2 hR1 hO1 hZ1 hZa hOa hOb hcell hsl hc
  generalize hgg : w1.heap.size = gb at *
  have hzg : w.heap.size ≠ gb := by omega
  have hzr : w.heap.size ≠ rb := by omega
  have hgr : gb ≠ rb := by omega
  obtain ⟨v3, hB3, hS3, hN3⟩ := hR3
  have hv3 : W.cell? ⟨rb, 0, none⟩ = some v3 := hB3.cell 0
  have hf3 := hB3.frozen 0
  rw [hws] at hS3
  obtain ⟨sb3, off3, c3, rfl, hc3, hsl3, hcell3⟩ := hS3.at_
  rw [← Hn.out] at hc3 hv3 hB3
  have HT := Lib.hid (And.intro hS3.tail (show ∀ b, (Value.slice (if c3 = 1 then some ⟨sb3, off3, none⟩ else some ⟨sb3, off3 + 1, none⟩) (rest.length + 1 - 1) (c3 - 1)).ownBlock = some b → b ≠ rb from by
    intro b hb
    have := hN3 (by simp [hws]) sb3 rfl
    split at hb <;> (simp [Value.ownBlock] at hb; omega)))
  rw [← Hn.out] at HT
  have HX := Lib.hid (And.intro hB3 (And.intro hS3 hN3))
  have HY := Lib.hid (And.intro hG3 (And.intro hZ3 hOd))
  clear hB3 hS3 hN3 hG3 hZ3 hOd
  go_cut [] (fun wx => RdW wx rb ws.tail.tail ∧ Blk wx gb 44 (Ev.cs ⟨n1, 2, 0, 0, 0⟩) ∧ Blk wx w.heap.size 44 (Ev.cs ⟨0, 0, 0, 0, 0⟩) ∧ Only [rb] w wx)
  case first =>
    refine wp_region_TT 17 (fun x => x = W.drew) (by kernel_rfl) (by kernel_rfl) rfl ?_
    simp only [List.take_succ_cons, List.take_zero, List.drop_succ_cons, List.drop_zero]
    repeat (
      refine wpT_step ?_ (stD rfl (fun w1 hD => ?_)) ?_
      rotate_left
      · subst hD
        go_simp
        (refine ⟨?_, rfl⟩; rfl)
      simp only [Act.put, List.setIfInBounds_toArray, List.set_cons_succ, List.set_cons_zero, Nat.reduceAdd])
    refine wpT_nil ?_
    intro w6 hD
    subst hD
    generalize (if c3 = 1 then some (⟨sb3, off3, none⟩ : Addr) else some ⟨sb3, off3 + 1, none⟩) = pz at HT ⊢
    go_wp2_with fail
    all_goals go_meet
    all_goals exact event_r4 HX.out.1 HY.out.1 HY.out.2.1 HY.out.2.2 hgr hzr (by rw [hws]; exact HT.out.1) (fun _ => HT.out.2)
  case rest =>
    obtain ⟨hR4, hG4, hZ4, hO4⟩ := hcut
    clear HX HY
    have hg4 := hg.onlyS hO4 (by simpa using hrb)
    have N2 := Lib.hid (number_any 10 (.inl rfl) rb ws.tail.tail hbt HW.out.2.1 _ hg4 hrb hR4)
    have hn2' := numW_lt 10 ws.tail.tail
    obtain ⟨n2, hq2⟩ : ∃ n, n = numW 10 ws.tail.tail := ⟨_, rfl⟩
    rw [← hq2] at N2 hn2'
    have HQ2 := Lib.hid hq2
    clear hq2
    have hc2 : IntKind.i64.wrap (n2 : Int) = n2 := IntWalk.i64_in _ (by omega)
    obtain ⟨g0, g1, g2, g3, g4, gf⟩ := Blk.ev hG4
    clear hg HW hR4 hg4
    go_wp2_with fail
    refine N2.out.mono ?_
    rintro e w5 ⟨rfl, hR5, hO5⟩
    clear N2 g0 g1 g2 g3 g4 gf
    have hG5 := hO5.blk hG4 (by simpa using hgr)
    have hZ5 := hO5.blk hZ4 (by simpa using hzr)
    have hO6 := hO4.trans hO5
    obtain ⟨g0, g1, g2, g3, g4, gf⟩ := Blk.ev hG5
    obtain ⟨z0, z1, z2, z3, z4, zf⟩ := Blk.ev hZ5
    have HO := Lib.hid hO6
    clear hG4 hZ4 hO4 hO5 hO6 hR5 hG5 hZ5
    go_wp2_with fail
    refine bodyPost_ret (v := Ev.agg ⟨n1, 2, 0, 0, n2⟩) (by simp [results, Tryd.results29, go_sem, z0, z1, z2, z3, z4]) rfl ?_
    refine ⟨by rw [HQ2.out], HO.out.trans' (S' := [gb, w.heap.size]) (((((((Only.refl _ _).set1 (by simp) _ _).set1 (by simp) _ _).set1 (by simp) _ _).set1 (by simp) _ _).set1 (by simp) _ _).set1 (by simp) _ _) (by intro z hz hlt; simp at hz; omega)⟩

set_option maxRecDepth 100000 in
set_option maxHeartbeats 8000000 in
theorem event_none (rb : Nat) (ws : List (List UInt8)) (hbig : ws.length ≤ 1000000) (hw : ∀ l ∈ ws, l.length ≤ 1000000) (w : World) (hg : Gl w) (hrb : 8 ≤ rb) (hR : RdW w rb ws) (hws : ws.tail = []) :
    Calls Tryd.prog 29 #[.pointer (some ⟨rb, 0, none⟩)] w fun e w' => e = .returned (evOf ws).agg ∧ Only [rb] w w' := by
  have hrl := hR.lt
  have hOa : Only [] w (w.alloc (.cells (Ev.cs ⟨0, 0, 0, 0, 0⟩) 44)) := (Only.refl _ _).alloc _
  have hZa : Blk (w.alloc (.cells (Ev.cs ⟨0, 0, 0, 0, 0⟩) 44)) w.heap.size 44 (Ev.cs ⟨0, 0, 0, 0, 0⟩) := Blk.new _ _ _
  have hRa := hR.only hOa (by simp) (by simp)
  have hga := hg.only hOa
  have hwt : ∀ l ∈ ws.tail, l.length ≤ 1000000 := fun l hl => hw l (List.mem_of_mem_tail hl)
  have hwtt : ∀ l ∈ ws.tail.tail, l.length ≤ 1000000 := fun l hl => hwt l (List.mem_of_mem_tail hl)
  have hwttt : ∀ l ∈ ws.tail.tail.tail, l.length ≤ 1000000 := fun l hl => hwtt l (List.mem_of_mem_tail hl)
  have hbt : ws.tail.tail.length ≤ 1000000 := by simp; omega
  have hbtt : ws.tail.tail.tail.length ≤ 1000000 := by simp; omega
  have hbt1 : ws.tail.length ≤ 1000000 := by simp; omega
  have N1 := Lib.hid (number_any 10 (.inl rfl) rb ws hbig hw _ hga hrb hRa)
  have hn1 := numW_lt 10 ws
  have HEV : Hid (evOf ws = ⟨numW 10 ws, 2, 0, 0, numW 10 ws.tail.tail⟩) := Lib.hid (by unfold evOf; rw [hws]; rfl)
  rw [HEV.out]
  clear HEV
  generalize numW 10 ws = n1 at N1 hn1 ⊢
  have hc1 : IntKind.i64.wrap (n1 : Int) = n1 := IntWalk.i64_in _ (by omega)
  clear hR hRa hga hw hbig
  have HW := Lib.hid (And.intro hwt (And.intro hwtt hwttt))
  clear hwt hwtt hwttt
  go_enter Tryd.func29, Tryd.ntmps29
  go_wp2_with fail
  refine N1.out.mono ?_
  rintro e w1 ⟨rfl, hR1, hO1⟩
  clear N1
  have hZ1 := hO1.blk hZa (by simp; omega)
  have hOb : Only [rb] w w1 := (hOa.mono (by simp)).trans hO1
  have hzl := hZ1.lt
  have hrl1 := hR1.lt
  have hG2 : Blk (w1.alloc (.cells (Ev.cs ⟨n1, 2, 0, 0, 0⟩) 44)) w1.heap.size 44 (Ev.cs ⟨n1, 2, 0, 0, 0⟩) := Blk.new _ _ _
  have hO2 : Only [] w1 (w1.alloc (.cells (Ev.cs ⟨n1, 2, 0, 0, 0⟩) 44)) := (Only.refl _ _).alloc _
  have hR2 := hR1.only hO2 (by simp) (by simp)
  have hZ2 := hO2.blk hZ1 (by simp)
  have hOc : Only [rb] w (w1.alloc (.cells (Ev.cs ⟨n1, 2, 0, 0, 0⟩) 44)) := hOb.trans (hO2.mono (by simp))
  obtain ⟨v2, hv2, hS2⟩ := hR2.cell
  rw [hws] at hS2
  obtain ⟨p2, q2, rfl⟩ : ∃ p c, v2 = .slice p 0 c := by
    rcases hS2 with ⟨p, c, rfl, -⟩ | ⟨_, _, _, -, h0, -⟩
    · exact ⟨p, c, rfl⟩
    · simp at h0
  have hG3 : Blk (w1.alloc (.cells (Ev.cs ⟨n1, 2, 0, 0, 0⟩) 44)) w1.heap.size 44 (Ev.cs ⟨n1, 2, 0, 0, 0⟩) := Blk.new _ _ _
  have hO3 : Only [] w1 (w1.alloc (.cells (Ev.cs ⟨n1, 2, 0, 0, 0⟩) 44)) := (Only.refl _ _).alloc _
  have hR3 := hR1.only hO3 (by simp) (by simp)
  have hZ3 := hO3.blk hZ1 (by simp)
  have hOd : Only [rb] w (w1.alloc (.cells (Ev.cs ⟨n1, 2, 0, 0, 0⟩) 44)) := hOb.trans (hO3.mono (by simp))
  go_upto_region 4 with fail
  generalize w1.alloc (.cells (Ev.cs ⟨n1, 2, 0, 0, 0⟩) 44) = W at *
  clear hG2 hR2 hZ2 hOc hS2 hv2 hO3 hO2 hR1 hO1 hZ1 hZa hOa hOb
  generalize hgg : w1.heap.size = gb at *
  have hzg : w.heap.size ≠ gb := by omega
  have hzr : w.heap.size ≠ rb := by omega
  have hgr : gb ≠ rb := by omega
  obtain ⟨v3, hB3, hS3, hN3⟩ := hR3
  have hv3 : W.cell? ⟨rb, 0, none⟩ = some v3 := hB3.cell 0
  have hf3 := hB3.frozen 0
  rw [hws] at hS3
  obtain ⟨p3, q3, rfl⟩ : ∃ p c, v3 = .slice p 0 c := by
    rcases hS3 with ⟨p, c, rfl, -⟩ | ⟨_, _, _, -, h0, -⟩
    · exact ⟨p, c, rfl⟩
    · simp at h0
  have HX := Lib.hid (And.intro hB3 (And.intro hS3 hN3))
  have HY := Lib.hid (And.intro hG3 (And.intro hZ3 hOd))
  clear hB3 hS3 hN3 hG3 hZ3 hOd
  go_cut [] (fun wx => RdW wx rb ws.tail.tail ∧ Blk wx gb 44 (Ev.cs ⟨n1, 2, 0, 0, 0⟩) ∧ Blk wx w.heap.size 44 (Ev.cs ⟨0, 0, 0, 0, 0⟩) ∧ Only [rb] w wx)
  case first =>
    refine wp_region_TT 17 (fun x => x = W.drew) (by kernel_rfl) (by kernel_rfl) rfl ?_
    simp only [List.take_succ_cons, List.take_zero, List.drop_succ_cons, List.drop_zero]
    repeat (
      refine wpT_step ?_ (stD rfl (fun w1 hD => ?_)) ?_
      rotate_left
      · subst hD
        go_simp
        (refine ⟨?_, rfl⟩; rfl)
      simp only [Act.put, List.setIfInBounds_toArray, List.set_cons_succ, List.set_cons_zero, Nat.reduceAdd])
    refine wpT_nil ?_
    intro w6 hD
    subst hD
    go_wp2_with fail
    all_goals go_meet
    all_goals exact event_r4 HX.out.1 HY.out.1 HY.out.2.1 HY.out.2.2 hgr hzr (.inl ⟨_, _, rfl, by simp [hws]⟩) (fun h => absurd (by rw [hws]; rfl) h)
  case rest =>
    obtain ⟨hR4, hG4, hZ4, hO4⟩ := hcut
    clear HX HY
    have hg4 := hg.onlyS hO4 (by simpa using hrb)
    have N2 := Lib.hid (number_any 10 (.inl rfl) rb ws.tail.tail hbt HW.out.2.1 _ hg4 hrb hR4)
    have hn2' := numW_lt 10 ws.tail.tail
    obtain ⟨n2, hq2⟩ : ∃ n, n = numW 10 ws.tail.tail := ⟨_, rfl⟩
    rw [← hq2] at N2 hn2'
    have HQ2 := Lib.hid hq2
    clear hq2
    have hc2 : IntKind.i64.wrap (n2 : Int) = n2 := IntWalk.i64_in _ (by omega)
    obtain ⟨g0, g1, g2, g3, g4, gf⟩ := Blk.ev hG4
    clear hg HW hR4 hg4
    go_wp2_with fail
    refine N2.out.mono ?_
    rintro e w5 ⟨rfl, hR5, hO5⟩
    clear N2 g0 g1 g2 g3 g4 gf
    have hG5 := hO5.blk hG4 (by simpa using hgr)
    have hZ5 := hO5.blk hZ4 (by simpa using hzr)
    have hO6 := hO4.trans hO5
    obtain ⟨g0, g1, g2, g3, g4, gf⟩ := Blk.ev hG5
    obtain ⟨z0, z1, z2, z3, z4, zf⟩ := Blk.ev hZ5
    have HO := Lib.hid hO6
    clear hG4 hZ4 hO4 hO5 hO6 hR5 hG5 hZ5
    go_wp2_with fail
    refine bodyPost_ret (v := Ev.agg ⟨n1, 2, 0, 0, n2⟩) (by simp [results, Tryd.results29, go_sem, z0, z1, z2, z3, z4]) rfl ?_
    refine ⟨by rw [HQ2.out], HO.out.trans' (S' := [gb, w.heap.size]) (((((((Only.refl _ _).set1 (by simp) _ _).set1 (by simp) _ _).set1 (by simp) _ _).set1 (by simp) _ _).set1 (by simp) _ _).set1 (by simp) _ _) (by intro z hz hlt; simp at hz; omega)⟩

set_option maxRecDepth 100000 in
set_option maxHeartbeats 8000000 in
theorem event_reply (rb : Nat) (ws : List (List UInt8)) (hbig : ws.length ≤ 1000000) (hw : ∀ l ∈ ws, l.length ≤ 1000000) (w : World) (hg : Gl w) (hrb : 8 ≤ rb) (hR : RdW w rb ws) (rest : List (List UInt8)) (hws : ws.tail = [114, 101, 112, 108, 121] :: rest) :
    Calls Tryd.prog 29 #[.pointer (some ⟨rb, 0, none⟩)] w fun e w' => e = .returned (evOf ws).agg ∧ Only [rb] w w' := by
  have hrl := hR.lt
  have hOa : Only [] w (w.alloc (.cells (Ev.cs ⟨0, 0, 0, 0, 0⟩) 44)) := (Only.refl _ _).alloc _
  have hZa : Blk (w.alloc (.cells (Ev.cs ⟨0, 0, 0, 0, 0⟩) 44)) w.heap.size 44 (Ev.cs ⟨0, 0, 0, 0, 0⟩) := Blk.new _ _ _
  have hRa := hR.only hOa (by simp) (by simp)
  have hga := hg.only hOa
  have hwt : ∀ l ∈ ws.tail, l.length ≤ 1000000 := fun l hl => hw l (List.mem_of_mem_tail hl)
  have hwtt : ∀ l ∈ ws.tail.tail, l.length ≤ 1000000 := fun l hl => hwt l (List.mem_of_mem_tail hl)
  have hwttt : ∀ l ∈ ws.tail.tail.tail, l.length ≤ 1000000 := fun l hl => hwtt l (List.mem_of_mem_tail hl)
  have hbt : ws.tail.tail.length ≤ 1000000 := by simp; omega
  have hbtt : ws.tail.tail.tail.length ≤ 1000000 := by simp; omega
  have hbt1 : ws.tail.length ≤ 1000000 := by simp; omega
  have N1 := Lib.hid (number_any 10 (.inl rfl) rb ws hbig hw _ hga hrb hRa)
  have hn1 := numW_lt 10 ws
  have HEV : Hid (evOf ws = ⟨numW 10 ws, 1, numW 16 ws.tail.tail, numW 10 ws.tail.tail.tail, 0⟩) := Lib.hid (by unfold evOf; rw [hws]; rfl)
  rw [HEV.out]
  clear HEV
  generalize numW 10 ws = n1 at N1 hn1 ⊢
  have hc1 : IntKind.i64.wrap (n1 : Int) = n1 := IntWalk.i64_in _ (by omega)
  clear hR hRa hga hw hbig
  have HW := Lib.hid (And.intro hwt (And.intro hwtt hwttt))
  clear hwt hwtt hwttt
  go_enter Tryd.func29, Tryd.ntmps29
  go_wp2_with fail
  refine N1.out.mono ?_
  rintro e w1 ⟨rfl, hR1, hO1⟩
  clear N1
  have hZ1 := hO1.blk hZa (by simp; omega)
  have hOb : Only [rb] w w1 := (hOa.mono (by simp)).trans hO1
  have hzl := hZ1.lt
  have hrl1 := hR1.lt
  have hG2 : Blk (w1.alloc (.cells (Ev.cs ⟨n1, 2, 0, 0, 0⟩) 44)) w1.heap.size 44 (Ev.cs ⟨n1, 2, 0, 0, 0⟩) := Blk.new _ _ _
  have hO2 : Only [] w1 (w1.alloc (.cells (Ev.cs ⟨n1, 2, 0, 0, 0⟩) 44)) := (Only.refl _ _).alloc _
  have hR2 := hR1.only hO2 (by simp) (by simp)
  have hZ2 := hO2.blk hZ1 (by simp)
  have hOc : Only [rb] w (w1.alloc (.cells (Ev.cs ⟨n1, 2, 0, 0, 0⟩) 44)) := hOb.trans (hO2.mono (by simp))
  obtain ⟨v2, hv2, hS2⟩ := hR2.cell
  rw [hws] at hS2
  obtain ⟨sb, off, c, rfl, hc, hsl, hcell⟩ := hS2.at_
  obtain ⟨n, hn⟩ : ∃ n, n = rest.length + 1 := ⟨_, rfl⟩
  rw [← hn] at hc hv2
  have hn0 : 0 < n := by omega
  have hn1' : ¬ n = 0 := by omega
  have hn2 : (1 : Int) ≤ (n : Int) := by omega
  have hn3 : (0 : Int) < (n : Int) := by omega
  have hmin : min 1 (n : Int) = 1 := by omega
  have hn4 : n ≤ 1000000 := by rw [hws] at hbt1; simp at hbt1; omega
  have Hn := Lib.hid hn
  clear hn
  have hG3 : Blk (w1.alloc (.cells (Ev.cs ⟨n1, 1, 0, 0, 0⟩) 44)) w1.heap.size 44 (Ev.cs ⟨n1, 1, 0, 0, 0⟩) := Blk.new _ _ _
  have hO3 : Only [] w1 (w1.alloc (.cells (Ev.cs ⟨n1, 1, 0, 0, 0⟩) 44)) := (Only.refl _ _).alloc _
  have hR3 := hR1.only hO3 (by simp) (by simp)
  have hZ3 := hO3.blk hZ1 (by simp)
  have hOd : Only [rb] w (w1.alloc (.cells (Ev.cs ⟨n1, 1, 0, 0, 0⟩) 44)) := hOb.trans (hO3.mono (by simp))
  go_upto_region 4 with fail
  generalize w1.alloc (.cells (Ev.cs ⟨n1, 1, 0, 0, 0⟩) 44) = W at *
  clear hG2 hR2 hZ2 hOc hS2 hv2 hO3 hO2 hR1 hO1 hZ1 hZa hOa hOb hcell hsl hc
  generalize hgg : w1.heap.size = gb at *
  have hzg : w.heap.size ≠ gb := by omega
  have hzr : w.heap.size ≠ rb := by omega
  have hgr : gb ≠ rb := by omega
  obtain ⟨v3, hB3, hS3, hN3⟩ := hR3
  have hv3 : W.cell? ⟨rb, 0, none⟩ = some v3 := hB3.cell 0
  have hf3 := hB3.frozen 0
  rw [hws] at hS3
  obtain ⟨sb3, off3, c3, rfl, hc3, hsl3, hcell3⟩ := hS3.at_
  rw [← Hn.out] at hc3 hv3 hB3
  have HT := Lib.hid (And.intro hS3.tail (show ∀ b, (Value.slice (if c3 = 1 then some ⟨sb3, off3, none⟩ else some ⟨sb3, off3 + 1, none⟩) (rest.length + 1 - 1) (c3 - 1)).ownBlock = some b → b ≠ rb from by
    intro b hb
    have := hN3 (by simp [hws]) sb3 rfl
    split at hb <;> (simp [Value.ownBlock] at hb; omega)))
  rw [← Hn.out] at HT
  have HX := Lib.hid (And.intro hB3 (And.intro hS3 hN3))
  have HY := Lib.hid (And.intro hG3 (And.intro hZ3 hOd))
  clear hB3 hS3 hN3 hG3 hZ3 hOd
  go_cut [] (fun wx => RdW wx rb ws.tail.tail ∧ Blk wx gb 44 (Ev.cs ⟨n1, 1, 0, 0, 0⟩) ∧ Blk wx w.heap.size 44 (Ev.cs ⟨0, 0, 0, 0, 0⟩) ∧ Only [rb] w wx)
  case first =>
    refine wp_region_TT 17 (fun x => x = W.drew) (by kernel_rfl) (by kernel_rfl) rfl ?_
    simp only [List.take_succ_cons, List.take_zero, List.drop_succ_cons, List.drop_zero]
    repeat (
      refine wpT_step ?_ (stD rfl (fun w1 hD => ?_)) ?_
      rotate_left
      · subst hD
        go_simp
        (refine ⟨?_, rfl⟩; rfl)
      simp only [Act.put, List.setIfInBounds_toArray, List.set_cons_succ, List.set_cons_zero, Nat.reduceAdd])
    refine wpT_nil ?_
    intro w6 hD
    subst hD
    generalize (if c3 = 1 then some (⟨sb3, off3, none⟩ : Addr) else some ⟨sb3, off3 + 1, none⟩) = pz at HT ⊢
    go_wp2_with fail
    all_goals go_meet
    all_goals exact event_r4 HX.out.1 HY.out.1 HY.out.2.1 HY.out.2.2 hgr hzr (by rw [hws]; exact HT.out.1) (fun _ => HT.out.2)
  case rest =>
    obtain ⟨hR4, hG4, hZ4, hO4⟩ := hcut
    clear HX HY
    have hg4 := hg.onlyS hO4 (by simpa using hrb)
    have N2 := Lib.hid (fun (W : World) (h : Only [rb] w W) (hR : RdW W rb ws.tail.tail) => number_any 16 (.inr rfl) rb ws.tail.tail hbt HW.out.2.1 W (hg.onlyS h (by simpa using hrb)) hrb hR)
    have N3 := Lib.hid (fun (W : World) (h : Only [rb] w W) (hR : RdW W rb ws.tail.tail.tail) => number_any 10 (.inl rfl) rb ws.tail.tail.tail hbtt HW.out.2.2 W (hg.onlyS h (by simpa using hrb)) hrb hR)
    have hn2' := numW_lt 16 ws.tail.tail
    have hn3' := numW_lt 10 ws.tail.tail.tail
    obtain ⟨n2, hq2⟩ : ∃ n, n = numW 16 ws.tail.tail := ⟨_, rfl⟩
    obtain ⟨m3, hq3⟩ : ∃ n, n = numW 10 ws.tail.tail.tail := ⟨_, rfl⟩
    rw [← hq2] at N2 hn2'
    rw [← hq3] at N3 hn3'
    have HQ2 := Lib.hid (And.intro hq2 hq3)
    clear hq2 hq3
    have hc2 : IntKind.i64.wrap (m3 : Int) = m3 := IntWalk.i64_in _ (by omega)
    obtain ⟨g0, g1, g2, g3, g4, gf⟩ := Blk.ev hG4
    clear hg HW hg4
    go_wp2_with fail
    clear g0 g1 g2 g3 g4 gf
    clear hws hbt hbtt hbt1
    refine wp_region_E [3, 7, 10, 12] (fun k x => (k ≤ 1 → RdW x rb (if k = 0 then ws.tail.tail else ws.tail.tail.tail)) ∧ Blk x gb 44 (Ev.cs ⟨n1, 1, if k ≤ 2 then 0 else n2, if k ≤ 3 then 0 else m3, 0⟩) ∧ Blk x w.heap.size 44 (Ev.cs ⟨0, 0, 0, 0, 0⟩) ∧ Only [rb] w x) (by kernel_rfl) (by kernel_rfl) (by decide) (by kernel_rfl) ⟨fun _ => hR4.only ((Only.refl [] _).drew) (by simp) (by simp), hG4.drew, hZ4.drew, hO4.drew⟩ ?_
    repeat (
      refine wpT_step ?_ (stE_pure (by decide) rfl (fun k x hD => ?_)) ?_
      rotate_left
      · go_simp
        rfl
      simp only [Act.put, List.setIfInBounds_toArray, List.set_cons_succ, List.set_cons_zero, Nat.zero_add, Nat.reduceAdd])
    refine wpT_step (.int .u32 n2) (stE_eff (n := 14) [] [7, 10, 12] rfl rfl (by kernel_rfl) (by kernel_rfl) (by decide) (by decide) rfl (fun x hD => ?_)) ?_
    · obtain ⟨h1, h2, h3, h4⟩ : (0 ≤ 1 → RdW x rb ws.tail.tail) ∧ Blk x gb 44 (Ev.cs ⟨n1, 1, 0, 0, 0⟩) ∧ Blk x w.heap.size 44 (Ev.cs ⟨0, 0, 0, 0, 0⟩) ∧ Only [rb] w x := hD
      go_simp
      change Calls _ _ _ _ _
      refine (N2.out x h4 (h1 (by omega))).mono ?_
      rintro e w5 ⟨rfl, hR5, hO5⟩
      exact ⟨rfl, hR5, hO5.blk h2 (by simpa using hgr), hO5.blk h3 (by simpa using hzr), h4.trans hO5⟩
    simp only [Act.put, List.setIfInBounds_toArray, List.set_cons_succ, List.set_cons_zero, Nat.zero_add, Nat.reduceAdd]
    repeat (
      refine wpT_step ?_ (stE_pure (by decide) rfl (fun k x hD => ?_)) ?_
      rotate_left
      · go_simp
        rfl
      simp only [Act.put, List.setIfInBounds_toArray, List.set_cons_succ, List.set_cons_zero, Nat.zero_add, Nat.reduceAdd])
    refine wpT_step (.int .u32 m3) (stE_eff (n := 14) [3] [10, 12] rfl rfl (by kernel_rfl) (by kernel_rfl) (by decide) (by decide) rfl (fun x hD => ?_)) ?_
    · obtain ⟨h1, h2, h3, h4⟩ : (1 ≤ 1 → RdW x rb ws.tail.tail.tail) ∧ Blk x gb 44 (Ev.cs ⟨n1, 1, 0, 0, 0⟩) ∧ Blk x w.heap.size 44 (Ev.cs ⟨0, 0, 0, 0, 0⟩) ∧ Only [rb] w x := hD
      go_simp
      change Calls _ _ _ _ _
      refine (N3.out x h4 (h1 (by omega))).mono ?_
      rintro e w5 ⟨rfl, hR5, hO5⟩
      exact ⟨rfl, hO5.blk h2 (by simpa using hgr), hO5.blk h3 (by simpa using hzr), h4.trans hO5⟩
    simp only [Act.put, List.setIfInBounds_toArray, List.set_cons_succ, List.set_cons_zero, Nat.zero_add, Nat.reduceAdd]
    repeat (
      refine wpT_step ?_ (stE_pure (by decide) rfl (fun k x hD => ?_)) ?_
      rotate_left
      · go_simp
        rfl
      simp only [Act.put, List.setIfInBounds_toArray, List.set_cons_succ, List.set_cons_zero, Nat.zero_add, Nat.reduceAdd])
    refine wpT_step undef (stE_eff (n := 14) [3, 7] [12] rfl rfl (by kernel_rfl) (by kernel_rfl) (by decide) (by decide) rfl (fun x hD => ?_)) ?_
    · obtain ⟨-, h2, h3, h4⟩ : (_ : Prop) ∧ Blk x gb 44 (Ev.cs ⟨n1, 1, 0, 0, 0⟩) ∧ Blk x w.heap.size 44 (Ev.cs ⟨0, 0, 0, 0, 0⟩) ∧ Only [rb] w x := hD
      obtain ⟨g0, g1, g2, g3, g4, gf⟩ := Blk.ev h2
      have hs : Only [gb] x (x.setCell ⟨gb, 2, none⟩ (.int .u32 n2)) := (Only.refl _ _).set1 (by simp) 2 _
      go_simp
      exact ⟨rfl, h2.set_ 2 _, hs.blk h3 (by simpa using hzg), h4.trans' hs (by intro z hz hlt; simp at hz; omega)⟩
    simp only [Act.put, List.setIfInBounds_toArray, List.set_cons_succ, List.set_cons_zero, Nat.zero_add, Nat.reduceAdd]
    repeat (
      refine wpT_step ?_ (stE_pure (by decide) rfl (fun k x hD => ?_)) ?_
      rotate_left
      · go_simp
        rfl
      simp only [Act.put, List.setIfInBounds_toArray, List.set_cons_succ, List.set_cons_zero, Nat.zero_add, Nat.reduceAdd])
    refine wpT_step undef (stE_eff (n := 14) [3, 7, 10] [] rfl rfl (by kernel_rfl) (by kernel_rfl) (by decide) (by decide) rfl (fun x hD => ?_)) ?_
    · obtain ⟨-, h2, h3, h4⟩ : (_ : Prop) ∧ Blk x gb 44 (Ev.cs ⟨n1, 1, n2, 0, 0⟩) ∧ Blk x w.heap.size 44 (Ev.cs ⟨0, 0, 0, 0, 0⟩) ∧ Only [rb] w x := hD
      obtain ⟨g0, g1, g2, g3, g4, gf⟩ := Blk.ev h2
      have hs : Only [gb] x (x.setCell ⟨gb, 3, none⟩ (.int .i64 m3)) := (Only.refl _ _).set1 (by simp) 3 _
      go_simp
      exact ⟨rfl, h2.set_ 3 _, hs.blk h3 (by simpa using hzg), h4.trans' hs (by intro z hz hlt; simp at hz; omega)⟩
    simp only [Act.put, List.setIfInBounds_toArray, List.set_cons_succ, List.set_cons_zero, Nat.zero_add, Nat.reduceAdd]
    refine wpT_nil ?_
    intro w6 hD
    obtain ⟨-, hG6, hZ6, hO6⟩ : (_ : Prop) ∧ Blk w6 gb 44 (Ev.cs ⟨n1, 1, n2, m3, 0⟩) ∧ Blk w6 w.heap.size 44 (Ev.cs ⟨0, 0, 0, 0, 0⟩) ∧ Only [rb] w w6 := hD
    obtain ⟨g0, g1, g2, g3, g4, gf⟩ := Blk.ev hG6
    obtain ⟨z0, z1, z2, z3, z4, zf⟩ := Blk.ev hZ6
    have HO := Lib.hid hO6
    clear hG6 hZ6 hO6 hG4 hZ4 hO4 hR4 N2 N3
    go_wp2_with fail
    refine bodyPost_ret (v := Ev.agg ⟨n1, 1, n2, m3, 0⟩) (by simp [results, Tryd.results29, go_sem, z0, z1, z2, z3, z4]) rfl ?_
    refine ⟨by rw [HQ2.out.1, HQ2.out.2], HO.out.trans' (S' := [gb, w.heap.size]) ((((((Only.refl _ _).set1 (by simp) _ _).set1 (by simp) _ _).set1 (by simp) _ _).set1 (by simp) _ _).set1 (by simp) _ _) (by intro z hz hlt; simp at hz; omega)⟩

theorem event_any (rb : Nat) (ws : List (List UInt8)) (hbig : ws.length ≤ 1000000) (hw : ∀ l ∈ ws, l.length ≤ 1000000) (w : World) (hg : Gl w) (hrb : 8 ≤ rb) (hR : RdW w rb ws) :
    Calls Tryd.prog 29 #[.pointer (some ⟨rb, 0, none⟩)] w fun e w' => e = .returned (evOf ws).agg ∧ Only [rb] w w' := by
  cases h : ws.tail with
  | nil => exact event_none rb ws hbig hw w hg hrb hR h
  | cons l rest =>
    by_cases hl : l = [114, 101, 112, 108, 121]
    · subst hl
      exact event_reply rb ws hbig hw w hg hrb hR rest h
    · exact event_call rb ws hbig hw w hg hrb hR l rest h hl
end Go.Proofs.YtojleleohhaigaaDoor
