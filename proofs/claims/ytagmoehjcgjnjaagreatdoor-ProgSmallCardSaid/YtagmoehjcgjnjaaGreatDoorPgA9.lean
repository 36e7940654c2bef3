/- scan of package prog at a command, walked. Conditions: the listed variables are laid; words are short. -/
import Derived.Test.YtagmoehjcgjnjaaGreatDoorPgA1
namespace Go.Proofs.YtagmoehjcgjnjaaGreatDoor
open Go Go.RowKit
attribute [local go_sem ↓] str_eql
attribute [local go_sem] run_store_fn

set_option maxRecDepth 100000 in
set_option maxHeartbeats 8000000 in
theorem scan_9 (rb sb : Nat) (ws : List (List UInt8)) (hS : Short ws) (w : World) (hg : Gl w) (hrb : 8 ≤ rb) (hJ : (Lib.join ws.tail [32]).length < 1000000) (hR : ScW w rb sb (In.only 0) ws) (h9 : opOf (ws.headD []) = 9) :
    Calls Tryz.prog 38 #[.pointer (some ⟨rb, 0, none⟩)] w fun e w' => e = .returned (.tuple #[]) ∧ (∃ ws', ScW w' rb sb (scanP ws) ws') ∧ Only [rb] w w' := by
  have HN := Lib.hid (next_any rb sb (In.only 0) ws hS.1 w hR)
  obtain ⟨l, hl⟩ : ∃ l, l = ws.headD [] := ⟨_, rfl⟩
  obtain ⟨r, hr⟩ : ∃ r, r = ws.tail := ⟨_, rfl⟩
  have hSr : Short r := by rw [hr]; exact hS.tail
  rw [← hl, ← hr] at HN
  have HL := Lib.hid (And.intro hl (And.intro hr hSr))
  have H9 := Lib.hid h9
  clear h9
  have hsb := hR.ne
  have HR := Lib.hid hR
  clear hl hr hSr hS hR
  go_enter Tryz.func38, Tryz.ntmps38
  refine wp_scope_n 1 ?_
  unfold wpScope
  go_upto_block 0 with (first
    | (go_at_call 69; refine HN.out.mono ?_; rintro e w1 ⟨rfl, hR1, hO1⟩)
    | (go_at_call 21; refine (kinds_map _).mono ?_; rintro e w2 ⟨rfl, rfl⟩)
    | (at_range; refine wpList_range_k rfl _ rfl w1.heap.size rfl (MapKept.heap_alloc w1 _).1 ?_; intro hK0))
  go_frame
  have hit0 : (w1.alloc (.map kindsE 10)).heap.size = w1.heap.size + 1 := by simp
  generalize (w1.alloc (.map kindsE 10)).heap.size = it at *
  have hit := Lib.hid hit0
  clear hit0
  go_cut [] (fun wx => ScW wx rb sb (In.only (opOf l)) r ∧ Only [rb] w wx)
  case first =>
    have hrl := HR.out.lt
    have hsz1 := hO1.size
    have hO2 : Only [rb] w ((w1.alloc (.map kindsE 10)).alloc (.mapIter (some w1.heap.size) 10 #[] 10)) := (hO1.alloc _).alloc _
    have hR2 : ScW ((w1.alloc (.map kindsE 10)).alloc (.mapIter (some w1.heap.size) 10 #[] 10)) rb sb (In.only 0) r := hR1.only (((Only.refl [] w1).alloc _).alloc _) (by simp) (by simp)
    have hmb : w1.heap.size ≠ rb := by omega
    have hib : it ≠ rb := by have := hit.out; omega
    have hit1 : w1.heap.size < it := by have := hit.out; omega
    have hsl : sb < w1.heap.size := by omega
    clear hR1 hO1
    go_wp2_with fail
    go_loopw [3] (fun _ wr => ∃ seen o, KIt wr w1.heap.size it seen ∧ ScW wr rb sb (In.only o) r ∧ OpSt (opOf l) o seen ∧ Only [rb] w wr) (fun _ wr => wr.rangeLeft w1.heap.size it)
    case atStart => exact ⟨#[], 0, hK0, hR2, OpSt.start l, hO2⟩
    case round =>
      clear hK0 hR2 hO2
      obtain ⟨seen, o, hK, hSc, hOp, hO⟩ := hrel
      have hKl := hK.left
      obtain ⟨c1, f⟩ := hSc.cells.2
      have f1 := f 1
      have hK' := Lib.hid hK
      have HSc := Lib.hid (And.intro hSc (And.intro hOp hKl))
      have hlt1 := hSc.lt
      clear f hKl hOp hSc hK
      go_wp2_with (at_next; refine wpList_next_k rfl _ rfl w1.heap.size it seen rfl hK'.out ?_ ?_)
      · intro h0
        go_wp2_with fail
        go_meet
        have := HSc.out.2.1.done (by simp [h0.out])
        exact ⟨this ▸ HSc.out.1, hO⟩
      · intro k f b w3 HK3
        obtain ⟨hk, hb, hK3, hO3, hlt, hen⟩ := HK3.out
        clear HK3
        have hSc3 := HSc.out.1.only hO3 (by simp; omega) (by simp; omega)
        have hOw3 : Only [rb] w w3 := hO.trans' hO3 (by intro z hz hzl; simp at hz; omega)
        obtain ⟨d1, fd⟩ := hSc3.cells.2
        have fd1 := fd 1
        have hlt3 := hSc3.lt
        have HS3 := Lib.hid (And.intro hSc3 (And.intro hK3 (And.intro hOw3 hlt)))
        have hbw : 0 ≤ b := Nat.zero_le b
        have Hb := Lib.hid (And.intro hb hk)
        clear fd hSc3 hK3 hOw3 hlt hO3 c1 f1 hb hk
        by_cases hl2 : opW (k : Int) = l
        · have Hl := Lib.hid hl2
          go_wp2_with fail
          have hO4 : Only [rb] w3 ((w3.setCell ⟨rb, 1, none⟩ (.int .i64 k)).alloc (.cells #[.string ⟨l.toArray⟩, .func (.func f) #[] #[]] 56)) := ((Only.refl _ _).set1 (by simp) _ _).alloc _
          have hK4 := HS3.out.2.1.only hO4 (by simpa using hmb) (by simpa using hib)
          refine ⟨⟨_, _, hK4, ?_, OpSt.hit Hb.out.2 Hl.out, HS3.out.2.2.1.trans hO4⟩, ?_⟩
          · exact (HS3.out.1.set 1 (.int .i64 k) (x' := In.only k) (fun _ => rfl)).only ((Only.refl [] _).alloc _) (by simp) (by simp)
          · rw [hK4.left, HSc.out.2.2]
            exact HS3.out.2.2.2
        · have Hl := Lib.hid hl2
          have hd : (opW (k : Int) == l) = false := by simpa using hl2
          clear hl2
          go_wp2_with fail
          have hO4 : Only [] w3 (w3.alloc (.cells #[.string ⟨(opW (k : Int)).toArray⟩, .func (.func f) #[] #[]] 56)) := (Only.refl _ _).alloc _
          have hK4 := HS3.out.2.1.only hO4 (by simp) (by simp)
          refine ⟨⟨_, _, hK4, ?_, HSc.out.2.1.miss Hb.out.2 Hb.out.1 Hl.out, HS3.out.2.2.1.trans (hO4.mono (by simp))⟩, ?_⟩
          · exact HS3.out.1.only hO4 (by simp) (by simp)
          · rw [hK4.left, HSc.out.2.2]
            exact HS3.out.2.2.2
  case rest =>
    obtain ⟨hSc, hO⟩ := hcut
    have hgc : Gl wc := hg.onlyS hO (by simpa using hrb)
    have HP : Hid (scanP ws = restP (opOf l) r) := Lib.hid (by unfold scanP; rw [HL.out.1, HL.out.2.1])
    have hsr := HL.out.2.2
    have hjr : (Lib.join r [32]).length < 1000000 := by rw [HL.out.2.1]; exact hJ
    have hsp := opOf_spec l
    have hk9 : opOf l = 9 := by rw [HL.out.1]; exact H9.out
    rw [hk9] at HP hSc
    clear HN HR HL hit hg
    clear hsp hk9 H9
    obtain ⟨⟨off, c0⟩, c1, f⟩ := hSc.cells
    have HF : Hid (scanP ws = (In.only 9).withCf (readC (Lib.join r [32]) (parse (Lib.join r [32])))) := HP
    obtain ⟨off9, hb9, hl9, hn9, hc9⟩ := hSc
    have HJ := Lib.hid (join_off sb off9 r wc hc9 hl9 (by have := hsr.1; omega) (by omega))
    have HRd := Lib.hid (fun W hg => read_any (Lib.join r [32]) (by omega) (words_short hjr) W hg)
    have hre : readE (Lib.join r [32]) (parse (Lib.join r [32])) = 0 ∨ (readE (Lib.join r [32]) (parse (Lib.join r [32])) = 8 ∧ readC (Lib.join r [32]) (parse (Lib.join r [32])) = Cf.zero) := by
      unfold readE readC
      split
      · exact .inl rfl
      · exact .inr ⟨rfl, rfl⟩
    generalize readC (Lib.join r [32]) (parse (Lib.join r [32])) = c at *
    generalize readE (Lib.join r [32]) (parse (Lib.join r [32])) = er at *
    generalize Lib.join r [32] = js at *
    have s0 : wc.cell? ⟨rb, 0, none⟩ = some (.slice (some ⟨sb, off9, none⟩) r.length r.length) := hb9.cell 0
    have HB := Lib.hid (And.intro hb9 (And.intro hl9 (And.intro hn9 hc9)))
    have hrl9 := hb9.lt
    clear hb9 hl9 hn9 hc9 hjr f HP c0
    rcases hre with rfl | ⟨rfl, rfl⟩
    · go_wp2_with (first
        | (go_at_call 31; refine HJ.out.mono ?_; rintro e w4 ⟨rfl, hO4⟩)
        | (go_at_call 71; refine (HRd.out w4 (hgc.only hO4)).mono ?_; rintro e w5 ⟨rfl, hO5⟩; have hB5 := (hO4.trans hO5).blk HB.out.1 (by simp))
        | (refine wpList_st 31 c.list w5.heap.size 0 _ _ rfl (by kernel_rfl) rfl rfl rfl rfl (Blk.new w5 31 Cf.zero.list.toArray) (Nat.le_of_ble_eq_true rfl) ?_; intro w6 hB6 hO6'; rw [setL_full] at hB6; have HR6 := Lib.hid (Blk.rngF hB6); have hne6 : rb ≠ w5.heap.size := (by have := hO4.size; have := hO5.size; omega); have HB6 := Lib.hid (hO6'.blk (hB5.alloc _) (by simpa using hne6)); clear hB6)
        | (refine wpList_ldc c w5.heap.size 0 _ rfl rfl rfl HR6.out ?_)
        | (refine wpList_st 31 c.list rb 7 _ _ rfl (by kernel_rfl) rfl rfl rfl rfl HB6.out (Nat.le_of_ble_eq_true rfl) ?_; intro w7 hB7 hO7; rw [setL_scs] at hB7; have HB7 := Lib.hid hB7; clear hB7))
      go_returns
      have hOO : Only [rb] wc w7 := by
        have h1 : Only [] wc (w5.alloc (.cells Cf.zero.list.toArray 31)) := (hO4.trans hO5).alloc _
        exact ((h1.mono (S' := [rb]) (by simp)).trans' hO6' (by intro z hz hlt; simp at hz; have := hO4.size; have := hO5.size; omega)).trans hO7
      refine ⟨rfl, ⟨r, ?_⟩, hO.trans hOO⟩
      rw [HF.out]
      exact ⟨off9, HB7.out, Nat.lt_of_lt_of_le HB.out.2.1 hOO.size, HB.out.2.2.1, fun j k hj => by rw [hOO.cell (p := ⟨sb, off9 + j, none⟩) HB.out.2.1 (by simpa using HB.out.2.2.1)]; exact HB.out.2.2.2 j k hj⟩
    · go_wp2_with (first
        | (go_at_call 31; refine HJ.out.mono ?_; rintro e w4 ⟨rfl, hO4⟩)
        | (go_at_call 71; refine (HRd.out w4 (hgc.only hO4)).mono ?_; rintro e w5 ⟨rfl, hO5⟩; have hB5 := (hO4.trans hO5).blk HB.out.1 (by simp))
        | (refine wpList_st 31 Cf.zero.list w5.heap.size 0 _ _ rfl (by kernel_rfl) rfl rfl rfl rfl (Blk.new w5 31 Cf.zero.list.toArray) (Nat.le_of_ble_eq_true rfl) ?_; intro w6 hB6 hO6'; clear hB6))
      go_returns
      have hOO : Only [] wc w6 := by
        have h1 : Only [] wc (w5.alloc (.cells Cf.zero.list.toArray 31)) := (hO4.trans hO5).alloc _
        exact h1.trans' hO6' (by intro z hz hlt; simp at hz; have := hO4.size; have := hO5.size; omega)
      refine ⟨rfl, ⟨r, ?_⟩, hO.trans (hOO.mono (by simp))⟩
      rw [HF.out]
      exact ⟨off9, hOO.blk HB.out.1 (by simp), Nat.lt_of_lt_of_le HB.out.2.1 hOO.size, HB.out.2.2.1, fun j k hj => by rw [hOO.cell (p := ⟨sb, off9 + j, none⟩) HB.out.2.1 (by simp)]; exact HB.out.2.2.2 j k hj⟩
end Go.Proofs.YtagmoehjcgjnjaaGreatDoor
