/- scan of package prog, walked. Conditions: the listed variables are laid; words are short. -/
import Derived.Test.YtagmoehjcgjnjaaGreatDoorPgA9
namespace Go.Proofs.YtagmoehjcgjnjaaGreatDoor
open Go Go.RowKit
attribute [local go_sem ↓] str_eql
attribute [local go_sem] run_store_fn

set_option maxRecDepth 100000 in
set_option maxHeartbeats 8000000 in
theorem scan_any (rb sb : Nat) (ws : List (List UInt8)) (hS : Short ws) (w : World) (hg : Gl w) (hrb : 8 ≤ rb) (hJ : (Lib.join ws.tail [32]).length < 1000000) (hR : ScW w rb sb (In.only 0) ws) :
    Calls Tryz.prog 38 #[.pointer (some ⟨rb, 0, none⟩)] w fun e w' => e = .returned (.tuple #[]) ∧ (∃ ws', ScW w' rb sb (scanP ws) ws') ∧ Only [rb] w w' := by
  by_cases h9 : opOf (ws.headD []) = 9
  · exact scan_9 rb sb ws hS w hg hrb hJ hR h9
  have HN := Lib.hid (next_any rb sb (In.only 0) ws hS.1 w hR)
  obtain ⟨l, hl⟩ : ∃ l, l = ws.headD [] := ⟨_, rfl⟩
  obtain ⟨r, hr⟩ : ∃ r, r = ws.tail := ⟨_, rfl⟩
  have hSr : Short r := by rw [hr]; exact hS.tail
  rw [← hl, ← hr] at HN
  have HL := Lib.hid (And.intro hl (And.intro hr hSr))
  have HL9 : Hid (opOf l ≠ 9) := Lib.hid (by rw [hl]; exact h9)
  clear h9
  have hsb := hR.ne
  have HR := Lib.hid hR
  clear hl hr hSr hS hR
  go_enter Tryz.func38, Tryz.ntmps38
  refine wp_scope_n 1 ?_
  unfold wpScope
  go_upto_block 0 with (first
    | (go_at_call 69; refine HN.out.mono ?_; rintro e w1 ⟨rfl, hR1, hO1⟩)
    | (go_at_call 21; refine (kinds_map _).mono ?_; rintro e w2 ⟨rfl, rfl⟩)
    | (at_range; refine wpList_range_k rfl _ rfl w1.heap.size rfl (MapKept.heap_alloc w1 _).1 ?_; intro hK0))
  go_frame
  have hit0 : (w1.alloc (.map kindsE 10)).heap.size = w1.heap.size + 1 := by simp
  generalize (w1.alloc (.map kindsE 10)).heap.size = it at *
  have hit := Lib.hid hit0
  clear hit0
  go_cut [] (fun wx => ScW wx rb sb (In.only (opOf l)) r ∧ Only [rb] w wx)
  case first =>
    have hrl := HR.out.lt
    have hsz1 := hO1.size
    have hO2 : Only [rb] w ((w1.alloc (.map kindsE 10)).alloc (.mapIter (some w1.heap.size) 10 #[] 10)) := (hO1.alloc _).alloc _
    have hR2 : ScW ((w1.alloc (.map kindsE 10)).alloc (.mapIter (some w1.heap.size) 10 #[] 10)) rb sb (In.only 0) r := hR1.only (((Only.refl [] w1).alloc _).alloc _) (by simp) (by simp)
    have hmb : w1.heap.size ≠ rb := by omega
    have hib : it ≠ rb := by have := hit.out; omega
    have hit1 : w1.heap.size < it := by have := hit.out; omega
    have hsl : sb < w1.heap.size := by omega
    clear hR1 hO1
    go_wp2_with fail
    go_loopw [3] (fun _ wr => ∃ seen o, KIt wr w1.heap.size it seen ∧ ScW wr rb sb (In.only o) r ∧ OpSt (opOf l) o seen ∧ Only [rb] w wr) (fun _ wr => wr.rangeLeft w1.heap.size it)
    case atStart => exact ⟨#[], 0, hK0, hR2, OpSt.start l, hO2⟩
    case round =>
      clear hK0 hR2 hO2
      obtain ⟨seen, o, hK, hSc, hOp, hO⟩ := hrel
      have hKl := hK.left
      obtain ⟨c1, f⟩ := hSc.cells.2
      have f1 := f 1
      have hK' := Lib.hid hK
      have HSc := Lib.hid (And.intro hSc (And.intro hOp hKl))
      have hlt1 := hSc.lt
      clear f hKl hOp hSc hK
      go_wp2_with (at_next; refine wpList_next_k rfl _ rfl w1.heap.size it seen rfl hK'.out ?_ ?_)
      · intro h0
        go_wp2_with fail
        go_meet
        have := HSc.out.2.1.done (by simp [h0.out])
        exact ⟨this ▸ HSc.out.1, hO⟩
      · intro k f b w3 HK3
        obtain ⟨hk, hb, hK3, hO3, hlt, hen⟩ := HK3.out
        clear HK3
        have hSc3 := HSc.out.1.only hO3 (by simp; omega) (by simp; omega)
        have hOw3 : Only [rb] w w3 := hO.trans' hO3 (by intro z hz hzl; simp at hz; omega)
        obtain ⟨d1, fd⟩ := hSc3.cells.2
        have fd1 := fd 1
        have hlt3 := hSc3.lt
        have HS3 := Lib.hid (And.intro hSc3 (And.intro hK3 (And.intro hOw3 hlt)))
        have hbw : 0 ≤ b := Nat.zero_le b
        have Hb := Lib.hid (And.intro hb hk)
        clear fd hSc3 hK3 hOw3 hlt hO3 c1 f1 hb hk
        by_cases hl2 : opW (k : Int) = l
        · have Hl := Lib.hid hl2
          go_wp2_with fail
          have hO4 : Only [rb] w3 ((w3.setCell ⟨rb, 1, none⟩ (.int .i64 k)).alloc (.cells #[.string ⟨l.toArray⟩, .func (.func f) #[] #[]] 56)) := ((Only.refl _ _).set1 (by simp) _ _).alloc _
          have hK4 := HS3.out.2.1.only hO4 (by simpa using hmb) (by simpa using hib)
          refine ⟨⟨_, _, hK4, ?_, OpSt.hit Hb.out.2 Hl.out, HS3.out.2.2.1.trans hO4⟩, ?_⟩
          · exact (HS3.out.1.set 1 (.int .i64 k) (x' := In.only k) (fun _ => rfl)).only ((Only.refl [] _).alloc _) (by simp) (by simp)
          · rw [hK4.left, HSc.out.2.2]
            exact HS3.out.2.2.2
        · have Hl := Lib.hid hl2
          have hd : (opW (k : Int) == l) = false := by simpa using hl2
          clear hl2
          go_wp2_with fail
          have hO4 : Only [] w3 (w3.alloc (.cells #[.string ⟨(opW (k : Int)).toArray⟩, .func (.func f) #[] #[]] 56)) := (Only.refl _ _).alloc _
          have hK4 := HS3.out.2.1.only hO4 (by simp) (by simp)
          refine ⟨⟨_, _, hK4, ?_, HSc.out.2.1.miss Hb.out.2 Hb.out.1 Hl.out, HS3.out.2.2.1.trans (hO4.mono (by simp))⟩, ?_⟩
          · exact HS3.out.1.only hO4 (by simp) (by simp)
          · rw [hK4.left, HSc.out.2.2]
            exact HS3.out.2.2.2
  case rest =>
    obtain ⟨hSc, hO⟩ := hcut
    have hgc : Gl wc := hg.onlyS hO (by simpa using hrb)
    have HP : Hid (scanP ws = restP (opOf l) r) := Lib.hid (by unfold scanP; rw [HL.out.1, HL.out.2.1])
    have hsr := HL.out.2.2
    have hsp := opOf_spec l
    generalize opOf l = k at *
    clear HN HR HL hit hg
    have hk : k = 7 ∨ k = 9 ∨ k = 6 ∨ (k = 4 ∨ k = 10 ∨ k = 0) ∨ (k = 5 ∨ k = 8) ∨ (k = 1 ∨ k = 3 ∨ k = 2) := by omega
    clear hsp
    obtain ⟨⟨off, c0⟩, c1, f⟩ := hSc.cells
    rcases hk with rfl | rfl | rfl | hk | hk | hk
    · have HNm := Lib.hid (pnumber_any 10 (.inl rfl) rb sb _ r hsr wc hgc hrb hSc)
      have HF : Hid (scanP ws = idleP (In.only 7) r) := HP
      have HV : Hid (idleP (In.only 7) r = (if numK 10 (r.headD []) then In.only 7 else (In.only 7).withOp 0).withDt (numV 10 (r.headD []))) := Lib.hid rfl
      generalize numV 10 (r.headD []) = v at *
      generalize (if numK 10 (r.headD []) then In.only 7 else (In.only 7).withOp 0) = y at *
      clear hSc f HP
      go_wp2_with (go_at_call 70; refine HNm.out.mono ?_; rintro e w4 ⟨rfl, hR4, hO4⟩; have c5 := hR4.cell 4; have f5 := hR4.cells.2.2 5)
      go_returns
      exact ⟨rfl, ⟨_, by rw [HF.out, HV.out]; exact hR4.set 5 _ (fun _ => rfl)⟩, (hO.trans hO4).set1 (by simp) _ _⟩
    · exact absurd rfl HL9.out
    · have HNm := Lib.hid (pnumber_any 10 (.inl rfl) rb sb _ r hsr wc hgc hrb hSc)
      have HF : Hid (scanP ws = toP (In.only 6) r) := HP
      have HV : Hid (toP (In.only 6) r = (if numK 10 (r.headD []) then In.only 6 else (In.only 6).withOp 0).withTo (numV 10 (r.headD []))) := Lib.hid rfl
      have hwr := wrap_num 10 (r.headD [])
      generalize numV 10 (r.headD []) = v at *
      generalize (if numK 10 (r.headD []) then In.only 6 else (In.only 6).withOp 0) = y at *
      clear hSc f HP
      go_wp2_with fail
      go_step3
      simp only [Exit.inBlock, Exit.then]
      go_big_open
      rw [gotos_goto]
      refine ⟨_, rfl, ?_⟩
      unfold wpScope
      go_wp2_with (go_at_call 70; refine HNm.out.mono ?_; rintro e w4 ⟨rfl, hR4, hO4⟩; have c6 := hR4.cell 5; have f6 := hR4.cells.2.2 6)
      rw [Exit.noGoto_normal]
      go_returns
      exact ⟨rfl, ⟨_, by rw [HF.out, HV.out]; exact hR4.set 6 _ (fun _ => rfl)⟩, (hO.trans hO4).set1 (by simp) _ _⟩
    · have HF : Hid (scanP ws = In.only k) := Lib.hid (by rw [HP.out]; rcases hk with rfl | rfl | rfl <;> rfl)
      have HS := Lib.hid hSc
      clear hSc HP f
      rcases hk with rfl | rfl | rfl
      all_goals
        go_wp2_with fail
        go_returns
        exact ⟨rfl, ⟨_, by rw [HF.out]; exact HS.out⟩, hO⟩
    · have HN4 := Lib.hid (pnumber_any 16 (.inr rfl) rb sb _ r hsr wc hgc hrb hSc)
      have HF : Hid (scanP ws = dataP (In.only k) r) := Lib.hid (by rw [HP.out]; rcases hk with rfl | rfl <;> rfl)
      have HE := Lib.hid (dataP_eq (x := In.only k) (r := r) rfl)
      have hyo : (if numK 16 (r.headD []) then In.only k else (In.only k).withOp 0).op = k ∨ (if numK 16 (r.headD []) then In.only k else (In.only k).withOp 0).op = 0 := by
        rw [op_if]; split
        · exact .inl rfl
        · exact .inr rfl
      generalize numV 16 (r.headD []) = v at *
      generalize (if numK 16 (r.headD []) then In.only k else (In.only k).withOp 0) = y at *
      clear hSc f HP
      rcases hk with rfl | rfl
      · rcases hyo with hyo | hyo
        · have HN5 := Lib.hid (fun W hg hR => pnumber_any 10 (.inl rfl) rb sb (y.withDt v) r.tail hsr.tail W hg hrb hR)
          have HE5 := Lib.hid (toP_eq (x := y.withDt v) (r := r.tail) rfl)
          have hwr := wrap_num 10 (r.tail.headD [])
          generalize numV 10 (r.tail.headD []) = v2 at *
          generalize (if numK 10 (r.tail.headD []) then y.withDt v else (y.withDt v).withOp 0) = z at *
          have HY := Lib.hid hyo
          clear hyo
          go_wp2_with fail
          go_step3
          simp only [Exit.inBlock, Exit.then]
          go_big_open
          rw [gotos_goto]
          refine ⟨_, rfl, ?_⟩
          unfold wpScope
          go_wp2_with fail
          refine HN4.out.mono ?_
          rintro e w4 ⟨rfl, hR4, hO4⟩
          have c1' : w4.cell? ⟨rb, 1, none⟩ = some (.int .i64 5) := by rw [← HY.out]; exact hR4.cells.2.1
          have c5 := hR4.cell 4
          have f5 := hR4.cells.2.2 5
          have hR5 := hR4.set 5 (.int .u32 v) (x' := y.withDt v) (fun _ => rfl)
          have hO5 : Only [rb] wc (w4.setCell ⟨rb, 5, none⟩ (.int .u32 v)) := hO4.set1 (by simp) _ _
          have HX := Lib.hid (And.intro hR5 hO5)
          clear hR4 hO4 hR5 hO5 HN4
          go_wp2_with fail
          apply wp_label
          go_wp2_with fail
          refine (HN5.out _ (hgc.onlyS HX.out.2 (by simpa using hrb)) HX.out.1).mono ?_
          rintro e w6 ⟨rfl, hR6, hO6⟩
          have c6 := hR6.cell 5
          have f6 := hR6.cells.2.2 6
          go_wp2_with fail
          rw [Exit.noGoto_normal]
          go_returns
          refine ⟨rfl, ⟨r.tail.tail, ?_⟩, ((hO.trans HX.out.2).trans hO6).set1 (by simp) _ _⟩
          rw [HF.out, HE.out, if_pos HY.out, HE5.out]
          exact hR6.set 6 _ (fun _ => rfl)
        · have HY := Lib.hid hyo
          clear hyo
          go_wp2_with fail
          go_step3
          simp only [Exit.inBlock, Exit.then]
          go_big_open
          rw [gotos_goto]
          refine ⟨_, rfl, ?_⟩
          unfold wpScope
          go_wp2_with fail
          refine HN4.out.mono ?_
          rintro e w4 ⟨rfl, hR4, hO4⟩
          have c1' : w4.cell? ⟨rb, 1, none⟩ = some (.int .i64 0) := by rw [← HY.out]; exact hR4.cells.2.1
          have c5 := hR4.cell 4
          have f5 := hR4.cells.2.2 5
          go_wp2_with fail
          rw [Exit.noGoto_ret]
          go_returns
          refine ⟨rfl, ⟨r.tail, ?_⟩, (hO.trans hO4).set1 (by simp) _ _⟩
          rw [HF.out, HE.out, if_neg (by rw [HY.out]; decide)]
          exact hR4.set 5 _ (fun _ => rfl)
      · have hyo2 : (y.op != 5) = true ∧ y.op ≠ 5 := by rcases hyo with h | h <;> rw [h] <;> decide
        have hy2 := hyo2.1
        have HY := Lib.hid hyo2.2
        clear hyo2 hyo
        go_wp2_with fail
        go_step3
        simp only [Exit.inBlock, Exit.then]
        go_big_open
        rw [gotos_goto]
        refine ⟨_, rfl, ?_⟩
        unfold wpScope
        go_wp2_with fail
        refine HN4.out.mono ?_
        rintro e w4 ⟨rfl, hR4, hO4⟩
        have c1' := hR4.cells.2.1
        have c5 := hR4.cell 4
        have f5 := hR4.cells.2.2 5
        go_wp2_with fail
        rw [Exit.noGoto_ret]
        go_returns
        refine ⟨rfl, ⟨r.tail, ?_⟩, (hO.trans hO4).set1 (by simp) _ _⟩
        rw [HF.out, HE.out, if_neg HY.out]
        exact hR4.set 5 _ (fun _ => rfl)
    · have HN4 := Lib.hid (pnumber_any 10 (.inl rfl) rb sb _ r hsr wc hgc hrb hSc)
      have HF : Hid (scanP ws = atP (In.only k) r) := Lib.hid (by rw [HP.out]; rcases hk with rfl | rfl | rfl <;> rfl)
      have HE := Lib.hid (atP_eq (x := In.only k) (r := r) rfl rfl)
      have hyo : (if numK 10 (r.headD []) then In.only k else (In.only k).withOp 0).op = k ∨ (if numK 10 (r.headD []) then In.only k else (In.only k).withOp 0).op = 0 := by
        rw [op_if]; split
        · exact .inl rfl
        · exact .inr rfl
      have hwr := wrap_num 10 (r.headD [])
      generalize numV 10 (r.headD []) = v at *
      generalize (if numK 10 (r.headD []) then In.only k else (In.only k).withOp 0) = y at *
      have HN5 := Lib.hid (fun W hg hR => pnumber_any 16 (.inr rfl) rb sb y r.tail hsr.tail W hg hrb hR)
      have hzo : (if numK 16 (r.tail.headD []) then y else y.withOp 0).op = k ∨ (if numK 16 (r.tail.headD []) then y else y.withOp 0).op = 0 := by
        rw [op_if]; split
        · exact hyo
        · exact .inr rfl
      generalize numV 16 (r.tail.headD []) = v2 at *
      generalize (if numK 16 (r.tail.headD []) then y else y.withOp 0) = z at *
      have hs2 := hsr.tail.tail
      generalize r.tail.tail = r2 at *
      clear hSc f HP hyo
      have HK := Lib.hid hzo
      have HZ : ∀ k', k = k' → Hid (z.op = k' ∨ z.op = 0) := fun k' h => by subst h; exact HK
      clear HK hzo
      rcases hk with rfl | rfl | rfl
      all_goals
        have HK := HZ _ rfl
        clear HZ
        go_wp2_with fail
        go_step3
        simp only [Exit.inBlock, Exit.then]
        go_big_open
        rw [gotos_goto]
        refine ⟨_, rfl, ?_⟩
        unfold wpScope
        go_wp2_with fail
        refine HN4.out.mono ?_
        rintro e w4 ⟨rfl, hR4, hO4⟩
        go_wp2_with fail
        refine (HN5.out w4 (hgc.onlyS hO4 (by simpa using hrb)) hR4).mono ?_
        rintro e w5 ⟨rfl, hR5, hO5⟩
        have hO6 : Only [rb] w w5 := (hO.trans hO4).trans hO5
        have hg6 : Gl w5 := hgc.onlyS (hO4.trans hO5) (by simpa using hrb)
        clear HN4 HN5 hR4 hO4 hO5 hO c0 c1 hgc
        have hset : ∀ b : Bool, ScW (((w5.setCell ⟨rb, 2, none⟩ (.int .i64 v)).setCell ⟨rb, 3, none⟩ (.int .u32 v2)).setCell ⟨rb, 4, none⟩ (.bool b)) rb sb (z.withAt v v2 b) r2 ∧ Only [rb] w5 (((w5.setCell ⟨rb, 2, none⟩ (.int .i64 v)).setCell ⟨rb, 3, none⟩ (.int .u32 v2)).setCell ⟨rb, 4, none⟩ (.bool b)) := fun b =>
          ⟨((hR5.set 2 (.int .i64 v) (x' := ⟨z.op, v, z.ad, z.ix, z.dt, z.to, z.cf⟩) (fun _ => rfl)).set 3 (.int .u32 v2) (x' := ⟨z.op, v, v2, z.ix, z.dt, z.to, z.cf⟩) (fun _ => rfl)).set 4 (.bool b) (fun _ => rfl),
            (((Only.refl _ _).set1 (by simp) _ _).set1 (by simp) _ _).set1 (by simp) _ _⟩
        have HS := Lib.hid hset
        have s1 := hR5.cells.2.1
        have s2 := hR5.cell 1
        have s3 := hR5.cell 2
        have s4 := hR5.cell 3
        have f2 := hR5.cells.2.2 2
        have f3 := hR5.cells.2.2 3
        have f4 := hR5.cells.2.2 4
        obtain ⟨off5, hb5, hl5, hn5, hc5⟩ := hR5
        have s0 : w5.cell? ⟨rb, 0, none⟩ = some (.slice (some ⟨sb, off5, none⟩) r2.length r2.length) := hb5.cell 0
        clear hset hb5 hl5
        have hne : ¬ (sb = rb) := hn5
        have hgs : ∀ b : Bool, Gl (((w5.setCell ⟨rb, 2, none⟩ (.int .i64 v)).setCell ⟨rb, 3, none⟩ (.int .u32 v2)).setCell ⟨rb, 4, none⟩ (.bool b)) := fun b => hg6.onlyS (HS.out b).2 (by simpa using hrb)
        have HG := Lib.hid hgs
        clear hgs hg6 hn5
        rcases r2 with _ | ⟨q, r3⟩
        · clear hc5
          by_cases hz2 : z.op = 2
          · first
            | (exfalso; have := HK.out; omega)
            | (have s1' : w5.cell? ⟨rb, 1, none⟩ = some (.int .i64 2) := by rw [← hz2]; exact s1
               have HZ2 := Lib.hid hz2
               clear hz2 s1
               have HN6 := Lib.hid (fun W hg hR => pnumber_any 16 (.inr rfl) rb sb (z.withAt v v2 false) ([]) hs2 W hg hrb hR)
               have HE6 := Lib.hid (dataP_eq (x := z.withAt v v2 false) (r := []) rfl)
               have huo : (if numK 16 (([] : List (List UInt8)).headD []) then z.withAt v v2 false else (z.withAt v v2 false).withOp 0).op ≠ 5 := by
                 rw [op_if]; split
                 · show z.op ≠ 5; rw [HZ2.out]; decide
                 · decide
               generalize numV 16 (([] : List (List UInt8)).headD []) = v3 at *
               generalize (if numK 16 (([] : List (List UInt8)).headD []) then z.withAt v v2 false else (z.withAt v v2 false).withOp 0) = u at *
               have hu : (u.op != 5) = true := by simpa using huo
               have HU := Lib.hid huo
               clear huo
               go_wp2_with fail
               apply wp_label
               go_wp2_with fail
               refine (HN6.out _ (HG.out false) (HS.out false).1).mono ?_
               rintro e w7 ⟨rfl, hR7, hO7⟩
               have u1 := hR7.cells.2.1
               have u5 := hR7.cell 4
               have uf := hR7.cells.2.2 5
               go_wp2_with fail
               rw [Exit.noGoto_ret]
               go_returns
               refine ⟨rfl, ⟨([] : List (List UInt8)).tail, ?_⟩, ((hO6.trans (HS.out false).2).trans hO7).set1 (by simp) _ _⟩
               rw [HF.out, HE.out, if_pos HZ2.out]
               have e1 : (([] : List (List UInt8)).headD [] == [43]) = false := rfl
               rw [e1]
               simp only [Bool.false_eq_true, if_false]
               rw [HE6.out, if_neg HU.out]
               exact hR7.set 5 _ (fun _ => rfl))
          · have hz3 : (z.op != 2) = true := by simpa using hz2
            have HZ2 := Lib.hid hz2
            clear hz2
            go_wp2_with fail
            rw [Exit.noGoto_ret]
            go_returns
            refine ⟨rfl, ⟨[], ?_⟩, hO6.trans (HS.out false).2⟩
            rw [HF.out, HE.out, if_neg HZ2.out]
            have e1 : (([] : List (List UInt8)).headD [] == [43]) = false := rfl
            rw [e1]
            exact (HS.out false).1
        · have d0 : w5.cell? ⟨sb, off5, none⟩ = some (str q) := hc5 0 q rfl
          obtain ⟨m, hm⟩ : ∃ m, r3.length = m := ⟨_, rfl⟩
          have s0' : w5.cell? ⟨rb, 0, none⟩ = some (.slice (some ⟨sb, off5, none⟩) (m + 1) (m + 1)) := by rw [← hm]; exact s0
          have hm0 : (0 : Int) < (m : Int) + 1 := by omega
          have hm2 : m + 1 ≤ 1000000 := by rw [← hm]; exact hs2.1
          clear s0 hc5 hm
          by_cases hq : q = [43]
          · subst hq
            by_cases hz2 : z.op = 2
            · first
              | (exfalso; have := HK.out; omega)
              | (have s1' : w5.cell? ⟨rb, 1, none⟩ = some (.int .i64 2) := by rw [← hz2]; exact s1
                 have HZ2 := Lib.hid hz2
                 clear hz2 s1
                 have HN6 := Lib.hid (fun W hg hR => pnumber_any 16 (.inr rfl) rb sb (z.withAt v v2 true) (r3) hs2.tail W hg hrb hR)
                 have HE6 := Lib.hid (dataP_eq (x := z.withAt v v2 true) (r := r3) rfl)
                 have huo : (if numK 16 ((r3 : List (List UInt8)).headD []) then z.withAt v v2 true else (z.withAt v v2 true).withOp 0).op ≠ 5 := by
                   rw [op_if]; split
                   · show z.op ≠ 5; rw [HZ2.out]; decide
                   · decide
                 generalize numV 16 ((r3 : List (List UInt8)).headD []) = v3 at *
                 generalize (if numK 16 ((r3 : List (List UInt8)).headD []) then z.withAt v v2 true else (z.withAt v v2 true).withOp 0) = u at *
                 have hu : (u.op != 5) = true := by simpa using huo
                 have HU := Lib.hid huo
                 clear huo
                 go_wp2_with fail
                 refine (next_any rb sb (z.withAt v v2 true) ([43] :: r3) hs2.1 _ (HS.out true).1).mono ?_
                 rintro e w6 ⟨rfl, hR6, hO6'⟩
                 have t1 : w6.cell? ⟨rb, 1, none⟩ = some (.int .i64 2) := by rw [← HZ2.out]; exact hR6.cells.2.1
                 go_wp2_with fail
                 apply wp_label
                 go_wp2_with fail
                 refine (HN6.out w6 ((HG.out true).onlyS hO6' (by simpa using hrb)) hR6).mono ?_
                 rintro e w7 ⟨rfl, hR7, hO7⟩
                 have u1 := hR7.cells.2.1
                 have u5 := hR7.cell 4
                 have uf := hR7.cells.2.2 5
                 go_wp2_with fail
                 rw [Exit.noGoto_ret]
                 go_returns
                 refine ⟨rfl, ⟨(r3 : List (List UInt8)).tail, ?_⟩, (((hO6.trans (HS.out true).2).trans hO6').trans hO7).set1 (by simp) _ _⟩
                 rw [HF.out, HE.out, if_pos HZ2.out]
                 have e1 : ((([43] :: r3 : List (List UInt8))).headD [] == [43]) = true := rfl
                 rw [e1]
                 simp only [if_true, List.tail_cons]
                 rw [HE6.out, if_neg HU.out]
                 exact hR7.set 5 _ (fun _ => rfl))
            · have hz3 : (z.op != 2) = true := by simpa using hz2
              have HZ2 := Lib.hid hz2
              clear hz2
              go_wp2_with fail
              refine (next_any rb sb (z.withAt v v2 true) ([43] :: r3) hs2.1 _ (HS.out true).1).mono ?_
              rintro e w6 ⟨rfl, hR6, hO6'⟩
              have t1 : w6.cell? ⟨rb, 1, none⟩ = some (.int .i64 z.op) := hR6.cells.2.1
              go_wp2_with fail
              rw [Exit.noGoto_ret]
              go_returns
              refine ⟨rfl, ⟨r3, ?_⟩, (hO6.trans (HS.out true).2).trans hO6'⟩
              rw [HF.out, HE.out, if_neg HZ2.out]
              exact hR6
          · have hq1 : (q == [43]) = false := by simpa using hq
            have Hq := Lib.hid hq
            clear hq
            by_cases hz2 : z.op = 2
            · first
              | (exfalso; have := HK.out; omega)
              | (have s1' : w5.cell? ⟨rb, 1, none⟩ = some (.int .i64 2) := by rw [← hz2]; exact s1
                 have HZ2 := Lib.hid hz2
                 clear hz2 s1
                 have HN6 := Lib.hid (fun W hg hR => pnumber_any 16 (.inr rfl) rb sb (z.withAt v v2 false) (q :: r3) hs2 W hg hrb hR)
                 have HE6 := Lib.hid (dataP_eq (x := z.withAt v v2 false) (r := q :: r3) rfl)
                 have huo : (if numK 16 ((q :: r3 : List (List UInt8)).headD []) then z.withAt v v2 false else (z.withAt v v2 false).withOp 0).op ≠ 5 := by
                   rw [op_if]; split
                   · show z.op ≠ 5; rw [HZ2.out]; decide
                   · decide
                 generalize numV 16 ((q :: r3 : List (List UInt8)).headD []) = v3 at *
                 generalize (if numK 16 ((q :: r3 : List (List UInt8)).headD []) then z.withAt v v2 false else (z.withAt v v2 false).withOp 0) = u at *
                 have hu : (u.op != 5) = true := by simpa using huo
                 have HU := Lib.hid huo
                 clear huo
                 go_wp2_with fail
                 apply wp_label
                 go_wp2_with fail
                 refine (HN6.out _ (HG.out false) (HS.out false).1).mono ?_
                 rintro e w7 ⟨rfl, hR7, hO7⟩
                 have u1 := hR7.cells.2.1
                 have u5 := hR7.cell 4
                 have uf := hR7.cells.2.2 5
                 go_wp2_with fail
                 rw [Exit.noGoto_ret]
                 go_returns
                 refine ⟨rfl, ⟨(q :: r3 : List (List UInt8)).tail, ?_⟩, ((hO6.trans (HS.out false).2).trans hO7).set1 (by simp) _ _⟩
                 rw [HF.out, HE.out, if_pos HZ2.out]
                 have e1 : ((q :: r3 : List (List UInt8)).headD [] == [43]) = false := hq1
                 rw [e1]
                 simp only [Bool.false_eq_true, if_false]
                 rw [HE6.out, if_neg HU.out]
                 exact hR7.set 5 _ (fun _ => rfl))
            · have hz3 : (z.op != 2) = true := by simpa using hz2
              have HZ2 := Lib.hid hz2
              clear hz2
              go_wp2_with fail
              rw [Exit.noGoto_ret]
              go_returns
              refine ⟨rfl, ⟨q :: r3, ?_⟩, hO6.trans (HS.out false).2⟩
              rw [HF.out, HE.out, if_neg HZ2.out]
              have e1 : ((q :: r3 : List (List UInt8)).headD [] == [43]) = false := hq1
              rw [e1]
              exact (HS.out false).1
end Go.Proofs.YtagmoehjcgjnjaaGreatDoor
