/- Read of package prog, walked whole. Conditions: the listed variables are laid; the text is short. -/
import Derived.Test.YtagmoehjcgjnjaaGreatDoorPgD
import Derived.LoopTactic
namespace Go.Proofs.YtagmoehjcgjnjaaGreatDoor
open Go Go.RowKit
attribute [local go_sem ↓] str_eql

theorem idxG_drop {ls : List (List UInt8)} {k : Nat} (hk : k < ls.length) : idxG badL (ls.drop k) k = if badL ls[k] then (k : Int) else idxG badL (ls.drop (k + 1)) ((k + 1 : Nat) : Int) := by
  rw [List.drop_eq_getElem_cons hk]
  rfl
theorem idxF_le (p : In → Bool) : ∀ (l : List In) (k : Int), 0 ≤ k → idxF p l k ≤ k + l.length
  | [], k, h => by simp only [idxF, List.length_nil]; omega
  | x :: r, k, h => by
    have := idxF_le p r (k + 1) (by omega)
    unfold idxF
    simp only [List.length_cons]
    split <;> omega
theorem rd_bad {s : List UInt8} (hs : s ≠ []) {k : Nat} (h : idxG badL (linesOf s) 0 = (k : Int)) : rdA s = ([], (k : Int) + 1, 8) := by
  unfold rdA
  rw [if_neg hs, if_pos (by rw [h]; omega), h]
theorem rd_long {s : List UInt8} (hs : s ≠ []) (h : idxG badL (linesOf s) 0 = -1) (hl : 64 < (linesOf s).length) : rdA s = ([], 65, 3) := by
  unfold rdA
  rw [if_neg hs, if_neg (by rw [h]; decide), if_pos hl]
theorem rd_far {s : List UInt8} (hs : s ≠ []) (h : idxG badL (linesOf s) 0 = -1) (hl : ¬ 64 < (linesOf s).length) {i : Int} (hi : idxF (In.far (linesOf s).length) ((linesOf s).map oneX) 0 = i) (h0 : 0 ≤ i) : rdA s = ([], i + 1, 6) := by
  unfold rdA
  rw [if_neg hs, if_neg (by rw [h]; decide), if_neg hl, hi, if_pos h0]
theorem rd_ok {s : List UInt8} (hs : s ≠ []) (h : idxG badL (linesOf s) 0 = -1) (hl : ¬ 64 < (linesOf s).length) {i : Int} (hi : idxF (In.far (linesOf s).length) ((linesOf s).map oneX) 0 = i) (h0 : ¬ 0 ≤ i) : rdA s = ((linesOf s).map oneX, 0, 0) := by
  unfold rdA
  rw [if_neg hs, if_neg (by rw [h]; decide), if_neg hl, hi, if_neg h0]
theorem one_ok {l : List UInt8} (h : badL l = false) : oneE l = 0 := by
  unfold badL at h
  unfold oneE
  rw [if_pos (by simpa using h)]
theorem one_bad {l : List UInt8} (h : badL l = true) : oneE l = 8 := by
  unfold badL at h
  unfold oneE
  rw [if_neg (by simpa using h)]

/-- Between two rounds. -/
def RdI (w1 : World) (B : Nat) (l : List In) (wr : World) : Prop := ∃ v, Blk wr B 22 #[v] ∧ InR wr w1.heap.size v l ∧ Only [B] w1 wr
/-- What is left. -/
def RdPost (w : World) (s : List UInt8) (e : Ending) (w' : World) : Prop := ∃ v, e = .returned (.tuple #[v, .int .i64 (rdA s).2.1, .int .i64 (rdA s).2.2]) ∧ InR w' w.heap.size v (rdA s).1 ∧ Only [] w w'
theorem rd_done {w w1 wr W : World} {s : List UInt8} {B : Nat} {v : Value} {l : List In} {n e : Int} (hB : B = w.heap.size) (hO1 : Only [] w w1) (hO : Only [B] w1 wr) (hW : Only [B] wr W) (hR : InR W w.heap.size v l) (hr : rdA s = (l, n, e)) : RdPost w s (.returned (.tuple #[v, .int .i64 n, .int .i64 e])) W := by
  refine ⟨v, by rw [hr], by rw [hr]; exact hR, hO1.trans' (hO.trans hW) (by intro z hz hlt; simp at hz; omega)⟩

set_option maxRecDepth 100000 in
set_option maxHeartbeats 4000000 in
theorem pread_any (s : List UInt8) (hs : s.length ≤ 800000) (w : World) (hg : Gl w) :
    Calls Tryz.prog 15 #[str s] w (RdPost w s) := by
  by_cases hne : s = []
  · subst hne
    have HP : Hid (∀ W, InR W w.heap.size (.slice none 0 0) [] → Only [] w W → RdPost w [] (.returned (.tuple #[.slice none 0 0, .int .i64 0, .int .i64 0])) W) := Lib.hid (fun W h1 h2 => ⟨_, rfl, h1, h2⟩)
    generalize RdPost w [] = PP at *
    go_enter Tryz.func15, Tryz.ntmps15
    go_wp2_with fail
    exact bodyPost_ret (v := .tuple #[.slice none 0 0, .int .i64 0, .int .i64 0]) (by simp [results, Tryz.results15, go_sem]) rfl (HP.out _ (InR.nil _ _) ((Only.refl _ _).alloc _))
  · have hd : (s == []) = false := by simpa using hne
    have HSp := Lib.hid (fun W hg => lsplit_any s (by omega) W hg)
    have hsh := lines_sh s
    have HD : Hid (∀ (w1 wr W : World) (v : Value) (l : List In) (n e : Int), Only [] w w1 → Only [w.heap.size] w1 wr → Only [w.heap.size] wr W → InR W w.heap.size v l → rdA s = (l, n, e) → RdPost w s (.returned (.tuple #[v, .int .i64 n, .int .i64 e])) W) :=
      Lib.hid (fun w1 wr W v l n e h1 h2 h3 h4 h5 => rd_done rfl h1 h2 h3 h4 h5)
    have HQ : Hid ((∀ k : Nat, idxG badL (linesOf s) 0 = (k : Int) → rdA s = ([], (k : Int) + 1, 8)) ∧ (idxG badL (linesOf s) 0 = -1 → 64 < (linesOf s).length → rdA s = ([], 65, 3)) ∧
        (idxG badL (linesOf s) 0 = -1 → ¬ 64 < (linesOf s).length → ∀ i, idxF (In.far (linesOf s).length) ((linesOf s).map oneX) 0 = i → (0 ≤ i → rdA s = ([], i + 1, 6)) ∧ (¬ 0 ≤ i → rdA s = ((linesOf s).map oneX, 0, 0)))) :=
      Lib.hid ⟨fun k h => rd_bad hne h, fun h hl => rd_long hne h hl, fun h hl i hi => ⟨fun h0 => rd_far hne h hl hi h0, fun h0 => rd_ok hne h hl hi h0⟩⟩
    have hll : (linesOf s).length ≤ 800001 := by omega
    have HS := Lib.hid (fun l (hl : l ∈ linesOf s) => Nat.le_trans (hsh.2 l hl) hs)
    generalize linesOf s = ls at *
    clear hsh
    generalize RdPost w s = PP at *
    have HG := Lib.hid hg
    clear hne hg
    go_enter Tryz.func15, Tryz.ntmps15
    go_wp2_with fail
    refine (HSp.out _ (HG.out.only ((Only.refl _ _).alloc _))).mono ?_
    rintro e w1 ⟨wb, rfl, hwb, hBw, hO1⟩
    have hB1 : Blk w1 w.heap.size 22 #[.slice none 0 0] := hO1.blk (Blk.new w _ _) (by simp)
    have hOw : Only [] w w1 := ((Only.refl [] w).alloc (.cells #[.slice none 0 0] 22)).trans hO1
    have hwb2 : w.heap.size < wb := by simp at hwb; omega
    have hwl := hBw.lt
    have hBl := hB1.lt
    have HX := Lib.hid (And.intro hBw hOw)
    clear hwb hBw hO1 hOw HSp
    go_wp2_with fail
    go_loopw [15] (fun i wr => ∃ k : Nat, i = .int .i64 k ∧ k ≤ ls.length ∧ Hid (idxG badL ls 0 = idxG badL (ls.drop k) k) ∧ RdI w1 w.heap.size ((ls.take k).map oneX) wr) (fun i _ => ls.length - (intOf i).toNat)
    case atStart => exact ⟨0, rfl, by omega, rfl, _, hB1, InR.nil _ _, Only.refl _ _⟩
    case round =>
      clear hB1
      obtain ⟨k, rfl, hk, HI, v, hB, hR, hO⟩ := hrel
      have hOww : Only [] w wr := HX.out.2.trans' hO (by intro z hz hlt; simp at hz; omega)
      have hgr := HG.out.only hOww
      by_cases hkl : k < ls.length
      · have hki : (k : Int) < (ls.length : Int) := by omega
        have hdl : wr.cell? ⟨wb, k, none⟩ = some (str ls[k]) := by
          have := blk_words (hO.blk HX.out.1 (by simp; omega)) k ls[k] (by simp)
          exact this
        have HO := Lib.hid (one_any ls[k] (by have := HS.out ls[k] (by simp); omega) wr hgr)
        have hix := HI.out
        rw [idxG_drop hkl] at hix
        have htk : (ls.take (k + 1)).map oneX = (ls.take k).map oneX ++ [oneX ls[k]] := by rw [List.take_succ_eq_append_getElem hkl, List.map_append]; rfl
        have HE0 : Hid ((badL ls[k] = true → oneE ls[k] = 8) ∧ (badL ls[k] = false → oneE ls[k] = 0)) := Lib.hid ⟨one_bad, one_ok⟩
        generalize oneX ls[k] = x at *
        generalize oneE ls[k] = oe at *
        generalize badL ls[k] = bd at *
        generalize ls[k] = line at *
        have HIX := Lib.hid hix
        have HTK := Lib.hid htk
        have hRl : ((ls.take k).map oneX).length ≤ 1000000 := by simp; omega
        have hRs : InS wr v ((ls.take k).map oneX) := hR.ins
        obtain ⟨pv, cv, hvv⟩ := hRs.len
        obtain ⟨nv, hnv⟩ : ∃ nv, nv = ((ls.take k).map oneX).length := ⟨_, rfl⟩
        rw [← hnv] at hvv
        subst hvv
        clear hnv
        have HV := Lib.hid (And.intro hB (And.intro hR (And.intro hO hRs)))
        have c0 : wr.cell? ⟨w.heap.size, 0, none⟩ = some (.slice pv nv cv) := hB.cell 0
        have f0 := hB.frozen 0
        have hlr := hB.lt
        have hwr1 := hO.size
        clear hix htk hB hR hO hRs HI
        cases bd with
        | true =>
          obtain rfl : oe = 8 := HE0.out.1 rfl
          have HF : Hid (rdA s = ([], (k : Int) + 1, 8)) := Lib.hid (HQ.out.1 k (by rw [HIX.out]; simp))
          clear HIX HQ HE0 HTK
          have hk1 : IntKind.i64.wrap ((k : Int) + 1) = (k : Int) + 1 := IntWalk.i64_in _ (by omega)
          go_wp2_with (first
            | (go_at_call 18; refine HO.out.mono ?_; rintro e w2 ⟨rfl, hO2⟩; have hB2 := hO2.blk HV.out.1 (by simp); have e0 := hB2.cell 0; have g0 := hB2.frozen 0)
            | (refine wpList_st 33 x.cs.toList w2.heap.size 0 _ _ rfl (by kernel_rfl) rfl rfl rfl rfl (Blk.new w2 33 (In.only 0).cs) (Nat.le_of_ble_eq_true rfl) ?_; intro w3 hB3 hO3; have hB4 := hO3.blk (hB2.alloc (.cells (In.only 0).cs 33)) (by have := hB2.lt; simp; omega); have e1 := hB4.cell 0; have g1 := hB4.frozen 0; have hl4 := hB4.lt))
          have hOa : Only [] wr (w2.alloc (.cells (In.only 0).cs 33)) := hO2.alloc _
          have hOb : Only [] wr w3 := hOa.trans' hO3 (by intro z hz hlt; simp at hz; have := hO2.size; omega)
          have hB5 := hB4.set_ 0 (.slice none 0 0)
          have e5 : (w3.setCell ⟨w.heap.size, 0, none⟩ (.slice none 0 0)).cell? ⟨w.heap.size, 0, none⟩ = some (.slice none 0 0) := hB5.cell 0
          exact bodyPost_ret (v := .tuple #[.slice none 0 0, .int .i64 ((k : Int) + 1), .int .i64 8]) (by simp [results, Tryz.results15, go_sem, e5]) rfl
            (HD.out w1 wr _ _ [] _ _ HX.out.2 HV.out.2.2.1 ((hOb.mono (by simp)).set1 (by simp) _ _) (InR.nil _ _) HF.out)
        | false =>
          obtain rfl : oe = 0 := HE0.out.2 rfl
          have HIY : Hid (idxG badL ls 0 = idxG badL (ls.drop (k + 1)) ((k + 1 : Nat) : Int)) := Lib.hid (by rw [HIX.out]; simp)
          clear HIX HQ HE0 HD
          go_wp2_with (first
            | (go_at_call 18; refine HO.out.mono ?_; rintro e w2 ⟨rfl, hO2⟩; have hB2 := hO2.blk HV.out.1 (by simp))
            | (refine wpList_st 33 x.cs.toList w2.heap.size 0 _ _ rfl (by kernel_rfl) rfl rfl rfl rfl (Blk.new w2 33 (In.only 0).cs) (Nat.le_of_ble_eq_true rfl) ?_; intro w3 hB3 hO3; rw [setL_in] at hB3; have hB4 := hO3.blk (hB2.alloc (.cells (In.only 0).cs 33)) (by have := hB2.lt; simp; omega); have e1 := hB4.cell 0; have HB3 := Lib.hid (And.intro hB3 (And.intro hB4 (Blk.rng hB3))); clear hB3 hB4 hB2)
            | (refine wpList_ld 33 x w2.heap.size 0 _ rfl (.inl rfl) rfl rfl HB3.out.2.2 ?_)
            | (at_builtin; refine wpList_append_in rfl _ _ rfl w1.heap.size ((ls.take k).map oneX) x _ rfl ((HV.out.2.1.only ((hO2.alloc (.cells (In.only 0).cs 33)).trans' (S' := [w2.heap.size]) hO3 (by intro z hz hlt; simp at hz; have := hO2.size; omega)) (by simp)).only ((Only.refl [] _).alloc _) (by simp)) _ 1 rfl (Blk.new _ _ _) hRl (by have := hO2.size; have := hO3.size; simp at this ⊢; omega) ?_; intro v5 w5 hR5 hOB5 hO5; obtain ⟨p5, c5, hv5⟩ := hR5.ins.len; obtain ⟨n5, hn5⟩ : ∃ n5, n5 = ((ls.take k).map oneX ++ [x]).length := ⟨_, rfl⟩; rw [← hn5] at hv5; subst hv5; clear hn5; have hB5 := (hOB5 w1.heap.size (Nat.le_refl _)).blk (HB3.out.2.1.alloc (.cells x.cs 33)) hBl (by simp); have e5 := hB5.cell 0; have g5 := hB5.frozen 0))
          have hOa : Only [] wr (w2.alloc (.cells (In.only 0).cs 33)) := hO2.alloc _
          have hOb : Only [] wr w3 := hOa.trans' hO3 (by intro z hz hlt; simp at hz; have := hO2.size; omega)
          have hOc : OnlyB w1.heap.size [] wr w5 := ((hOb.alloc (.cells x.cs 33)).b (B := w1.heap.size) hwr1).trans (hOB5 _ (Nat.le_refl _))
          have hOd : Only [w.heap.size] w1 w5 := HV.out.2.2.1.thenB (hOc.mono (Nat.le_refl _) (by simp))
          have hs6 : Only [w.heap.size] w5 (w5.setCell ⟨w.heap.size, 0, none⟩ (.slice p5 n5 c5)) := (Only.refl _ _).set1 (by simp) _ _
          refine ⟨⟨k + 1, by go_num, by omega, HIY, _, hB5.set_ 0 _, ?_, hOd.trans hs6⟩, by simp [intOf]; omega⟩
          rw [HTK.out]
          exact hR5.only hs6 (by simpa using hBl)
      · obtain rfl : k = ls.length := by omega
        have hki : ¬ (ls.length : Int) < (ls.length : Int) := by omega
        have HZ : Hid (idxG badL ls 0 = -1) := Lib.hid (by rw [HI.out, List.drop_of_length_le (Nat.le_refl _)]; rfl)
        rw [List.take_of_length_le (Nat.le_refl _)] at hR
        have hRs : InS wr v (ls.map oneX) := hR.ins
        obtain ⟨pv, cv, hvv⟩ := hRs.len
        rw [List.length_map] at hvv
        subst hvv
        have c0 : wr.cell? ⟨w.heap.size, 0, none⟩ = some (.slice pv ls.length cv) := hB.cell 0
        have f0 := hB.frozen 0
        have HV := Lib.hid (And.intro hB (And.intro hR (And.intro hO hRs)))
        have hkm : (ls.map oneX).length ≤ 1000000 := by simp; omega
        clear hk hkl HI hOww
        by_cases h64 : 64 < ls.length
        · have h64i : (64 : Int) < (ls.length : Int) := by omega
          have HF : Hid (rdA s = ([], 65, 3)) := Lib.hid (HQ.out.2.1 HZ.out (by omega))
          have hB5 := hB.set_ 0 (.slice none 0 0)
          have e5 : (wr.setCell ⟨w.heap.size, 0, none⟩ (.slice none 0 0)).cell? ⟨w.heap.size, 0, none⟩ = some (.slice none 0 0) := hB5.cell 0
          clear hB hR hO hRs HQ hB5
          go_wp2_with fail
          exact bodyPost_ret (v := .tuple #[.slice none 0 0, .int .i64 65, .int .i64 3]) (by simp [results, Tryz.results15, go_sem, e5]) rfl
            (HD.out w1 wr _ _ [] _ _ HX.out.2 HV.out.2.2.1 ((Only.refl _ _).set1 (by simp) _ _) (InR.nil _ _) HF.out)
        · have h64i : ¬ (64 : Int) < (ls.length : Int) := by omega
          have HIx := Lib.hid (pindex_any (In.far ls.length) 34 (.pointer (some ⟨w.heap.size, 0, none⟩)) (fun _ _ => by kernel_rfl) (ls.map oneX) hkm _ wr hRs (fun x _ W hW => far_any x ls.length w.heap.size pv cv W (hW.blk hB (by simp))))
          have HF := Lib.hid (HQ.out.2.2 HZ.out (by omega) _ rfl)
          have hJ0 := idxF_le (In.far ls.length) (ls.map oneX) 0 (by omega)
          rw [List.length_map] at hJ0
          have HJ := Lib.hid hJ0
          clear hJ0
          generalize idxF (In.far ls.length) (ls.map oneX) 0 = j at *
          clear hB hR hO hRs HQ
          by_cases hj : 0 ≤ j
          · have HF1 := Lib.hid (HF.out.1 (by omega))
            have hjb : j ≤ 2000000 := by have := HJ.out; omega
            have hj1 : IntKind.i64.wrap (j + 1) = j + 1 := IntWalk.i64_in _ (by omega)
            clear HF
            go_wp2_with (go_at_call 33; refine HIx.out.mono ?_; rintro e w2 ⟨rfl, hO2⟩; have hB2 := hO2.blk HV.out.1 (by simp); have e2 := hB2.cell 0; have g2 := hB2.frozen 0)
            have hB5 := hB2.set_ 0 (.slice none 0 0)
            have e5 : (w2.setCell ⟨w.heap.size, 0, none⟩ (.slice none 0 0)).cell? ⟨w.heap.size, 0, none⟩ = some (.slice none 0 0) := hB5.cell 0
            exact bodyPost_ret (v := .tuple #[.slice none 0 0, .int .i64 (j + 1), .int .i64 6]) (by simp [results, Tryz.results15, go_sem, e5]) rfl
              (HD.out w1 wr _ _ [] _ _ HX.out.2 HV.out.2.2.1 ((hO2.mono (by simp)).set1 (by simp) _ _) (InR.nil _ _) HF1.out)
          · have HF1 := Lib.hid (HF.out.2 (by omega))
            clear HF
            go_wp2_with (go_at_call 33; refine HIx.out.mono ?_; rintro e w2 ⟨rfl, hO2⟩; have hB2 := hO2.blk HV.out.1 (by simp); have e2 : w2.cell? ⟨w.heap.size, 0, none⟩ = some (.slice pv ls.length cv) := hB2.cell 0; have g2 := hB2.frozen 0)
            have hB5 := hB2.set_ 0 (.slice pv ls.length cv)
            have e5 : (w2.setCell ⟨w.heap.size, 0, none⟩ (.slice pv ls.length cv)).cell? ⟨w.heap.size, 0, none⟩ = some (.slice pv ls.length cv) := hB5.cell 0
            have hs5 : Only [w.heap.size] wr (w2.setCell ⟨w.heap.size, 0, none⟩ (.slice pv ls.length cv)) := (hO2.mono (by simp)).set1 (by simp) _ _
            exact bodyPost_ret (v := .tuple #[.slice pv ls.length cv, .int .i64 0, .int .i64 0]) (by simp [results, Tryz.results15, go_sem, e5]) rfl
              (HD.out w1 wr _ _ (ls.map oneX) _ _ HX.out.2 HV.out.2.2.1 hs5 ((HV.out.2.1.only hs5 (by simpa using hBl)).base (by have := HX.out.2.size; omega)) HF1.out)
end Go.Proofs.YtagmoehjcgjnjaaGreatDoor
