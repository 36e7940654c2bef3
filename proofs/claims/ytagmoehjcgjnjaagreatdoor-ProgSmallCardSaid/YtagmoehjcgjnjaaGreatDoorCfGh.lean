/- Read of package conf, walked, at one kind. Conditions: the text is short; the listed variables are laid. Read of package conf, walked, at one kind. Conditions: the text is short; the listed variables are laid. Read of package conf, walked, at one kind. Conditions: the text is short; the listed variables are laid. -/
import Derived.Test.YtagmoehjcgjnjaaGreatDoorCfGf
import Derived.Test.YtagmoehjcgjnjaaGreatDoorCfGa
import Derived.Deep.RegionWith
import Derived.Deep.DeepCutAuto
import Derived.Outline
namespace Go.Proofs.YtagmoehjcgjnjaaGreatDoor
open Go Go.RowKit
attribute [local go_sem ↓] str_eql str_neq
attribute [local go_sem] cell_set_map Option.map_some

set_option maxRecDepth 100000 in
set_option maxHeartbeats 16000000 in
theorem read_5 (s : List UInt8) (hk : kindOf (Rds.h (wordsOf s, true)) = 5) (hs : s.length ≤ 1000000) (hS : Short (wordsOf s)) (w : World) (hg : Gl w) :
    Calls Tryz.prog 71 #[str s] w fun e w' => e = .returned (.tuple #[(readC s (parse s)).agg, .int .i64 (readE s (parse s))]) ∧ Only [] w w' := by
  have Hk0 := Lib.hid hk
  clear hk
  have hO0 := (Only.refl [] w).alloc (.cells #[.int .i64 0, .int .i64 0, .int .i64 0, .int .i64 0, .bool false, .int .i64 0, .int .u32 0, .int .u32 0, .bool false, .bool false, .int .i64 0, .bool false] 31)
  have hC0 : CfB (w.alloc (.cells #[.int .i64 0, .int .i64 0, .int .i64 0, .int .i64 0, .bool false, .int .i64 0, .int .u32 0, .int .u32 0, .bool false, .bool false, .int .i64 0, .bool false] 31)) w.heap.size ⟨0, 0, 0, 0, false, 0, 0, 0, false, false, 0, false⟩ := Blk.new' rfl rfl
  have hg0 := hg.only hO0
  have hl0 := hC0.lt
  have hgl := hg.lt
  obtain ⟨m, hml⟩ := hg0.ml
  have H1 := Tryz.strings_Split ⟨s.toArray⟩ ⟨#[32]⟩ m _ (by show s.length < _; omega) hml (by decide)
  rw [show (Lib.splitB ⟨#[32]⟩ 0 (Lib.countB ⟨s.toArray⟩ ⟨#[32]⟩) ⟨s.toArray⟩).map Value.string = (wordsOf s).map str from wordsB_str s] at H1
  have hn := wordsOf_length s
  rw [← hn] at H1
  have H := Lib.hid H1
  clear H1 hml hn
  generalize hW0 : w.alloc (.cells #[.int .i64 0, .int .i64 0, .int .i64 0, .int .i64 0, .bool false, .int .i64 0, .int .u32 0, .int .u32 0, .bool false, .bool false, .int .i64 0, .bool false] 31) = W0 at *
  have hz : W0.heap.size = w.heap.size + 1 := by rw [← hW0]; simp
  have HW := Lib.hid hW0
  clear hW0
  go_enter Tryz.func71, Tryz.ntmps71
  go_wp2_with fail
  rw [HW.out]
  refine H.out.mono ?_
  rintro e w1 ⟨rfl, rfl⟩
  have hX : Blk (W0.alloc (.cells ((wordsOf s).map str).toArray 9)) W0.heap.size 9 ((wordsOf s).map str).toArray := Blk.new' rfl rfl
  have hOX := hO0.alloc (.cells ((wordsOf s).map str).toArray 9)
  have hCX := hC0.alloc (.cells ((wordsOf s).map str).toArray 9)
  have hzX : (W0.alloc (.cells ((wordsOf s).map str).toArray 9)).heap.size = w.heap.size + 2 := by simp [hz]
  generalize W0.alloc (.cells ((wordsOf s).map str).toArray 9) = W1 at *
  go_upto_region 2 with fail
  clear H HW hg0 hO0 hC0
  have hR : RdP (W1.alloc (.cells #[.slice (some ⟨w.heap.size + 1, 0, none⟩) (wordsOf s).length (wordsOf s).length, .bool true] 153)) (w.heap.size + 2) (w.heap.size + 1) (wordsOf s, true) := by
    refine ⟨0, Blk.new' rfl hzX.symm, by simp [hzX], by omega, fun j l hj => ?_⟩
    rw [hz] at hX
    rw [(hX.alloc _).cell, Nat.zero_add, List.getElem?_toArray, List.getElem?_map, hj]
    rfl
  have hO2 := hOX.alloc (.cells #[.slice (some ⟨w.heap.size + 1, 0, none⟩) (wordsOf s).length (wordsOf s).length, .bool true] 153)
  have hC2 := hCX.alloc (.cells #[.slice (some ⟨w.heap.size + 1, 0, none⟩) (wordsOf s).length (wordsOf s).length, .bool true] 153)
  have hz2 : (W1.alloc (.cells #[.slice (some ⟨w.heap.size + 1, 0, none⟩) (wordsOf s).length (wordsOf s).length, .bool true] 153)).heap.size = w.heap.size + 3 := by simp [hzX]
  generalize W1.alloc (.cells #[.slice (some ⟨w.heap.size + 1, 0, none⟩) (wordsOf s).length (wordsOf s).length, .bool true] 153) = W2 at *
  clear hX hOX hCX hzX hz
  have hP : parse s = parseK (kindOf (Rds.h (wordsOf s, true))) (Rds.t (wordsOf s, true)) := rfl
  generalize wordsOf s = ws at *
  generalize hrb : w.heap.size + 2 = rb at *
  generalize hsb : w.heap.size + 1 = sb at *
  have hk1 : ∀ o, (W2.alloc o).heap.size = w.heap.size + 3 + 1 := fun o => by simp [hz2]
  have hne3 : w.heap.size + 3 ∉ [rb] := by simp; omega
  have hne4 : w.heap.size + 3 + 1 ∉ [rb] := by simp; omega
  go_cut [5] (fun v wx => Begun W2 rb sb (Rds.t (ws, true)) (kindOf (Rds.h (ws, true))) v wx)
  case first =>
    go_region_with (first
      | (go_at_call 64; refine (kinds_any _).mono ?_; rintro e w3 ⟨rfl, rfl⟩)
      | (go_at_call 106
         refine (take_p rb sb (ws, true) hS _ (RdB.only hR (S := []) (by repeat (first | with_reducible exact Only.refl _ _ | with_reducible refine Only.drew ?_ | with_reducible refine Only.alloc ?_ _)) (by simp) (by simp))).mono ?_
         rintro e w3 ⟨rfl, hR3, hO3⟩
         first
           | have hB3 : CfB w3 (w.heap.size + 3 + 1) ⟨0, 0, 0, 0, false, 0, 0, 0, false, false, 0, false⟩ := Only.blk hO3 (Blk.drew (Blk.new' rfl (hk1 _).symm)) hne4
             obtain ⟨c0, c1, c2, c3, c4, c5, c6, c7, c8, c9, c10, c11, cf⟩ := hB3.c
             have e0 := cf 0; have e1 := cf 1; have e2 := cf 2; have e3 := cf 3; have e4 := cf 4; have e5 := cf 5; have e6 := cf 6; have e7 := cf 7; have e8 := cf 8; have e9 := cf 9; have e10 := cf 10; have e11 := cf 11
             simp only at c0 c1 c2 c3 c4 c5 c6 c7 c8 c9 c10 c11
           | have hB3 : CfB w3 (w.heap.size + 3) ⟨0, 0, 0, 0, false, 0, 0, 0, false, false, 0, false⟩ := Only.blk hO3 (Blk.drew (Blk.alloc (Blk.new' rfl hz2.symm) _)) hne3
             obtain ⟨c0, c1, c2, c3, c4, c5, c6, c7, c8, c9, c10, c11, cf⟩ := hB3.c
             have e0 := cf 0; have e1 := cf 1; have e2 := cf 2; have e3 := cf 3; have e4 := cf 4; have e5 := cf 5; have e6 := cf 6; have e7 := cf 7; have e8 := cf 8; have e9 := cf 9; have e10 := cf 10; have e11 := cf 11
             simp only at c0 c1 c2 c3 c4 c5 c6 c7 c8 c9 c10 c11
           | skip)
      | (go_at_call 105
         refine (index_any _ _ _ (by
           repeat (first | with_reducible refine Blk.alloc ?_ _ | with_reducible refine Blk.drew ?_)
           refine Only.blk hO3 ?_ (by simp; omega)
           repeat (first | with_reducible exact Blk.new' rfl (by simp [hz2]) | with_reducible refine Blk.alloc ?_ _ | with_reducible refine Blk.drew ?_))).mono ?_
         rintro e w' ⟨rfl, rfl⟩)
      | fail)
    all_goals
      go_wp2_with fail
      go_meet
      first
        | exact begun_new W2 _ rb sb _ _ hR3 (((Only.refl [rb] W2).alloc _).drew.trans hO3)
        | exact begun_set W2 _ rb sb _ _ _ hB3 hR3 ((((Only.refl [rb] W2).alloc _).alloc _).drew.trans hO3) (by omega) (by omega) (by omega)
  case rest =>
    obtain ⟨b, rfl, hbl, hC3, hR3, hO3⟩ := hcut
    have hZ3 : CfB wc w.heap.size ⟨0, 0, 0, 0, false, 0, 0, 0, false, false, 0, false⟩ := hO3.cf hC2 (by simp; omega)
    have hO4 : Only [] w wc := hO2.trans' hO3 (by simp; omega)
    have hS1 : Short (Rds.t (ws, true)).1 := hS.tail
    clear hC2 hO2 hO3 hR hk1 hne3 hne4 hS
    generalize Rds.t (ws, true) = p at *
    generalize kindOf (Rds.h (ws, true)) = k at *
    have HP := Lib.hid hP
    clear hP
    have hrb8 : 8 ≤ rb := by omega
    have hbn : b ≠ rb := by omega
    have h5 := Hk0.out
    have h7 : ¬ k = 7 := by omega
    clear Hk0
    have hS2 : Short p.n.1 := hS1.n
    obtain ⟨c0, c1, c2, c3, c4, c5, c6, c7, c8, c9, c10, c11, -⟩ := hC3.c
    simp only at c0 c1 c2 c3 c4 c5 c6 c7 c8 c9 c10 c11
    go_wp2_with fail
    clear c0 c1 c2 c3 c4 c5 c6 c7 c8 c9 c10 c11
    refine (number_p rb sb p hS1 _ hR3 (hg.only hO4) hrb8).mono ?_
    rintro e w4 ⟨rfl, hR4, hO5⟩
    have hC4 := hO5.cf hC3 (by simp only [List.mem_cons, List.not_mem_nil, or_false]; omega)
    have hZ4 := hO5.cf hZ3 (by simp only [List.mem_cons, List.not_mem_nil, or_false]; omega)
    have hO4' := hO4.trans' hO5 (by intro x hx; simp only [List.mem_cons, List.not_mem_nil, or_false] at hx; intro h; omega)
    obtain ⟨pn, hpn⟩ : ∃ q, p.n = q := ⟨_, rfl⟩
    obtain ⟨ix, hix⟩ : ∃ q, p.nv = q := ⟨_, rfl⟩
    rw [hpn] at hS2 hR4
    rw [hix]
    have HK : parseK k p = parseC k ix pn := by rw [parseK, if_neg h7, hpn, hix]
    have HK := Lib.hid HK
    clear hpn hix hO5 hR3 hC3 hZ3 hO4 hS1
    obtain ⟨c0, c1, c2, c3, c4, c5, c6, c7, c8, c9, c10, c11, cf⟩ := hC4.c
    simp only at c0 c1 c2 c3 c4 c5 c6 c7 c8 c9 c10 c11
    have f1 := cf 1
    have hC5 := cf_ix ix hC4
    have hOs := (Only.refl [b] w4).set1 (b := b) (by simp) 1 (.int .i64 ix)
    have hR5 := hR4.only hOs (by simp only [List.mem_cons, List.not_mem_nil, or_false]; omega) (by simp only [List.mem_cons, List.not_mem_nil, or_false]; omega)
    have hZ5 := hOs.cf hZ4 (by simp only [List.mem_cons, List.not_mem_nil, or_false]; omega)
    have hO5 := hO4'.trans' hOs (by intro x hx; simp only [List.mem_cons, List.not_mem_nil, or_false] at hx; intro h; omega)
    have HH := Lib.hid (And.intro hC5 (And.intro hR5 (And.intro hZ5 hO5)))
    clear hC4 hR4 hZ4 hO4' hOs hC5 hR5 hZ5 hO5 cf
    subst h5
    go_wp2_with fail
    obtain ⟨hC5, hR5, hZ5, hO5⟩ := HH.out
    clear HH f1 c0 c1 c2 c3 c4 c5 c6 c7 c8 c9 c10 c11
    refine (number_p rb sb pn hS2 _ hR5 (hg.only hO5) hrb8).mono ?_
    rintro e w5 ⟨rfl, hR6, hO6⟩
    have hC6 := hO6.cf hC5 (by simp only [List.mem_cons, List.not_mem_nil, or_false]; omega)
    have hZ6 := hO6.cf hZ5 (by simp only [List.mem_cons, List.not_mem_nil, or_false]; omega)
    have hO6' := hO5.trans' hO6 (by intro x hx; simp only [List.mem_cons, List.not_mem_nil, or_false] at hx; intro h; omega)
    obtain ⟨a1, j1⟩ : ∃ q, pn.nv = q := ⟨_, rfl⟩
    obtain ⟨q, j2⟩ : ∃ q, pn.n = q := ⟨_, rfl⟩
    rw [j1]
    rw [j2] at hR6
    have HC : parseC 5 ix pn = (⟨5, ix, a1, 0, false, 0, 0, 0, false, false, 0, false⟩, q) := by rw [← j1, ← j2]; rfl
    have HC := Lib.hid HC
    clear j1 j2 hC5 hR5 hZ5 hO5 hO6
    obtain ⟨c0, c1, c2, c3, c4, c5, c6, c7, c8, c9, c10, c11, cf⟩ := hC6.c
    have f2 := cf 2
    simp only at c0 c1 c2 c3 c4 c5 c6 c7 c8 c9 c10 c11
    have hC7 := cf_wo a1 hC6
    have hOs := (Only.refl [b] w5).set1 (b := b) (by simp) 2 (.int .i64 a1)
    have hR7 := hR6.only hOs (by simp only [List.mem_cons, List.not_mem_nil, or_false]; omega) (by simp only [List.mem_cons, List.not_mem_nil, or_false]; omega)
    have hZ7 := hOs.cf hZ6 (by simp only [List.mem_cons, List.not_mem_nil, or_false]; omega)
    have hO7' := hO6'.trans' hOs (by intro x hx; simp only [List.mem_cons, List.not_mem_nil, or_false] at hx; intro h; omega)
    have HH := Lib.hid (And.intro hC7 (And.intro hR7 (And.intro hZ7 hO7')))
    clear hC6 hR6 hZ6 hO6' hOs hC7 hR7 hZ7 hO7' cf
    go_wp2_with fail
    obtain ⟨hC7, hR7, hZ7, hO7'⟩ := HH.out
    clear HH f2 c0 c1 c2 c3 c4 c5 c6 c7 c8 c9 c10 c11
    refine (show_any ⟨5, ix, a1, 0, false, 0, 0, 0, false, false, 0, false⟩ (Cf.fits0 rfl rfl) _ (hg.only hO7')).mono ?_
    rintro e w6 ⟨rfl, hO6⟩
    have hC6 := hO6.cf hC7 (by simp)
    have hZ6 := hO6.cf hZ7 (by simp)
    have hR6 := hR7.only hO6 (by simp) (by simp)
    have hO7 := hO7'.trans hO6
    have hRes : parseK 5 p = (⟨5, ix, a1, 0, false, 0, 0, 0, false, false, 0, false⟩, q) := (by rw [HK.out, HC.out])
    have HRes := Lib.hid hRes
    have hcl := hC6.lt
    have hzl := hZ6.lt
    obtain ⟨z0, z1, z2, z3, z4, z5, z6, z7, z8, z9, z10, z11, zf⟩ := hZ6.c
    have y0 := zf 0; have y1 := zf 1; have y2 := zf 2; have y3 := zf 3; have y4 := zf 4; have y5 := zf 5; have y6 := zf 6; have y7 := zf 7; have y8 := zf 8; have y9 := zf 9; have y10 := zf 10; have y11 := zf 11
    obtain ⟨c0, c1, c2, c3, c4, c5, c6, c7, c8, c9, c10, c11, -⟩ := hC6.c
    simp only at z0 z1 z2 z3 z4 z5 z6 z7 z8 z9 z10 z11 c0 c1 c2 c3 c4 c5 c6 c7 c8 c9 c10 c11
    obtain ⟨off, hb6, -, -, -⟩ := hR6
    have r1 : w6.cell? ⟨rb, 1, none⟩ = some (.bool (q).2) := hb6.cell 1
    have nb : ¬ w.heap.size = b := by omega
    have nb' : ¬ b = w.heap.size := by omega
    have nr : ¬ w.heap.size = rb := by omega
    have nr' : ¬ rb = w.heap.size := by omega
    clear hC6 hZ6 hb6 hRes hO6 zf
    obtain ⟨rok, hrok⟩ : ∃ o, (q).2 = o := ⟨_, rfl⟩
    obtain ⟨tx, htx⟩ : ∃ o, Cf.shown ⟨5, ix, a1, 0, false, 0, 0, 0, false, false, 0, false⟩ = o := ⟨_, rfl⟩
    obtain ⟨er, her⟩ : ∃ o, Cf.err ⟨5, ix, a1, 0, false, 0, 0, 0, false, false, 0, false⟩ = o := ⟨_, rfl⟩
    rw [hrok] at r1
    rw [htx, her]
    have Hk := Lib.hid hrok
    have Ht := Lib.hid htx
    have He := Lib.hid her
    clear hrok htx her
    cases rok
    · go_wp2_with fail
      refine bodyPost_ret (v := .tuple #[Cf.none.agg, .int .i64 8]) (by simp [results, Tryz.results71, go_sem, Cf.none, z0, z1, z2, z3, z4, z5, z6, z7, z8, z9, z10, z11]) rfl ?_
      exact ⟨by rw [HP.out, HRes.out]; simp only [readC, readE, Hk.out, Bool.false_and, Bool.false_eq_true, if_false], hO7.trans' (S' := [w.heap.size]) (by repeat (first | with_reducible exact Only.refl _ _ | with_reducible refine Only.set1 ?_ (by simp) _ _)) (by intro x hx; simp only [List.mem_cons, List.not_mem_nil, or_false] at hx; intro h; omega)⟩
    · obtain ⟨rg, hrg⟩ : ∃ o, Cf.right ⟨5, ix, a1, 0, false, 0, 0, 0, false, false, 0, false⟩ = o := ⟨_, rfl⟩
      have Hg := Lib.hid hrg
      clear hrg
      cases rg
      · obtain rfl : er = 4 := by rw [← He.out, Cf.err, Hg.out]; rfl
        go_wp2_with fail
        refine bodyPost_ret (v := .tuple #[Cf.none.agg, .int .i64 8]) (by simp [results, Tryz.results71, go_sem, Cf.none, z0, z1, z2, z3, z4, z5, z6, z7, z8, z9, z10, z11]) rfl ?_
        exact ⟨by rw [HP.out, HRes.out]; simp only [readC, readE, Hk.out, Hg.out, Bool.and_false, Bool.false_and, Bool.false_eq_true, if_false], hO7.trans' (S' := [w.heap.size]) (by repeat (first | with_reducible exact Only.refl _ _ | with_reducible refine Only.set1 ?_ (by simp) _ _)) (by intro x hx; simp only [List.mem_cons, List.not_mem_nil, or_false] at hx; intro h; omega)⟩
      · obtain rfl : er = 0 := by rw [← He.out, Cf.err, Hg.out]; rfl
        have ht : Cf.text ⟨5, ix, a1, 0, false, 0, 0, 0, false, false, 0, false⟩ = tx := by rw [← Ht.out, Cf.shown, Hg.out]; rfl
        have Hx := Lib.hid ht
        clear ht
        obtain ⟨b2, hb2⟩ : ∃ o, (tx == s) = o := ⟨_, rfl⟩
        have Hb := Lib.hid hb2
        cases b2
        · go_wp2_with fail
          refine bodyPost_ret (v := .tuple #[Cf.none.agg, .int .i64 8]) (by simp [results, Tryz.results71, go_sem, Cf.none, z0, z1, z2, z3, z4, z5, z6, z7, z8, z9, z10, z11]) rfl ?_
          exact ⟨by rw [HP.out, HRes.out]; simp only [readC, readE, Hk.out, Hg.out, Hx.out, Hb.out, Bool.and_false, Bool.false_eq_true, if_false], hO7.trans' (S' := [w.heap.size]) (by repeat (first | with_reducible exact Only.refl _ _ | with_reducible refine Only.set1 ?_ (by simp) _ _)) (by intro x hx; simp only [List.mem_cons, List.not_mem_nil, or_false] at hx; intro h; omega)⟩
        · go_wp2_with fail
          refine bodyPost_ret (v := .tuple #[Cf.agg ⟨5, ix, a1, 0, false, 0, 0, 0, false, false, 0, false⟩, .int .i64 0]) (by simp [results, Tryz.results71, go_sem, z0, z1, z2, z3, z4, z5, z6, z7, z8, z9, z10, z11]) rfl ?_
          exact ⟨by rw [HP.out, HRes.out]; simp only [readC, readE, Hk.out, Hg.out, Hx.out, Hb.out, Bool.and_true, if_true], hO7.trans' (S' := [w.heap.size]) (by repeat (first | with_reducible exact Only.refl _ _ | with_reducible refine Only.set1 ?_ (by simp) _ _)) (by intro x hx; simp only [List.mem_cons, List.not_mem_nil, or_false] at hx; intro h; omega)⟩
end Go.Proofs.YtagmoehjcgjnjaaGreatDoor

namespace Go.Proofs.YtagmoehjcgjnjaaGreatDoor
open Go Go.RowKit
attribute [local go_sem ↓] str_eql str_neq
attribute [local go_sem] cell_set_map Option.map_some

set_option maxRecDepth 100000 in
set_option maxHeartbeats 16000000 in
theorem read_6 (s : List UInt8) (hk : kindOf (Rds.h (wordsOf s, true)) = 6) (hs : s.length ≤ 1000000) (hS : Short (wordsOf s)) (w : World) (hg : Gl w) :
    Calls Tryz.prog 71 #[str s] w fun e w' => e = .returned (.tuple #[(readC s (parse s)).agg, .int .i64 (readE s (parse s))]) ∧ Only [] w w' := by
  have Hk0 := Lib.hid hk
  clear hk
  have hO0 := (Only.refl [] w).alloc (.cells #[.int .i64 0, .int .i64 0, .int .i64 0, .int .i64 0, .bool false, .int .i64 0, .int .u32 0, .int .u32 0, .bool false, .bool false, .int .i64 0, .bool false] 31)
  have hC0 : CfB (w.alloc (.cells #[.int .i64 0, .int .i64 0, .int .i64 0, .int .i64 0, .bool false, .int .i64 0, .int .u32 0, .int .u32 0, .bool false, .bool false, .int .i64 0, .bool false] 31)) w.heap.size ⟨0, 0, 0, 0, false, 0, 0, 0, false, false, 0, false⟩ := Blk.new' rfl rfl
  have hg0 := hg.only hO0
  have hl0 := hC0.lt
  have hgl := hg.lt
  obtain ⟨m, hml⟩ := hg0.ml
  have H1 := Tryz.strings_Split ⟨s.toArray⟩ ⟨#[32]⟩ m _ (by show s.length < _; omega) hml (by decide)
  rw [show (Lib.splitB ⟨#[32]⟩ 0 (Lib.countB ⟨s.toArray⟩ ⟨#[32]⟩) ⟨s.toArray⟩).map Value.string = (wordsOf s).map str from wordsB_str s] at H1
  have hn := wordsOf_length s
  rw [← hn] at H1
  have H := Lib.hid H1
  clear H1 hml hn
  generalize hW0 : w.alloc (.cells #[.int .i64 0, .int .i64 0, .int .i64 0, .int .i64 0, .bool false, .int .i64 0, .int .u32 0, .int .u32 0, .bool false, .bool false, .int .i64 0, .bool false] 31) = W0 at *
  have hz : W0.heap.size = w.heap.size + 1 := by rw [← hW0]; simp
  have HW := Lib.hid hW0
  clear hW0
  go_enter Tryz.func71, Tryz.ntmps71
  go_wp2_with fail
  rw [HW.out]
  refine H.out.mono ?_
  rintro e w1 ⟨rfl, rfl⟩
  have hX : Blk (W0.alloc (.cells ((wordsOf s).map str).toArray 9)) W0.heap.size 9 ((wordsOf s).map str).toArray := Blk.new' rfl rfl
  have hOX := hO0.alloc (.cells ((wordsOf s).map str).toArray 9)
  have hCX := hC0.alloc (.cells ((wordsOf s).map str).toArray 9)
  have hzX : (W0.alloc (.cells ((wordsOf s).map str).toArray 9)).heap.size = w.heap.size + 2 := by simp [hz]
  generalize W0.alloc (.cells ((wordsOf s).map str).toArray 9) = W1 at *
  go_upto_region 2 with fail
  clear H HW hg0 hO0 hC0
  have hR : RdP (W1.alloc (.cells #[.slice (some ⟨w.heap.size + 1, 0, none⟩) (wordsOf s).length (wordsOf s).length, .bool true] 153)) (w.heap.size + 2) (w.heap.size + 1) (wordsOf s, true) := by
    refine ⟨0, Blk.new' rfl hzX.symm, by simp [hzX], by omega, fun j l hj => ?_⟩
    rw [hz] at hX
    rw [(hX.alloc _).cell, Nat.zero_add, List.getElem?_toArray, List.getElem?_map, hj]
    rfl
  have hO2 := hOX.alloc (.cells #[.slice (some ⟨w.heap.size + 1, 0, none⟩) (wordsOf s).length (wordsOf s).length, .bool true] 153)
  have hC2 := hCX.alloc (.cells #[.slice (some ⟨w.heap.size + 1, 0, none⟩) (wordsOf s).length (wordsOf s).length, .bool true] 153)
  have hz2 : (W1.alloc (.cells #[.slice (some ⟨w.heap.size + 1, 0, none⟩) (wordsOf s).length (wordsOf s).length, .bool true] 153)).heap.size = w.heap.size + 3 := by simp [hzX]
  generalize W1.alloc (.cells #[.slice (some ⟨w.heap.size + 1, 0, none⟩) (wordsOf s).length (wordsOf s).length, .bool true] 153) = W2 at *
  clear hX hOX hCX hzX hz
  have hP : parse s = parseK (kindOf (Rds.h (wordsOf s, true))) (Rds.t (wordsOf s, true)) := rfl
  generalize wordsOf s = ws at *
  generalize hrb : w.heap.size + 2 = rb at *
  generalize hsb : w.heap.size + 1 = sb at *
  have hk1 : ∀ o, (W2.alloc o).heap.size = w.heap.size + 3 + 1 := fun o => by simp [hz2]
  have hne3 : w.heap.size + 3 ∉ [rb] := by simp; omega
  have hne4 : w.heap.size + 3 + 1 ∉ [rb] := by simp; omega
  go_cut [5] (fun v wx => Begun W2 rb sb (Rds.t (ws, true)) (kindOf (Rds.h (ws, true))) v wx)
  case first =>
    go_region_with (first
      | (go_at_call 64; refine (kinds_any _).mono ?_; rintro e w3 ⟨rfl, rfl⟩)
      | (go_at_call 106
         refine (take_p rb sb (ws, true) hS _ (RdB.only hR (S := []) (by repeat (first | with_reducible exact Only.refl _ _ | with_reducible refine Only.drew ?_ | with_reducible refine Only.alloc ?_ _)) (by simp) (by simp))).mono ?_
         rintro e w3 ⟨rfl, hR3, hO3⟩
         first
           | have hB3 : CfB w3 (w.heap.size + 3 + 1) ⟨0, 0, 0, 0, false, 0, 0, 0, false, false, 0, false⟩ := Only.blk hO3 (Blk.drew (Blk.new' rfl (hk1 _).symm)) hne4
             obtain ⟨c0, c1, c2, c3, c4, c5, c6, c7, c8, c9, c10, c11, cf⟩ := hB3.c
             have e0 := cf 0; have e1 := cf 1; have e2 := cf 2; have e3 := cf 3; have e4 := cf 4; have e5 := cf 5; have e6 := cf 6; have e7 := cf 7; have e8 := cf 8; have e9 := cf 9; have e10 := cf 10; have e11 := cf 11
             simp only at c0 c1 c2 c3 c4 c5 c6 c7 c8 c9 c10 c11
           | have hB3 : CfB w3 (w.heap.size + 3) ⟨0, 0, 0, 0, false, 0, 0, 0, false, false, 0, false⟩ := Only.blk hO3 (Blk.drew (Blk.alloc (Blk.new' rfl hz2.symm) _)) hne3
             obtain ⟨c0, c1, c2, c3, c4, c5, c6, c7, c8, c9, c10, c11, cf⟩ := hB3.c
             have e0 := cf 0; have e1 := cf 1; have e2 := cf 2; have e3 := cf 3; have e4 := cf 4; have e5 := cf 5; have e6 := cf 6; have e7 := cf 7; have e8 := cf 8; have e9 := cf 9; have e10 := cf 10; have e11 := cf 11
             simp only at c0 c1 c2 c3 c4 c5 c6 c7 c8 c9 c10 c11
           | skip)
      | (go_at_call 105
         refine (index_any _ _ _ (by
           repeat (first | with_reducible refine Blk.alloc ?_ _ | with_reducible refine Blk.drew ?_)
           refine Only.blk hO3 ?_ (by simp; omega)
           repeat (first | with_reducible exact Blk.new' rfl (by simp [hz2]) | with_reducible refine Blk.alloc ?_ _ | with_reducible refine Blk.drew ?_))).mono ?_
         rintro e w' ⟨rfl, rfl⟩)
      | fail)
    all_goals
      go_wp2_with fail
      go_meet
      first
        | exact begun_new W2 _ rb sb _ _ hR3 (((Only.refl [rb] W2).alloc _).drew.trans hO3)
        | exact begun_set W2 _ rb sb _ _ _ hB3 hR3 ((((Only.refl [rb] W2).alloc _).alloc _).drew.trans hO3) (by omega) (by omega) (by omega)
  case rest =>
    obtain ⟨b, rfl, hbl, hC3, hR3, hO3⟩ := hcut
    have hZ3 : CfB wc w.heap.size ⟨0, 0, 0, 0, false, 0, 0, 0, false, false, 0, false⟩ := hO3.cf hC2 (by simp; omega)
    have hO4 : Only [] w wc := hO2.trans' hO3 (by simp; omega)
    have hS1 : Short (Rds.t (ws, true)).1 := hS.tail
    clear hC2 hO2 hO3 hR hk1 hne3 hne4 hS
    generalize Rds.t (ws, true) = p at *
    generalize kindOf (Rds.h (ws, true)) = k at *
    have HP := Lib.hid hP
    clear hP
    have hrb8 : 8 ≤ rb := by omega
    have hbn : b ≠ rb := by omega
    have h6 := Hk0.out
    have h7 : ¬ k = 7 := by omega
    clear Hk0
    have hS2 : Short p.n.1 := hS1.n
    obtain ⟨c0, c1, c2, c3, c4, c5, c6, c7, c8, c9, c10, c11, -⟩ := hC3.c
    simp only at c0 c1 c2 c3 c4 c5 c6 c7 c8 c9 c10 c11
    go_wp2_with fail
    clear c0 c1 c2 c3 c4 c5 c6 c7 c8 c9 c10 c11
    refine (number_p rb sb p hS1 _ hR3 (hg.only hO4) hrb8).mono ?_
    rintro e w4 ⟨rfl, hR4, hO5⟩
    have hC4 := hO5.cf hC3 (by simp only [List.mem_cons, List.not_mem_nil, or_false]; omega)
    have hZ4 := hO5.cf hZ3 (by simp only [List.mem_cons, List.not_mem_nil, or_false]; omega)
    have hO4' := hO4.trans' hO5 (by intro x hx; simp only [List.mem_cons, List.not_mem_nil, or_false] at hx; intro h; omega)
    obtain ⟨pn, hpn⟩ : ∃ q, p.n = q := ⟨_, rfl⟩
    obtain ⟨ix, hix⟩ : ∃ q, p.nv = q := ⟨_, rfl⟩
    rw [hpn] at hS2 hR4
    rw [hix]
    have HK : parseK k p = parseC k ix pn := by rw [parseK, if_neg h7, hpn, hix]
    have HK := Lib.hid HK
    clear hpn hix hO5 hR3 hC3 hZ3 hO4 hS1
    obtain ⟨c0, c1, c2, c3, c4, c5, c6, c7, c8, c9, c10, c11, cf⟩ := hC4.c
    simp only at c0 c1 c2 c3 c4 c5 c6 c7 c8 c9 c10 c11
    have f1 := cf 1
    have hC5 := cf_ix ix hC4
    have hOs := (Only.refl [b] w4).set1 (b := b) (by simp) 1 (.int .i64 ix)
    have hR5 := hR4.only hOs (by simp only [List.mem_cons, List.not_mem_nil, or_false]; omega) (by simp only [List.mem_cons, List.not_mem_nil, or_false]; omega)
    have hZ5 := hOs.cf hZ4 (by simp only [List.mem_cons, List.not_mem_nil, or_false]; omega)
    have hO5 := hO4'.trans' hOs (by intro x hx; simp only [List.mem_cons, List.not_mem_nil, or_false] at hx; intro h; omega)
    have HH := Lib.hid (And.intro hC5 (And.intro hR5 (And.intro hZ5 hO5)))
    clear hC4 hR4 hZ4 hO4' hOs hC5 hR5 hZ5 hO5 cf
    subst h6
    go_wp2_with fail
    obtain ⟨hC5, hR5, hZ5, hO5⟩ := HH.out
    clear HH f1 c0 c1 c2 c3 c4 c5 c6 c7 c8 c9 c10 c11
    refine (line_p rb sb pn hS2 _ hR5 (hg.only hO5) hrb8).mono ?_
    rintro e w5 ⟨rfl, hR6, hO6⟩
    have hC6 := hO6.cf hC5 (by simp only [List.mem_cons, List.not_mem_nil, or_false]; omega)
    have hZ6 := hO6.cf hZ5 (by simp only [List.mem_cons, List.not_mem_nil, or_false]; omega)
    have hO6' := hO5.trans' hO6 (by intro x hx; simp only [List.mem_cons, List.not_mem_nil, or_false] at hx; intro h; omega)
    obtain ⟨a1, j1⟩ : ∃ q, pn.lv = q := ⟨_, rfl⟩
    obtain ⟨q, j2⟩ : ∃ q, pn.l = q := ⟨_, rfl⟩
    rw [j1]
    rw [j2] at hR6
    have HC : parseC 6 ix pn = (⟨6, ix, 0, a1, false, 0, 0, 0, false, false, 0, false⟩, q) := by rw [← j1, ← j2]; rfl
    have HC := Lib.hid HC
    clear j1 j2 hC5 hR5 hZ5 hO5 hO6
    obtain ⟨c0, c1, c2, c3, c4, c5, c6, c7, c8, c9, c10, c11, cf⟩ := hC6.c
    have f3 := cf 3
    simp only at c0 c1 c2 c3 c4 c5 c6 c7 c8 c9 c10 c11
    have hC7 := cf_ln a1 hC6
    have hOs := (Only.refl [b] w5).set1 (b := b) (by simp) 3 (.int .i64 a1)
    have hR7 := hR6.only hOs (by simp only [List.mem_cons, List.not_mem_nil, or_false]; omega) (by simp only [List.mem_cons, List.not_mem_nil, or_false]; omega)
    have hZ7 := hOs.cf hZ6 (by simp only [List.mem_cons, List.not_mem_nil, or_false]; omega)
    have hO7' := hO6'.trans' hOs (by intro x hx; simp only [List.mem_cons, List.not_mem_nil, or_false] at hx; intro h; omega)
    have HH := Lib.hid (And.intro hC7 (And.intro hR7 (And.intro hZ7 hO7')))
    clear hC6 hR6 hZ6 hO6' hOs hC7 hR7 hZ7 hO7' cf
    go_wp2_with fail
    obtain ⟨hC7, hR7, hZ7, hO7'⟩ := HH.out
    clear HH f3 c0 c1 c2 c3 c4 c5 c6 c7 c8 c9 c10 c11
    refine (show_any ⟨6, ix, 0, a1, false, 0, 0, 0, false, false, 0, false⟩ (Cf.fits0 rfl rfl) _ (hg.only hO7')).mono ?_
    rintro e w6 ⟨rfl, hO6⟩
    have hC6 := hO6.cf hC7 (by simp)
    have hZ6 := hO6.cf hZ7 (by simp)
    have hR6 := hR7.only hO6 (by simp) (by simp)
    have hO7 := hO7'.trans hO6
    have hRes : parseK 6 p = (⟨6, ix, 0, a1, false, 0, 0, 0, false, false, 0, false⟩, q) := (by rw [HK.out, HC.out])
    have HRes := Lib.hid hRes
    have hcl := hC6.lt
    have hzl := hZ6.lt
    obtain ⟨z0, z1, z2, z3, z4, z5, z6, z7, z8, z9, z10, z11, zf⟩ := hZ6.c
    have y0 := zf 0; have y1 := zf 1; have y2 := zf 2; have y3 := zf 3; have y4 := zf 4; have y5 := zf 5; have y6 := zf 6; have y7 := zf 7; have y8 := zf 8; have y9 := zf 9; have y10 := zf 10; have y11 := zf 11
    obtain ⟨c0, c1, c2, c3, c4, c5, c6, c7, c8, c9, c10, c11, -⟩ := hC6.c
    simp only at z0 z1 z2 z3 z4 z5 z6 z7 z8 z9 z10 z11 c0 c1 c2 c3 c4 c5 c6 c7 c8 c9 c10 c11
    obtain ⟨off, hb6, -, -, -⟩ := hR6
    have r1 : w6.cell? ⟨rb, 1, none⟩ = some (.bool (q).2) := hb6.cell 1
    have nb : ¬ w.heap.size = b := by omega
    have nb' : ¬ b = w.heap.size := by omega
    have nr : ¬ w.heap.size = rb := by omega
    have nr' : ¬ rb = w.heap.size := by omega
    clear hC6 hZ6 hb6 hRes hO6 zf
    obtain ⟨rok, hrok⟩ : ∃ o, (q).2 = o := ⟨_, rfl⟩
    obtain ⟨tx, htx⟩ : ∃ o, Cf.shown ⟨6, ix, 0, a1, false, 0, 0, 0, false, false, 0, false⟩ = o := ⟨_, rfl⟩
    obtain ⟨er, her⟩ : ∃ o, Cf.err ⟨6, ix, 0, a1, false, 0, 0, 0, false, false, 0, false⟩ = o := ⟨_, rfl⟩
    rw [hrok] at r1
    rw [htx, her]
    have Hk := Lib.hid hrok
    have Ht := Lib.hid htx
    have He := Lib.hid her
    clear hrok htx her
    cases rok
    · go_wp2_with fail
      refine bodyPost_ret (v := .tuple #[Cf.none.agg, .int .i64 8]) (by simp [results, Tryz.results71, go_sem, Cf.none, z0, z1, z2, z3, z4, z5, z6, z7, z8, z9, z10, z11]) rfl ?_
      exact ⟨by rw [HP.out, HRes.out]; simp only [readC, readE, Hk.out, Bool.false_and, Bool.false_eq_true, if_false], hO7.trans' (S' := [w.heap.size]) (by repeat (first | with_reducible exact Only.refl _ _ | with_reducible refine Only.set1 ?_ (by simp) _ _)) (by intro x hx; simp only [List.mem_cons, List.not_mem_nil, or_false] at hx; intro h; omega)⟩
    · obtain ⟨rg, hrg⟩ : ∃ o, Cf.right ⟨6, ix, 0, a1, false, 0, 0, 0, false, false, 0, false⟩ = o := ⟨_, rfl⟩
      have Hg := Lib.hid hrg
      clear hrg
      cases rg
      · obtain rfl : er = 4 := by rw [← He.out, Cf.err, Hg.out]; rfl
        go_wp2_with fail
        refine bodyPost_ret (v := .tuple #[Cf.none.agg, .int .i64 8]) (by simp [results, Tryz.results71, go_sem, Cf.none, z0, z1, z2, z3, z4, z5, z6, z7, z8, z9, z10, z11]) rfl ?_
        exact ⟨by rw [HP.out, HRes.out]; simp only [readC, readE, Hk.out, Hg.out, Bool.and_false, Bool.false_and, Bool.false_eq_true, if_false], hO7.trans' (S' := [w.heap.size]) (by repeat (first | with_reducible exact Only.refl _ _ | with_reducible refine Only.set1 ?_ (by simp) _ _)) (by intro x hx; simp only [List.mem_cons, List.not_mem_nil, or_false] at hx; intro h; omega)⟩
      · obtain rfl : er = 0 := by rw [← He.out, Cf.err, Hg.out]; rfl
        have ht : Cf.text ⟨6, ix, 0, a1, false, 0, 0, 0, false, false, 0, false⟩ = tx := by rw [← Ht.out, Cf.shown, Hg.out]; rfl
        have Hx := Lib.hid ht
        clear ht
        obtain ⟨b2, hb2⟩ : ∃ o, (tx == s) = o := ⟨_, rfl⟩
        have Hb := Lib.hid hb2
        cases b2
        · go_wp2_with fail
          refine bodyPost_ret (v := .tuple #[Cf.none.agg, .int .i64 8]) (by simp [results, Tryz.results71, go_sem, Cf.none, z0, z1, z2, z3, z4, z5, z6, z7, z8, z9, z10, z11]) rfl ?_
          exact ⟨by rw [HP.out, HRes.out]; simp only [readC, readE, Hk.out, Hg.out, Hx.out, Hb.out, Bool.and_false, Bool.false_eq_true, if_false], hO7.trans' (S' := [w.heap.size]) (by repeat (first | with_reducible exact Only.refl _ _ | with_reducible refine Only.set1 ?_ (by simp) _ _)) (by intro x hx; simp only [List.mem_cons, List.not_mem_nil, or_false] at hx; intro h; omega)⟩
        · go_wp2_with fail
          refine bodyPost_ret (v := .tuple #[Cf.agg ⟨6, ix, 0, a1, false, 0, 0, 0, false, false, 0, false⟩, .int .i64 0]) (by simp [results, Tryz.results71, go_sem, z0, z1, z2, z3, z4, z5, z6, z7, z8, z9, z10, z11]) rfl ?_
          exact ⟨by rw [HP.out, HRes.out]; simp only [readC, readE, Hk.out, Hg.out, Hx.out, Hb.out, Bool.and_true, if_true], hO7.trans' (S' := [w.heap.size]) (by repeat (first | with_reducible exact Only.refl _ _ | with_reducible refine Only.set1 ?_ (by simp) _ _)) (by intro x hx; simp only [List.mem_cons, List.not_mem_nil, or_false] at hx; intro h; omega)⟩
end Go.Proofs.YtagmoehjcgjnjaaGreatDoor

namespace Go.Proofs.YtagmoehjcgjnjaaGreatDoor
open Go Go.RowKit
attribute [local go_sem ↓] str_eql str_neq
attribute [local go_sem] cell_set_map Option.map_some

set_option maxRecDepth 100000 in
set_option maxHeartbeats 16000000 in
theorem read_7 (s : List UInt8) (hk : kindOf (Rds.h (wordsOf s, true)) = 7) (hs : s.length ≤ 1000000) (hS : Short (wordsOf s)) (w : World) (hg : Gl w) :
    Calls Tryz.prog 71 #[str s] w fun e w' => e = .returned (.tuple #[(readC s (parse s)).agg, .int .i64 (readE s (parse s))]) ∧ Only [] w w' := by
  have Hk0 := Lib.hid hk
  clear hk
  have hO0 := (Only.refl [] w).alloc (.cells #[.int .i64 0, .int .i64 0, .int .i64 0, .int .i64 0, .bool false, .int .i64 0, .int .u32 0, .int .u32 0, .bool false, .bool false, .int .i64 0, .bool false] 31)
  have hC0 : CfB (w.alloc (.cells #[.int .i64 0, .int .i64 0, .int .i64 0, .int .i64 0, .bool false, .int .i64 0, .int .u32 0, .int .u32 0, .bool false, .bool false, .int .i64 0, .bool false] 31)) w.heap.size ⟨0, 0, 0, 0, false, 0, 0, 0, false, false, 0, false⟩ := Blk.new' rfl rfl
  have hg0 := hg.only hO0
  have hl0 := hC0.lt
  have hgl := hg.lt
  obtain ⟨m, hml⟩ := hg0.ml
  have H1 := Tryz.strings_Split ⟨s.toArray⟩ ⟨#[32]⟩ m _ (by show s.length < _; omega) hml (by decide)
  rw [show (Lib.splitB ⟨#[32]⟩ 0 (Lib.countB ⟨s.toArray⟩ ⟨#[32]⟩) ⟨s.toArray⟩).map Value.string = (wordsOf s).map str from wordsB_str s] at H1
  have hn := wordsOf_length s
  rw [← hn] at H1
  have H := Lib.hid H1
  clear H1 hml hn
  generalize hW0 : w.alloc (.cells #[.int .i64 0, .int .i64 0, .int .i64 0, .int .i64 0, .bool false, .int .i64 0, .int .u32 0, .int .u32 0, .bool false, .bool false, .int .i64 0, .bool false] 31) = W0 at *
  have hz : W0.heap.size = w.heap.size + 1 := by rw [← hW0]; simp
  have HW := Lib.hid hW0
  clear hW0
  go_enter Tryz.func71, Tryz.ntmps71
  go_wp2_with fail
  rw [HW.out]
  refine H.out.mono ?_
  rintro e w1 ⟨rfl, rfl⟩
  have hX : Blk (W0.alloc (.cells ((wordsOf s).map str).toArray 9)) W0.heap.size 9 ((wordsOf s).map str).toArray := Blk.new' rfl rfl
  have hOX := hO0.alloc (.cells ((wordsOf s).map str).toArray 9)
  have hCX := hC0.alloc (.cells ((wordsOf s).map str).toArray 9)
  have hzX : (W0.alloc (.cells ((wordsOf s).map str).toArray 9)).heap.size = w.heap.size + 2 := by simp [hz]
  generalize W0.alloc (.cells ((wordsOf s).map str).toArray 9) = W1 at *
  go_upto_region 2 with fail
  clear H HW hg0 hO0 hC0
  have hR : RdP (W1.alloc (.cells #[.slice (some ⟨w.heap.size + 1, 0, none⟩) (wordsOf s).length (wordsOf s).length, .bool true] 153)) (w.heap.size + 2) (w.heap.size + 1) (wordsOf s, true) := by
    refine ⟨0, Blk.new' rfl hzX.symm, by simp [hzX], by omega, fun j l hj => ?_⟩
    rw [hz] at hX
    rw [(hX.alloc _).cell, Nat.zero_add, List.getElem?_toArray, List.getElem?_map, hj]
    rfl
  have hO2 := hOX.alloc (.cells #[.slice (some ⟨w.heap.size + 1, 0, none⟩) (wordsOf s).length (wordsOf s).length, .bool true] 153)
  have hC2 := hCX.alloc (.cells #[.slice (some ⟨w.heap.size + 1, 0, none⟩) (wordsOf s).length (wordsOf s).length, .bool true] 153)
  have hz2 : (W1.alloc (.cells #[.slice (some ⟨w.heap.size + 1, 0, none⟩) (wordsOf s).length (wordsOf s).length, .bool true] 153)).heap.size = w.heap.size + 3 := by simp [hzX]
  generalize W1.alloc (.cells #[.slice (some ⟨w.heap.size + 1, 0, none⟩) (wordsOf s).length (wordsOf s).length, .bool true] 153) = W2 at *
  clear hX hOX hCX hzX hz
  have hP : parse s = parseK (kindOf (Rds.h (wordsOf s, true))) (Rds.t (wordsOf s, true)) := rfl
  generalize wordsOf s = ws at *
  generalize hrb : w.heap.size + 2 = rb at *
  generalize hsb : w.heap.size + 1 = sb at *
  have hk1 : ∀ o, (W2.alloc o).heap.size = w.heap.size + 3 + 1 := fun o => by simp [hz2]
  have hne3 : w.heap.size + 3 ∉ [rb] := by simp; omega
  have hne4 : w.heap.size + 3 + 1 ∉ [rb] := by simp; omega
  go_cut [5] (fun v wx => Begun W2 rb sb (Rds.t (ws, true)) (kindOf (Rds.h (ws, true))) v wx)
  case first =>
    go_region_with (first
      | (go_at_call 64; refine (kinds_any _).mono ?_; rintro e w3 ⟨rfl, rfl⟩)
      | (go_at_call 106
         refine (take_p rb sb (ws, true) hS _ (RdB.only hR (S := []) (by repeat (first | with_reducible exact Only.refl _ _ | with_reducible refine Only.drew ?_ | with_reducible refine Only.alloc ?_ _)) (by simp) (by simp))).mono ?_
         rintro e w3 ⟨rfl, hR3, hO3⟩
         first
           | have hB3 : CfB w3 (w.heap.size + 3 + 1) ⟨0, 0, 0, 0, false, 0, 0, 0, false, false, 0, false⟩ := Only.blk hO3 (Blk.drew (Blk.new' rfl (hk1 _).symm)) hne4
             obtain ⟨c0, c1, c2, c3, c4, c5, c6, c7, c8, c9, c10, c11, cf⟩ := hB3.c
             have e0 := cf 0; have e1 := cf 1; have e2 := cf 2; have e3 := cf 3; have e4 := cf 4; have e5 := cf 5; have e6 := cf 6; have e7 := cf 7; have e8 := cf 8; have e9 := cf 9; have e10 := cf 10; have e11 := cf 11
             simp only at c0 c1 c2 c3 c4 c5 c6 c7 c8 c9 c10 c11
           | have hB3 : CfB w3 (w.heap.size + 3) ⟨0, 0, 0, 0, false, 0, 0, 0, false, false, 0, false⟩ := Only.blk hO3 (Blk.drew (Blk.alloc (Blk.new' rfl hz2.symm) _)) hne3
             obtain ⟨c0, c1, c2, c3, c4, c5, c6, c7, c8, c9, c10, c11, cf⟩ := hB3.c
             have e0 := cf 0; have e1 := cf 1; have e2 := cf 2; have e3 := cf 3; have e4 := cf 4; have e5 := cf 5; have e6 := cf 6; have e7 := cf 7; have e8 := cf 8; have e9 := cf 9; have e10 := cf 10; have e11 := cf 11
             simp only at c0 c1 c2 c3 c4 c5 c6 c7 c8 c9 c10 c11
           | skip)
      | (go_at_call 105
         refine (index_any _ _ _ (by
           repeat (first | with_reducible refine Blk.alloc ?_ _ | with_reducible refine Blk.drew ?_)
           refine Only.blk hO3 ?_ (by simp; omega)
           repeat (first | with_reducible exact Blk.new' rfl (by simp [hz2]) | with_reducible refine Blk.alloc ?_ _ | with_reducible refine Blk.drew ?_))).mono ?_
         rintro e w' ⟨rfl, rfl⟩)
      | fail)
    all_goals
      go_wp2_with fail
      go_meet
      first
        | exact begun_new W2 _ rb sb _ _ hR3 (((Only.refl [rb] W2).alloc _).drew.trans hO3)
        | exact begun_set W2 _ rb sb _ _ _ hB3 hR3 ((((Only.refl [rb] W2).alloc _).alloc _).drew.trans hO3) (by omega) (by omega) (by omega)
  case rest =>
    obtain ⟨b, rfl, hbl, hC3, hR3, hO3⟩ := hcut
    have hZ3 : CfB wc w.heap.size ⟨0, 0, 0, 0, false, 0, 0, 0, false, false, 0, false⟩ := hO3.cf hC2 (by simp; omega)
    have hO4 : Only [] w wc := hO2.trans' hO3 (by simp; omega)
    have hS1 : Short (Rds.t (ws, true)).1 := hS.tail
    clear hC2 hO2 hO3 hR hk1 hne3 hne4 hS
    generalize Rds.t (ws, true) = p at *
    generalize kindOf (Rds.h (ws, true)) = k at *
    have HP := Lib.hid hP
    clear hP
    have hrb8 : 8 ≤ rb := by omega
    have hbn : b ≠ rb := by omega
    have h7 := Hk0.out
    clear Hk0
    subst h7
    obtain ⟨c0, c1, c2, c3, c4, c5, c6, c7, c8, c9, c10, c11, -⟩ := hC3.c
    simp only at c0 c1 c2 c3 c4 c5 c6 c7 c8 c9 c10 c11
    go_wp2_with fail
    clear c0 c1 c2 c3 c4 c5 c6 c7 c8 c9 c10 c11
    refine (show_any ⟨7, 0, 0, 0, false, 0, 0, 0, false, false, 0, false⟩ (Cf.fits0 rfl rfl) _ (hg.only hO4)).mono ?_
    rintro e w6 ⟨rfl, hO6⟩
    have hC6 := hO6.cf hC3 (by simp)
    have hZ6 := hO6.cf hZ3 (by simp)
    have hR6 := hR3.only hO6 (by simp) (by simp)
    have hO7 := hO4.trans hO6
    have hRes : parseK 7 p = (⟨7, 0, 0, 0, false, 0, 0, 0, false, false, 0, false⟩, p) := rfl
    have HRes := Lib.hid hRes
    have hcl := hC6.lt
    have hzl := hZ6.lt
    obtain ⟨z0, z1, z2, z3, z4, z5, z6, z7, z8, z9, z10, z11, zf⟩ := hZ6.c
    have y0 := zf 0; have y1 := zf 1; have y2 := zf 2; have y3 := zf 3; have y4 := zf 4; have y5 := zf 5; have y6 := zf 6; have y7 := zf 7; have y8 := zf 8; have y9 := zf 9; have y10 := zf 10; have y11 := zf 11
    obtain ⟨c0, c1, c2, c3, c4, c5, c6, c7, c8, c9, c10, c11, -⟩ := hC6.c
    simp only at z0 z1 z2 z3 z4 z5 z6 z7 z8 z9 z10 z11 c0 c1 c2 c3 c4 c5 c6 c7 c8 c9 c10 c11
    obtain ⟨off, hb6, -, -, -⟩ := hR6
    have r1 : w6.cell? ⟨rb, 1, none⟩ = some (.bool (p).2) := hb6.cell 1
    have nb : ¬ w.heap.size = b := by omega
    have nb' : ¬ b = w.heap.size := by omega
    have nr : ¬ w.heap.size = rb := by omega
    have nr' : ¬ rb = w.heap.size := by omega
    clear hC6 hZ6 hb6 hRes hO6 zf
    obtain ⟨rok, hrok⟩ : ∃ o, (p).2 = o := ⟨_, rfl⟩
    obtain ⟨tx, htx⟩ : ∃ o, Cf.shown ⟨7, 0, 0, 0, false, 0, 0, 0, false, false, 0, false⟩ = o := ⟨_, rfl⟩
    obtain ⟨er, her⟩ : ∃ o, Cf.err ⟨7, 0, 0, 0, false, 0, 0, 0, false, false, 0, false⟩ = o := ⟨_, rfl⟩
    rw [hrok] at r1
    rw [htx, her]
    have Hk := Lib.hid hrok
    have Ht := Lib.hid htx
    have He := Lib.hid her
    clear hrok htx her
    cases rok
    · go_wp2_with fail
      refine bodyPost_ret (v := .tuple #[Cf.none.agg, .int .i64 8]) (by simp [results, Tryz.results71, go_sem, Cf.none, z0, z1, z2, z3, z4, z5, z6, z7, z8, z9, z10, z11]) rfl ?_
      exact ⟨by rw [HP.out, HRes.out]; simp only [readC, readE, Hk.out, Bool.false_and, Bool.false_eq_true, if_false], hO7.trans' (S' := [w.heap.size]) (by repeat (first | with_reducible exact Only.refl _ _ | with_reducible refine Only.set1 ?_ (by simp) _ _)) (by intro x hx; simp only [List.mem_cons, List.not_mem_nil, or_false] at hx; intro h; omega)⟩
    · obtain ⟨rg, hrg⟩ : ∃ o, Cf.right ⟨7, 0, 0, 0, false, 0, 0, 0, false, false, 0, false⟩ = o := ⟨_, rfl⟩
      have Hg := Lib.hid hrg
      clear hrg
      cases rg
      · obtain rfl : er = 4 := by rw [← He.out, Cf.err, Hg.out]; rfl
        go_wp2_with fail
        refine bodyPost_ret (v := .tuple #[Cf.none.agg, .int .i64 8]) (by simp [results, Tryz.results71, go_sem, Cf.none, z0, z1, z2, z3, z4, z5, z6, z7, z8, z9, z10, z11]) rfl ?_
        exact ⟨by rw [HP.out, HRes.out]; simp only [readC, readE, Hk.out, Hg.out, Bool.and_false, Bool.false_and, Bool.false_eq_true, if_false], hO7.trans' (S' := [w.heap.size]) (by repeat (first | with_reducible exact Only.refl _ _ | with_reducible refine Only.set1 ?_ (by simp) _ _)) (by intro x hx; simp only [List.mem_cons, List.not_mem_nil, or_false] at hx; intro h; omega)⟩
      · obtain rfl : er = 0 := by rw [← He.out, Cf.err, Hg.out]; rfl
        have ht : Cf.text ⟨7, 0, 0, 0, false, 0, 0, 0, false, false, 0, false⟩ = tx := by rw [← Ht.out, Cf.shown, Hg.out]; rfl
        have Hx := Lib.hid ht
        clear ht
        obtain ⟨b2, hb2⟩ : ∃ o, (tx == s) = o := ⟨_, rfl⟩
        have Hb := Lib.hid hb2
        cases b2
        · go_wp2_with fail
          refine bodyPost_ret (v := .tuple #[Cf.none.agg, .int .i64 8]) (by simp [results, Tryz.results71, go_sem, Cf.none, z0, z1, z2, z3, z4, z5, z6, z7, z8, z9, z10, z11]) rfl ?_
          exact ⟨by rw [HP.out, HRes.out]; simp only [readC, readE, Hk.out, Hg.out, Hx.out, Hb.out, Bool.and_false, Bool.false_eq_true, if_false], hO7.trans' (S' := [w.heap.size]) (by repeat (first | with_reducible exact Only.refl _ _ | with_reducible refine Only.set1 ?_ (by simp) _ _)) (by intro x hx; simp only [List.mem_cons, List.not_mem_nil, or_false] at hx; intro h; omega)⟩
        · go_wp2_with fail
          refine bodyPost_ret (v := .tuple #[Cf.agg ⟨7, 0, 0, 0, false, 0, 0, 0, false, false, 0, false⟩, .int .i64 0]) (by simp [results, Tryz.results71, go_sem, z0, z1, z2, z3, z4, z5, z6, z7, z8, z9, z10, z11]) rfl ?_
          exact ⟨by rw [HP.out, HRes.out]; simp only [readC, readE, Hk.out, Hg.out, Hx.out, Hb.out, Bool.and_true, if_true], hO7.trans' (S' := [w.heap.size]) (by repeat (first | with_reducible exact Only.refl _ _ | with_reducible refine Only.set1 ?_ (by simp) _ _)) (by intro x hx; simp only [List.mem_cons, List.not_mem_nil, or_false] at hx; intro h; omega)⟩
end Go.Proofs.YtagmoehjcgjnjaaGreatDoor
