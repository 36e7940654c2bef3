/- Words in rows of the call's own, and how long they are. No condition. Show of package conf at a region. Conditions: the command is right. Show of package conf at a kind of one number. Conditions: the command is right. Show of package conf at a kind of one number. Conditions: the command is right. Show of package conf at a kind of one number. Conditions: the command is right. Show of package conf at a kind of one number. Conditions: the command is right. Show of package conf at a kind of one number. Conditions: the command is right. Show of package conf at a kind of one number. Conditions: the command is right. Show of package conf: the text of a command that can be said. Conditions: addresses are uint32; the listed variables are laid. -/
import Derived.Test.YtagmoehjcgjnjaaGreatDoorCfGc
import Derived.Test.YtagmoehjcgjnjaaGreatDoorCfGb
import Derived.Test.YtagmoehjcgjnjaaGreatDoorCfGa
import Derived.Deep.RegionWith
import Derived.Deep.DeepCutAuto
import Derived.Outline
namespace Go.Proofs.YtagmoehjcgjnjaaGreatDoor
open Go Go.RowKit

/-- The first word of a kind. -/
def kindW (k : Int) : List UInt8 :=
  if k = 1 then [114, 101, 103, 105, 111, 110] else if k = 2 then [99, 108, 101, 97, 114] else if k = 3 then [103, 105, 118, 101] else if k = 4 then [116, 97, 107, 101]
  else if k = 5 then [109, 111, 118, 101] else if k = 6 then [114, 111, 117, 116, 101] else [108, 111, 99, 107]

theorem infoString : (Tryz.prog.info? 9).map (fun i => (i.zero, i.size, i.bytes)) = some (some (.string ⟨#[]⟩), 1, 16) := by kernel_rfl

/-- A row of words of the call's own. -/
def RowOf (w : World) (base n : Nat) (xs : List (List UInt8)) (v : Value) : Prop := ∃ g cap, v = .slice (some ⟨g, 0, none⟩) n cap ∧ base ≤ g ∧ w.ownsRow base 9 1 (.slice (some ⟨g, 0, none⟩) n cap) n (xs.map str)

/-- What the first word's statement leaves. -/
def First (w : World) (l : List UInt8) (v : Value) (wx : World) : Prop := RowOf wx w.heap.size 1 [l] v ∧ Only [] w wx

theorem rowof_one {wx : World} {base g : Nat} {l : List UInt8} (h : Blk wx g 9 #[str l]) (hb : base ≤ g) : RowOf wx base 1 [l] (.slice (some ⟨g, 0, none⟩) 1 1) :=
  ⟨g, 1, rfl, hb, rfl, .inr ⟨g, 1, _, rfl, hb, h, Nat.le_refl _, by decide, rfl, rfl⟩⟩
theorem row_form {w : World} {base n : Nat} {v : Value} {xs : List Value} (h : w.ownsRow base 9 1 v n xs) (h0 : 0 < n) : ∃ g cap, v = .slice (some ⟨g, 0, none⟩) n cap ∧ base ≤ g ∧ g < w.heap.size ∧ n ≤ cap := by
  rcases h.2 with ⟨-, h2⟩ | ⟨g, cap, cur, hv, hb, hh, hl, -⟩
  · omega
  · exact ⟨g, cap, hv, hb, Blk.lt hh, hl⟩
theorem row_only {S : List Nat} {w w' : World} {base n g cap : Nat} {xs : List Value} (h : w.ownsRow base 9 1 (.slice (some ⟨g, 0, none⟩) n cap) n xs) (hO : Only S w w') (hg : g ∉ S) : w'.ownsRow base 9 1 (.slice (some ⟨g, 0, none⟩) n cap) n xs := by
  obtain ⟨h1, h2⟩ := h
  refine ⟨h1, ?_⟩
  rcases h2 with h2 | ⟨g', cap', cur, hv, hb, hh, r⟩
  · exact Or.inl h2
  · have hv' := hv
    simp only [Value.slice.injEq, Option.some.injEq, Addr.mk.injEq, and_true, true_and] at hv'
    obtain ⟨rfl, rfl⟩ := hv'
    exact Or.inr ⟨g, cap, cur, hv, hb, (hO.block g (Blk.lt hh) hg).trans hh, r⟩
theorem row_cells {w : World} {base n g cap : Nat} {xs : List (List UInt8)} (h : w.ownsRow base 9 1 (.slice (some ⟨g, 0, none⟩) n cap) n (xs.map str)) : g < w.heap.size ∧ n ≤ cap ∧ n = xs.length ∧ ∀ (j : Nat) l, xs[j]? = some l → w.cell? ⟨g, j, none⟩ = some (str l) := by
  obtain ⟨h1, ⟨h2, -⟩ | ⟨g', cap', cur, hv, hb, hh, hl, hm, hs, htk⟩⟩ := h
  · simp at h2
  · simp only [Value.slice.injEq, Option.some.injEq, Addr.mk.injEq, and_true, true_and] at hv
    obtain ⟨rfl, rfl⟩ := hv
    have hn : n = xs.length := by simpa using h1.symm
    refine ⟨Blk.lt hh, hl, hn, fun j l hj => ?_⟩
    have hjl : j < xs.length := by
      rcases Nat.lt_or_ge j xs.length with h | h
      · exact h
      · rw [List.getElem?_eq_none h] at hj; cases hj
    rw [Blk.cell hh j, ← Array.getElem?_toList, ← List.getElem?_take_of_lt (j := n) (by omega)]
    rw [Nat.mul_one] at htk
    rw [htk, List.getElem?_map, hj]
    rfl
theorem grown_only {w w' : World} {g : Nat} (h : w.grownBy w' (some g)) : Only [g] w w' :=
  ⟨h.os, h.tape, h.output, h.size, fun k hk hn => h.block k hk (fun e => hn (by injection e with e; simp [e]))⟩

/-- How long a number's text is. -/
theorem numL_len (b : Nat) (hb : 2 ≤ b) : ∀ (k n : Nat), n < b ^ (k + 1) → (numL b n).length ≤ k + 1
  | 0, n, h => by rw [numL_lt (by simpa using h)]; simp
  | k + 1, n, h => by
    by_cases hn : n < b
    · rw [numL_lt hn]; simp
    · rw [numL_ge hb (by omega)]
      have := numL_len b hb k (n / b) (Nat.div_lt_of_lt_mul (by rw [Nat.pow_succ] at h; rw [Nat.mul_comm]; exact h))
      simp
      omega
theorem lineL_len (n : Int) (h : n ≤ 99) : (lineL n).length ≤ 2 := by
  unfold lineL
  split
  · simp
  · exact numL_len 10 (by omega) 1 n.toNat (by omega)
theorem news_blk {W : World} {g : Nat} {t : TypeId} {cs : Array Value} {news : List Value} (h : Blk W g t cs) (hl : cs.toList = news) : ∀ (j : Nat) (u : Value), news[j]? = some u → W.cell? ((⟨g, 0, none⟩ : Addr).add j) = some u := by
  intro j u hu
  rw [Lib.add_plain, Nat.zero_add, h.cell j, ← Array.getElem?_toList, hl]
  exact hu
theorem one_cell (l : List UInt8) : ∀ u ∈ [str l], u.oneCell' = true := by
  intro u hu
  simp at hu
  subst hu
  rfl
end Go.Proofs.YtagmoehjcgjnjaaGreatDoor

namespace Go.Proofs.YtagmoehjcgjnjaaGreatDoor
open Go Go.RowKit

set_option maxRecDepth 100000 in
set_option maxHeartbeats 4000000 in
theorem show_1 (ix rw fr tt rk : Nat) (rd wt lk : Bool) (hi : ix ≤ 999) (hrw : rw ≤ 99) (hfr : fr < 4294967296) (htt : tt < 4294967296) (hrk : rk ≤ 999) (c : Cf) (hc : c = ⟨1, ix, 0, 0, true, rw, fr, tt, rd, wt, rk, lk⟩) (hr : c.right = true) (w : World) (hg : Gl w) :
    Calls Tryz.prog 37 #[c.agg] w fun e w' => e = .returned (.tuple #[str (Lib.join ([kindW 1, numL 10 ix, numL 10 rw, numL 16 fr, numL 16 tt, rightsL rd wt, numL 10 rk] ++ (if lk then [[108, 111, 99, 107, 101, 100]] else [])) [32]), .int .i64 0]) ∧ Only [] w w' := by
  have Hr := Lib.hid (right_any c)
  rw [hr] at Hr
  subst hc
  clear hr
  go_enter Tryz.func37, Tryz.ntmps37
  go_wp2_with fail
  refine (Hr.out _).mono ?_
  rintro e w1 ⟨rfl, hO1⟩
  have hE : CfB w1 w.heap.size ⟨1, ix, 0, 0, true, rw, fr, tt, rd, wt, rk, lk⟩ := hO1.cf (Blk.new' rfl rfl) (by simp)
  have hO := ((Only.refl [] w).alloc (.cells #[.int .i64 1, .int .i64 ix, .int .i64 0, .int .i64 0, .bool true, .int .i64 rw, .int .u32 fr, .int .u32 tt, .bool rd, .bool wt, .int .i64 rk, .bool lk] 31)).trans hO1
  clear hO1 Hr
  have hlt := hE.lt
  obtain ⟨c0, c1, c2, c3, c4, c5, c6, c7, c8, c9, c10, c11, -⟩ := hE.c
  simp only at c0 c1
  clear c2 c3 c4 c5 c6 c7 c8 c9 c10 c11
  go_upto_region 3 with fail
  go_cut [4] (fun s wx => First w1 (kindW 1) s wx)
  case first =>
    have hk : kindsV[1]? = some (.string ⟨#[114, 101, 103, 105, 111, 110]⟩) := rfl
    go_region_with (refine (kinds_any _).mono ?_; rintro e w2 ⟨rfl, rfl⟩)
    all_goals
      go_wp2_with fail
      go_meet
      exact ⟨rowof_one (Blk.new' rfl (by simp)) (by simp), by repeat (first | exact Only.refl _ _ | refine Only.drew ?_ | refine Only.alloc ?_ _)⟩
  case rest =>
    obtain ⟨⟨g, cap, rfl, hgb, hown⟩, hO2⟩ := hcut
    have hE2 := hO2.cf hE (by simp)
    have hg2 := hg.only (hO.trans hO2)
    obtain ⟨c0, c1, c2, c3, c4, c5, c6, c7, c8, c9, c10, c11, -⟩ := hE2.c
    simp only at c0 c1
    clear c2 c3 c4 c5 c6 c7 c8 c9 c10 c11
    go_wp2_with fail
    refine (itoa_any ix (by omega) _ hg2).mono ?_
    rintro e w3 ⟨rfl, hO3⟩
    have hown3 := row_only hown hO3 (by simp)
    have hE3 := hO3.cf hE2 (by simp)
    clear c0 c1 hown
    obtain ⟨i0, hi0, hz0, hz1, hz2⟩ := info_parts infoString
    have hsz3 : w1.heap.size ≤ w3.heap.size := Nat.le_trans hO2.size hO3.size
    go_wp2_with (at_builtin; refine wpList_append_own _ rfl _ _ 43 rfl w1.heap.size 9 i0 (.string ⟨#[]⟩) 1 16 Tryz.underlying43 hi0 hz0 hz1 hz2 rfl (by decide) _ 1 _ rfl (hown3.alloc _) ⟨w3.heap.size, 0, none⟩ 1 1 [str (numL 10 ix)] rfl rfl ?c1 ?c2 ?c3 ?c4 ?c5 ?_)
    case c1 => exact news_blk (Blk.new' rfl rfl) rfl
    case c2 => exact one_cell _
    case c3 => decide
    case c4 => decide
    case c5 => simp; omega
    intro v' w4 hown4 hgrow _
    obtain ⟨g2, cap2, rfl, hgb2, hgl2, -⟩ := row_form hown4 (by decide)
    have hOn : Only [g] _ w4 := grown_only hgrow
    have hE4 := hOn.cf (hE3.alloc _) (by simp; omega)
    have hO4 : Only [] w w4 := (((hO.trans hO2).trans hO3).alloc _).trans' hOn (by simp; omega)
    have hlt4 := hE4.lt
    have hg4 := hg.only hO4
    clear hown3 hgrow hOn hO hO2 hO3 hE2 hE3 hsz3 hg2 hz0 hz1 hz2 hi0
    obtain ⟨c0, c1, c2, c3, c4, c5, c6, c7, c8, c9, c10, c11, -⟩ := hE4.c
    simp only at c0 c1 c2 c3 c4 c5 c6 c7 c8 c9 c10 c11
    go_wp2_with fail
    have hR : Blk (w4.alloc (.cells #[.bool true, .int .i64 rw, .int .u32 fr, .int .u32 tt, .bool rd, .bool wt, .int .i64 rk, .bool lk] 29)) w4.heap.size 29 #[.bool true, .int .i64 rw, .int .u32 fr, .int .u32 tt, .bool rd, .bool wt, .int .i64 rk, .bool lk] := Blk.new' rfl rfl
    have hg5 := hg4.only ((Only.refl [] w4).alloc (.cells #[.bool true, .int .i64 rw, .int .u32 fr, .int .u32 tt, .bool rd, .bool wt, .int .i64 rk, .bool lk] 29))
    have hO5 := hO4.alloc (.cells #[.bool true, .int .i64 rw, .int .u32 fr, .int .u32 tt, .bool rd, .bool wt, .int .i64 rk, .bool lk] 29)
    have hown5 := row_only hown4 ((Only.refl [] _).alloc (.cells #[.bool true, .int .i64 rw, .int .u32 fr, .int .u32 tt, .bool rd, .bool wt, .int .i64 rk, .bool lk] 29)) (by simp)
    have hs5 : w1.heap.size ≤ (w4.alloc (.cells #[.bool true, .int .i64 rw, .int .u32 fr, .int .u32 tt, .bool rd, .bool wt, .int .i64 rk, .bool lk] 29)).heap.size := by simp; omega
    clear c0 c1 c2 c3 c4 c5 c6 c7 c8 c9 c10 c11 hown4 hO4 hE4
    refine wp_region_PT 16 (.slice (some ⟨g2, 0, none⟩) 2 cap2) (Only [] (w4.alloc (.cells #[.bool true, .int .i64 rw, .int .u32 fr, .int .u32 tt, .bool rd, .bool wt, .int .i64 rk, .bool lk] 29))) (by kernel_rfl) (by kernel_rfl) (fun _ _ _ h => h) (.inl ⟨rfl, fun _ => rfl⟩) ((Only.refl _ _).drew) ?_
    simp only [Act.put, List.setIfInBounds_toArray, List.set_cons_succ, List.set_cons_zero, List.take_succ_cons, List.take_zero, List.drop_succ_cons, List.drop_zero]
    repeat (first
      | (refine wpT_step ?_ (stD rfl (fun w' hD => ?_)) ?_
         rotate_left
         · have hR' := hD.blk hR (by simp)
           have r0 : w'.cell? ⟨w4.heap.size, 0, none⟩ = some (.bool true) := hR'.cell 0
           have r1 : w'.cell? ⟨w4.heap.size, 1, none⟩ = some (.int .i64 rw) := hR'.cell 1
           have r2 : w'.cell? ⟨w4.heap.size, 2, none⟩ = some (.int .u32 fr) := hR'.cell 2
           have r3 : w'.cell? ⟨w4.heap.size, 3, none⟩ = some (.int .u32 tt) := hR'.cell 3
           have r4 : w'.cell? ⟨w4.heap.size, 4, none⟩ = some (.bool rd) := hR'.cell 4
           have r5 : w'.cell? ⟨w4.heap.size, 5, none⟩ = some (.bool wt) := hR'.cell 5
           have r6 : w'.cell? ⟨w4.heap.size, 6, none⟩ = some (.int .i64 rk) := hR'.cell 6
           have r7 : w'.cell? ⟨w4.heap.size, 7, none⟩ = some (.bool lk) := hR'.cell 7
           have hg' := hg5.only hD
           go_simp
           first
             | (refine ⟨?_, hD⟩; rfl)
             | (refine (itoa_any rw (by omega) w' hg').mono ?_; rintro e w'' ⟨rfl, h⟩; refine ⟨?_, hD.trans h⟩; rfl)
             | (refine (itoa_any rk (by omega) w' hg').mono ?_; rintro e w'' ⟨rfl, h⟩; refine ⟨?_, hD.trans h⟩; rfl)
             | (refine (hex_any fr hfr w' hg').mono ?_; rintro e w'' ⟨rfl, h⟩; refine ⟨?_, hD.trans h⟩; rfl)
             | (refine (hex_any tt htt w' hg').mono ?_; rintro e w'' ⟨rfl, h⟩; refine ⟨?_, hD.trans h⟩; rfl)
             | (refine (rights_any true rd wt lk rw fr tt rk w').mono ?_; rintro e w'' ⟨rfl, h⟩; refine ⟨?_, hD.trans h⟩; rfl)
         simp only [Act.put, List.setIfInBounds_toArray, List.set_cons_succ, List.set_cons_zero, Nat.reduceAdd])
      | (refine wpT_step _ (stD_skip rfl) ?_
         simp only [Act.put, List.setIfInBounds_toArray, List.set_cons_succ, List.set_cons_zero, Nat.reduceAdd]))
    refine wpT_nil ?_
    intro w6 hD
    have hown6 := row_only hown5 hD (by simp)
    have hO6 := hO5.trans hD
    have hs6 : w1.heap.size ≤ w6.heap.size := Nat.le_trans hs5 hD.size
    have hR6 := hD.blk hR (by simp)
    clear hown5 hD hR hg5 hO5 hs5
    have hbw : ∀ u ∈ [str (numL 10 rw), str (numL 16 fr), str (numL 16 tt), str (rightsL rd wt), str (numL 10 rk)], u.oneCell' = true := by
      intro u hu
      simp only [List.mem_cons, List.not_mem_nil, or_false] at hu
      rcases hu with rfl | rfl | rfl | rfl | rfl <;> rfl
    obtain ⟨i0, hi0, hz0, hz1, hz2⟩ := info_parts infoString
    go_wp2_with (at_builtin; refine wpList_append_own _ rfl _ _ 43 rfl w1.heap.size 9 i0 (.string ⟨#[]⟩) 1 16 Tryz.underlying43 hi0 hz0 hz1 hz2 rfl (by decide) _ 2 _ rfl (hown6.alloc _) ⟨w6.heap.size, 0, none⟩ 5 5 [str (numL 10 rw), str (numL 16 fr), str (numL 16 tt), str (rightsL rd wt), str (numL 10 rk)] rfl rfl ?d1 ?d2 ?d3 ?d4 ?d5 ?_)
    case d1 => exact news_blk (Blk.new' rfl rfl) rfl
    case d2 => exact hbw
    case d3 => decide
    case d4 => decide
    case d5 => simp; omega
    intro v' w7 hown7 hgrow _
    obtain ⟨g3, cap3, rfl, hgb3, hgl3, -⟩ := row_form hown7 (by decide)
    have hOn : Only [g2] _ w7 := grown_only hgrow
    have hO7 : Only [] w w7 := (hO6.alloc _).trans' hOn (by simp; omega)
    have hR7 := hOn.blk (hR6.alloc (.cells #[str (numL 10 rw), str (numL 16 fr), str (numL 16 tt), str (rightsL rd wt), str (numL 10 rk)] 9)) (by simp; omega)
    have r7 : w7.cell? ⟨w4.heap.size, 7, none⟩ = some (.bool lk) := hR7.cell 7
    have hs7 : w1.heap.size ≤ w7.heap.size := by omega
    have b1 := numL_len 10 (by omega) 2 ix (by omega)
    have b2 := numL_len 10 (by omega) 1 rw (by omega)
    have b3 := numL_len 16 (by omega) 7 fr hfr
    have b4 := numL_len 16 (by omega) 7 tt htt
    have b5 := numL_len 10 (by omega) 2 rk (by omega)
    have b6 : (rightsL rd wt).length ≤ 2 := by cases rd <;> cases wt <;> simp [rightsL]
    have B1 := Lib.hid b1
    have B2 := Lib.hid b2
    have B3 := Lib.hid b3
    have B4 := Lib.hid b4
    have B5 := Lib.hid b5
    have B6 := Lib.hid b6
    clear hgrow hown6 hOn hO6 hR6 hR7 hbw hi0 hz0 hz1 hz2 b1 b2 b3 b4 b5 b6
    cases lk
    · go_wp2_with fail
      obtain ⟨q1, q2, -, q4⟩ := row_cells (xs := [kindW 1, numL 10 ix, numL 10 rw, numL 16 fr, numL 16 tt, rightsL rd wt, numL 10 rk]) hown7
      have hlen : (Lib.join [kindW 1, numL 10 ix, numL 10 rw, numL 16 fr, numL 16 tt, rightsL rd wt, numL 10 rk] [32]).length ≤ 140737488355328 := by
        have := B1.out
        have := B2.out
        have := B3.out
        have := B4.out
        have := B5.out
        have := B6.out
        simp [Lib.join, kindW, List.intercalate]
        omega
      refine (join_any g3 cap3 [kindW 1, numL 10 ix, numL 10 rw, numL 16 fr, numL 16 tt, rightsL rd wt, numL 10 rk] _ q4 q1 (by simpa using q2) hlen (by simp)).mono ?_
      rintro e w8 ⟨rfl, hO8⟩
      go_wp2_with fail
      go_ret2
      exact ⟨rfl, hO7.trans hO8⟩
    · obtain ⟨i0, hi0, hz0, hz1, hz2⟩ := info_parts infoString
      go_wp2_with (at_builtin; refine wpList_append_own _ rfl _ _ 43 rfl w1.heap.size 9 i0 (.string ⟨#[]⟩) 1 16 Tryz.underlying43 hi0 hz0 hz1 hz2 rfl (by decide) _ 7 _ rfl (hown7.alloc _) ⟨w7.heap.size, 0, none⟩ 1 1 [str [108, 111, 99, 107, 101, 100]] rfl rfl ?e1 ?e2 ?e3 ?e4 ?e5 ?_)
      case e1 => exact news_blk (Blk.new' rfl rfl) rfl
      case e2 => exact one_cell _
      case e3 => decide
      case e4 => decide
      case e5 => simp; omega
      intro v' w8 hown8 hgrow _
      obtain ⟨g4, cap4, rfl, hgb4, -, -⟩ := row_form hown8 (by decide)
      have hOn : Only [g3] _ w8 := grown_only hgrow
      have hO8 : Only [] w w8 := (hO7.alloc _).trans' hOn (by simp; omega)
      clear hown7 hgrow hOn hO7
      go_wp2_with fail
      obtain ⟨q1, q2, -, q4⟩ := row_cells (xs := [kindW 1, numL 10 ix, numL 10 rw, numL 16 fr, numL 16 tt, rightsL rd wt, numL 10 rk, [108, 111, 99, 107, 101, 100]]) hown8
      have hlen : (Lib.join [kindW 1, numL 10 ix, numL 10 rw, numL 16 fr, numL 16 tt, rightsL rd wt, numL 10 rk, [108, 111, 99, 107, 101, 100]] [32]).length ≤ 140737488355328 := by
        have := B1.out
        have := B2.out
        have := B3.out
        have := B4.out
        have := B5.out
        have := B6.out
        simp [Lib.join, kindW, List.intercalate]
        omega
      refine (join_any g4 cap4 [kindW 1, numL 10 ix, numL 10 rw, numL 16 fr, numL 16 tt, rightsL rd wt, numL 10 rk, [108, 111, 99, 107, 101, 100]] _ q4 q1 (by simpa using q2) hlen (by simp)).mono ?_
      rintro e w9 ⟨rfl, hO9⟩
      go_wp2_with fail
      go_ret2
      exact ⟨rfl, hO8.trans hO9⟩
end Go.Proofs.YtagmoehjcgjnjaaGreatDoor

namespace Go.Proofs.YtagmoehjcgjnjaaGreatDoor
open Go Go.RowKit

set_option maxRecDepth 100000 in
set_option maxHeartbeats 4000000 in
theorem show_2 (ix : Nat) (hi : ix ≤ 999) (c : Cf) (hc : c = ⟨2, ix, 0, 0, false, 0, 0, 0, false, false, 0, false⟩) (hr : c.right = true) (w : World) (hg : Gl w) :
    Calls Tryz.prog 37 #[c.agg] w fun e w' => e = .returned (.tuple #[str (Lib.join [kindW 2, numL 10 ix] [32]), .int .i64 0]) ∧ Only [] w w' := by
  have Hr := Lib.hid (right_any c)
  rw [hr] at Hr
  subst hc
  clear hr
  go_enter Tryz.func37, Tryz.ntmps37
  go_wp2_with fail
  refine (Hr.out _).mono ?_
  rintro e w1 ⟨rfl, hO1⟩
  have hE : CfB w1 w.heap.size ⟨2, ix, 0, 0, false, 0, 0, 0, false, false, 0, false⟩ := hO1.cf (Blk.new' rfl rfl) (by simp)
  have hO := ((Only.refl [] w).alloc (.cells #[.int .i64 2, .int .i64 ix, .int .i64 0, .int .i64 0, .bool false, .int .i64 0, .int .u32 0, .int .u32 0, .bool false, .bool false, .int .i64 0, .bool false] 31)).trans hO1
  clear hO1 Hr
  have hlt := hE.lt
  obtain ⟨c0, c1, c2, c3, c4, c5, c6, c7, c8, c9, c10, c11, -⟩ := hE.c
  simp only at c0 c1
  clear c2 c3 c4 c5 c6 c7 c8 c9 c10 c11
  go_upto_region 3 with fail
  go_cut [4] (fun s wx => First w1 (kindW 2) s wx)
  case first =>
    have hk : kindsV[2]? = some (.string ⟨#[99, 108, 101, 97, 114]⟩) := rfl
    go_region_with (refine (kinds_any _).mono ?_; rintro e w2 ⟨rfl, rfl⟩)
    all_goals
      go_wp2_with fail
      go_meet
      exact ⟨rowof_one (Blk.new' rfl (by simp)) (by simp), by repeat (first | exact Only.refl _ _ | refine Only.drew ?_ | refine Only.alloc ?_ _)⟩
  case rest =>
    obtain ⟨⟨g, cap, rfl, hgb, hown⟩, hO2⟩ := hcut
    have hE2 := hO2.cf hE (by simp)
    have hg2 := hg.only (hO.trans hO2)
    obtain ⟨c0, c1, c2, c3, c4, c5, c6, c7, c8, c9, c10, c11, -⟩ := hE2.c
    simp only at c0 c1
    clear c2 c3 c4 c5 c6 c7 c8 c9 c10 c11
    go_wp2_with fail
    refine (itoa_any ix (by omega) _ hg2).mono ?_
    rintro e w3 ⟨rfl, hO3⟩
    have hown3 := row_only hown hO3 (by simp)
    have hE3 := hO3.cf hE2 (by simp)
    clear c0 c1 hown
    obtain ⟨i0, hi0, hz0, hz1, hz2⟩ := info_parts infoString
    have hsz3 : w1.heap.size ≤ w3.heap.size := Nat.le_trans hO2.size hO3.size
    go_wp2_with (at_builtin; refine wpList_append_own _ rfl _ _ 43 rfl w1.heap.size 9 i0 (.string ⟨#[]⟩) 1 16 Tryz.underlying43 hi0 hz0 hz1 hz2 rfl (by decide) _ 1 _ rfl (hown3.alloc _) ⟨w3.heap.size, 0, none⟩ 1 1 [str (numL 10 ix)] rfl rfl ?c1 ?c2 ?c3 ?c4 ?c5 ?_)
    case c1 => exact news_blk (Blk.new' rfl rfl) rfl
    case c2 => exact one_cell _
    case c3 => decide
    case c4 => decide
    case c5 => simp; omega
    intro v' w4 hown4 hgrow _
    obtain ⟨g2, cap2, rfl, hgb2, -, -⟩ := row_form hown4 (by decide)
    have hOn : Only [g] _ w4 := grown_only hgrow
    have hE4 := hOn.cf (hE3.alloc _) (by simp; omega)
    have hO4 : Only [] w w4 := (((hO.trans hO2).trans hO3).alloc _).trans' hOn (by simp; omega)
    have hlt4 := hE4.lt
    have hg4 := hg.only hO4
    clear hown3 hgrow hOn hO hO2 hO3 hE2 hE3 hsz3 hg2 hz0 hz1 hz2 hi0
    obtain ⟨c0, c1, c2, c3, c4, c5, c6, c7, c8, c9, c10, c11, -⟩ := hE4.c
    simp only at c0 c1 c2 c3 c4 c5 c6 c7 c8 c9 c10 c11
    go_wp2_with fail
    obtain ⟨q1, q2, q3, q4⟩ := row_cells (xs := [kindW 2, numL 10 ix]) hown4
    have hlen : (Lib.join [kindW 2, numL 10 ix] [32]).length ≤ 140737488355328 := by
      have := numL_len 10 (by omega) 2 ix (by omega)
      simp [Lib.join, kindW, List.intercalate]
      omega
    refine (join_any g2 cap2 [kindW 2, numL 10 ix] _ (fun j l hj => by rw [World.cell?_alloc_lt _ _ _ (by exact q1)]; exact q4 j l hj) (by simp; omega) (by simpa using q2) hlen (by simp)).mono ?_
    rintro e w5 ⟨rfl, hO5⟩
    go_wp2_with fail
    go_ret2
    exact ⟨rfl, (hO4.alloc _).trans hO5⟩
end Go.Proofs.YtagmoehjcgjnjaaGreatDoor

namespace Go.Proofs.YtagmoehjcgjnjaaGreatDoor
open Go Go.RowKit

set_option maxRecDepth 100000 in
set_option maxHeartbeats 4000000 in
theorem show_3 (ix wo : Nat) (hi : ix ≤ 999) (hwo : wo ≤ 99) (c : Cf) (hc : c = ⟨3, ix, wo, 0, false, 0, 0, 0, false, false, 0, false⟩) (hr : c.right = true) (w : World) (hg : Gl w) :
    Calls Tryz.prog 37 #[c.agg] w fun e w' => e = .returned (.tuple #[str (Lib.join [kindW 3, numL 10 ix, numL 10 wo] [32]), .int .i64 0]) ∧ Only [] w w' := by
  have Hr := Lib.hid (right_any c)
  rw [hr] at Hr
  subst hc
  clear hr
  go_enter Tryz.func37, Tryz.ntmps37
  go_wp2_with fail
  refine (Hr.out _).mono ?_
  rintro e w1 ⟨rfl, hO1⟩
  have hE : CfB w1 w.heap.size ⟨3, ix, wo, 0, false, 0, 0, 0, false, false, 0, false⟩ := hO1.cf (Blk.new' rfl rfl) (by simp)
  have hO := ((Only.refl [] w).alloc (.cells #[.int .i64 3, .int .i64 ix, .int .i64 wo, .int .i64 0, .bool false, .int .i64 0, .int .u32 0, .int .u32 0, .bool false, .bool false, .int .i64 0, .bool false] 31)).trans hO1
  clear hO1 Hr
  have hlt := hE.lt
  obtain ⟨c0, c1, c2, c3, c4, c5, c6, c7, c8, c9, c10, c11, -⟩ := hE.c
  simp only at c0 c1
  clear c2 c3 c4 c5 c6 c7 c8 c9 c10 c11
  go_upto_region 3 with fail
  go_cut [4] (fun s wx => First w1 (kindW 3) s wx)
  case first =>
    have hk : kindsV[3]? = some (.string ⟨#[103, 105, 118, 101]⟩) := rfl
    go_region_with (refine (kinds_any _).mono ?_; rintro e w2 ⟨rfl, rfl⟩)
    all_goals
      go_wp2_with fail
      go_meet
      exact ⟨rowof_one (Blk.new' rfl (by simp)) (by simp), by repeat (first | exact Only.refl _ _ | refine Only.drew ?_ | refine Only.alloc ?_ _)⟩
  case rest =>
    obtain ⟨⟨g, cap, rfl, hgb, hown⟩, hO2⟩ := hcut
    have hE2 := hO2.cf hE (by simp)
    have hg2 := hg.only (hO.trans hO2)
    obtain ⟨c0, c1, c2, c3, c4, c5, c6, c7, c8, c9, c10, c11, -⟩ := hE2.c
    simp only at c0 c1
    clear c2 c3 c4 c5 c6 c7 c8 c9 c10 c11
    go_wp2_with fail
    refine (itoa_any ix (by omega) _ hg2).mono ?_
    rintro e w3 ⟨rfl, hO3⟩
    have hown3 := row_only hown hO3 (by simp)
    have hE3 := hO3.cf hE2 (by simp)
    clear c0 c1 hown
    obtain ⟨i0, hi0, hz0, hz1, hz2⟩ := info_parts infoString
    have hsz3 : w1.heap.size ≤ w3.heap.size := Nat.le_trans hO2.size hO3.size
    go_wp2_with (at_builtin; refine wpList_append_own _ rfl _ _ 43 rfl w1.heap.size 9 i0 (.string ⟨#[]⟩) 1 16 Tryz.underlying43 hi0 hz0 hz1 hz2 rfl (by decide) _ 1 _ rfl (hown3.alloc _) ⟨w3.heap.size, 0, none⟩ 1 1 [str (numL 10 ix)] rfl rfl ?c1 ?c2 ?c3 ?c4 ?c5 ?_)
    case c1 => exact news_blk (Blk.new' rfl rfl) rfl
    case c2 => exact one_cell _
    case c3 => decide
    case c4 => decide
    case c5 => simp; omega
    intro v' w4 hown4 hgrow _
    obtain ⟨g2, cap2, rfl, hgb2, hgl2, -⟩ := row_form hown4 (by decide)
    have hOn : Only [g] _ w4 := grown_only hgrow
    have hE4 := hOn.cf (hE3.alloc _) (by simp; omega)
    have hO4 : Only [] w w4 := (((hO.trans hO2).trans hO3).alloc _).trans' hOn (by simp; omega)
    have hlt4 := hE4.lt
    have hg4 := hg.only hO4
    clear hown3 hgrow hOn hO hO2 hO3 hE2 hE3 hsz3 hg2 hz0 hz1 hz2 hi0
    obtain ⟨c0, c1, c2, c3, c4, c5, c6, c7, c8, c9, c10, c11, -⟩ := hE4.c
    simp only at c0 c1 c2 c3 c4 c5 c6 c7 c8 c9 c10 c11
    go_wp2_with fail
    refine (itoa_any wo (by omega) _ (hg4.only ((Only.refl [] w4).alloc (.cells #[.bool false, .int .i64 0, .int .u32 0, .int .u32 0, .bool false, .bool false, .int .i64 0, .bool false] 29)))).mono ?_
    rintro e w5 ⟨rfl, hO5⟩
    have hA5 := (hO4.alloc (.cells #[.bool false, .int .i64 0, .int .u32 0, .int .u32 0, .bool false, .bool false, .int .i64 0, .bool false] 29)).trans hO5
    have hown5 := row_only (row_only hown4 ((Only.refl [] _).alloc (.cells #[.bool false, .int .i64 0, .int .u32 0, .int .u32 0, .bool false, .bool false, .int .i64 0, .bool false] 29)) (by simp)) hO5 (by simp)
    have hs5 : w1.heap.size ≤ w5.heap.size := by have := hO5.size; simp at this; omega
    clear c0 c1 c2 c3 c4 c5 c6 c7 c8 c9 c10 c11 hown4 hO4 hO5
    obtain ⟨i0, hi0, hz0, hz1, hz2⟩ := info_parts infoString
    go_wp2_with (at_builtin; refine wpList_append_own _ rfl _ _ 43 rfl w1.heap.size 9 i0 (.string ⟨#[]⟩) 1 16 Tryz.underlying43 hi0 hz0 hz1 hz2 rfl (by decide) _ 2 _ rfl (hown5.alloc _) ⟨w5.heap.size, 0, none⟩ 1 1 [str (numL 10 wo)] rfl rfl ?d1 ?d2 ?d3 ?d4 ?d5 ?_)
    case d1 => exact news_blk (Blk.new' rfl rfl) rfl
    case d2 => exact one_cell _
    case d3 => decide
    case d4 => decide
    case d5 => simp; omega
    intro v' w6 hown6 hgrow _
    obtain ⟨g3, cap3, rfl, hgb3, -, -⟩ := row_form hown6 (by decide)
    have hOn : Only [g2] _ w6 := grown_only hgrow
    have hO6 : Only [] w w6 := (hA5.alloc _).trans' hOn (by simp; omega)
    clear hown5 hgrow hOn hA5
    go_wp2_with fail
    obtain ⟨q1, q2, q3, q4⟩ := row_cells (xs := [kindW 3, numL 10 ix, numL 10 wo]) hown6
    have hlen : (Lib.join [kindW 3, numL 10 ix, numL 10 wo] [32]).length ≤ 140737488355328 := by
      have := numL_len 10 (by omega) 2 ix (by omega)
      have := numL_len 10 (by omega) 1 wo (by omega)
      simp [Lib.join, kindW, List.intercalate]
      omega
    refine (join_any g3 cap3 [kindW 3, numL 10 ix, numL 10 wo] _ q4 q1 (by simpa using q2) hlen (by simp)).mono ?_
    rintro e w7 ⟨rfl, hO7⟩
    go_wp2_with fail
    go_ret2
    exact ⟨rfl, hO6.trans hO7⟩
end Go.Proofs.YtagmoehjcgjnjaaGreatDoor

namespace Go.Proofs.YtagmoehjcgjnjaaGreatDoor
open Go Go.RowKit

set_option maxRecDepth 100000 in
set_option maxHeartbeats 4000000 in
theorem show_4 (ix : Nat) (hi : ix ≤ 999) (c : Cf) (hc : c = ⟨4, ix, 0, 0, false, 0, 0, 0, false, false, 0, false⟩) (hr : c.right = true) (w : World) (hg : Gl w) :
    Calls Tryz.prog 37 #[c.agg] w fun e w' => e = .returned (.tuple #[str (Lib.join [kindW 4, numL 10 ix] [32]), .int .i64 0]) ∧ Only [] w w' := by
  have Hr := Lib.hid (right_any c)
  rw [hr] at Hr
  subst hc
  clear hr
  go_enter Tryz.func37, Tryz.ntmps37
  go_wp2_with fail
  refine (Hr.out _).mono ?_
  rintro e w1 ⟨rfl, hO1⟩
  have hE : CfB w1 w.heap.size ⟨4, ix, 0, 0, false, 0, 0, 0, false, false, 0, false⟩ := hO1.cf (Blk.new' rfl rfl) (by simp)
  have hO := ((Only.refl [] w).alloc (.cells #[.int .i64 4, .int .i64 ix, .int .i64 0, .int .i64 0, .bool false, .int .i64 0, .int .u32 0, .int .u32 0, .bool false, .bool false, .int .i64 0, .bool false] 31)).trans hO1
  clear hO1 Hr
  have hlt := hE.lt
  obtain ⟨c0, c1, c2, c3, c4, c5, c6, c7, c8, c9, c10, c11, -⟩ := hE.c
  simp only at c0 c1
  clear c2 c3 c4 c5 c6 c7 c8 c9 c10 c11
  go_upto_region 3 with fail
  go_cut [4] (fun s wx => First w1 (kindW 4) s wx)
  case first =>
    have hk : kindsV[4]? = some (.string ⟨#[116, 97, 107, 101]⟩) := rfl
    go_region_with (refine (kinds_any _).mono ?_; rintro e w2 ⟨rfl, rfl⟩)
    all_goals
      go_wp2_with fail
      go_meet
      exact ⟨rowof_one (Blk.new' rfl (by simp)) (by simp), by repeat (first | exact Only.refl _ _ | refine Only.drew ?_ | refine Only.alloc ?_ _)⟩
  case rest =>
    obtain ⟨⟨g, cap, rfl, hgb, hown⟩, hO2⟩ := hcut
    have hE2 := hO2.cf hE (by simp)
    have hg2 := hg.only (hO.trans hO2)
    obtain ⟨c0, c1, c2, c3, c4, c5, c6, c7, c8, c9, c10, c11, -⟩ := hE2.c
    simp only at c0 c1
    clear c2 c3 c4 c5 c6 c7 c8 c9 c10 c11
    go_wp2_with fail
    refine (itoa_any ix (by omega) _ hg2).mono ?_
    rintro e w3 ⟨rfl, hO3⟩
    have hown3 := row_only hown hO3 (by simp)
    have hE3 := hO3.cf hE2 (by simp)
    clear c0 c1 hown
    obtain ⟨i0, hi0, hz0, hz1, hz2⟩ := info_parts infoString
    have hsz3 : w1.heap.size ≤ w3.heap.size := Nat.le_trans hO2.size hO3.size
    go_wp2_with (at_builtin; refine wpList_append_own _ rfl _ _ 43 rfl w1.heap.size 9 i0 (.string ⟨#[]⟩) 1 16 Tryz.underlying43 hi0 hz0 hz1 hz2 rfl (by decide) _ 1 _ rfl (hown3.alloc _) ⟨w3.heap.size, 0, none⟩ 1 1 [str (numL 10 ix)] rfl rfl ?c1 ?c2 ?c3 ?c4 ?c5 ?_)
    case c1 => exact news_blk (Blk.new' rfl rfl) rfl
    case c2 => exact one_cell _
    case c3 => decide
    case c4 => decide
    case c5 => simp; omega
    intro v' w4 hown4 hgrow _
    obtain ⟨g2, cap2, rfl, hgb2, -, -⟩ := row_form hown4 (by decide)
    have hOn : Only [g] _ w4 := grown_only hgrow
    have hE4 := hOn.cf (hE3.alloc _) (by simp; omega)
    have hO4 : Only [] w w4 := (((hO.trans hO2).trans hO3).alloc _).trans' hOn (by simp; omega)
    have hlt4 := hE4.lt
    have hg4 := hg.only hO4
    clear hown3 hgrow hOn hO hO2 hO3 hE2 hE3 hsz3 hg2 hz0 hz1 hz2 hi0
    obtain ⟨c0, c1, c2, c3, c4, c5, c6, c7, c8, c9, c10, c11, -⟩ := hE4.c
    simp only at c0 c1 c2 c3 c4 c5 c6 c7 c8 c9 c10 c11
    go_wp2_with fail
    obtain ⟨q1, q2, q3, q4⟩ := row_cells (xs := [kindW 4, numL 10 ix]) hown4
    have hlen : (Lib.join [kindW 4, numL 10 ix] [32]).length ≤ 140737488355328 := by
      have := numL_len 10 (by omega) 2 ix (by omega)
      simp [Lib.join, kindW, List.intercalate]
      omega
    refine (join_any g2 cap2 [kindW 4, numL 10 ix] _ (fun j l hj => by rw [World.cell?_alloc_lt _ _ _ (by exact q1)]; exact q4 j l hj) (by simp; omega) (by simpa using q2) hlen (by simp)).mono ?_
    rintro e w5 ⟨rfl, hO5⟩
    go_wp2_with fail
    go_ret2
    exact ⟨rfl, (hO4.alloc _).trans hO5⟩
end Go.Proofs.YtagmoehjcgjnjaaGreatDoor

namespace Go.Proofs.YtagmoehjcgjnjaaGreatDoor
open Go Go.RowKit

set_option maxRecDepth 100000 in
set_option maxHeartbeats 4000000 in
theorem show_5 (ix wo : Nat) (hi : ix ≤ 999) (hwo : wo ≤ 99) (c : Cf) (hc : c = ⟨5, ix, wo, 0, false, 0, 0, 0, false, false, 0, false⟩) (hr : c.right = true) (w : World) (hg : Gl w) :
    Calls Tryz.prog 37 #[c.agg] w fun e w' => e = .returned (.tuple #[str (Lib.join [kindW 5, numL 10 ix, numL 10 wo] [32]), .int .i64 0]) ∧ Only [] w w' := by
  have Hr := Lib.hid (right_any c)
  rw [hr] at Hr
  subst hc
  clear hr
  go_enter Tryz.func37, Tryz.ntmps37
  go_wp2_with fail
  refine (Hr.out _).mono ?_
  rintro e w1 ⟨rfl, hO1⟩
  have hE : CfB w1 w.heap.size ⟨5, ix, wo, 0, false, 0, 0, 0, false, false, 0, false⟩ := hO1.cf (Blk.new' rfl rfl) (by simp)
  have hO := ((Only.refl [] w).alloc (.cells #[.int .i64 5, .int .i64 ix, .int .i64 wo, .int .i64 0, .bool false, .int .i64 0, .int .u32 0, .int .u32 0, .bool false, .bool false, .int .i64 0, .bool false] 31)).trans hO1
  clear hO1 Hr
  have hlt := hE.lt
  obtain ⟨c0, c1, c2, c3, c4, c5, c6, c7, c8, c9, c10, c11, -⟩ := hE.c
  simp only at c0 c1
  clear c2 c3 c4 c5 c6 c7 c8 c9 c10 c11
  go_upto_region 3 with fail
  go_cut [4] (fun s wx => First w1 (kindW 5) s wx)
  case first =>
    have hk : kindsV[5]? = some (.string ⟨#[109, 111, 118, 101]⟩) := rfl
    go_region_with (refine (kinds_any _).mono ?_; rintro e w2 ⟨rfl, rfl⟩)
    all_goals
      go_wp2_with fail
      go_meet
      exact ⟨rowof_one (Blk.new' rfl (by simp)) (by simp), by repeat (first | exact Only.refl _ _ | refine Only.drew ?_ | refine Only.alloc ?_ _)⟩
  case rest =>
    obtain ⟨⟨g, cap, rfl, hgb, hown⟩, hO2⟩ := hcut
    have hE2 := hO2.cf hE (by simp)
    have hg2 := hg.only (hO.trans hO2)
    obtain ⟨c0, c1, c2, c3, c4, c5, c6, c7, c8, c9, c10, c11, -⟩ := hE2.c
    simp only at c0 c1
    clear c2 c3 c4 c5 c6 c7 c8 c9 c10 c11
    go_wp2_with fail
    refine (itoa_any ix (by omega) _ hg2).mono ?_
    rintro e w3 ⟨rfl, hO3⟩
    have hown3 := row_only hown hO3 (by simp)
    have hE3 := hO3.cf hE2 (by simp)
    clear c0 c1 hown
    obtain ⟨i0, hi0, hz0, hz1, hz2⟩ := info_parts infoString
    have hsz3 : w1.heap.size ≤ w3.heap.size := Nat.le_trans hO2.size hO3.size
    go_wp2_with (at_builtin; refine wpList_append_own _ rfl _ _ 43 rfl w1.heap.size 9 i0 (.string ⟨#[]⟩) 1 16 Tryz.underlying43 hi0 hz0 hz1 hz2 rfl (by decide) _ 1 _ rfl (hown3.alloc _) ⟨w3.heap.size, 0, none⟩ 1 1 [str (numL 10 ix)] rfl rfl ?c1 ?c2 ?c3 ?c4 ?c5 ?_)
    case c1 => exact news_blk (Blk.new' rfl rfl) rfl
    case c2 => exact one_cell _
    case c3 => decide
    case c4 => decide
    case c5 => simp; omega
    intro v' w4 hown4 hgrow _
    obtain ⟨g2, cap2, rfl, hgb2, hgl2, -⟩ := row_form hown4 (by decide)
    have hOn : Only [g] _ w4 := grown_only hgrow
    have hE4 := hOn.cf (hE3.alloc _) (by simp; omega)
    have hO4 : Only [] w w4 := (((hO.trans hO2).trans hO3).alloc _).trans' hOn (by simp; omega)
    have hlt4 := hE4.lt
    have hg4 := hg.only hO4
    clear hown3 hgrow hOn hO hO2 hO3 hE2 hE3 hsz3 hg2 hz0 hz1 hz2 hi0
    obtain ⟨c0, c1, c2, c3, c4, c5, c6, c7, c8, c9, c10, c11, -⟩ := hE4.c
    simp only at c0 c1 c2 c3 c4 c5 c6 c7 c8 c9 c10 c11
    go_wp2_with fail
    refine (itoa_any wo (by omega) _ (hg4.only ((Only.refl [] w4).alloc (.cells #[.bool false, .int .i64 0, .int .u32 0, .int .u32 0, .bool false, .bool false, .int .i64 0, .bool false] 29)))).mono ?_
    rintro e w5 ⟨rfl, hO5⟩
    have hA5 := (hO4.alloc (.cells #[.bool false, .int .i64 0, .int .u32 0, .int .u32 0, .bool false, .bool false, .int .i64 0, .bool false] 29)).trans hO5
    have hown5 := row_only (row_only hown4 ((Only.refl [] _).alloc (.cells #[.bool false, .int .i64 0, .int .u32 0, .int .u32 0, .bool false, .bool false, .int .i64 0, .bool false] 29)) (by simp)) hO5 (by simp)
    have hs5 : w1.heap.size ≤ w5.heap.size := by have := hO5.size; simp at this; omega
    clear c0 c1 c2 c3 c4 c5 c6 c7 c8 c9 c10 c11 hown4 hO4 hO5
    obtain ⟨i0, hi0, hz0, hz1, hz2⟩ := info_parts infoString
    go_wp2_with (at_builtin; refine wpList_append_own _ rfl _ _ 43 rfl w1.heap.size 9 i0 (.string ⟨#[]⟩) 1 16 Tryz.underlying43 hi0 hz0 hz1 hz2 rfl (by decide) _ 2 _ rfl (hown5.alloc _) ⟨w5.heap.size, 0, none⟩ 1 1 [str (numL 10 wo)] rfl rfl ?d1 ?d2 ?d3 ?d4 ?d5 ?_)
    case d1 => exact news_blk (Blk.new' rfl rfl) rfl
    case d2 => exact one_cell _
    case d3 => decide
    case d4 => decide
    case d5 => simp; omega
    intro v' w6 hown6 hgrow _
    obtain ⟨g3, cap3, rfl, hgb3, -, -⟩ := row_form hown6 (by decide)
    have hOn : Only [g2] _ w6 := grown_only hgrow
    have hO6 : Only [] w w6 := (hA5.alloc _).trans' hOn (by simp; omega)
    clear hown5 hgrow hOn hA5
    go_wp2_with fail
    obtain ⟨q1, q2, q3, q4⟩ := row_cells (xs := [kindW 5, numL 10 ix, numL 10 wo]) hown6
    have hlen : (Lib.join [kindW 5, numL 10 ix, numL 10 wo] [32]).length ≤ 140737488355328 := by
      have := numL_len 10 (by omega) 2 ix (by omega)
      have := numL_len 10 (by omega) 1 wo (by omega)
      simp [Lib.join, kindW, List.intercalate]
      omega
    refine (join_any g3 cap3 [kindW 5, numL 10 ix, numL 10 wo] _ q4 q1 (by simpa using q2) hlen (by simp)).mono ?_
    rintro e w7 ⟨rfl, hO7⟩
    go_wp2_with fail
    go_ret2
    exact ⟨rfl, hO6.trans hO7⟩
end Go.Proofs.YtagmoehjcgjnjaaGreatDoor

namespace Go.Proofs.YtagmoehjcgjnjaaGreatDoor
open Go Go.RowKit

set_option maxRecDepth 100000 in
set_option maxHeartbeats 4000000 in
theorem show_6 (ix : Nat) (ln : Int) (hi : ix ≤ 999) (hln : ln ≤ 99) (c : Cf) (hc : c = ⟨6, ix, 0, ln, false, 0, 0, 0, false, false, 0, false⟩) (hr : c.right = true) (w : World) (hg : Gl w) :
    Calls Tryz.prog 37 #[c.agg] w fun e w' => e = .returned (.tuple #[str (Lib.join [kindW 6, numL 10 ix, lineL ln] [32]), .int .i64 0]) ∧ Only [] w w' := by
  have Hr := Lib.hid (right_any c)
  rw [hr] at Hr
  subst hc
  clear hr
  go_enter Tryz.func37, Tryz.ntmps37
  go_wp2_with fail
  refine (Hr.out _).mono ?_
  rintro e w1 ⟨rfl, hO1⟩
  have hE : CfB w1 w.heap.size ⟨6, ix, 0, ln, false, 0, 0, 0, false, false, 0, false⟩ := hO1.cf (Blk.new' rfl rfl) (by simp)
  have hO := ((Only.refl [] w).alloc (.cells #[.int .i64 6, .int .i64 ix, .int .i64 0, .int .i64 ln, .bool false, .int .i64 0, .int .u32 0, .int .u32 0, .bool false, .bool false, .int .i64 0, .bool false] 31)).trans hO1
  clear hO1 Hr
  have hlt := hE.lt
  obtain ⟨c0, c1, c2, c3, c4, c5, c6, c7, c8, c9, c10, c11, -⟩ := hE.c
  simp only at c0 c1
  clear c2 c3 c4 c5 c6 c7 c8 c9 c10 c11
  go_upto_region 3 with fail
  go_cut [4] (fun s wx => First w1 (kindW 6) s wx)
  case first =>
    have hk : kindsV[6]? = some (.string ⟨#[114, 111, 117, 116, 101]⟩) := rfl
    go_region_with (refine (kinds_any _).mono ?_; rintro e w2 ⟨rfl, rfl⟩)
    all_goals
      go_wp2_with fail
      go_meet
      exact ⟨rowof_one (Blk.new' rfl (by simp)) (by simp), by repeat (first | exact Only.refl _ _ | refine Only.drew ?_ | refine Only.alloc ?_ _)⟩
  case rest =>
    obtain ⟨⟨g, cap, rfl, hgb, hown⟩, hO2⟩ := hcut
    have hE2 := hO2.cf hE (by simp)
    have hg2 := hg.only (hO.trans hO2)
    obtain ⟨c0, c1, c2, c3, c4, c5, c6, c7, c8, c9, c10, c11, -⟩ := hE2.c
    simp only at c0 c1
    clear c2 c3 c4 c5 c6 c7 c8 c9 c10 c11
    go_wp2_with fail
    refine (itoa_any ix (by omega) _ hg2).mono ?_
    rintro e w3 ⟨rfl, hO3⟩
    have hown3 := row_only hown hO3 (by simp)
    have hE3 := hO3.cf hE2 (by simp)
    clear c0 c1 hown
    obtain ⟨i0, hi0, hz0, hz1, hz2⟩ := info_parts infoString
    have hsz3 : w1.heap.size ≤ w3.heap.size := Nat.le_trans hO2.size hO3.size
    go_wp2_with (at_builtin; refine wpList_append_own _ rfl _ _ 43 rfl w1.heap.size 9 i0 (.string ⟨#[]⟩) 1 16 Tryz.underlying43 hi0 hz0 hz1 hz2 rfl (by decide) _ 1 _ rfl (hown3.alloc _) ⟨w3.heap.size, 0, none⟩ 1 1 [str (numL 10 ix)] rfl rfl ?c1 ?c2 ?c3 ?c4 ?c5 ?_)
    case c1 => exact news_blk (Blk.new' rfl rfl) rfl
    case c2 => exact one_cell _
    case c3 => decide
    case c4 => decide
    case c5 => simp; omega
    intro v' w4 hown4 hgrow _
    obtain ⟨g2, cap2, rfl, hgb2, hgl2, -⟩ := row_form hown4 (by decide)
    have hOn : Only [g] _ w4 := grown_only hgrow
    have hE4 := hOn.cf (hE3.alloc _) (by simp; omega)
    have hO4 : Only [] w w4 := (((hO.trans hO2).trans hO3).alloc _).trans' hOn (by simp; omega)
    have hlt4 := hE4.lt
    have hg4 := hg.only hO4
    clear hown3 hgrow hOn hO hO2 hO3 hE2 hE3 hsz3 hg2 hz0 hz1 hz2 hi0
    obtain ⟨c0, c1, c2, c3, c4, c5, c6, c7, c8, c9, c10, c11, -⟩ := hE4.c
    simp only at c0 c1 c2 c3 c4 c5 c6 c7 c8 c9 c10 c11
    go_wp2_with fail
    refine (linew_any ln (by omega) _ (hg4.only ((Only.refl [] w4).alloc (.cells #[.bool false, .int .i64 0, .int .u32 0, .int .u32 0, .bool false, .bool false, .int .i64 0, .bool false] 29)))).mono ?_
    rintro e w5 ⟨rfl, hO5⟩
    have hA5 := (hO4.alloc (.cells #[.bool false, .int .i64 0, .int .u32 0, .int .u32 0, .bool false, .bool false, .int .i64 0, .bool false] 29)).trans hO5
    have hown5 := row_only (row_only hown4 ((Only.refl [] _).alloc (.cells #[.bool false, .int .i64 0, .int .u32 0, .int .u32 0, .bool false, .bool false, .int .i64 0, .bool false] 29)) (by simp)) hO5 (by simp)
    have hs5 : w1.heap.size ≤ w5.heap.size := by have := hO5.size; simp at this; omega
    clear c0 c1 c2 c3 c4 c5 c6 c7 c8 c9 c10 c11 hown4 hO4 hO5
    obtain ⟨i0, hi0, hz0, hz1, hz2⟩ := info_parts infoString
    go_wp2_with (at_builtin; refine wpList_append_own _ rfl _ _ 43 rfl w1.heap.size 9 i0 (.string ⟨#[]⟩) 1 16 Tryz.underlying43 hi0 hz0 hz1 hz2 rfl (by decide) _ 2 _ rfl (hown5.alloc _) ⟨w5.heap.size, 0, none⟩ 1 1 [str (lineL ln)] rfl rfl ?d1 ?d2 ?d3 ?d4 ?d5 ?_)
    case d1 => exact news_blk (Blk.new' rfl rfl) rfl
    case d2 => exact one_cell _
    case d3 => decide
    case d4 => decide
    case d5 => simp; omega
    intro v' w6 hown6 hgrow _
    obtain ⟨g3, cap3, rfl, hgb3, -, -⟩ := row_form hown6 (by decide)
    have hOn : Only [g2] _ w6 := grown_only hgrow
    have hO6 : Only [] w w6 := (hA5.alloc _).trans' hOn (by simp; omega)
    clear hown5 hgrow hOn hA5
    go_wp2_with fail
    obtain ⟨q1, q2, q3, q4⟩ := row_cells (xs := [kindW 6, numL 10 ix, lineL ln]) hown6
    have hlen : (Lib.join [kindW 6, numL 10 ix, lineL ln] [32]).length ≤ 140737488355328 := by
      have := numL_len 10 (by omega) 2 ix (by omega)
      have := lineL_len ln (by omega)
      simp [Lib.join, kindW, List.intercalate]
      omega
    refine (join_any g3 cap3 [kindW 6, numL 10 ix, lineL ln] _ q4 q1 (by simpa using q2) hlen (by simp)).mono ?_
    rintro e w7 ⟨rfl, hO7⟩
    go_wp2_with fail
    go_ret2
    exact ⟨rfl, hO6.trans hO7⟩
end Go.Proofs.YtagmoehjcgjnjaaGreatDoor

namespace Go.Proofs.YtagmoehjcgjnjaaGreatDoor
open Go Go.RowKit

set_option maxRecDepth 100000 in
set_option maxHeartbeats 4000000 in
theorem show_7 (c : Cf) (hc : c = ⟨7, 0, 0, 0, false, 0, 0, 0, false, false, 0, false⟩) (hr : c.right = true) (w : World) (hg : Gl w) :
    Calls Tryz.prog 37 #[c.agg] w fun e w' => e = .returned (.tuple #[str (Lib.join [kindW 7] [32]), .int .i64 0]) ∧ Only [] w w' := by
  have Hr := Lib.hid (right_any c)
  rw [hr] at Hr
  subst hc
  clear hr
  go_enter Tryz.func37, Tryz.ntmps37
  go_wp2_with fail
  refine (Hr.out _).mono ?_
  rintro e w1 ⟨rfl, hO1⟩
  have hE : CfB w1 w.heap.size ⟨7, 0, 0, 0, false, 0, 0, 0, false, false, 0, false⟩ := hO1.cf (Blk.new' rfl rfl) (by simp)
  have hO := ((Only.refl [] w).alloc (.cells #[.int .i64 7, .int .i64 0, .int .i64 0, .int .i64 0, .bool false, .int .i64 0, .int .u32 0, .int .u32 0, .bool false, .bool false, .int .i64 0, .bool false] 31)).trans hO1
  clear hO1 Hr
  have hlt := hE.lt
  obtain ⟨c0, c1, c2, c3, c4, c5, c6, c7, c8, c9, c10, c11, -⟩ := hE.c
  simp only at c0 c1
  clear c2 c3 c4 c5 c6 c7 c8 c9 c10 c11
  go_upto_region 3 with fail
  go_cut [4] (fun s wx => First w1 (kindW 7) s wx)
  case first =>
    have hk : kindsV[7]? = some (.string ⟨#[108, 111, 99, 107]⟩) := rfl
    go_region_with (refine (kinds_any _).mono ?_; rintro e w2 ⟨rfl, rfl⟩)
    all_goals
      go_wp2_with fail
      go_meet
      exact ⟨rowof_one (Blk.new' rfl (by simp)) (by simp), by repeat (first | exact Only.refl _ _ | refine Only.drew ?_ | refine Only.alloc ?_ _)⟩
  case rest =>
    obtain ⟨⟨g, cap, rfl, hgb, hown⟩, hO2⟩ := hcut
    have hE2 := hO2.cf hE (by simp)
    have hg2 := hg.only (hO.trans hO2)
    obtain ⟨c0, c1, c2, c3, c4, c5, c6, c7, c8, c9, c10, c11, -⟩ := hE2.c
    simp only at c0 c1
    clear c2 c3 c4 c5 c6 c7 c8 c9 c10 c11
    have hO4 := hO.trans hO2
    have hlt4 := hE2.lt
    obtain ⟨c0, c1, c2, c3, c4, c5, c6, c7, c8, c9, c10, c11, -⟩ := hE2.c
    simp only at c0 c1 c2 c3 c4 c5 c6 c7 c8 c9 c10 c11
    go_wp2_with fail
    obtain ⟨q1, q2, -, q4⟩ := row_cells (xs := [kindW 7]) hown
    have hl7 : (Lib.join [kindW 7] [32]).length ≤ 140737488355328 := by show 4 ≤ 140737488355328; omega
    have hc7 : [kindW 7].length ≤ cap := q2
    refine (join_any g cap [kindW 7] _ (fun j l hj => by rw [World.cell?_alloc_lt _ _ _ (by exact q1)]; exact q4 j l hj) (by rw [World.size_alloc]; omega) hc7 hl7 (Nat.le_of_ble_eq_true rfl)).mono ?_
    rintro e w5 ⟨rfl, hO5⟩
    go_wp2_with fail
    go_ret2
    exact ⟨rfl, (hO4.alloc _).trans hO5⟩
end Go.Proofs.YtagmoehjcgjnjaaGreatDoor

namespace Go.Proofs.YtagmoehjcgjnjaaGreatDoor
open Go Go.RowKit

/-- A number's words. -/
def dec (n : Int) : List UInt8 := numL 10 n.toNat
def hexa (n : Int) : List UInt8 := numL 16 n.toNat

/-- The words of a command's text. -/
def Cf.words (c : Cf) : List (List UInt8) :=
  if c.kd = 1 then [kindW 1, dec c.ix, dec c.rw, hexa c.fr, hexa c.tt, rightsL c.rd c.wt, dec c.rk] ++ (if c.lk then [[108, 111, 99, 107, 101, 100]] else [])
  else if c.kd = 2 ∨ c.kd = 4 then [kindW c.kd, dec c.ix]
  else if c.kd = 3 ∨ c.kd = 5 then [kindW c.kd, dec c.ix, dec c.wo]
  else if c.kd = 6 then [kindW 6, dec c.ix, lineL c.ln]
  else [kindW 7]
/-- A command's text. -/
def Cf.text (c : Cf) : List UInt8 := Lib.join c.words [32]

/-- The addresses are uint32. -/
structure Cf.Fits (c : Cf) : Prop where
  fr : 0 ≤ c.fr ∧ c.fr < 4294967296
  tt : 0 ≤ c.tt ∧ c.tt < 4294967296

/-- What a right command is made of. -/
inductive Shape : Cf → Prop
  | region (ix rw rk : Nat) (fr tt : Nat) (rd wt lk : Bool) : ix ≤ 999 → rw ≤ 99 → rk ≤ 999 → fr < 4294967296 → tt < 4294967296 → Shape ⟨1, ix, 0, 0, true, rw, fr, tt, rd, wt, rk, lk⟩
  | one (k : Int) (ix : Nat) : (k = 2 ∨ k = 4) → ix ≤ 999 → Shape ⟨k, ix, 0, 0, false, 0, 0, 0, false, false, 0, false⟩
  | two (k : Int) (ix wo : Nat) : (k = 3 ∨ k = 5) → ix ≤ 999 → wo ≤ 99 → Shape ⟨k, ix, wo, 0, false, 0, 0, 0, false, false, 0, false⟩
  | route (ix : Nat) (ln : Int) : ix ≤ 999 → -1 ≤ ln → ln ≤ 99 → Shape ⟨6, ix, 0, ln, false, 0, 0, 0, false, false, 0, false⟩
  | lock : Shape ⟨7, 0, 0, 0, false, 0, 0, 0, false, false, 0, false⟩

theorem Shape.of (c : Cf) (hf : c.Fits) (hr : c.right = true) : Shape c := by
  simp only [Cf.right, Bool.and_eq_true, decide_eq_true_eq] at hr
  obtain ⟨⟨⟨⟨h1, h2⟩, h3⟩, h4⟩, h5⟩ := hr
  have h3' := (Cf.same_iff _ _).1 h3
  obtain ⟨hf1, hf2⟩ := hf
  rw [inB_true] at h4
  obtain ⟨kd, ix, wo, ln, on, rw, fr, tt, rd, wt, rk, lk⟩ := c
  simp only at h1 h2 h4 h5 hf1 hf2
  obtain ⟨ix, rfl⟩ : ∃ n : Nat, ix = n := ⟨ix.toNat, by omega⟩
  have hk : kd = 1 ∨ (kd = 2 ∨ kd = 4) ∨ (kd = 3 ∨ kd = 5) ∨ kd = 6 ∨ kd = 7 := by omega
  rcases hk with rfl | hk | hk | rfl | rfl
  · simp only [Cf.named, if_true, Cf.mk.injEq, and_true, true_and] at h3'
    obtain ⟨rfl, rfl⟩ := h3'
    simp only [if_true, Bool.and_eq_true, inB_true] at h5
    obtain ⟨⟨rfl, h6⟩, h7⟩ := h5
    obtain ⟨rw, rfl⟩ : ∃ n : Nat, rw = n := ⟨rw.toNat, by omega⟩
    obtain ⟨rk, rfl⟩ : ∃ n : Nat, rk = n := ⟨rk.toNat, by omega⟩
    obtain ⟨fr, rfl⟩ : ∃ n : Nat, fr = n := ⟨fr.toNat, by omega⟩
    obtain ⟨tt, rfl⟩ : ∃ n : Nat, tt = n := ⟨tt.toNat, by omega⟩
    exact .region ix rw rk fr tt rd wt lk (by omega) (by omega) (by omega) (by omega) (by omega)
  · have e : Cf.named ⟨kd, ix, wo, ln, on, rw, fr, tt, rd, wt, rk, lk⟩ = ⟨kd, ix, 0, 0, false, 0, 0, 0, false, false, 0, false⟩ := by
      rcases hk with rfl | rfl <;> rfl
    rw [e] at h3'
    simp only [Cf.mk.injEq, true_and] at h3'
    obtain ⟨rfl, rfl, rfl, rfl, rfl, rfl, rfl, rfl, rfl, rfl⟩ := h3'
    exact .one kd ix hk (by omega)
  · have e : Cf.named ⟨kd, ix, wo, ln, on, rw, fr, tt, rd, wt, rk, lk⟩ = ⟨kd, ix, wo, 0, false, 0, 0, 0, false, false, 0, false⟩ := by
      rcases hk with rfl | rfl <;> rfl
    rw [e] at h3'
    simp only [Cf.mk.injEq, true_and] at h3'
    obtain ⟨rfl, rfl, rfl, rfl, rfl, rfl, rfl, rfl, rfl⟩ := h3'
    rw [if_neg (by omega)] at h5
    simp only [Bool.and_eq_true, inB_true, decide_eq_true_eq] at h5
    obtain ⟨wo, rfl⟩ : ∃ n : Nat, wo = n := ⟨wo.toNat, by omega⟩
    exact .two kd ix wo hk (by omega) (by omega)
  · have e : Cf.named ⟨6, ix, wo, ln, on, rw, fr, tt, rd, wt, rk, lk⟩ = ⟨6, ix, 0, ln, false, 0, 0, 0, false, false, 0, false⟩ := rfl
    rw [e] at h3'
    simp only [Cf.mk.injEq, true_and] at h3'
    obtain ⟨rfl, rfl, rfl, rfl, rfl, rfl, rfl, rfl, rfl⟩ := h3'
    rw [if_neg (by omega)] at h5
    simp only [Bool.and_eq_true, inB_true, decide_eq_true_eq] at h5
    exact .route ix ln (by omega) (by omega) (by omega)
  · have e : Cf.named ⟨7, ix, wo, ln, on, rw, fr, tt, rd, wt, rk, lk⟩ = ⟨7, 0, 0, 0, false, 0, 0, 0, false, false, 0, false⟩ := rfl
    rw [e] at h3'
    simp only [Cf.mk.injEq, true_and] at h3'
    obtain ⟨hx, rfl, rfl, rfl, rfl, rfl, rfl, rfl, rfl, rfl, rfl⟩ := h3'
    rw [hx]
    exact .lock

theorem show_ok (c : Cf) (hf : c.Fits) (hr : c.right = true) (w : World) (hg : Gl w) :
    Calls Tryz.prog 37 #[c.agg] w fun e w' => e = .returned (.tuple #[str c.text, .int .i64 0]) ∧ Only [] w w' := by
  cases Shape.of c hf hr with
  | region ix rw rk fr tt rd wt lk h1 h2 h3 h4 h5 => exact show_1 ix rw fr tt rk rd wt lk h1 h2 h4 h5 h3 _ rfl hr w hg
  | one k ix hk h1 =>
    rcases hk with rfl | rfl
    · exact show_2 ix h1 _ rfl hr w hg
    · exact show_4 ix h1 _ rfl hr w hg
  | two k ix wo hk h1 h2 =>
    rcases hk with rfl | rfl
    · exact show_3 ix wo h1 h2 _ rfl hr w hg
    · exact show_5 ix wo h1 h2 _ rfl hr w hg
  | route ix ln h1 h2 h3 => exact show_6 ix ln h1 h3 _ rfl hr w hg
  | lock => exact show_7 _ rfl hr w hg

set_option maxHeartbeats 1000000 in
theorem show_no (c : Cf) (hr : c.right = false) (w : World) :
    Calls Tryz.prog 37 #[c.agg] w fun e w' => e = .returned (.tuple #[str [], .int .i64 4]) ∧ Only [] w w' := by
  have Hr := Lib.hid (right_any c)
  rw [hr] at Hr
  clear hr
  obtain ⟨kd, ix, wo, ln, on, rw, fr, tt, rd, wt, rk, lk⟩ := c
  go_enter Tryz.func37, Tryz.ntmps37
  go_wp2_with fail
  refine (Hr.out _).mono ?_
  rintro e w1 ⟨rfl, hO1⟩
  go_wp2_with fail
  go_ret2
  exact ⟨rfl, ((Only.refl [] w).alloc _).trans hO1⟩

/-- What Show answers. -/
def Cf.shown (c : Cf) : List UInt8 := if c.right then c.text else []
def Cf.err (c : Cf) : Int := if c.right then 0 else 4
theorem show_any (c : Cf) (hf : c.Fits) (w : World) (hg : Gl w) :
    Calls Tryz.prog 37 #[c.agg] w fun e w' => e = .returned (.tuple #[str c.shown, .int .i64 c.err]) ∧ Only [] w w' := by
  unfold Cf.shown Cf.err
  cases hr : c.right with
  | true => exact show_ok c hf hr w hg
  | false => exact show_no c hr w
end Go.Proofs.YtagmoehjcgjnjaaGreatDoor
