/- The document's side of traces: Words, walked. Condition: the text is short. -/
import Derived.Test.YtojleleohhaigaaDoorTsN
import Derived.LoopTactic
namespace Go.Proofs.YtojleleohhaigaaDoor
open Go Go.RowKit

/-- A text's words, parted by one blank: those that are whole, the one that is under way. -/
def rwGo (acc : List (List UInt8)) (cur : List UInt8) : List UInt8 → List (List UInt8)
  | [] => acc ++ [cur]
  | c :: r => if c = 32 then rwGo (acc ++ [cur]) [] r else rwGo acc (cur ++ [c]) r
def rWords (l : List UInt8) : List (List UInt8) := rwGo [] [] l

theorem row_set {w : World} {base n g cap : Nat} {xs : List (List UInt8)} (h : w.ownsRow base 9 1 (.slice (some ⟨g, 0, none⟩) n cap) n (xs.map str)) (j : Nat) (y : List UInt8) :
    (w.setCell ⟨g, j, none⟩ (str y)).ownsRow base 9 1 (.slice (some ⟨g, 0, none⟩) n cap) n ((xs.set j y).map str) := by
  obtain ⟨h1, ⟨h2, -⟩ | ⟨g', cap', cur, hv, hb, hh, hl, hm, hs, htk⟩⟩ := h
  · simp at h2
  · have hv' := hv
    simp only [Value.slice.injEq, Option.some.injEq, Addr.mk.injEq, and_true, true_and] at hv'
    obtain ⟨rfl, rfl⟩ := hv'
    refine ⟨by simpa using h1, .inr ⟨g, cap, _, rfl, hb, Blk.set_ hh j (str y), hl, hm, by simpa using hs, ?_⟩⟩
    rw [Array.toList_setIfInBounds, List.take_set, htk, List.map_set]
theorem row_frozen {w : World} {base n g cap : Nat} {xs : List Value} (h : w.ownsRow base 9 1 (.slice (some ⟨g, 0, none⟩) n cap) n xs) (j : Nat) : w.frozen? ⟨g, j, none⟩ = false := by
  obtain ⟨h1, ⟨h2, -⟩ | ⟨g', cap', cur, hv, hb, hh, hl, hm, hs, htk⟩⟩ := h
  · simp at h2
  · have hv' := hv
    simp only [Value.slice.injEq, Option.some.injEq, Addr.mk.injEq, and_true, true_and] at hv'
    obtain ⟨rfl, rfl⟩ := hv'
    exact Blk.frozen hh j
theorem set_last (acc : List (List UInt8)) (cur y : List UInt8) : (acc ++ [cur]).set acc.length y = acc ++ [y] := by
  rw [List.set_append_right _ _ (Nat.le_refl _)]
  simp
theorem cut_one (l : List UInt8) (k : Nat) (h : k < l.length) : (ByteArray.mk l.toArray).extract k (k + 1) = ⟨#[l[k]]⟩ := by
  apply ByteArray.ext
  simp only [ByteArray.data_extract]
  apply Array.ext'
  simp [List.take_one, List.head?_drop, h]

set_option maxRecDepth 100000 in
set_option maxHeartbeats 4000000 in
theorem rwords_any (l : List UInt8) (hl : l.length ≤ 1000000) (w : World) :
    Calls Tryd.prog 43 #[str l] w fun e w' => ∃ v, e = .returned v ∧ RowOf w' w.heap.size (rWords l).length (rWords l) v ∧ Only [] w w' := by
  go_enter Tryd.func43, Tryd.ntmps43
  go_wp2
  go_loopw [3, 4] (fun s i wr => ∃ (k g cap : Nat) (acc : List (List UInt8)) (cur : List UInt8), i = .int .i64 k ∧ k ≤ l.length ∧ s = .slice (some ⟨g, 0, none⟩) (acc.length + 1) cap ∧ w.heap.size ≤ g ∧ Hid (rWords l = rwGo acc cur (l.drop k)) ∧ acc.length ≤ k ∧ cur.length ≤ k ∧
    wr.ownsRow w.heap.size 9 1 (.slice (some ⟨g, 0, none⟩) (acc.length + 1) cap) (acc.length + 1) ((acc ++ [cur]).map str) ∧ Only [] w wr) (fun _ i _ => l.length - (intOf i).toNat)
  case atStart =>
    refine ⟨0, _, _, [], [], rfl, by omega, rfl, Nat.le_refl _, rfl, by simp, by simp, ?_, (Only.refl _ _).alloc _⟩
    obtain ⟨g, cap, hv, -, ho⟩ := rowof_one (wx := w.alloc (.cells #[str []] 9)) (base := w.heap.size) (Blk.new' rfl rfl) (Nat.le_refl _)
    injection hv with h1 h2 h3
    injection h1 with h1
    injection h1 with h1
    subst h1
    subst h3
    exact ho
  case round =>
    obtain ⟨k, g, cap, acc, cur, rfl, hk, rfl, hgb, hh, hac, hcu, hown, hO⟩ := hrel
    by_cases hkl : k < l.length
    · have hki : (k : Int) < (l.length : Int) := by omega
      have hdrop : l.drop k = l[k] :: l.drop (k + 1) := List.drop_eq_getElem_cons hkl
      have HD : Hid (rWords l = rwGo acc cur (l[k] :: l.drop (k + 1))) := Lib.hid (by rw [← hdrop]; exact hh.out)
      have hsz : k < (ByteArray.mk l.toArray).size := by simpa [ByteArray.size] using hkl
      have hat : (ByteArray.mk l.toArray)[k]'hsz = l[k] := rfl
      have hcut := cut_one l k hkl
      generalize l[k] = c at HD hat hcut
      have hlt := (row_cells hown).1
      clear hdrop hh
      by_cases h32 : c = 32
      · subst h32
        have HN : Hid (rWords l = rwGo (acc ++ [cur]) [] (l.drop (k + 1))) := Lib.hid (by rw [HD.out]; simp only [rwGo, if_true])
        clear HD hcut
        obtain ⟨i0, hi0, hz0, hz1, hz2⟩ := info_parts infoString
        have hbw : w.heap.size ≤ (wr.alloc (.cells #[str []] 9)).heap.size := by have := hO.size; simp; omega
        have hlt2 := (row_cells hown).2.1
        have hcap : acc.length + 1 + 1 ≤ 1000002 := by omega
        go_wp2_with (at_builtin; refine wpList_append_own _ rfl _ _ 54 rfl w.heap.size 9 i0 (.string ⟨#[]⟩) 1 16 Tryd.underlying54 hi0 hz0 hz1 hz2 rfl (by decide) _ (acc.length + 1) _ rfl (row_only hown ((Only.refl [] wr).alloc _) (by simp)) ⟨wr.heap.size, 0, none⟩ 1 1 [str []] rfl rfl ?c1 ?c2 ?c3 ?c4 hbw ?_)
        case c1 => exact news_blk (Blk.new' rfl rfl) rfl
        case c2 => exact one_cell _
        case c3 => unfold maxLen; omega
        case c4 => omega
        intro v' w4 hown4 hgrow _
        obtain ⟨g2, cap2, rfl, hgb2, hgl2, -⟩ := row_form hown4 (by omega)
        have hOn : Only [g] _ w4 := grown_only hgrow
        have hO4 : Only [] w w4 := (hO.alloc _).trans' hOn (by simp; omega)
        clear hgrow hOn hz0 hz1 hz2 hi0 hown hO hlt2 hcap
        go_wp2_with fail
        refine ⟨⟨k + 1, g2, cap2, acc ++ [cur], [], by go_num, by omega, by simp, hgb2, HN, by simp; omega, by simp, ?_, hO4⟩, ?_⟩
        · simpa using hown4
        · simp [intOf]
          omega
      · have HN : Hid (rWords l = rwGo acc (cur ++ [c]) (l.drop (k + 1))) := Lib.hid (by rw [HD.out]; simp only [rwGo, if_neg h32])
        have hne : ¬ (c.toNat : Int) = 32 := by
          intro h
          exact h32 (UInt8.toNat_inj.1 (by have : (32 : UInt8).toNat = 32 := rfl; omega))
        have hne1 : ((c.toNat : Int) == 32) = false := by simpa using hne
        clear HD h32 hne
        have h1 : (k : Int) + 1 ≤ (l.length : Int) := by omega
        have h2 : (k : Int) ≤ (k : Int) + 1 := by omega
        have h3 : ((k : Int) + 1).toNat = k + 1 := by omega
        have h4 : ((acc.length : Int) + 1 - 1).toNat = acc.length := by omega
        have h5 : IntKind.i64.wrap ((k : Int) + 1) = (k : Int) + 1 := IntWalk.i64_in _ (by omega)
        have hcl := (row_cells hown).2.1
        have a1 : (acc.length : Int) < (acc.length : Int) + 1 := by omega
        have a2 : (0 : Int) ≤ (acc.length : Int) := by omega
        have a3 : acc.length < acc.length + 1 := by omega
        have a4 : (acc.length : Int) ≤ 1000000 := by omega
        have h6 : IntKind.i64.wrap (acc.length : Int) = (acc.length : Int) := IntWalk.i64_in _ (by omega)
        have a5 : ¬ 9223372036854775807 < cur.length + 1 := by omega
        go_wp2_with fail
        refine wp_region_TT 17 (Only [] wr) (by kernel_rfl) (by kernel_rfl) ((Only.refl _ _).drew) ?_
        simp only [List.take_succ_cons, List.take_zero, List.drop_succ_cons, List.drop_zero]
        repeat (
          refine wpT_step ?_ (stD rfl (fun w' hD => ?_)) ?_
          rotate_left
          · have hr := (row_cells (row_only hown hD (by simp))).2.2.2 acc.length cur (by simp)
            go_simp
            (refine ⟨?_, hD⟩; rfl)
          simp only [Act.put, List.setIfInBounds_toArray, List.set_cons_succ, List.set_cons_zero, Nat.reduceAdd])
        refine wpT_nil ?_
        intro w6 hD
        have hown6 := row_only hown hD (by simp)
        have hr := (row_cells hown6).2.2.2 acc.length cur (by simp)
        have hf := row_frozen hown6 acc.length
        have hs1 := row_set hown6 acc.length (cur ++ [c])
        rw [set_last] at hs1
        have hO7 : Only [] w (w6.setCell ⟨g, acc.length, none⟩ (str (cur ++ [c]))) := (hO.trans hD).trans' (Only.set1 (Only.refl [g] w6) (b := g) (by simp) acc.length (str (cur ++ [c]))) (by intro x hx; simp at hx; omega)
        have he : Value.string (ByteArray.mk cur.toArray ++ ByteArray.mk #[c]) = str (cur ++ [c]) := str_app cur [c]
        have HS := Lib.hid (And.intro hs1 hO7)
        clear hs1 hO7 hown6 hD hown hO
        rw [he]
        clear he
        go_wp2_with fail
        refine ⟨⟨k + 1, g, cap, acc, cur ++ [c], by go_num, by omega, rfl, hgb, HN, by omega, by simp; omega, HS.out.1, HS.out.2⟩, ?_⟩
        simp [intOf]
        omega
    · have hkk : k = l.length := by omega
      have hki : ¬ (k : Int) < (l.length : Int) := by omega
      have HV : Hid (rWords l = acc ++ [cur]) := Lib.hid (by rw [hh.out, List.drop_eq_nil_of_le (by omega)]; rfl)
      clear hh hkk
      go_wp2
      go_ret
      refine ⟨_, rfl, ?_, hO⟩
      rw [HV.out]
      exact ⟨g, cap, by simp, hgb, by simpa using hown⟩
end Go.Proofs.YtojleleohhaigaaDoor
