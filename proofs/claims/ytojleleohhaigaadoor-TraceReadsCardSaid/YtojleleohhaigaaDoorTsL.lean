/- The document's side of traces: Lines, walked. Condition: the text is short. -/
import Derived.Test.YtojleleohhaigaaDoorTsW
namespace Go.Proofs.YtojleleohhaigaaDoor
open Go Go.RowKit

/-- A text's lines, parted by byte 10: those that are whole, the one that is under way. -/
def rlGo (acc : List (List UInt8)) (cur : List UInt8) : List UInt8 → List (List UInt8)
  | [] => acc ++ [cur]
  | c :: r => if c = 10 then rlGo (acc ++ [cur]) [] r else rlGo acc (cur ++ [c]) r
def rLines (l : List UInt8) : List (List UInt8) := rlGo [] [] l

theorem row_lt {w : World} {base n g cap : Nat} {xs : List Value} (h : w.ownsRow base 9 1 (.slice (some ⟨g, 0, none⟩) n cap) n xs) : g < w.heap.size := by
  obtain ⟨-, ⟨h2, -⟩ | ⟨g', cap', cur, hv, hb, hh, -⟩⟩ := h
  · simp at h2
  · simp only [Value.slice.injEq, Option.some.injEq, Addr.mk.injEq, and_true, true_and] at hv
    obtain ⟨rfl, rfl⟩ := hv
    exact Blk.lt hh
theorem cut_any (l : List UInt8) (f k : Nat) : (ByteArray.mk l.toArray).extract f k = ⟨((l.drop f).take (k - f)).toArray⟩ := by
  apply ByteArray.ext
  simp only [ByteArray.data_extract]
  apply Array.ext'
  simp [List.take_drop]

set_option maxRecDepth 100000 in
set_option maxHeartbeats 4000000 in
theorem rlines_any (l : List UInt8) (hl : l.length ≤ 1000000) (w : World) :
    Calls Tryd.prog 42 #[str l] w fun e w' => ∃ v, e = .returned v ∧ RowOf w' w.heap.size (rLines l).length (rLines l) v ∧ Only [] w w' := by
  go_enter Tryd.func42, Tryd.ntmps42
  go_wp2
  go_loopw [3, 4, 5] (fun s fr i wr => ∃ (k f g cap : Nat) (acc : List (List UInt8)), i = .int .i64 k ∧ fr = .int .i64 f ∧ s = .slice (some ⟨g, 0, none⟩) acc.length cap ∧ w.heap.size ≤ g ∧ k ≤ l.length + 1 ∧ f ≤ k ∧ acc.length ≤ k ∧
    Hid (if k ≤ l.length then rLines l = rlGo acc ((l.drop f).take (k - f)) (l.drop k) else rLines l = acc) ∧
    wr.ownsRow w.heap.size 9 1 (.slice (some ⟨g, 0, none⟩) acc.length cap) acc.length (acc.map str) ∧ Only [] w wr) (fun _ _ i _ => l.length + 1 - (intOf i).toNat)
  case atStart =>
    refine ⟨0, 0, w.heap.size, 0, [], rfl, rfl, rfl, Nat.le_refl _, by omega, by omega, by simp, Lib.hid (by simp [rLines]), ?_, (Only.refl _ _).alloc _⟩
    exact ⟨rfl, .inr ⟨w.heap.size, 0, #[], rfl, Nat.le_refl _, Blk.new' rfl rfl, Nat.le_refl _, by decide, rfl, rfl⟩⟩
  case round =>
    obtain ⟨k, f, g, cap, acc, rfl, rfl, rfl, hgb, hk, hf, hac, hh, hown, hO⟩ := hrel
    by_cases hkl : k ≤ l.length
    · have hki : (k : Int) ≤ (l.length : Int) := by omega
      have HD : Hid (rLines l = rlGo acc ((l.drop f).take (k - f)) (l.drop k)) := Lib.hid (by have := hh.out; rw [if_pos hkl] at this; exact this)
      clear hh
      have hcut := cut_any l f k
      have hcl : ((l.drop f).take (k - f)).length = k - f := by simp; omega
      have hfi : (f : Int) ≤ (k : Int) := by omega
      have hf0 : (0 : Int) ≤ (f : Int) := by omega
      by_cases hke : k = l.length
      · have HN : Hid (rLines l = acc ++ [(l.drop f).take (k - f)]) := Lib.hid (by rw [HD.out, hke, List.drop_eq_nil_of_le (Nat.le_refl _)]; rfl)
        have hkeb : ((k : Int) == (l.length : Int)) = true := by simp [hke]
        generalize (l.drop f).take (k - f) = cur at hcut HN HD hcl
        have HK := Lib.hid hke
        clear HD hke
        obtain ⟨i0, hi0, hz0, hz1, hz2⟩ := info_parts infoString
        have hgl := row_lt hown
        have hbw : w.heap.size ≤ (wr.alloc (.cells #[str cur] 9)).heap.size := by have := hO.size; simp; omega
        have hcap : acc.length + 1 ≤ 1000002 := by omega
        go_wp2_with (at_builtin; refine wpList_append_own _ rfl _ _ 54 rfl w.heap.size 9 i0 (.string ⟨#[]⟩) 1 16 Tryd.underlying54 hi0 hz0 hz1 hz2 rfl (by decide) _ acc.length _ rfl (row_only hown ((Only.refl [] wr).alloc _) (by simp)) ⟨wr.heap.size, 0, none⟩ 1 1 [str cur] rfl rfl ?c1 ?c2 ?c3 ?c4 hbw ?_)
        case c1 => exact news_blk (Blk.new' rfl rfl) rfl
        case c2 => exact one_cell _
        case c3 => unfold maxLen; omega
        case c4 => omega
        intro v' w4 hown4 hgrow _
        obtain ⟨g2, cap2, rfl, hgb2, hgl2, -⟩ := row_form hown4 (by omega)
        have hOn : Only [g] _ w4 := grown_only hgrow
        have hO4 : Only [] w w4 := (hO.alloc _).trans' hOn (by simp; omega)
        clear hgrow hOn hz0 hz1 hz2 hi0 hown hO hcap
        go_wp2_with fail
        refine ⟨⟨k + 1, k + 1, g2, cap2, acc ++ [cur], by go_num, by go_num, by simp, hgb2, by omega, by omega, by simp; omega, Lib.hid (by rw [if_neg (by have := HK.out; omega)]; exact HN.out), by simpa using hown4, hO4⟩, ?_⟩
        simp [intOf]
        omega
      · have hkl2 : k < l.length := by omega
        have hki2 : (k : Int) < (l.length : Int) := by omega
        have hkeb : ((k : Int) == (l.length : Int)) = false := by simp; omega
        have hdrop : l.drop k = l[k] :: l.drop (k + 1) := List.drop_eq_getElem_cons hkl2
        have htk : (l.drop f).take (k + 1 - f) = (l.drop f).take (k - f) ++ [l[k]] := by
          rw [show k + 1 - f = (k - f) + 1 by omega, List.take_add_one]
          congr 1
          rw [List.getElem?_drop, show f + (k - f) = k by omega, List.getElem?_eq_getElem hkl2]
          rfl
        rw [hdrop] at HD
        have hsz : k < (ByteArray.mk l.toArray).size := by simpa [ByteArray.size] using hkl2
        have hat : (ByteArray.mk l.toArray)[k]'hsz = l[k] := rfl
        generalize l[k] = c at HD hat htk
        by_cases h10 : c = 10
        · subst h10
          have HN : Hid (rLines l = rlGo (acc ++ [(l.drop f).take (k - f)]) [] (l.drop (k + 1))) := Lib.hid (by rw [HD.out, rlGo, if_pos rfl])
          generalize (l.drop f).take (k - f) = cur at hcut HN HD hcl htk
          clear HD hdrop htk hke
          obtain ⟨i0, hi0, hz0, hz1, hz2⟩ := info_parts infoString
          have hgl := row_lt hown
          have hbw : w.heap.size ≤ (wr.alloc (.cells #[str cur] 9)).heap.size := by have := hO.size; simp; omega
          have hcap : acc.length + 1 ≤ 1000002 := by omega
          go_wp2_with (at_builtin; refine wpList_append_own _ rfl _ _ 54 rfl w.heap.size 9 i0 (.string ⟨#[]⟩) 1 16 Tryd.underlying54 hi0 hz0 hz1 hz2 rfl (by decide) _ acc.length _ rfl (row_only hown ((Only.refl [] wr).alloc _) (by simp)) ⟨wr.heap.size, 0, none⟩ 1 1 [str cur] rfl rfl ?c1 ?c2 ?c3 ?c4 hbw ?_)
          case c1 => exact news_blk (Blk.new' rfl rfl) rfl
          case c2 => exact one_cell _
          case c3 => unfold maxLen; omega
          case c4 => omega
          intro v' w4 hown4 hgrow _
          obtain ⟨g2, cap2, rfl, hgb2, hgl2, -⟩ := row_form hown4 (by omega)
          have hOn : Only [g] _ w4 := grown_only hgrow
          have hO4 : Only [] w w4 := (hO.alloc _).trans' hOn (by simp; omega)
          clear hgrow hOn hz0 hz1 hz2 hi0 hown hO hcap
          go_wp2_with fail
          refine ⟨⟨k + 1, k + 1, g2, cap2, acc ++ [cur], by go_num, by go_num, by simp, hgb2, by omega, by omega, by simp; omega, Lib.hid (by rw [if_pos (by omega), Nat.sub_self, List.take_zero]; exact HN.out), by simpa using hown4, hO4⟩, ?_⟩
          simp [intOf]
          omega
        · have HN : Hid (rLines l = rlGo acc ((l.drop f).take (k + 1 - f)) (l.drop (k + 1))) := Lib.hid (by rw [htk, HD.out, rlGo, if_neg h10])
          have hne : ¬ (c.toNat : Int) = 10 := by
            intro h
            exact h10 (UInt8.toNat_inj.1 (by have : (10 : UInt8).toNat = 10 := rfl; omega))
          have hne1 : ((c.toNat : Int) == 10) = false := by simpa using hne
          have HW := Lib.hid hown
          clear HD hdrop htk h10 hne hcut hown hke
          go_wp2_with fail
          refine ⟨⟨k + 1, f, g, cap, acc, by go_num, rfl, rfl, hgb, by omega, by omega, by omega, Lib.hid (by rw [if_pos (by omega)]; exact HN.out), HW.out, hO⟩, ?_⟩
          simp [intOf]
          omega
    · have hki : ¬ (k : Int) ≤ (l.length : Int) := by omega
      have HV : Hid (rLines l = acc) := Lib.hid (by have := hh.out; rw [if_neg hkl] at this; exact this)
      clear hh
      go_wp2
      go_ret
      refine ⟨_, rfl, ?_, hO⟩
      rw [HV.out]
      exact ⟨g, cap, rfl, hgb, hown⟩
end Go.Proofs.YtojleleohhaigaaDoor
