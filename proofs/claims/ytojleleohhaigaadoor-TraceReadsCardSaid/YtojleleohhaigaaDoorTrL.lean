/- A range over strings.Lines, whatever is done with the lines: the iterator walked, and the law for the statement. Condition: the text is short. -/
import Derived.Test.YtojleleohhaigaaDoorCfGa
import Derived.Test.YtojleleohhaigaaDoorProg
import Derived.RangeFuncRecord
import Derived.RangeFuncCalls
import Derived.RangeFuncLeaves
import Derived.Lib.Bytealg
import Derived.Lib.Hide
import Derived.LoopTactic
import Derived.LoopIn
import Derived.Deep.CutBlock
import Derived.OwnWalkIn
import Derived.TacticsInMore
import Derived.BigRegion
import Derived.Handy
namespace Go.Proofs.YtojleleohhaigaaDoor
open Go Go.RowKit
attribute [local go_sem] Oper.semAt_some

/-- A text's first line, its end with it, and what is left. -/
def cutN : List UInt8 → List UInt8 × List UInt8
  | [] => ([], [])
  | c :: r => if c = 10 then ([10], r) else (c :: (cutN r).1, (cutN r).2)
theorem cutN_snd (s : List UInt8) : (cutN s).2.length ≤ s.length := by
  induction s with
  | nil => simp [cutN]
  | cons c r ih =>
    unfold cutN
    split
    · simp
    · simp only [List.length_cons]; omega
theorem cutN_lt {c : UInt8} {r : List UInt8} : (cutN (c :: r)).2.length < (c :: r).length := by
  unfold cutN
  split
  · simp
  · have := cutN_snd r; simp only [List.length_cons]; omega
/-- A text's lines, their ends with them. -/
def linesP : List UInt8 → List (List UInt8)
  | [] => []
  | c :: r => (cutN (c :: r)).1 :: linesP (cutN (c :: r)).2
termination_by s => s.length
decreasing_by exact cutN_lt
theorem linesP_nil : linesP [] = [] := by rw [linesP]
theorem linesP_cons {s : List UInt8} (h : s ≠ []) : linesP s = (cutN s).1 :: linesP (cutN s).2 := by
  cases s with
  | nil => exact absurd rfl h
  | cons c r => rw [linesP]

theorem cut_yes : ∀ (s : List UInt8), 0 ≤ Lib.indexByte s 10 → (Lib.indexByte s 10).toNat < s.length ∧ cutN s = (s.take ((Lib.indexByte s 10).toNat + 1), s.drop ((Lib.indexByte s 10).toNat + 1))
  | [], h => by simp [Lib.indexByte] at h
  | c :: r, h => by
    have ih := cut_yes r
    unfold Lib.indexByte at h ⊢
    unfold cutN
    have hg := Lib.indexByte_ge r 10
    by_cases hc : c = 10
    · subst hc; simp
    · have hc' : (c == 10) = false := by simpa using hc
      simp only [hc', hc, if_false, Bool.false_eq_true] at h ⊢
      by_cases h1 : Lib.indexByte r 10 = -1
      · simp [h1] at h
      · have h1' : (Lib.indexByte r 10 == -1) = false := by simpa using h1
        simp only [h1', if_false, Bool.false_eq_true] at h ⊢
        obtain ⟨i1, i2⟩ := ih (by omega)
        have e : (Lib.indexByte r 10 + 1).toNat = (Lib.indexByte r 10).toNat + 1 := by omega
        rw [e, i2]
        exact ⟨by simp only [List.length_cons]; omega, by simp⟩
theorem cut_no : ∀ (s : List UInt8), Lib.indexByte s 10 < 0 → cutN s = (s, [])
  | [], _ => rfl
  | c :: r, h => by
    have ih := cut_no r
    unfold Lib.indexByte at h
    unfold cutN
    have hg := Lib.indexByte_ge r 10
    by_cases hc : c = 10
    · subst hc; simp at h
    · have hc' : (c == 10) = false := by simpa using hc
      simp only [hc', hc, if_false, Bool.false_eq_true] at h ⊢
      by_cases h1 : Lib.indexByte r 10 = -1
      · rw [ih (by omega)]
      · have h1' : (Lib.indexByte r 10 == -1) = false := by simpa using h1
        simp only [h1', if_false, Bool.false_eq_true] at h
        omega

theorem ext_take (l : List UInt8) (k : Nat) : (ByteArray.mk l.toArray).extract 0 k = ⟨(l.take k).toArray⟩ := by
  apply ByteArray.ext
  simp only [ByteArray.data_extract]
  apply Array.ext'
  simp
theorem ext_drop (l : List UInt8) (k n : Nat) (hn : n = l.length) : (ByteArray.mk l.toArray).extract k n = ⟨(l.drop k).toArray⟩ := by
  subst hn
  apply ByteArray.ext
  simp only [ByteArray.data_extract]
  apply Array.ext'
  simp
  rw [← List.length_drop, List.take_length]

/-- What strings.IndexByte is asked for. -/
def IByte : Prop := ∀ (s : ByteArray) (c : Int) (w : World), Calls Tryd.prog 52 #[.string s, .int .u8 c] w fun e w' => e = .returned (.int .i64 (Lib.indexByte s.data.toList c.toNat.toUInt8)) ∧ w' = w

/-- How long the text in a cell is. -/
def cellLen (w : World) (b : Nat) : Nat := match w.cell? ⟨b, 0, none⟩ with
  | some (.string s) => s.size
  | _ => 0
theorem cellLen_blk {w : World} {b : Nat} {l : List UInt8} (h : Blk w b 9 #[.string ⟨l.toArray⟩]) : cellLen w b = l.length := by
  unfold cellLen
  rw [h.cell 0]
  simp [ByteArray.size]

set_option maxRecDepth 100000 in
set_option maxHeartbeats 2000000 in
theorem lines1_any (hIB : IByte) (B l : Nat) (s : List UInt8) (hs : s.length ≤ 1000000) (J : List (List UInt8) → World → Prop)
    (hJset : ∀ pre W v, J pre W → J pre (W.setCell ⟨B, 0, none⟩ v)) (hJd : ∀ pre W, J pre W → J pre W.drew)
    (hY : ∀ pre x post W, linesP s = pre ++ x :: post → J pre W → YieldAt Fence.wide 1 Tryd.prog l #[.string ⟨x.toArray⟩] W fun e W' => e = .returned (.bool true) ∧ J (pre ++ [x]) W' ∧ W'.heap[B]? = W.heap[B]?)
    (w : World) (hB : Blk w B 9 #[.string ⟨s.toArray⟩]) (h0 : J [] w) :
    Calls Tryd.prog 51 #[.func (.yield l) #[] #[], .pointer (some ⟨B, 0, none⟩)] w fun e w' => (∃ v, e = .returned v) ∧ J (linesP s) w' := by
  go_enter Tryd.func51, Tryd.ntmps51
  go_wp2
  go_loopw [3] (fun _ wr => ∃ (pre : List (List UInt8)) (rest : List UInt8), Hid (linesP s = pre ++ linesP rest) ∧ rest.length ≤ s.length ∧ Blk wr B 9 #[.string ⟨rest.toArray⟩] ∧ J pre wr) (fun _ wr => cellLen wr B)
  case atStart => exact ⟨[], s, rfl, Nat.le_refl _, hB, h0⟩
  case round =>
    obtain ⟨pre, rest, HL, hrl, hBr, hJ⟩ := hrel
    have c0 : wr.cell? ⟨B, 0, none⟩ = some (.string ⟨rest.toArray⟩) := hBr.cell 0
    have f0 := hBr.frozen 0
    by_cases hne : rest = []
    · subst hne
      have HV : Hid (linesP s = pre) := Lib.hid (by rw [HL.out, linesP_nil, List.append_nil])
      clear HL
      go_wp2
      go_returns
      exact ⟨⟨_, rfl⟩, by rw [HV.out]; exact hJ⟩
    · have hpos : (0 : Int) < (rest.length : Int) := by have := List.length_pos_iff.2 hne; omega
      have HL2 : Hid (linesP s = pre ++ (cutN rest).1 :: linesP (cutN rest).2) := Lib.hid (by rw [HL.out, linesP_cons hne])
      have hcl : cellLen wr B = rest.length := cellLen_blk hBr
      have hdl : (cutN rest).2.length < rest.length := by
        cases rest with
        | nil => exact absurd rfl hne
        | cons c r => exact cutN_lt
      have hib : ∀ W, Calls Tryd.prog 52 #[.string ⟨rest.toArray⟩, .int .u8 10] W fun e w' => e = .returned (.int .i64 (Lib.indexByte rest 10)) ∧ w' = W := hIB ⟨rest.toArray⟩ 10
      clear HL
      by_cases hq : 0 ≤ Lib.indexByte rest 10
      · obtain ⟨hk, hcut⟩ := cut_yes rest hq
        obtain ⟨k, hkq⟩ : ∃ k : Nat, Lib.indexByte rest 10 = k := ⟨(Lib.indexByte rest 10).toNat, by omega⟩
        rw [hkq] at hib hk hcut
        rw [Int.toNat_natCast] at hk hcut
        rw [hcut] at HL2 hdl
        dsimp only at HL2 hdl
        clear hkq hq hcut
        have Hib := Lib.hid hib
        clear hib
        have e1 : IntKind.i64.wrap ((k : Int) + 1) = (k : Int) + 1 := IntWalk.i64_in _ (by omega)
        have e2 : (ByteArray.mk rest.toArray).extract 0 (k + 1) = ⟨(rest.take (k + 1)).toArray⟩ := ext_take _ _
        have e3 : (ByteArray.mk rest.toArray).extract (k + 1) rest.length = ⟨(rest.drop (k + 1)).toArray⟩ := ext_drop _ _ _ rfl
        have e4 : (k : Int) + 1 ≤ (rest.length : Int) := by omega
        have e5 : ((k : Int) + 1).toNat = k + 1 := by omega
        go_upto_region 4 with (go_at_call 52; refine (Hib.out _).mono ?_; rintro e w' ⟨rfl, rfl⟩)
        have hlt := hBr.lt
        have hrB : (w'.setCell ⟨B, 0, none⟩ (.string ⟨(rest.drop (k + 1)).toArray⟩)).drew.heap[B]? = some (.cells #[.string ⟨(rest.drop (k + 1)).toArray⟩] 9 (0, 0)) := Blk.set_ hBr 0 _
        have HJ : Hid (J pre (w'.setCell ⟨B, 0, none⟩ (.string ⟨(rest.drop (k + 1)).toArray⟩)).drew) := Lib.hid (hJd _ _ (hJset _ _ _ hJ))
        clear hJ
        refine wp_region_TT 9 (fun x => x = w'.drew) (by kernel_rfl) (by kernel_rfl) rfl ?_
        simp only [List.take_succ_cons, List.take_zero, List.drop_succ_cons, List.drop_zero]
        repeat (
          refine wpT_step ?_ (stD rfl (fun w1 hD => ?_)) ?_
          rotate_left
          · subst hD
            go_simp
            (refine ⟨?_, rfl⟩; rfl)
          simp only [Act.put, List.setIfInBounds_toArray, List.set_cons_succ, List.set_cons_zero, Nat.reduceAdd])
        refine wpT_nil ?_
        intro w6 hD
        subst hD
        go_upto_region 6 with fail
        obtain ⟨fn, tmps, assign, body, hy, hR⟩ := hY pre (rest.take (k + 1)) (linesP (rest.drop (k + 1))) _ HL2.out HJ.out
        refine (wpIn_wide (n := 2)).1 ?_
        gi_wp2
        refine hR.mono ?_
        rintro e W3 ⟨rfl, hJ3, hB3⟩
        gi_wp2
        go_wp2
        go_roundw
        case rel => exact ⟨pre ++ [rest.take (k + 1)], rest.drop (k + 1), Lib.hid (by rw [HL2.out]; simp), by omega, hB3.trans hrB, hJ3⟩
        case measure => rw [hcl, cellLen_blk (show Blk W3 B _ _ from hB3.trans hrB)]; exact hdl
      · have hcut := cut_no rest (by omega)
        rw [hcut] at HL2 hdl
        dsimp only at HL2 hdl
        have hn : ¬ (0 : Int) ≤ Lib.indexByte rest 10 := hq
        generalize Lib.indexByte rest 10 = q at hib hn
        clear hq hcut
        have Hib := Lib.hid hib
        clear hib
        have hlt := hBr.lt
        go_upto_region 5 with (go_at_call 52; refine (Hib.out _).mono ?_; rintro e w' ⟨rfl, rfl⟩)
        have hrB : (w'.setCell ⟨B, 0, none⟩ (.string ⟨#[]⟩)).heap[B]? = some (.cells #[.string ⟨#[]⟩] 9 (0, 0)) := Blk.set_ hBr 0 _
        have HJ : Hid (J pre (w'.setCell ⟨B, 0, none⟩ (.string ⟨#[]⟩))) := Lib.hid (hJset _ _ _ hJ)
        clear hJ
        go_upto_region 6 with fail
        obtain ⟨fn, tmps, assign, body, hy, hR⟩ := hY pre rest (linesP []) _ HL2.out HJ.out
        refine (wpIn_wide (n := 2)).1 ?_
        gi_wp2
        refine hR.mono ?_
        rintro e W3 ⟨rfl, hJ3, hB3⟩
        gi_wp2
        go_wp2
        go_roundw
        case rel => exact ⟨pre ++ [rest], [], Lib.hid (by rw [HL2.out]; simp), by simp, hB3.trans hrB, hJ3⟩
        case measure => rw [hcl, cellLen_blk (show Blk W3 B _ _ from hB3.trans hrB)]; exact hdl
end Go.Proofs.YtojleleohhaigaaDoor
