/- The document's side of traces: Read, walked. Condition: the text is short. -/
import Derived.Test.YtojleleohhaigaaDoorTsS
import Derived.Test.YtojleleohhaigaaDoorTsP
import Derived.Test.YtojleleohhaigaaDoorStageN
import Derived.Deep.DeepCutAuto
namespace Go.Proofs.YtojleleohhaigaaDoor
open Go Go.RowKit

/-- A row of words with so many empty ones behind. -/
def pad (ws : List (List UInt8)) (n : Nat) : List (List UInt8) := ws ++ List.replicate n []
theorem pad_get (ws : List (List UInt8)) (n k : Nat) (h : k < ws.length + n) : (pad ws n)[k]? = some (wAt ws k) := by
  unfold pad wAt
  by_cases hk : k < ws.length
  · rw [List.getElem?_append_left hk, List.getElem?_eq_getElem hk, List.getD_eq_getElem?_getD, List.getElem?_eq_getElem hk]
    rfl
  · rw [List.getElem?_append_right (by omega), List.getElem?_replicate, if_pos (by omega), List.getD_eq_getElem?_getD, List.getElem?_eq_none (by omega)]
    rfl
theorem u32_wrap (n : Int) : IntKind.u32.wrap n = mod32 n := by
  rw [IntKind.wrap_u32]
  rfl
def sliceLen : Value → Nat
  | .slice _ n _ => n
  | _ => 0
/-- What the words read as, in all later worlds. -/
def Padded (wr : World) (g : Nat) (ws : List (List UInt8)) : Prop := ∀ wx, Only [] wr wx → ∀ k, k < 4 → wx.cell? ⟨g, k, none⟩ = some (str (wAt ws k))
theorem nonE_take : ∀ (L : List (List UInt8)), nonE L = L.take (nonE L).length
  | [] => rfl
  | x :: r => by
    unfold nonE
    split
    · rfl
    · rw [List.length_cons, List.take_succ_cons, ← nonE_take r]
theorem nonE_in : ∀ (L : List (List UInt8)) (k : Nat) (x : List UInt8), k < (nonE L).length → L[k]? = some x → x ≠ []
  | [], k, x, h, _ => by simp [nonE] at h
  | y :: r, 0, x, h, hx => by
    simp at hx
    subst hx
    intro e
    simp [nonE, e] at h
  | y :: r, k + 1, x, h, hx => by
    unfold nonE at h
    split at h
    · simp at h
    · exact nonE_in r k x (by simpa using h) (by simpa using hx)
theorem nonE_end : ∀ (L : List (List UInt8)), L[(nonE L).length]? = none ∨ L[(nonE L).length]? = some []
  | [] => .inl rfl
  | y :: r => by
    unfold nonE
    split
    · rename_i h
      exact .inr (by simp [h])
    · simpa using nonE_end r
abbrev rLineE (x : List UInt8) : Ev := rEv (rWords x)
/-- How the document's Read ends. -/
theorem read_ends (s : List UInt8) : (showE (rParse s) = 0 ∧ shown (rParse s) = s ∧ readE s = 0 ∧ readL s = rParse s) ∨ (showE (rParse s) = 0 ∧ (shown (rParse s) == s) = false ∧ readE s = 8 ∧ readL s = []) ∨ (showE (rParse s) = 4 ∧ readE s = 8 ∧ readL s = []) := by
  by_cases h : readE s = 0
  · obtain ⟨h1, h2, h3⟩ := read_yes h
    refine .inl ⟨by rw [h1]; simp [showE, h2], by rw [h1]; simp [shown, h2, h3], h, h1.symm⟩
  · obtain ⟨h1, h2⟩ := readL_no h
    by_cases ho : okT (rParse s) = true
    · have := read_not h ho
      exact .inr (.inl ⟨by simp [showE, ho], by simpa [shown, ho] using this, h2, h1⟩)
    · exact .inr (.inr ⟨by simp [showE, ho], h2, h1⟩)

set_option maxRecDepth 100000 in
set_option maxHeartbeats 8000000 in
theorem rread_ev (s : List UInt8) (hs : s.length ≤ 4000) (w : World) :
    Calls Tryd.prog 17 #[str s] w fun e w' => ∃ v, e = .returned (.tuple #[v, .int .i64 (readE s)]) ∧ EvS w' v (readL s) ∧ Only [] w w' := by
  have HEnd := Lib.hid (read_ends s)
  have hLc := rLines_count s
  have HLs := Lib.hid (rLines_short s)
  have HM := Lib.hid (nonE_take (rLines s))
  have HI := Lib.hid (nonE_in (rLines s))
  have HE := Lib.hid (nonE_end (rLines s))
  have HP : Hid (rParse s = ((rLines s).take (nonE (rLines s)).length).map rLineE) := Lib.hid (by unfold rParse; rw [← nonE_take])
  have HF := Lib.hid (rParse_fits s)
  have hMn := nonE_count (rLines s)
  go_enter Tryd.func17, Tryd.ntmps17
  go_wp2_with fail
  refine (rlines_any s (by omega) _).mono ?_
  rintro e w1 ⟨v, rfl, ⟨gl, capl, rfl, hglb, hownL⟩, hO1⟩
  generalize rLines s = L at *
  generalize hM : (nonE L).length = M at *
  have hcl := (row_cells hownL).2
  have hgl := (row_cells hownL).1
  go_wp2_with fail
  go_loopw [4, 6] (fun l i wr => ∃ k : Nat, i = .int .i64 k ∧ k ≤ M ∧ wr.ownsRow w1.heap.size 44 5 l k (flat ((L.take k).map rLineE)) ∧ Only [] w1 wr) (fun _ i _ => M - (intOf i).toNat)
  case atStart => exact ⟨0, rfl, by omega, ⟨rfl, .inl ⟨rfl, rfl⟩⟩, Only.refl _ _⟩
  case round =>
    obtain ⟨k, rfl, hk, hown, hO⟩ := hrel
    by_cases hkM : k < M
    · have hkl : k < L.length := by omega
      have hki : (k : Int) < (L.length : Int) := by omega
      have hk0 : (0 : Int) ≤ (k : Int) := by omega
      have ek : L[k]? = some L[k] := by simp
      have hne := HI.out k L[k] (by omega) ek
      have hxl := HLs.out L[k] (by simp)
      have hcell : wr.cell? ⟨gl, k, none⟩ = some (str L[k]) := (row_cells (row_only hownL hO (by simp))).2.2.2 k _ ek
      have htk : (L.take (k + 1)).map rLineE = (L.take k).map rLineE ++ [rLineE L[k]] := by
        rw [show L.take (k + 1) = L.take k ++ [L[k]] by simp, List.map_append]
        rfl
      generalize L[k] = x at *
      have HT := Lib.hid htk
      have hneb : (x == []) = false := by simpa using hne
      clear ek htk hne
      have hwsc := rWords_count x
      have HWs := Lib.hid (rWords_short x)
      go_wp2_with fail
      refine (rwords_any x (by omega) _).mono ?_
      rintro e w2 ⟨v, rfl, ⟨g, cap, rfl, hgb, hownW⟩, hO2⟩
      have hOb := hO.trans hO2
      have hownE := own_only0 hown hO2
      have hcap0 := (row_cells hownW).2.1
      have HL : Hid (∀ k, (wAt (rWords x) k).length ≤ 4000) := Lib.hid (fun k => Nat.le_trans (rWords_len x k) (by omega))
      have hrE : Hid (rLineE x = rEv (rWords x)) := rfl
      generalize rLineE x = X at HT hrE
      generalize rWords x = ws at *
      go_wp2_with fail
      have HOWN := Lib.hid hown
      have HOO := Lib.hid hO
      clear hown hownE hOb
      obtain ⟨wr0, hwr0⟩ : ∃ x, x = wr := ⟨_, rfl⟩
      subst hwr0
      go_loopw [7] (fun v wx => ∃ (g cap n : Nat), v = .slice (some ⟨g, 0, none⟩) (ws.length + n) cap ∧ wr0.heap.size ≤ g ∧ (n = 0 ∨ ws.length + n ≤ 4) ∧
        wx.ownsRow wr0.heap.size 9 1 (.slice (some ⟨g, 0, none⟩) (ws.length + n) cap) (ws.length + n) ((pad ws n).map str) ∧ Only [] wr0 wx) (fun v _ => 4 - sliceLen v)
      case atStart => exact ⟨g, cap, 0, rfl, hgb, .inl rfl, by simpa [pad] using hownW, hO2⟩
      case round =>
        clear hownW hO2 hgb
        obtain ⟨g, cap, n, rfl, hgb, hn4, hown, hOx⟩ := hrel
        by_cases hlt : ws.length + n < 4
        · have hlti : ((ws.length + n : Nat) : Int) < 4 := by omega
          have hlti2 : (ws.length : Int) + (n : Int) < 4 := by omega
          obtain ⟨i0, hi0, hz0, hz1, hz2⟩ := info_parts infoString
          have hgl2 := row_lt hown
          have hbw : wr0.heap.size ≤ (wr.alloc (.cells #[str []] 9)).heap.size := by have := hOx.size; simp; omega
          go_wp2_with (at_builtin; refine wpList_append_own _ rfl _ _ 54 rfl wr0.heap.size 9 i0 (.string ⟨#[]⟩) 1 16 Tryd.underlying54 hi0 hz0 hz1 hz2 rfl (by decide) _ (ws.length + n) _ rfl (row_only hown ((Only.refl [] wr).alloc _) (by simp)) ⟨wr.heap.size, 0, none⟩ 1 1 [str []] rfl rfl ?c1 ?c2 ?c3 ?c4 hbw ?_)
          case c1 => exact news_blk (Blk.new' rfl rfl) rfl
          case c2 => exact one_cell _
          case c3 => unfold maxLen; omega
          case c4 => omega
          intro v' w4 hown4 hgrow _
          obtain ⟨g2, cap2, rfl, hgb2, hgl3, -⟩ := row_form hown4 (by omega)
          have hOn : Only [g] _ w4 := grown_only hgrow
          have hO4 : Only [] wr0 w4 := (hOx.alloc _).trans' hOn (by simp; omega)
          clear hgrow hOn hz0 hz1 hz2 hi0 hown hOx
          go_wp2_with fail
          refine ⟨⟨g2, cap2, n + 1, rfl, hgb2, .inr (by omega), ?_, hO4⟩, ?_⟩
          · have e1 : (pad ws (n + 1)).map str = (pad ws n).map str ++ [str []] := by
              unfold pad
              rw [List.replicate_succ', ← List.append_assoc, List.map_append (l₁ := ws ++ List.replicate n [])]
              rfl
            rw [e1]
            simpa [Nat.add_assoc] using hown4
          · simp [sliceLen]
            omega
        · have hlti : ¬ ((ws.length + n : Nat) : Int) < 4 := by omega
          have hlti2 : ¬ (ws.length : Int) + (n : Int) < 4 := by omega
          have HG : Hid (Padded wr g ws) := Lib.hid (by
            intro wx hx k hk
            refine (row_cells (row_only hown hx (by simp))).2.2.2 k _ ?_
            exact pad_get ws n k (by omega))
          have hgl2 := row_lt hown
          have hcap := (row_cells hown).2.1
          have hlen4 : (4 : Int) ≤ (ws.length : Int) + (n : Int) := by omega
          have hlen4n : 4 ≤ ws.length + n := by omega
          clear hown hlt
          obtain ⟨N, hN⟩ : ∃ N, ws.length + n = N := ⟨_, rfl⟩
          have hNi : (ws.length : Int) + (n : Int) = (N : Int) := by omega
          rw [hN] at hcap hlen4n
          rw [hNi] at hlen4
          have i0 : (0 : Int) < (N : Int) := by omega
          have n0 : 0 < N := by omega
          have i1 : (1 : Int) < (N : Int) := by omega
          have i2 : (2 : Int) < (N : Int) := by omega
          have i3 : (3 : Int) < (N : Int) := by omega
          have HA := Lib.hid (rof_10_4 (wAt ws 0) (by have := HL.out 0; omega))
          have HB := Lib.hid (rof_10_1 (wAt ws 2) (by have := HL.out 2; omega))
          have HX0 : Hid (X = if wAt ws 1 = [114, 101, 112, 108, 121] then ⟨rOf 10 4 (wAt ws 0), 1, mod32 (rOf 16 8 (wAt ws 2)), rOf 10 2 (wAt ws 3), 0⟩ else ⟨rOf 10 4 (wAt ws 0), 2, 0, 0, rOf 10 1 (wAt ws 2)⟩) := Lib.hid hrE.out
          clear hrE
          generalize rOf 10 4 (wAt ws 0) = o4 at *
          generalize rOf 10 1 (wAt ws 2) = o1 at *
          go_wp2_with fail
          refine wp_region_new 9 44 #[.int .i64 0, .int .i64 0, .int .u32 0, .int .i64 0, .int .i64 0] #[.int .i64 o4, .int .i64 2, .int .u32 0, .int .i64 0, .int .i64 o1]
            (fun i => match i with
              | 0 => .slice (some ⟨g, 0, none⟩) N cap
              | 1 => .pointer (some ⟨g, 0, none⟩)
              | 2 => str (wAt ws 0)
              | 3 => .int .i64 o4
              | 4 => .slice (some ⟨g, 0, none⟩) N cap
              | 5 => .pointer (some ⟨g, 2, none⟩)
              | 6 => str (wAt ws 2)
              | 7 => .int .i64 o1
              | 8 => .agg #[.int .i64 o4, .int .i64 2, .int .u32 0, .int .i64 0, .int .i64 o1]
              | _ => undef) (by kernel_rfl) rfl (by kernel_rfl) (by intro o ho; simp only [List.mem_cons, List.not_mem_nil, or_false] at ho; rcases ho with rfl | rfl | rfl | rfl | rfl | rfl | rfl | rfl | rfl | rfl | rfl <;> rfl) (fun i => match i with | 0 => u37 | 1 => u38 | 2 => u39 | 3 => u40 | 4 => u41 | 5 => u42 | 6 => u43 | 7 => u44 | 8 => u45 | _ => u8) ?ha ?put ?head ?alloc ?store ?fin
          case ha => simp only [mkF, Act.put, List.setIfInBounds_toArray, List.set_cons_succ, List.set_cons_zero, List.take_succ_cons, List.take_zero, Nat.reduceMul, Nat.zero_add, Nat.reduceAdd]
          case put =>
            intro i o hi ho f v
            have : i = 0 ∨ i = 1 ∨ i = 2 ∨ i = 3 ∨ i = 4 ∨ i = 5 ∨ i = 6 ∨ i = 7 ∨ i = 8 ∨ i = 9 := by omega
            rcases this with rfl | rfl | rfl | rfl | rfl | rfl | rfl | rfl | rfl | rfl <;> (cases ho; simp [mkF, Act.put])
          case head =>
            intro i o hi ho f w' hd hO
            have : i = 0 ∨ i = 1 ∨ i = 2 ∨ i = 3 ∨ i = 4 ∨ i = 5 ∨ i = 6 ∨ i = 7 ∨ i = 8 := by omega
            rcases this with rfl | rfl | rfl | rfl | rfl | rfl | rfl | rfl | rfl <;>
            · cases ho
              simp [Region.binds] at hd
              simp only [mkF, Act.put, List.setIfInBounds_toArray, List.set_cons_succ, List.set_cons_zero, List.take_succ_cons, List.take_zero, Nat.reduceMul, Nat.zero_add, Nat.reduceAdd]
              have p0 := HG.out w' hO 0 (by omega)
              have p2 := HG.out w' hO 2 (by omega)
              try simp only [hd]
              unfold Oper.wp
              go_simp
              first
                | exact Only.refl _ _
                | exact ⟨rfl, Only.refl _ _⟩
                | (change Calls _ _ _ _ _
                   with_reducible refine (HA.out w').mono ?_
                   rintro e w'' ⟨rfl, h⟩
                   exact ⟨rfl, h⟩)
                | (change Calls _ _ _ _ _
                   with_reducible refine (HB.out w').mono ?_
                   rintro e w'' ⟨rfl, h⟩
                   exact ⟨rfl, h⟩)
          case alloc =>
            intro o ho f w'
            cases ho
            simp only [mkF, Act.put, List.setIfInBounds_toArray, List.set_cons_succ, List.set_cons_zero, List.take_succ_cons, List.take_zero, Nat.reduceMul, Nat.zero_add, Nat.reduceAdd]
            go_simp
          case store =>
            intro o ho
            cases ho
            refine ⟨⟨rfl, ?_⟩, ?_⟩
            · intro i hi
              have : i = 0 ∨ i = 1 ∨ i = 2 ∨ i = 3 ∨ i = 4 ∨ i = 5 ∨ i = 6 ∨ i = 7 ∨ i = 8 ∨ i = 9 := by omega
              rcases this with rfl | rfl | rfl | rfl | rfl | rfl | rfl | rfl | rfl | rfl <;> simp [Region.binds]
            · intro f b w' hf hb hB
              have h8 := hf 8 (by omega)
              obtain ⟨d0, d1, d2, d3, d4, df⟩ := Blk.ev (x := ⟨0, 0, 0, 0, 0⟩) hB
              simp only [mkF, Act.put, List.setIfInBounds_toArray, List.set_cons_succ, List.set_cons_zero, List.take_succ_cons, List.take_zero, Nat.reduceMul, Nat.zero_add, Nat.reduceAdd]
              simp only at h8 d0 d1 d2 d3 d4
              simp only [h8, hb]
              go_simp
              refine ⟨?_, ?_⟩
              · exact (((((hB.set_ 0 _).set_ 1 _).set_ 2 _).set_ 3 _).set_ 4 _)
              · exact ((((((Only.refl _ _).set1 (by simp) 0 _).set1 (by simp) 1 _).set1 (by simp) 2 _).set1 (by simp) 3 _).set1 (by simp) 4 _)
          case fin =>
            intro f b w3 hf hb hbl hB hO3
            have f0 := hf 0 (by omega)
            have f1 := hf 1 (by omega)
            have f2 := hf 2 (by omega)
            have f3 := hf 3 (by omega)
            have f4 := hf 4 (by omega)
            have f5 := hf 5 (by omega)
            have f6 := hf 6 (by omega)
            have f7 := hf 7 (by omega)
            have f8 := hf 8 (by omega)
            simp only at f0 f1 f2 f3 f4 f5 f6 f7 f8
            simp only [mkF, Act.put, List.setIfInBounds_toArray, List.set_cons_succ, List.set_cons_zero, List.take_succ_cons, List.take_zero, Nat.reduceMul, Nat.zero_add, Nat.reduceAdd, f0, f1, f2, f3, f4, f5, f6, f7, f8, hb]
            clear hf f0 f1 f2 f3 f4 f5 f6 f7 f8 hb
            have q1 := HG.out w3 hO3 1 (by omega)
            by_cases hrp : wAt ws 1 = [114, 101, 112, 108, 121]
            · have hX1 : Hid (X = ⟨o4, 1, mod32 (rOf 16 8 (wAt ws 2)), rOf 10 2 (wAt ws 3), 0⟩) := Lib.hid (by rw [HX0.out, if_pos hrp])
              have hrpb : (wAt ws 1 == [114, 101, 112, 108, 121]) = true := by simpa using hrp
              clear HX0 hrp
              have hq8 : IntKind.u32.wrap (rOf 16 8 (wAt ws 2)) = mod32 (rOf 16 8 (wAt ws 2)) := u32_wrap _
              have HC := Lib.hid (rof_16_8 (wAt ws 2) (by have := HL.out 2; omega))
              have HE2 := Lib.hid (rof_10_2 (wAt ws 3) (by have := HL.out 3; omega))
              generalize hm8 : mod32 (rOf 16 8 (wAt ws 2)) = m8 at *
              clear hm8
              generalize rOf 16 8 (wAt ws 2) = o8 at *
              generalize rOf 10 2 (wAt ws 3) = o2 at *
              go_wp2_with fail
              go_cut [] (fun wx => Blk wx b 44 (Ev.cs ⟨o4, 1, m8, o2, 0⟩) ∧ Only [] wr wx)
              case first =>
                refine wp_region_TT 12 (Only [] w3) (by kernel_rfl) (by kernel_rfl) ((Only.refl _ _).drew) ?_
                simp only [List.take_succ_cons, List.take_zero, List.drop_succ_cons, List.drop_zero]
                repeat (
                  refine wpT_step ?_ (stD rfl (fun w' hD => ?_)) ?_
                  rotate_left
                  · obtain ⟨c0, c1, c2, c3, c4, -⟩ := Blk.ev (x := ⟨o4, 2, 0, 0, o1⟩) (hD.blk hB (by simp))
                    have p2 := HG.out w' (hO3.trans hD) 2 (by omega)
                    have p3 := HG.out w' (hO3.trans hD) 3 (by omega)
                    simp only at c0 c1 c2 c3 c4
                    go_simp
                    first
                    | (refine ⟨?_, hD⟩; rfl)
                    | (change Calls _ _ _ _ _
                       with_reducible refine (HC.out w').mono ?_
                       rintro e w'' ⟨rfl, h⟩
                       refine ⟨?_, hD.trans h⟩
                       rfl)
                    | (change Calls _ _ _ _ _
                       with_reducible refine (HE2.out w').mono ?_
                       rintro e w'' ⟨rfl, h⟩
                       refine ⟨?_, hD.trans h⟩
                       rfl)
                  simp only [Act.put, List.setIfInBounds_toArray, List.set_cons_succ, List.set_cons_zero, Nat.zero_add, Nat.reduceAdd])
                refine wpT_nil ?_
                intro w6 hD
                obtain ⟨e0, e1, e2, e3, e4, ef⟩ := Blk.ev (x := ⟨o4, 2, 0, 0, o1⟩) (hD.blk hB (by simp))
                have HO3 : Only [] wr (((((w6.setCell ⟨b, 0, none⟩ (.int .i64 o4)).setCell ⟨b, 1, none⟩ (.int .i64 1)).setCell ⟨b, 2, none⟩ (.int .u32 m8)).setCell ⟨b, 3, none⟩ (.int .i64 o2)).setCell ⟨b, 4, none⟩ (.int .i64 0)) :=
                  (hO3.trans hD).trans' (S' := [b]) ((((((Only.refl _ _).set1 (by simp) 0 _).set1 (by simp) 1 _).set1 (by simp) 2 _).set1 (by simp) 3 _).set1 (by simp) 4 _) (by intro z hz; simp at hz; omega)
                have HB3 : Blk (((((w6.setCell ⟨b, 0, none⟩ (.int .i64 o4)).setCell ⟨b, 1, none⟩ (.int .i64 1)).setCell ⟨b, 2, none⟩ (.int .u32 m8)).setCell ⟨b, 3, none⟩ (.int .i64 o2)).setCell ⟨b, 4, none⟩ (.int .i64 0)) b 44 (Ev.cs ⟨o4, 1, m8, o2, 0⟩) := ((((((hD.blk hB (by simp)).set_ 0 _).set_ 1 _).set_ 2 _).set_ 3 _).set_ 4 _)
                have HZ := Lib.hid (And.intro HB3 HO3)
                clear HB3 HO3 hB
                go_wp2_with fail
                all_goals go_meet
                all_goals exact HZ.out
              case rest =>
                obtain ⟨hB3, HO3⟩ := hcut
                obtain ⟨e0, e1, e2, e3, e4, ef⟩ := Blk.ev (x := ⟨o4, 1, m8, o2, 0⟩) hB3
                simp only at e0 e1 e2 e3 e4
                obtain ⟨j0, hj0, hz0, hz1, hz2⟩ := info_parts infoEvent
                have hlt0 : w1.heap.size ≤ wc.heap.size := by have := HOO.out.size; have := hOx.size; have := HO3.size; omega
                have hown3 := own_only0 HOWN.out ((hOx.trans HO3).alloc (.cells (Ev.cs ⟨o4, 1, m8, o2, 0⟩) 44))
                go_wp2_with (first
                  | (at_builtin; refine wpList_append_own _ rfl _ _ 24 rfl w1.heap.size 44 j0 (.agg #[.int .i64 0, .int .i64 0, .int .u32 0, .int .i64 0, .int .i64 0]) 5 40 Tryd.underlying24 hj0 hz0 hz1 hz2 rfl (by decide) _ k _ rfl hown3 ⟨_, 0, none⟩ 1 1 (Ev.list ⟨o4, 1, m8, o2, 0⟩) rfl rfl (new_cells (Blk.new' rfl rfl) rfl) (by simp [Value.oneCell']) (by unfold maxLen; omega) (by omega) (by simp only [World.size_alloc]; omega) ?_; intro v' w4 hown4 hgrow _))
                have hO5 : Only [] w1 w4 := own_step ((HOO.out.trans (hOx.trans HO3)).alloc _) hown3 hgrow
                refine ⟨⟨k + 1, by go_num, by omega, ?_, hO5⟩, ?_⟩
                · rw [HT.out, hX1.out, flat_snoc]
                  exact hown4
                · simp [intOf]
                  omega
            · have hX1 : Hid (X = ⟨o4, 2, 0, 0, o1⟩) := Lib.hid (by rw [HX0.out, if_neg hrp])
              have hrpb : (wAt ws 1 == [114, 101, 112, 108, 121]) = false := by simpa using hrp
              clear HX0 hrp
              obtain ⟨e0, e1, e2, e3, e4, -⟩ := Blk.ev (x := ⟨o4, 2, 0, 0, o1⟩) hB
              obtain ⟨j0, hj0, hz0, hz1, hz2⟩ := info_parts infoEvent
              have hlt0 : w1.heap.size ≤ w3.heap.size := by have := HOO.out.size; have := hOx.size; have := hO3.size; omega
              have hown3 := own_only0 HOWN.out ((hOx.trans hO3).alloc (.cells (Ev.cs ⟨o4, 2, 0, 0, o1⟩) 44))
              go_wp2_with (first
                | (at_builtin; refine wpList_append_own _ rfl _ _ 24 rfl w1.heap.size 44 j0 (.agg #[.int .i64 0, .int .i64 0, .int .u32 0, .int .i64 0, .int .i64 0]) 5 40 Tryd.underlying24 hj0 hz0 hz1 hz2 rfl (by decide) _ k _ rfl hown3 ⟨_, 0, none⟩ 1 1 (Ev.list ⟨o4, 2, 0, 0, o1⟩) rfl rfl (new_cells (Blk.new' rfl rfl) rfl) (by simp [Value.oneCell']) (by unfold maxLen; omega) (by omega) (by simp only [World.size_alloc]; omega) ?_; intro v' w4 hown4 hgrow _))
              have hO5 : Only [] w1 w4 := own_step ((HOO.out.trans (hOx.trans hO3)).alloc _) hown3 hgrow
              refine ⟨⟨k + 1, by go_num, by omega, ?_, hO5⟩, ?_⟩
              · rw [HT.out, hX1.out, flat_snoc]
                exact hown4
              · simp [intOf]
                omega
    · obtain rfl : k = M := by omega
      clear hkM
      have hPl : (rParse s).length = k := by rw [HP.out, List.length_map, List.length_take]; omega
      have hEv : EvS wr u4 (rParse s) := by
        have : EvR wr w1.heap.size u4 (rParse s) := by
          unfold EvR
          rw [hPl, HP.out]
          exact hown
        exact this.evs
      have HS := Lib.hid (fun W (h : Only [] wr W) => rshow_ev (rParse s) (by omega) HF.out u4 W (hEv.only0 h))
      have HOw := hO1.trans hO
      have HEv := Lib.hid hEv
      have HEnd2 := HEnd.out
      obtain ⟨pv, cv, hpv⟩ := hEv.len
      subst hpv

      clear hEv hown HEnd HF HP HI HM hPl
      have hcond : (L[k]? = none ∧ ¬ (k : Int) < (L.length : Int)) ∨ ((k : Int) < (L.length : Int) ∧ wr.cell? ⟨gl, k, none⟩ = some (str [])) := by
        rcases HE.out with h | h
        · refine .inl ⟨h, ?_⟩
          have := List.getElem?_eq_none_iff.1 h
          omega
        · refine .inr ⟨?_, (row_cells (row_only hownL hO (by simp))).2.2.2 k _ h⟩
          have := (List.getElem?_eq_some_iff.1 h).1
          omega
      generalize rParse s = P at *
      clear hcl hownL
      rcases HEnd2 with ⟨h1, h2, h3, h4⟩ | ⟨h1, h2, h3, h4⟩ | ⟨h1, h3, h4⟩
      · rw [h1, h2] at HS
        have HR := Lib.hid (And.intro h3 h4)
        clear h1 h2 h3 h4 HE
        rcases hcond with ⟨-, hki⟩ | ⟨hki, hcell⟩
        · go_wp2_with (go_at_call 45; change Calls _ _ _ _ _; (with_reducible refine (HS.out _ (Only.refl _ _)).mono ?_); rintro e w5 ⟨rfl, hO5⟩)
          go_returns
          exact ⟨.slice pv P.length cv, by rw [HR.out.1]; rfl, by rw [HR.out.2]; exact HEv.out.only0 hO5, HOw.trans hO5⟩
        · have hk0 : (0 : Int) ≤ (k : Int) := by omega
          have hkn : k < L.length := by omega
          go_wp2_with (go_at_call 45; change Calls _ _ _ _ _; (with_reducible refine (HS.out _ (Only.refl _ _)).mono ?_); rintro e w5 ⟨rfl, hO5⟩)
          go_returns
          exact ⟨.slice pv P.length cv, by rw [HR.out.1]; rfl, by rw [HR.out.2]; exact HEv.out.only0 hO5, HOw.trans hO5⟩
      · rw [h1] at HS
        have HR := Lib.hid (And.intro h3 h4)
        generalize shown P = sh at *
        clear h1 h3 h4 HE
        rcases hcond with ⟨-, hki⟩ | ⟨hki, hcell⟩
        · go_wp2_with (go_at_call 45; change Calls _ _ _ _ _; (with_reducible refine (HS.out _ (Only.refl _ _)).mono ?_); rintro e w5 ⟨rfl, hO5⟩)
          go_returns
          exact ⟨.slice none 0 0, by rw [HR.out.1]; rfl, by rw [HR.out.2]; exact .inl ⟨_, _, rfl, rfl⟩, HOw.trans hO5⟩
        · have hk0 : (0 : Int) ≤ (k : Int) := by omega
          have hkn : k < L.length := by omega
          go_wp2_with (go_at_call 45; change Calls _ _ _ _ _; (with_reducible refine (HS.out _ (Only.refl _ _)).mono ?_); rintro e w5 ⟨rfl, hO5⟩)
          go_returns
          exact ⟨.slice none 0 0, by rw [HR.out.1]; rfl, by rw [HR.out.2]; exact .inl ⟨_, _, rfl, rfl⟩, HOw.trans hO5⟩
      · rw [h1] at HS
        have HR := Lib.hid (And.intro h3 h4)
        generalize shown P = sh at *
        clear h1 h3 h4 HE
        rcases hcond with ⟨-, hki⟩ | ⟨hki, hcell⟩
        · go_wp2_with (go_at_call 45; change Calls _ _ _ _ _; (with_reducible refine (HS.out _ (Only.refl _ _)).mono ?_); rintro e w5 ⟨rfl, hO5⟩)
          go_returns
          exact ⟨.slice none 0 0, by rw [HR.out.1]; rfl, by rw [HR.out.2]; exact .inl ⟨_, _, rfl, rfl⟩, HOw.trans hO5⟩
        · have hk0 : (0 : Int) ≤ (k : Int) := by omega
          have hkn : k < L.length := by omega
          go_wp2_with (go_at_call 45; change Calls _ _ _ _ _; (with_reducible refine (HS.out _ (Only.refl _ _)).mono ?_); rintro e w5 ⟨rfl, hO5⟩)
          go_returns
          exact ⟨.slice none 0 0, by rw [HR.out.1]; rfl, by rw [HR.out.2]; exact .inl ⟨_, _, rfl, rfl⟩, HOw.trans hO5⟩
end Go.Proofs.YtojleleohhaigaaDoor
