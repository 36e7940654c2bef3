/- The document's One of prog, walked. Condition: the line is short. The document's Read of prog, walked. Condition: the text is short. -/
import Derived.Test.YtagmoehjcgjnjaaGreatDoorPrGb
import Derived.Test.YtagmoehjcgjnjaaGreatDoorCrR
import Derived.Test.YtagmoehjcgjnjaaGreatDoorPgO
import Derived.Test.YtagmoehjcgjnjaaGreatDoorPrGa
import Derived.Test.YtagmoehjcgjnjaaGreatDoorPgE
namespace Go.Proofs.YtagmoehjcgjnjaaGreatDoor
open Go Go.RowKit
attribute [local go_sem ↓] str_eql str_neq

theorem rof_10_1 (l : List UInt8) (hl : l.length ≤ 1000000) (w : World) : Calls Tryz.prog 53 #[str l, .int .i64 10, .int .i64 1] w fun e w' => e = .returned (.int .i64 (rOf 10 1 l)) ∧ Only [] w w' := rof_walk 10 (.inl rfl) 1 (by omega) l hl w
theorem rof_10_4 (l : List UInt8) (hl : l.length ≤ 1000000) (w : World) : Calls Tryz.prog 53 #[str l, .int .i64 10, .int .i64 4] w fun e w' => e = .returned (.int .i64 (rOf 10 4 l)) ∧ Only [] w w' := rof_walk 10 (.inl rfl) 4 (by omega) l hl w
theorem rof_16_2 (l : List UInt8) (hl : l.length ≤ 1000000) (w : World) : Calls Tryz.prog 53 #[str l, .int .i64 16, .int .i64 2] w fun e w' => e = .returned (.int .i64 (rOf 16 2 l)) ∧ Only [] w w' := rof_walk 16 (.inr rfl) 2 (by omega) l hl w

/-- The Op, looked for among the first k. -/
def ofind (k : Nat) (l : List UInt8) : Int := if opOf l ≤ k then opOf l else 0
theorem opOf_rng (l : List UInt8) : 0 ≤ opOf l ∧ opOf l ≤ 10 := by
  rcases opOf_spec l with h | ⟨h1, h2, -⟩ <;> omega
theorem ofind_zero (l : List UInt8) : ofind 0 l = 0 := by
  have := opOf_rng l
  unfold ofind
  split <;> omega
theorem ofind_yes {l : List UInt8} {k : Nat} (hk : k < 10) (h : l = opW ((k : Int) + 1)) : ofind (k + 1) l = (k : Int) + 1 := by
  have := opOf_W ((k : Int) + 1) (by omega)
  rw [← h] at this
  unfold ofind
  rw [this, if_pos (by omega)]
theorem ofind_no {l : List UInt8} {k : Nat} (h : l ≠ opW ((k : Int) + 1)) : ofind (k + 1) l = ofind k l := by
  have hne : opOf l ≠ (k : Int) + 1 := by
    intro e
    rcases opOf_spec l with h0 | ⟨-, -, h3⟩
    · omega
    · exact h (by rw [e] at h3; exact h3)
  unfold ofind
  by_cases h1 : opOf l ≤ k
  · rw [if_pos h1, if_pos (by omega)]
  · rw [if_neg h1, if_neg (by omega)]
theorem ofind_all (l : List UInt8) : ofind 10 l = opOf l := by
  unfold ofind
  exact if_pos (opOf_rng l).2
theorem blk_setL {w : World} {b t : Nat} {x y : In} (h : Blk w b t (setL y.cs 0 x.cs.toList)) : Blk w b t x.cs := by rw [setL_in] at h; exact h
def ropsL : List (List UInt8) := [opW 1, opW 2, opW 3, opW 4, opW 5, opW 6, opW 7, opW 8, opW 9, opW 10]
theorem rops_get (k : Nat) (h : k < 10) : (ropsL.map str)[k]? = some (str (opW ((k : Int) + 1))) := by
  have : k = 0 ∨ k = 1 ∨ k = 2 ∨ k = 3 ∨ k = 4 ∨ k = 5 ∨ k = 6 ∨ k = 7 ∨ k = 8 ∨ k = 9 := by omega
  rcases this with rfl | rfl | rfl | rfl | rfl | rfl | rfl | rfl | rfl | rfl <;> rfl

theorem cut_hi (s : List UInt8) (k : Nat) : (ByteArray.mk s.toArray).extract k s.length = ⟨(s.drop k).toArray⟩ := by
  apply ByteArray.ext
  simp only [ByteArray.data_extract]
  apply Array.ext'
  simp
  exact List.take_of_length_le (by simp)
theorem setL_c9 (c : Cf) : setL (In.only 9).cs 6 c.list = (In.mk 9 0 0 false 0 0 c).cs := by simp [setL]
/-- An instruction in a block of the call's own. -/
structure St (wq : World) (B : Nat) (W : World) (y : In) : Prop where
  blk : Blk W B 33 y.cs
  own : Only [] wq W
theorem St.call {wq W W' : World} {B : Nat} {y : In} (h : St wq B W y) (hO : Only [] W W') : St wq B W' y := ⟨hO.blk h.blk (by simp), h.own.trans hO⟩
theorem St.set {wq W : World} {B : Nat} {y z : In} (h : St wq B W y) (hB : wq.heap.size ≤ B) (i : Nat) (v : Value) (hz : y.cs.setIfInBounds i v = z.cs) : St wq B (W.setCell ⟨B, i, none⟩ v) z :=
  ⟨by rw [← hz]; exact h.blk.set_ i v, h.own.setCell (.inr hB) v⟩

set_option maxRecDepth 100000 in
set_option maxHeartbeats 4000000 in
theorem rone_long (s : List UInt8) (hs : 120 < s.length) (hl : s.length < 900000) (w : World) :
    Calls Tryz.prog 29 #[str s] w fun e w' => e = .returned (.tuple #[(oneX s).agg, .int .i64 (oneE s)]) ∧ Only [] w w' := by
  have ho : oneOk s = false := by
    rw [← rOk_one]
    unfold rOk
    rw [decide_eq_false (by omega)]
    rfl
  have e1 : oneX s = In.only 0 := by unfold oneX; rw [ho]; rfl
  have e2 : oneE s = 8 := by unfold oneE; rw [ho]; rfl
  rw [e1, e2]
  have hli : (120 : Int) < (s.length : Int) := by omega
  clear e1 e2 ho
  go_enter Tryz.func29, Tryz.ntmps29
  go_wp2_with (refine wpList_st 33 (In.only 0).cs.toList w.heap.size 0 _ _ rfl (by kernel_rfl) rfl rfl rfl rfl (Blk.new w 33 (In.only 0).cs) (Nat.le_of_ble_eq_true rfl) ?_; intro w4 hB4 hO5)
  have hr := run_loadVar_mid w4 w.heap.size 0 _ (In.only 0).cs.toList _ (Blk.rng (blk_setL (x := In.only 0) (y := In.only 0) hB4)) Tryz.underlying33 rfl (by kernel_rfl)
  exact bodyPost_ret (v := .tuple #[(In.only 0).agg, .int .i64 8]) (by simp [results, Tryz.results29, asAddr, hr]) rfl ⟨rfl, ((Only.refl [] w).alloc (.cells (In.only 0).cs 33)).trans' hO5 (by intro z hz hlt; simp at hz; omega)⟩

set_option maxRecDepth 100000 in
set_option maxHeartbeats 8000000 in
theorem rone_short (s : List UInt8) (hs : s.length ≤ 120) (w : World) :
    Calls Tryz.prog 29 #[str s] w fun e w' => e = .returned (.tuple #[(oneX s).agg, .int .i64 (oneE s)]) ∧ Only [] w w' := by
  have HR : Hid (oneX s = (if (rIn s).ok && (rIn s).line == s then rIn s else In.only 0) ∧ oneE s = (if (rIn s).ok && (rIn s).line == s then 0 else 8)) := Lib.hid (by
    have ho : oneOk s = ((rIn s).ok && (rIn s).line == s) := by
      rw [← rOk_one]
      unfold rOk
      rw [decide_eq_true hs, Bool.true_and]
    rw [← ho]
    unfold oneX oneE
    refine ⟨?_, rfl⟩
    cases h : oneOk s with
    | true => have := rOk_x h; unfold oneX at this; rw [h] at this; exact this.symm
    | false => rfl)
  have HFi := Lib.hid (rIn_fits s)
  have HW := Lib.hid (rwords_any s (by omega))
  have HL : Hid (∀ k, (wAt (rWords s) k).length ≤ 1000000) := Lib.hid (fun k => Nat.le_trans (rWords_len s k) (by omega))
  have hli : ¬ (120 : Int) < (s.length : Int) := by omega
  have hO0 := (Only.refl [] w).alloc (.cells (In.only 0).cs 33)
  have hC0 := Blk.new w 33 (In.only 0).cs
  generalize oneX s = ox at *
  generalize oneE s = oe at *
  go_enter Tryz.func29, Tryz.ntmps29
  go_wp2_with fail
  refine (HW.out _).mono ?_
  rintro e w1 ⟨v, rfl, ⟨g, cap, rfl, hgb, hown⟩, hO1⟩
  have hC1 := hO1.blk hC0 (by simp)
  have hOa := hO0.trans hO1
  have hsz0 : w.heap.size + 1 = (w.alloc (.cells (In.only 0).cs 33)).heap.size := by simp
  have hgb2 : w.heap.size + 1 ≤ g := by rw [hsz0]; exact hgb
  have hown2 : w1.ownsRow (w.heap.size + 1) 9 1 (.slice (some ⟨g, 0, none⟩) (rWords s).length cap) (rWords s).length ((rWords s).map str) := by rw [hsz0]; exact hown
  clear hO0 hC0 hO1 hsz0 hgb hown HW
  obtain ⟨ws, hws⟩ : ∃ ws, rWords s = ws := ⟨_, rfl⟩
  rw [hws] at HL hown2
  rw [hws]
  have hcl := (row_cells hown2).2
  have HWS := Lib.hid hws
  clear hws
  go_wp2_with fail
  go_loopw [4] (fun v wr => ∃ (g cap n : Nat), v = .slice (some ⟨g, 0, none⟩) (ws.length + n) cap ∧ w.heap.size + 1 ≤ g ∧ (n = 0 ∨ ws.length + n ≤ 6) ∧
    wr.ownsRow (w.heap.size + 1) 9 1 (.slice (some ⟨g, 0, none⟩) (ws.length + n) cap) (ws.length + n) ((pad ws n).map str) ∧ Blk wr w.heap.size 33 (In.only 0).cs ∧ Only [] w wr) (fun v _ => 6 - sliceLen v)
  case atStart => exact ⟨g, cap, 0, rfl, hgb2, .inl rfl, by simpa [pad] using hown2, hC1, hOa⟩
  case round =>
    clear hown2 hC1 hOa hgb2 hcl
    obtain ⟨g, cap, n, rfl, hgb, hn6, hown, hC, hO⟩ := hrel
    by_cases hlt : ws.length + n < 6
    · have hlti : ((ws.length + n : Nat) : Int) < 6 := by omega
      have hlti2 : (ws.length : Int) + (n : Int) < 6 := by omega
      obtain ⟨i0, hi0, hz0, hz1, hz2⟩ := info_parts infoString
      have hbw : w.heap.size + 1 ≤ (wr.alloc (.cells #[str []] 9)).heap.size := by have := hC.lt; simp; omega
      have HC := Lib.hid hC
      clear hC
      go_wp2_with (at_builtin; refine wpList_append_own _ rfl _ _ 43 rfl (w.heap.size + 1) 9 i0 (.string ⟨#[]⟩) 1 16 Tryz.underlying43 hi0 hz0 hz1 hz2 rfl (by decide) _ (ws.length + n) _ rfl (row_only hown ((Only.refl [] wr).alloc _) (by simp)) ⟨wr.heap.size, 0, none⟩ 1 1 [str []] rfl rfl ?c1 ?c2 ?c3 ?c4 hbw ?_)
      case c1 => exact news_blk (Blk.new' rfl rfl) rfl
      case c2 => exact one_cell _
      case c3 => unfold maxLen; omega
      case c4 => omega
      intro v' w4 hown4 hgrow _
      obtain ⟨g2, cap2, rfl, hgb2, hgl2, -⟩ := row_form hown4 (by omega)
      have hOn : Only [g] _ w4 := grown_only hgrow
      have HC4 := Lib.hid (hOn.blk (HC.out.alloc (.cells #[str []] 9)) (by simp; omega))
      have hO4 : Only [] w w4 := (hO.alloc _).trans' hOn (by simp; omega)
      clear hgrow hOn hz0 hz1 hz2 hi0 hown hO HC
      go_wp2_with fail
      refine ⟨⟨g2, cap2, n + 1, rfl, hgb2, .inr (by omega), ?_, HC4.out, hO4⟩, ?_⟩
      · have e1 : (pad ws (n + 1)).map str = (pad ws n).map str ++ [str []] := by
          unfold pad
          rw [List.replicate_succ', ← List.append_assoc, List.map_append (l₁ := ws ++ List.replicate n [])]
          rfl
        rw [e1]
        simpa [Nat.add_assoc] using hown4
      · simp [sliceLen]
        omega
    · have hlti : ¬ ((ws.length + n : Nat) : Int) < 6 := by omega
      have hlti2 : ¬ (ws.length : Int) + (n : Int) < 6 := by omega
      have HG : Hid (∀ wx, Only [] wr wx → ∀ k, k < 6 → wx.cell? ⟨g, k, none⟩ = some (str (wAt ws k))) := Lib.hid (by
        intro wx hx k hk
        refine (row_cells (row_only hown hx (by simp))).2.2.2 k _ ?_
        exact pad_get ws n k (by omega))
      have hgl := (row_cells hown).1
      have hcap := (row_cells hown).2.1
      have hlen6n : 6 ≤ ws.length + n := by omega
      have hwl := hC.lt
      have HC := Lib.hid (And.intro hC hO)
      clear hown hlt hC hO
      obtain ⟨N, hN⟩ : ∃ N, ws.length + n = N := ⟨_, rfl⟩
      have hNi : (ws.length : Int) + (n : Int) = (N : Int) := by omega
      obtain ⟨wq, hwq⟩ : ∃ x, x = wr := ⟨_, rfl⟩
      subst hwq
      have hK : Blk ((wq.alloc (.cells (ropsL.map str).toArray 9)).alloc (.cells (In.only 0).cs 33)) wq.heap.size 9 (ropsL.map str).toArray := (Blk.new' rfl rfl).alloc _
      have hB : St wq (wq.heap.size + 1) ((wq.alloc (.cells (ropsL.map str).toArray 9)).alloc (.cells (In.only 0).cs 33)) (In.only 0) := ⟨Blk.new' rfl (by simp), ((Only.refl [] wq).alloc _).alloc _⟩
      have HH := Lib.hid (And.intro hB hK)
      clear hK hB
      rw [hN]
      rw [hN] at hcap hlen6n
      clear hlti hlti2
      have hN6 : ¬ (N : Int) < 6 := by omega
      go_wp2_with fail
      go_loopw [7] (fun i wx => ∃ k : Nat, i = .int .i64 k ∧ k ≤ 10 ∧ Blk wx wq.heap.size 9 (ropsL.map str).toArray ∧ St wq (wq.heap.size + 1) wx (In.only (ofind k (wAt ws 0)))) (fun i _ => 10 - (intOf i).toNat)
      case atStart => exact ⟨0, rfl, by omega, HH.out.2, by rw [ofind_zero]; exact HH.out.1⟩
      case round =>
        clear HH
        obtain ⟨k, rfl, hk10, hK, hB⟩ := hrel
        by_cases hkl : k < 10
        · have hki : (k : Int) < 10 := by omega
          have hk0 : (0 : Int) ≤ (k : Int) := by omega
          have ck : wr.cell? ⟨wq.heap.size, k, none⟩ = some (str (opW ((k : Int) + 1))) := by
            rw [hK.cell k, List.getElem?_toArray]
            exact rops_get k hkl
          have cw := HG.out wr hB.own 0 (by omega)
          have hB0 := (Blk.in_ hB.blk).c0
          have hBf := (Blk.in_ hB.blk).fr 0
          have HH := Lib.hid (And.intro hB hK)
          clear hB hK
          by_cases he : wAt ws 0 = opW ((k : Int) + 1)
          · have HF := Lib.hid (ofind_yes hkl he)
            have heb : (wAt ws 0 == opW ((k : Int) + 1)) = true := by simpa using he
            clear he
            generalize opW ((k : Int) + 1) = kk at *
            go_wp2_with fail
            go_quiet (fail)
            go_wp2_with fail
            obtain ⟨hB, hK⟩ := HH.out
            refine ⟨⟨k + 1, by go_num, by omega, (hK.drewN _).far (by simp) _, ?_⟩, ?_⟩
            · rw [HF.out]
              exact (hB.call ((Only.refl _ _).drewN nq)).set (by omega) 0 (.int .i64 ((k : Int) + 1)) rfl
            · simp [intOf]
              omega
          · have HF : Hid (ofind (k + 1) (wAt ws 0) = ofind k (wAt ws 0)) := Lib.hid (ofind_no he)
            have heb : (wAt ws 0 == opW ((k : Int) + 1)) = false := by simpa using he
            clear he
            generalize opW ((k : Int) + 1) = kk at *
            go_wp2_with fail
            go_quiet (fail)
            go_wp2_with fail
            obtain ⟨hB, hK⟩ := HH.out
            refine ⟨⟨k + 1, by go_num, by omega, hK.drewN _, by rw [HF.out]; exact hB.call ((Only.refl _ _).drewN nq)⟩, ?_⟩
            simp [intOf]
            omega
        · obtain rfl : k = 10 := by omega
          have hki : ¬ ((10 : Nat) : Int) < 10 := by omega
          rw [ofind_all] at hB
          clear hK hkl hk10
          have hop := opOf_rng (wAt ws 0)
          obtain ⟨opn, hopn⟩ : ∃ k, opOf (wAt ws 0) = k := ⟨_, rfl⟩
          have HKN := Lib.hid hopn
          rw [hopn] at hB hop
          clear hopn
          have hBq : wq.heap.size ≤ wq.heap.size + 1 := by omega
          have hgB : g ≠ wq.heap.size + 1 := by omega
          have hBw : w.heap.size < wq.heap.size + 1 := by omega
          generalize wq.heap.size + 1 = B at *
          have c0 := (Blk.in_ hB.blk).c0
          have n0 : (0 : Int) < (N : Int) := by omega
          have n1 : (1 : Int) < (N : Int) := by omega
          have n2 : (2 : Int) < (N : Int) := by omega
          have n3 : (3 : Int) < (N : Int) := by omega
          have n4 : (4 : Int) < (N : Int) := by omega
          clear hNi
          go_upto_block 4 with fail
          go_cut [6] (fun v wx => v = .pointer (some ⟨B, 0, none⟩) ∧ St wq B wx (rIn s))
          case first =>
            have hk11 : opn = 0 ∨ opn = 1 ∨ opn = 2 ∨ opn = 3 ∨ opn = 4 ∨ opn = 5 ∨ opn = 6 ∨ opn = 7 ∨ opn = 8 ∨ opn = 9 ∨ opn = 10 := by omega
            clear hop
            rcases hk11 with rfl | rfl | rfl | rfl | rfl | rfl | rfl | rfl | rfl | rfl | rfl
            · have HV : Hid (rIn s = In.only 0) := Lib.hid (by unfold rIn; simp only; rw [HWS.out, HKN.out]; simp)
              have HS := Lib.hid hB
              clear hB
              go_wp2_with fail
              go_meet
              exact ⟨rfl, by rw [HV.out]; exact HS.out⟩
            · obtain ⟨p, hp⟩ : ∃ p, (wAt ws 3 == [43]) = p := ⟨_, rfl⟩
              have K1 := Lib.hid (rof_10_1 (wAt ws 1) (HL.out 1))
              have K2 := Lib.hid (rof_16_8 (wAt ws 2) (HL.out 2))
              have K3 := Lib.hid (rof_16_8 (wAt ws 3) (HL.out 3))
              have K4 := Lib.hid (rof_16_8 (wAt ws 4) (HL.out 4))
              obtain ⟨r1, h1⟩ : ∃ r, rOf 10 1 (wAt ws 1) = r := ⟨_, rfl⟩
              obtain ⟨r2, h2⟩ : ∃ r, rOf 16 8 (wAt ws 2) = r := ⟨_, rfl⟩
              obtain ⟨r3, h3⟩ : ∃ r, rOf 16 8 (wAt ws 3) = r := ⟨_, rfl⟩
              obtain ⟨r4, h4⟩ : ∃ r, rOf 16 8 (wAt ws 4) = r := ⟨_, rfl⟩
              obtain ⟨m2, g2⟩ : ∃ m, mod32 r2 = m := ⟨_, rfl⟩
              obtain ⟨m3, g3⟩ : ∃ m, mod32 r3 = m := ⟨_, rfl⟩
              obtain ⟨m4, g4⟩ : ∃ m, mod32 r4 = m := ⟨_, rfl⟩
              have HV : Hid (rIn s = ⟨1, r1, m2, p, 0, 0, Cf.zero⟩) := Lib.hid (by unfold rIn; simp only; rw [HWS.out, HKN.out]; simp [hp, h1, h2, ← g2])
              have u2 : IntKind.u32.wrap r2 = m2 := by rw [u32_wrap, g2]
              have u3 : IntKind.u32.wrap r3 = m3 := by rw [u32_wrap, g3]
              have u4 : IntKind.u32.wrap r4 = m4 := by rw [u32_wrap, g4]
              rw [h1] at K1
              rw [h2] at K2
              rw [h3] at K3
              rw [h4] at K4
              have q1 := HG.out wr hB.own 1 (by omega)
              have HS := Lib.hid hB
              clear hB h1 h2 h3 h4 g2 g3 g4
              cases p
              · go_wp2_with (first
                  | (go_at_call 53; change Calls _ _ _ _ _; (with_reducible refine (K1.out _).mono ?_); rintro e w5 ⟨rfl, hO5⟩; have HS5 := Lib.hid (HS.out.call hO5); have q2 := HG.out w5 HS5.out.own 2 (by omega); obtain ⟨a0, a1, a2, a3, a4, a5, -, -, -, -, -, -, -, -, -, -, -, -, af⟩ := Blk.in_ HS5.out.blk; have af1 := af 1; clear af a0 a2 a3 a4 a5 hO5)
                  | (go_at_call 53; change Calls _ _ _ _ _; (with_reducible refine (K2.out _).mono ?_); rintro e w6 ⟨rfl, hO6⟩; have HS6 := Lib.hid ((HS5.out.set hBq 1 (.int .i64 r1) (z := ⟨1, r1, 0, false, 0, 0, Cf.zero⟩) rfl).call hO6); have q3 := HG.out w6 HS6.out.own 3 (by omega); have q4 := HG.out w6 HS6.out.own 4 (by omega); obtain ⟨b0, b1, b2, b3, b4, b5, -, -, -, -, -, -, -, -, -, -, -, -, bf⟩ := Blk.in_ HS6.out.blk; have bf2 := bf 2; have bf3 := bf 3; clear bf b1 b4 b5 hO6))
                go_meet
                exact ⟨rfl, by rw [HV.out]; exact (HS6.out.set hBq 2 (.int .u32 m2) (z := ⟨1, r1, m2, false, 0, 0, Cf.zero⟩) rfl).set hBq 3 (.bool false) (z := ⟨1, r1, m2, false, 0, 0, Cf.zero⟩) rfl⟩
              · go_wp2_with (first
                  | (go_at_call 53; change Calls _ _ _ _ _; (with_reducible refine (K1.out _).mono ?_); rintro e w5 ⟨rfl, hO5⟩; have HS5 := Lib.hid (HS.out.call hO5); have q2 := HG.out w5 HS5.out.own 2 (by omega); obtain ⟨a0, a1, a2, a3, a4, a5, -, -, -, -, -, -, -, -, -, -, -, -, af⟩ := Blk.in_ HS5.out.blk; have af1 := af 1; clear af a0 a2 a3 a4 a5 hO5)
                  | (go_at_call 53; change Calls _ _ _ _ _; (with_reducible refine (K2.out _).mono ?_); rintro e w6 ⟨rfl, hO6⟩; have HS6 := Lib.hid ((HS5.out.set hBq 1 (.int .i64 r1) (z := ⟨1, r1, 0, false, 0, 0, Cf.zero⟩) rfl).call hO6); have q3 := HG.out w6 HS6.out.own 3 (by omega); have q4 := HG.out w6 HS6.out.own 4 (by omega); obtain ⟨b0, b1, b2, b3, b4, b5, -, -, -, -, -, -, -, -, -, -, -, -, bf⟩ := Blk.in_ HS6.out.blk; have bf2 := bf 2; have bf3 := bf 3; clear bf b1 b4 b5 hO6))
                go_meet
                exact ⟨rfl, by rw [HV.out]; exact (HS6.out.set hBq 2 (.int .u32 m2) (z := ⟨1, r1, m2, false, 0, 0, Cf.zero⟩) rfl).set hBq 3 (.bool true) (z := ⟨1, r1, m2, true, 0, 0, Cf.zero⟩) rfl⟩
            · obtain ⟨p, hp⟩ : ∃ p, (wAt ws 3 == [43]) = p := ⟨_, rfl⟩
              have K1 := Lib.hid (rof_10_1 (wAt ws 1) (HL.out 1))
              have K2 := Lib.hid (rof_16_8 (wAt ws 2) (HL.out 2))
              have K3 := Lib.hid (rof_16_8 (wAt ws 3) (HL.out 3))
              have K4 := Lib.hid (rof_16_8 (wAt ws 4) (HL.out 4))
              obtain ⟨r1, h1⟩ : ∃ r, rOf 10 1 (wAt ws 1) = r := ⟨_, rfl⟩
              obtain ⟨r2, h2⟩ : ∃ r, rOf 16 8 (wAt ws 2) = r := ⟨_, rfl⟩
              obtain ⟨r3, h3⟩ : ∃ r, rOf 16 8 (wAt ws 3) = r := ⟨_, rfl⟩
              obtain ⟨r4, h4⟩ : ∃ r, rOf 16 8 (wAt ws 4) = r := ⟨_, rfl⟩
              obtain ⟨m2, g2⟩ : ∃ m, mod32 r2 = m := ⟨_, rfl⟩
              obtain ⟨m3, g3⟩ : ∃ m, mod32 r3 = m := ⟨_, rfl⟩
              obtain ⟨m4, g4⟩ : ∃ m, mod32 r4 = m := ⟨_, rfl⟩
              have HV : Hid (rIn s = ⟨2, r1, m2, p, if p then m4 else m3, 0, Cf.zero⟩) := Lib.hid (by unfold rIn; simp only; rw [HWS.out, HKN.out]; simp [hp, h1, h2, ← g2, ← g3, ← g4, ← h3, ← h4]; cases p <;> rfl)
              have u2 : IntKind.u32.wrap r2 = m2 := by rw [u32_wrap, g2]
              have u3 : IntKind.u32.wrap r3 = m3 := by rw [u32_wrap, g3]
              have u4 : IntKind.u32.wrap r4 = m4 := by rw [u32_wrap, g4]
              rw [h1] at K1
              rw [h2] at K2
              rw [h3] at K3
              rw [h4] at K4
              have q1 := HG.out wr hB.own 1 (by omega)
              have HS := Lib.hid hB
              clear hB h1 h2 h3 h4 g2 g3 g4
              cases p
              · go_wp2_with (first
                  | (go_at_call 53; change Calls _ _ _ _ _; (with_reducible refine (K1.out _).mono ?_); rintro e w5 ⟨rfl, hO5⟩; have HS5 := Lib.hid (HS.out.call hO5); have q2 := HG.out w5 HS5.out.own 2 (by omega); obtain ⟨a0, a1, a2, a3, a4, a5, -, -, -, -, -, -, -, -, -, -, -, -, af⟩ := Blk.in_ HS5.out.blk; have af1 := af 1; clear af a0 a2 a3 a4 a5 hO5)
                  | (go_at_call 53; change Calls _ _ _ _ _; (with_reducible refine (K2.out _).mono ?_); rintro e w6 ⟨rfl, hO6⟩; have HS6 := Lib.hid ((HS5.out.set hBq 1 (.int .i64 r1) (z := ⟨2, r1, 0, false, 0, 0, Cf.zero⟩) rfl).call hO6); have q3 := HG.out w6 HS6.out.own 3 (by omega); have q4 := HG.out w6 HS6.out.own 4 (by omega); obtain ⟨b0, b1, b2, b3, b4, b5, -, -, -, -, -, -, -, -, -, -, -, -, bf⟩ := Blk.in_ HS6.out.blk; have bf2 := bf 2; have bf3 := bf 3; clear bf b1 b4 b5 hO6)
                  | (go_at_call 53; change Calls _ _ _ _ _; (with_reducible refine (K3.out _).mono ?_); rintro e w7 ⟨rfl, hO7⟩; have HS7 := Lib.hid (((HS6.out.set hBq 2 (.int .u32 m2) (z := ⟨2, r1, m2, false, 0, 0, Cf.zero⟩) rfl).set hBq 3 (.bool false) (z := ⟨2, r1, m2, false, 0, 0, Cf.zero⟩) rfl).call hO7); obtain ⟨d0, d1, d2, d3, d4, d5, -, -, -, -, -, -, -, -, -, -, -, -, df⟩ := Blk.in_ HS7.out.blk; have df4 := df 4; clear df d0 d1 d2 d3 d5 hO7))
                go_meet
                exact ⟨rfl, by rw [HV.out]; exact HS7.out.set hBq 4 (.int .u32 m3) (z := ⟨2, r1, m2, false, m3, 0, Cf.zero⟩) rfl⟩
              · go_wp2_with (first
                  | (go_at_call 53; change Calls _ _ _ _ _; (with_reducible refine (K1.out _).mono ?_); rintro e w5 ⟨rfl, hO5⟩; have HS5 := Lib.hid (HS.out.call hO5); have q2 := HG.out w5 HS5.out.own 2 (by omega); obtain ⟨a0, a1, a2, a3, a4, a5, -, -, -, -, -, -, -, -, -, -, -, -, af⟩ := Blk.in_ HS5.out.blk; have af1 := af 1; clear af a0 a2 a3 a4 a5 hO5)
                  | (go_at_call 53; change Calls _ _ _ _ _; (with_reducible refine (K2.out _).mono ?_); rintro e w6 ⟨rfl, hO6⟩; have HS6 := Lib.hid ((HS5.out.set hBq 1 (.int .i64 r1) (z := ⟨2, r1, 0, false, 0, 0, Cf.zero⟩) rfl).call hO6); have q3 := HG.out w6 HS6.out.own 3 (by omega); have q4 := HG.out w6 HS6.out.own 4 (by omega); obtain ⟨b0, b1, b2, b3, b4, b5, -, -, -, -, -, -, -, -, -, -, -, -, bf⟩ := Blk.in_ HS6.out.blk; have bf2 := bf 2; have bf3 := bf 3; clear bf b1 b4 b5 hO6)
                  | (go_at_call 53; change Calls _ _ _ _ _; (with_reducible refine (K4.out _).mono ?_); rintro e w7 ⟨rfl, hO7⟩; have HS7 := Lib.hid (((HS6.out.set hBq 2 (.int .u32 m2) (z := ⟨2, r1, m2, false, 0, 0, Cf.zero⟩) rfl).set hBq 3 (.bool true) (z := ⟨2, r1, m2, true, 0, 0, Cf.zero⟩) rfl).call hO7); obtain ⟨d0, d1, d2, d3, d4, d5, -, -, -, -, -, -, -, -, -, -, -, -, df⟩ := Blk.in_ HS7.out.blk; have df4 := df 4; clear df d0 d1 d2 d3 d5 hO7))
                go_meet
                exact ⟨rfl, by rw [HV.out]; exact HS7.out.set hBq 4 (.int .u32 m4) (z := ⟨2, r1, m2, true, m4, 0, Cf.zero⟩) rfl⟩
            · obtain ⟨p, hp⟩ : ∃ p, (wAt ws 3 == [43]) = p := ⟨_, rfl⟩
              have K1 := Lib.hid (rof_10_1 (wAt ws 1) (HL.out 1))
              have K2 := Lib.hid (rof_16_8 (wAt ws 2) (HL.out 2))
              have K3 := Lib.hid (rof_16_8 (wAt ws 3) (HL.out 3))
              have K4 := Lib.hid (rof_16_8 (wAt ws 4) (HL.out 4))
              obtain ⟨r1, h1⟩ : ∃ r, rOf 10 1 (wAt ws 1) = r := ⟨_, rfl⟩
              obtain ⟨r2, h2⟩ : ∃ r, rOf 16 8 (wAt ws 2) = r := ⟨_, rfl⟩
              obtain ⟨r3, h3⟩ : ∃ r, rOf 16 8 (wAt ws 3) = r := ⟨_, rfl⟩
              obtain ⟨r4, h4⟩ : ∃ r, rOf 16 8 (wAt ws 4) = r := ⟨_, rfl⟩
              obtain ⟨m2, g2⟩ : ∃ m, mod32 r2 = m := ⟨_, rfl⟩
              obtain ⟨m3, g3⟩ : ∃ m, mod32 r3 = m := ⟨_, rfl⟩
              obtain ⟨m4, g4⟩ : ∃ m, mod32 r4 = m := ⟨_, rfl⟩
              have HV : Hid (rIn s = ⟨3, r1, m2, p, 0, 0, Cf.zero⟩) := Lib.hid (by unfold rIn; simp only; rw [HWS.out, HKN.out]; simp [hp, h1, h2, ← g2])
              have u2 : IntKind.u32.wrap r2 = m2 := by rw [u32_wrap, g2]
              have u3 : IntKind.u32.wrap r3 = m3 := by rw [u32_wrap, g3]
              have u4 : IntKind.u32.wrap r4 = m4 := by rw [u32_wrap, g4]
              rw [h1] at K1
              rw [h2] at K2
              rw [h3] at K3
              rw [h4] at K4
              have q1 := HG.out wr hB.own 1 (by omega)
              have HS := Lib.hid hB
              clear hB h1 h2 h3 h4 g2 g3 g4
              cases p
              · go_wp2_with (first
                  | (go_at_call 53; change Calls _ _ _ _ _; (with_reducible refine (K1.out _).mono ?_); rintro e w5 ⟨rfl, hO5⟩; have HS5 := Lib.hid (HS.out.call hO5); have q2 := HG.out w5 HS5.out.own 2 (by omega); obtain ⟨a0, a1, a2, a3, a4, a5, -, -, -, -, -, -, -, -, -, -, -, -, af⟩ := Blk.in_ HS5.out.blk; have af1 := af 1; clear af a0 a2 a3 a4 a5 hO5)
                  | (go_at_call 53; change Calls _ _ _ _ _; (with_reducible refine (K2.out _).mono ?_); rintro e w6 ⟨rfl, hO6⟩; have HS6 := Lib.hid ((HS5.out.set hBq 1 (.int .i64 r1) (z := ⟨3, r1, 0, false, 0, 0, Cf.zero⟩) rfl).call hO6); have q3 := HG.out w6 HS6.out.own 3 (by omega); have q4 := HG.out w6 HS6.out.own 4 (by omega); obtain ⟨b0, b1, b2, b3, b4, b5, -, -, -, -, -, -, -, -, -, -, -, -, bf⟩ := Blk.in_ HS6.out.blk; have bf2 := bf 2; have bf3 := bf 3; clear bf b1 b4 b5 hO6))
                go_meet
                exact ⟨rfl, by rw [HV.out]; exact (HS6.out.set hBq 2 (.int .u32 m2) (z := ⟨3, r1, m2, false, 0, 0, Cf.zero⟩) rfl).set hBq 3 (.bool false) (z := ⟨3, r1, m2, false, 0, 0, Cf.zero⟩) rfl⟩
              · go_wp2_with (first
                  | (go_at_call 53; change Calls _ _ _ _ _; (with_reducible refine (K1.out _).mono ?_); rintro e w5 ⟨rfl, hO5⟩; have HS5 := Lib.hid (HS.out.call hO5); have q2 := HG.out w5 HS5.out.own 2 (by omega); obtain ⟨a0, a1, a2, a3, a4, a5, -, -, -, -, -, -, -, -, -, -, -, -, af⟩ := Blk.in_ HS5.out.blk; have af1 := af 1; clear af a0 a2 a3 a4 a5 hO5)
                  | (go_at_call 53; change Calls _ _ _ _ _; (with_reducible refine (K2.out _).mono ?_); rintro e w6 ⟨rfl, hO6⟩; have HS6 := Lib.hid ((HS5.out.set hBq 1 (.int .i64 r1) (z := ⟨3, r1, 0, false, 0, 0, Cf.zero⟩) rfl).call hO6); have q3 := HG.out w6 HS6.out.own 3 (by omega); have q4 := HG.out w6 HS6.out.own 4 (by omega); obtain ⟨b0, b1, b2, b3, b4, b5, -, -, -, -, -, -, -, -, -, -, -, -, bf⟩ := Blk.in_ HS6.out.blk; have bf2 := bf 2; have bf3 := bf 3; clear bf b1 b4 b5 hO6))
                go_meet
                exact ⟨rfl, by rw [HV.out]; exact (HS6.out.set hBq 2 (.int .u32 m2) (z := ⟨3, r1, m2, false, 0, 0, Cf.zero⟩) rfl).set hBq 3 (.bool true) (z := ⟨3, r1, m2, true, 0, 0, Cf.zero⟩) rfl⟩
            · have HV : Hid (rIn s = In.only 4) := Lib.hid (by unfold rIn; simp only; rw [HWS.out, HKN.out]; simp)
              have HS := Lib.hid hB
              clear hB
              go_wp2_with fail
              go_meet
              exact ⟨rfl, by rw [HV.out]; exact HS.out⟩
            · have K1 := Lib.hid (rof_16_8 (wAt ws 1) (HL.out 1))
              obtain ⟨r1, h1⟩ : ∃ r, rOf 16 8 (wAt ws 1) = r := ⟨_, rfl⟩
              obtain ⟨m1, g1⟩ : ∃ m, mod32 r1 = m := ⟨_, rfl⟩
              have K2 := Lib.hid (rof_10_2 (wAt ws 2) (HL.out 2))
              obtain ⟨r2, h2⟩ : ∃ r, rOf 10 2 (wAt ws 2) = r := ⟨_, rfl⟩
              obtain ⟨m2, g2⟩ : ∃ m, mod32 r2 = m := ⟨_, rfl⟩
              have HV : Hid (rIn s = ⟨5, 0, 0, false, m1, r2, Cf.zero⟩) := Lib.hid (by unfold rIn; simp only; rw [HWS.out, HKN.out]; simp [h1, ← g1, h2])
              have u1 : IntKind.u32.wrap r1 = m1 := by rw [u32_wrap, g1]
              rw [h1] at K1
              have u2 : IntKind.u32.wrap r2 = m2 := by rw [u32_wrap, g2]
              rw [h2] at K2
              have q1 := HG.out wr hB.own 1 (by omega)
              have HS := Lib.hid hB
              clear hB h1 g1 h2 g2
              go_wp2_with (first
                | (go_at_call 53; change Calls _ _ _ _ _; (with_reducible refine (K1.out _).mono ?_); rintro e w5 ⟨rfl, hO5⟩; have HS1 := Lib.hid ((HS.out).call hO5); have q2 := HG.out w5 HS1.out.own 2 (by omega); obtain ⟨a0, a1, a2, a3, a4, a5, -, -, -, -, -, -, -, -, -, -, -, -, af⟩ := Blk.in_ HS1.out.blk; have af14 := af 4; clear af hO5)
                | (go_at_call 53; change Calls _ _ _ _ _; (with_reducible refine (K2.out _).mono ?_); rintro e w6 ⟨rfl, hO6⟩; have HS2 := Lib.hid ((HS1.out.set hBq 4 (.int .u32 m1) (z := ⟨5, 0, 0, false, m1, 0, Cf.zero⟩) rfl).call hO6); obtain ⟨a0, a1, a2, a3, a4, a5, -, -, -, -, -, -, -, -, -, -, -, -, af⟩ := Blk.in_ HS2.out.blk; have af25 := af 5; clear af hO6))
              go_meet
              exact ⟨rfl, by rw [HV.out]; exact HS2.out.set hBq 5 (.int .i64 r2) (z := ⟨5, 0, 0, false, m1, r2, Cf.zero⟩) rfl⟩
            · have K1 := Lib.hid (rof_10_2 (wAt ws 1) (HL.out 1))
              obtain ⟨r1, h1⟩ : ∃ r, rOf 10 2 (wAt ws 1) = r := ⟨_, rfl⟩
              obtain ⟨m1, g1⟩ : ∃ m, mod32 r1 = m := ⟨_, rfl⟩
              have HV : Hid (rIn s = ⟨6, 0, 0, false, 0, r1, Cf.zero⟩) := Lib.hid (by unfold rIn; simp only; rw [HWS.out, HKN.out]; simp [h1])
              have u1 : IntKind.u32.wrap r1 = m1 := by rw [u32_wrap, g1]
              rw [h1] at K1
              have q1 := HG.out wr hB.own 1 (by omega)
              have HS := Lib.hid hB
              clear hB h1 g1
              go_wp2_with (first
                | (go_at_call 53; change Calls _ _ _ _ _; (with_reducible refine (K1.out _).mono ?_); rintro e w5 ⟨rfl, hO5⟩; have HS1 := Lib.hid ((HS.out).call hO5); obtain ⟨a0, a1, a2, a3, a4, a5, -, -, -, -, -, -, -, -, -, -, -, -, af⟩ := Blk.in_ HS1.out.blk; have af15 := af 5; clear af hO5))
              go_meet
              exact ⟨rfl, by rw [HV.out]; exact HS1.out.set hBq 5 (.int .i64 r1) (z := ⟨6, 0, 0, false, 0, r1, Cf.zero⟩) rfl⟩
            · have K1 := Lib.hid (rof_10_4 (wAt ws 1) (HL.out 1))
              obtain ⟨r1, h1⟩ : ∃ r, rOf 10 4 (wAt ws 1) = r := ⟨_, rfl⟩
              obtain ⟨m1, g1⟩ : ∃ m, mod32 r1 = m := ⟨_, rfl⟩
              have HV : Hid (rIn s = ⟨7, 0, 0, false, m1, 0, Cf.zero⟩) := Lib.hid (by unfold rIn; simp only; rw [HWS.out, HKN.out]; simp [h1, ← g1])
              have u1 : IntKind.u32.wrap r1 = m1 := by rw [u32_wrap, g1]
              rw [h1] at K1
              have q1 := HG.out wr hB.own 1 (by omega)
              have HS := Lib.hid hB
              clear hB h1 g1
              go_wp2_with (first
                | (go_at_call 53; change Calls _ _ _ _ _; (with_reducible refine (K1.out _).mono ?_); rintro e w5 ⟨rfl, hO5⟩; have HS1 := Lib.hid ((HS.out).call hO5); obtain ⟨a0, a1, a2, a3, a4, a5, -, -, -, -, -, -, -, -, -, -, -, -, af⟩ := Blk.in_ HS1.out.blk; have af14 := af 4; clear af hO5))
              go_meet
              exact ⟨rfl, by rw [HV.out]; exact HS1.out.set hBq 4 (.int .u32 m1) (z := ⟨7, 0, 0, false, m1, 0, Cf.zero⟩) rfl⟩
            · have K1 := Lib.hid (rof_16_2 (wAt ws 1) (HL.out 1))
              obtain ⟨r1, h1⟩ : ∃ r, rOf 16 2 (wAt ws 1) = r := ⟨_, rfl⟩
              obtain ⟨m1, g1⟩ : ∃ m, mod32 r1 = m := ⟨_, rfl⟩
              have HV : Hid (rIn s = ⟨8, 0, 0, false, m1, 0, Cf.zero⟩) := Lib.hid (by unfold rIn; simp only; rw [HWS.out, HKN.out]; simp [h1, ← g1])
              have u1 : IntKind.u32.wrap r1 = m1 := by rw [u32_wrap, g1]
              rw [h1] at K1
              have q1 := HG.out wr hB.own 1 (by omega)
              have HS := Lib.hid hB
              clear hB h1 g1
              go_wp2_with (first
                | (go_at_call 53; change Calls _ _ _ _ _; (with_reducible refine (K1.out _).mono ?_); rintro e w5 ⟨rfl, hO5⟩; have HS1 := Lib.hid ((HS.out).call hO5); obtain ⟨a0, a1, a2, a3, a4, a5, -, -, -, -, -, -, -, -, -, -, -, -, af⟩ := Blk.in_ HS1.out.blk; have af14 := af 4; clear af hO5))
              go_meet
              exact ⟨rfl, by rw [HV.out]; exact HS1.out.set hBq 4 (.int .u32 m1) (z := ⟨8, 0, 0, false, m1, 0, Cf.zero⟩) rfl⟩
            · have q0 : 5 < s.length ∨ ¬ 5 < s.length := Classical.em _
              rcases q0 with h5 | h5
              · have h5i : (5 : Int) < (s.length : Int) := by omega
                have HD := Lib.hid (rread_any (s.drop 5) (by simp; omega))
                have HV : Hid (rIn s = ⟨9, 0, 0, false, 0, 0, readC (s.drop 5) (parse (s.drop 5))⟩) := Lib.hid (by unfold rIn; simp only; rw [HWS.out, HKN.out]; simp [h5])
                have hcut := cut_hi s 5
                have h5l : (5 : Int) ≤ (s.length : Int) := by omega
                generalize readC (s.drop 5) (parse (s.drop 5)) = c at *
                generalize readE (s.drop 5) (parse (s.drop 5)) = ec at *
                generalize s.drop 5 = s5 at *
                have HS := Lib.hid hB
                clear hB h5
                go_wp2_with (first
                  | (go_at_call 54; change Calls _ _ _ _ _; (with_reducible refine (HD.out _).mono ?_); rintro e w5 ⟨rfl, hO5⟩; have HS5 := Lib.hid (HS.out.call hO5))
                  | (refine wpList_st 31 c.list B 6 _ _ rfl (by kernel_rfl) rfl rfl rfl rfl HS5.out.blk (Nat.le_of_ble_eq_true rfl) ?_; intro w7 hB7 hO7))
                go_meet
                rw [setL_c9] at hB7
                exact ⟨rfl, by rw [HV.out]; exact ⟨hB7, HS5.out.own.trans' hO7 (by intro z hz hlt; simp at hz; omega)⟩⟩
              · have h5i : ¬ (5 : Int) < (s.length : Int) := by omega
                have HV : Hid (rIn s = In.only 9) := Lib.hid (by unfold rIn; simp only; rw [HWS.out, HKN.out]; simp [h5])
                have HS := Lib.hid hB
                clear hB h5
                go_wp2_with fail
                go_meet
                exact ⟨rfl, by rw [HV.out]; exact HS.out⟩
            · have HV : Hid (rIn s = In.only 10) := Lib.hid (by unfold rIn; simp only; rw [HWS.out, HKN.out]; simp)
              have HS := Lib.hid hB
              clear hB
              go_wp2_with fail
              go_meet
              exact ⟨rfl, by rw [HV.out]; exact HS.out⟩
          case rest =>
            obtain ⟨rfl, hB2⟩ := hcut
            have hB2l := hB2.blk.lt
            have HRx := Lib.hid (Blk.rng hB2.blk)
            have HY := Lib.hid (And.intro (HC.out.2.trans hB2.own) (hB2.own.blk HC.out.1 (by simp)))
            have HLn := Lib.hid (rpline_any (rIn s) HFi.out)
            have HS2 : Hid ((rIn s).shown = (if (rIn s).ok then (rIn s).line else []) ∧ (rIn s).err = if (rIn s).ok then 0 else 4) := ⟨rfl, rfl⟩
            clear hB hB2 c0 HG HL HWS HKN HC n0 n1 n2 n3 n4
            generalize rIn s = x at *
            have HK : Hid (∀ (y : In) (W3 W4 : World), Only [] wc W3 → Blk W4 w.heap.size 33 (setL (In.only 0).cs 0 y.cs.toList) → Only [w.heap.size] W3 W4 → Only [] w W4 ∧ (loadVar 33 ⟨w.heap.size, 0, none⟩).run Tryz.prog W4 = .ok y.agg W4) := Lib.hid (fun y W3 W4 h3 h4 h5 => by
              rw [setL_in] at h4
              exact ⟨(HY.out.1.trans h3).trans' h5 (by intro z hz hlt; simp at hz; omega), run_loadVar_mid W4 w.heap.size 0 _ y.cs.toList _ (Blk.rng h4) Tryz.underlying33 rfl (by kernel_rfl)⟩)
            cases hok : x.ok with
            | false =>
              have HF : Hid (ox = In.only 0 ∧ oe = 8) := Lib.hid (by rw [HR.out.1, HR.out.2, hok]; exact ⟨rfl, rfl⟩)
              have hsh := HS2.out
              rw [hok] at hsh
              rw [hsh.1, hsh.2] at HLn
              clear hsh hok HR HS2
              go_wp2_with (first
                | (refine wpList_ld 33 x B 0 _ rfl (.inl rfl) rfl rfl HRx.out ?_)
                | (go_at_call 26; refine (HLn.out _).mono ?_; rintro e w3 ⟨rfl, hO4⟩)
                | (refine wpList_st 33 (In.only 0).cs.toList w.heap.size 0 _ _ rfl (by kernel_rfl) rfl rfl rfl rfl (hO4.blk HY.out.2 (by simp)) (Nat.le_of_ble_eq_true rfl) ?_; intro w4 hB4 hO5))
              have hk := HK.out (In.only 0) _ _ hO4 hB4 hO5
              exact bodyPost_ret (v := .tuple #[(In.only 0).agg, .int .i64 8]) (by have := hk.2; simp [results, Tryz.results29, asAddr, this]) rfl ⟨by rw [HF.out.1, HF.out.2], hk.1⟩
            | true =>
              have hsh := HS2.out
              rw [hok] at hsh
              simp only [if_true] at hsh
              rw [hsh.1, hsh.2] at HLn
              clear hsh HS2
              by_cases hl : x.line = s
              · have HF : Hid (ox = x ∧ oe = 0) := Lib.hid (by rw [HR.out.1, HR.out.2, hok, hl]; simp)
                rw [hl] at HLn
                clear hok hl HR
                go_wp2_with (first
                  | (refine wpList_ld 33 x B 0 _ rfl (.inl rfl) rfl rfl HRy.out ?_)
                  | (refine wpList_ld 33 x B 0 _ rfl (.inl rfl) rfl rfl HRx.out ?_)
                  | (go_at_call 26; refine (HLn.out _).mono ?_; rintro e w3 ⟨rfl, hO4⟩; have HRy := Lib.hid (rng_only HRx.out hO4 hB2l (by simp)))
                  | (refine wpList_st 33 x.cs.toList w.heap.size 0 _ _ rfl (by kernel_rfl) rfl rfl rfl rfl (hO4.blk HY.out.2 (by simp)) (Nat.le_of_ble_eq_true rfl) ?_; intro w4 hB4 hO5))
                have hk := HK.out x _ _ hO4 hB4 hO5
                exact bodyPost_ret (v := .tuple #[x.agg, .int .i64 0]) (by have := hk.2; simp [results, Tryz.results29, asAddr, this]) rfl ⟨by rw [HF.out.1, HF.out.2], hk.1⟩
              · have HF : Hid (ox = In.only 0 ∧ oe = 8) := Lib.hid (by rw [HR.out.1, HR.out.2, hok]; simp [hl])
                have hd : (x.line == s) = false := by simpa using hl
                clear hok hl HR
                generalize x.line = tl at *
                go_wp2_with (first
                  | (refine wpList_ld 33 x B 0 _ rfl (.inl rfl) rfl rfl HRx.out ?_)
                  | (go_at_call 26; refine (HLn.out _).mono ?_; rintro e w3 ⟨rfl, hO4⟩)
                  | (refine wpList_st 33 (In.only 0).cs.toList w.heap.size 0 _ _ rfl (by kernel_rfl) rfl rfl rfl rfl (hO4.blk HY.out.2 (by simp)) (Nat.le_of_ble_eq_true rfl) ?_; intro w4 hB4 hO5))
                have hk := HK.out (In.only 0) _ _ hO4 hB4 hO5
                exact bodyPost_ret (v := .tuple #[(In.only 0).agg, .int .i64 8]) (by have := hk.2; simp [results, Tryz.results29, asAddr, this]) rfl ⟨by rw [HF.out.1, HF.out.2], hk.1⟩

theorem rone_any (s : List UInt8) (hs : s.length < 900000) (w : World) :
    Calls Tryz.prog 29 #[str s] w fun e w' => e = .returned (.tuple #[(oneX s).agg, .int .i64 (oneE s)]) ∧ Only [] w w' := by
  by_cases h : s.length ≤ 120
  · exact rone_short s h w
  · exact rone_long s (by omega) hs w
end Go.Proofs.YtagmoehjcgjnjaaGreatDoor

namespace Go.Proofs.YtagmoehjcgjnjaaGreatDoor
open Go Go.RowKit

theorem idxG_at {p : List UInt8 → Bool} : ∀ (L : List (List UInt8)) (k : Nat) (j : Int) (hk : k < L.length), (∀ y ∈ L.take k, p y = false) → p L[k] = true → idxG p L j = j + k
  | [], k, _, hk, _, _ => by simp at hk
  | x :: r, 0, j, _, _, h => by
    unfold idxG
    rw [show p x = true from h]
    simp
  | x :: r, k + 1, j, hk, ha, h => by
    unfold idxG
    rw [ha x (by simp)]
    have := idxG_at r k (j + 1) (by simpa using hk) (fun y hy => ha y (by simp [hy])) (by simpa using h)
    simp only [Bool.false_eq_true, if_false]
    rw [this]
    omega
theorem idxF_at {p : In → Bool} : ∀ (L : List In) (k : Nat) (j : Int) (hk : k < L.length), (∀ y ∈ L.take k, p y = false) → p L[k] = true → idxF p L j = j + k
  | [], k, _, hk, _, _ => by simp at hk
  | x :: r, 0, j, _, _, h => by
    unfold idxF
    rw [show p x = true from h]
    simp
  | x :: r, k + 1, j, hk, ha, h => by
    unfold idxF
    rw [ha x (by simp)]
    have := idxF_at r k (j + 1) (by simpa using hk) (fun y hy => ha y (by simp [hy])) (by simpa using h)
    simp only [Bool.false_eq_true, if_false]
    rw [this]
    omega
theorem take_snoc {α : Type} {P : α → Prop} {L : List α} {k : Nat} (hk : k < L.length) (h : ∀ y ∈ L.take k, P y) (h2 : P L[k]) : ∀ y ∈ L.take (k + 1), P y := by
  intro y hy
  rw [List.take_succ_eq_append_getElem hk] at hy
  rcases List.mem_append.1 hy with h3 | h3
  · exact h y h3
  · rw [List.mem_singleton.1 h3]; exact h2

theorem rp_done {w W : World} {s : List UInt8} {v : Value} {l : List In} {n e : Int} (hO : Only [] w W) (hR : InR W w.heap.size v l) (hr : rdA s = (l, n, e)) : RdPost w s (.returned (.tuple #[v, .int .i64 n, .int .i64 e])) W :=
  ⟨v, by rw [hr], by rw [hr]; exact hR, hO⟩

set_option maxRecDepth 100000 in
set_option maxHeartbeats 8000000 in
theorem rpread_any (s : List UInt8) (hs : s.length ≤ 800000) (w : World) :
    Calls Tryz.prog 28 #[str s] w (RdPost w s) := by
  by_cases h0 : s = []
  · subst h0
    go_enter Tryz.func28, Tryz.ntmps28
    go_wp2_with fail
    go_returns
    exact ⟨.slice none 0 0, rfl, InR.nil _ _, Only.refl _ _⟩
  · have hsb : (s == []) = false := by simpa using h0
    have HD : Hid (∀ L, linesOf s = L → (∀ k n, k < L.length → (∀ y ∈ L.take k, badL y = false) → (∀ h : k < L.length, badL L[k] = true) → n = (k : Int) + 1 → rdA s = ([], n, 8)) ∧ ((∀ y ∈ L, badL y = false) → 64 < L.length → rdA s = ([], 65, 3)) ∧
        ((∀ y ∈ L, badL y = false) → ¬ 64 < L.length → ∀ M, L.map oneX = M → (∀ k n, k < M.length → (∀ y ∈ M.take k, In.far M.length y = false) → (∀ h : k < M.length, In.far M.length M[k] = true) → n = (k : Int) + 1 → rdA s = ([], n, 6)) ∧ ((∀ y ∈ M, In.far M.length y = false) → rdA s = (M, 0, 0)))) := Lib.hid (by
      rintro L rfl
      refine ⟨fun k n hk h1 h2 hn => ?_, fun h1 h2 => ?_, fun h1 h2 M hM => ⟨fun k n hk h3 h4 hn => ?_, fun h3 => ?_⟩⟩
      · have := idxG_at (p := badL) (linesOf s) k 0 hk h1 (h2 hk)
        rw [hn]
        exact rd_bad h0 (by rw [this]; omega)
      · exact rd_long h0 (idxG_none 0 h1) h2
      · subst hM
        have h5 := h4 hk
        simp only [List.length_map] at h3 h5
        have := idxF_at (p := In.far (linesOf s).length) ((linesOf s).map oneX) k 0 hk h3 h5
        rw [hn]
        exact rd_far h0 (idxG_none 0 h1) h2 (i := k) (by rw [this]; omega) (by omega)
      · subst hM
        rw [List.length_map] at h3
        have := idxF_none (p := In.far (linesOf s).length) (l := (linesOf s).map oneX) 0 h3
        exact rd_ok h0 (idxG_none 0 h1) h2 this (by decide))
    have HL := Lib.hid (rlines_any s (by omega))
    have HE := Lib.hid (HD.out (linesOf s) rfl)
    have hsh := lines_sh s
    rw [rLines_eq] at HL
    have hLn := hsh.1
    have HLs := Lib.hid hsh.2
    clear hsh HD h0
    generalize linesOf s = L at *
    go_enter Tryz.func28, Tryz.ntmps28
    go_wp2_with fail
    refine (HL.out _).mono ?_
    rintro e w1 ⟨v, rfl, ⟨gl, capl, rfl, hglb, hownL⟩, hO1⟩
    have hcl := (row_cells hownL).2
    have hgl := (row_cells hownL).1
    have HOL := Lib.hid hownL
    clear hownL HL
    go_wp2_with fail
    go_loopw [6, 7] (fun l i wr => ∃ k : Nat, i = .int .i64 k ∧ k ≤ L.length ∧ InR wr w1.heap.size l ((L.take k).map oneX) ∧ Hid (∀ y ∈ L.take k, badL y = false) ∧ Only [] w1 wr) (fun _ i _ => L.length - (intOf i).toNat)
    case atStart => exact ⟨0, rfl, by omega, InR.nil _ _, Lib.hid (by simp), Only.refl _ _⟩
    case round =>
      obtain ⟨k, rfl, hk, hR, HK, hO⟩ := hrel
      by_cases hkl : k < L.length
      · have hki : (k : Int) < (L.length : Int) := by omega
        have hk0 : (0 : Int) ≤ (k : Int) := by omega
        have hcell : wr.cell? ⟨gl, k, none⟩ = some (str L[k]) := (row_cells (row_only HOL.out hO (by simp))).2.2.2 k _ (by simp)
        have hxl := HLs.out L[k] (by simp)
        have HO1 := Lib.hid (rone_any L[k] (by omega))
        have HBd : Hid (∀ n, badL L[k] = true → n = (k : Int) + 1 → rdA s = ([], n, 8)) := Lib.hid (fun n h hn => HE.out.1 k n hkl HK.out (fun _ => h) hn)
        have HTk := Lib.hid (fun h => take_snoc (P := fun y => badL y = false) hkl HK.out h)
        have htk : (L.take (k + 1)).map oneX = (L.take k).map oneX ++ [oneX L[k]] := by rw [List.take_succ_eq_append_getElem hkl, List.map_append]; rfl
        have HT := Lib.hid htk
        clear htk
        generalize L[k] = ln at *
        cases hb : badL ln with
        | true =>
          have he := one_bad hb
          rw [he] at HO1
          have HZ := Lib.hid (HBd.out _ hb rfl)
          clear HBd HTk HT hb he
          generalize oneX ln = x at *
          go_wp2_with (first
            | (go_at_call 29; refine (HO1.out _).mono ?_; rintro e w2 ⟨rfl, hO2⟩)
            | (refine wpList_st 33 x.cs.toList w2.heap.size 0 _ _ rfl (by kernel_rfl) rfl rfl rfl rfl (Blk.new w2 33 (In.only 0).cs) (Nat.le_of_ble_eq_true rfl) ?_; intro w3 hB3 hO3; have HB3 := Lib.hid (Blk.rng (blk_setL (x := x) (y := In.only 0) hB3)); have hO4 : Only [] wr w3 := (hO2.alloc (.cells (In.only 0).cs 33)).trans' hO3 (by intro z hz hlt; simp at hz; have := hO2.size; omega); clear hB3 hO3))
          go_returns
          exact rp_done ((hO1.trans hO).trans hO4) (InR.nil _ _) HZ.out
        | false =>
          have he := one_ok hb
          rw [he] at HO1
          have HK2 := Lib.hid (HTk.out hb)
          clear HBd HTk hb he HK
          generalize oneX ln = x at *
          have HR := Lib.hid hR
          have hRl : ((L.take k).map oneX).length ≤ 1000000 := by simp; omega
          obtain ⟨pv, nv, cv, rfl⟩ : ∃ p n c, u6 = .slice p n c := by
            rcases hR.2 with ⟨rfl, -⟩ | ⟨g, cap, cur, rfl, -⟩
            · exact ⟨_, _, _, rfl⟩
            · exact ⟨_, _, _, rfl⟩
          have hw1 := hO.size
          clear hR
          go_wp2_with (first
            | (go_at_call 29; refine (HO1.out _).mono ?_; rintro e w2 ⟨rfl, hO2⟩)
            | (refine wpList_st 33 x.cs.toList w2.heap.size 0 _ _ rfl (by kernel_rfl) rfl rfl rfl rfl (Blk.new w2 33 (In.only 0).cs) (Nat.le_of_ble_eq_true rfl) ?_; intro w3 hB3 hO3; have HB3 := Lib.hid (Blk.rng (blk_setL (x := x) (y := In.only 0) hB3)); have hO4 : Only [] wr w3 := (hO2.alloc (.cells (In.only 0).cs 33)).trans' hO3 (by intro z hz hlt; simp at hz; have := hO2.size; omega); clear hB3 hO3)
            | (refine wpList_ld 33 x w2.heap.size 0 _ rfl (.inl rfl) rfl rfl HB3.out ?_)
            | (at_builtin; refine wpList_append_in rfl _ _ rfl w1.heap.size ((L.take k).map oneX) x _ rfl (HR.out.only (hO4.alloc (.cells x.cs 33)) (by simp)) _ 1 rfl (Blk.new _ _ _) hRl (by have := hO4.size; simp; omega) ?_; intro v6 w6 hR6 hOB6 hO6))
          have hOf : Only [] w1 w6 := hO.thenB (((hO4.alloc (.cells x.cs 33)).b hw1).trans (hOB6 w1.heap.size (Nat.le_refl _)))
          refine ⟨⟨k + 1, by go_num, by omega, by rw [HT.out]; exact hR6, HK2, hOf⟩, ?_⟩
          simp [intOf]
          omega
      · obtain rfl : k = L.length := by omega
        have hki : ¬ (L.length : Int) < (L.length : Int) := by omega
        have hall := HK.out
        have hR2 := hR
        rw [List.take_of_length_le (Nat.le_refl _)] at hall hR2
        have HE2 := Lib.hid (And.intro (HE.out.2.1 hall) (HE.out.2.2 hall))
        clear HE hall HK hR HLs HOL hcl hgl
        have hml : (L.map oneX).length = L.length := List.length_map ..
        by_cases h64 : 64 < L.length
        · have HZ := Lib.hid (HE2.out.1 h64)
          have h64i : (64 : Int) < (L.length : Int) := by omega
          obtain ⟨pv, cv, hvv⟩ := hR2.ins.len
          rw [hml] at hvv
          subst hvv
          clear HE2 hR2
          go_wp2_with fail
          go_returns
          exact rp_done (hO1.trans hO) (InR.nil _ _) HZ.out
        · have HZ := Lib.hid (HE2.out.2 h64 _ rfl)
          have h64i : ¬ (64 : Int) < (L.length : Int) := by omega
          obtain ⟨pv, cv, hvv⟩ := hR2.ins.len
          rw [hml] at hvv
          subst hvv
          have HR := Lib.hid hR2
          clear HE2 hR2
          generalize L.map oneX = M at *
          obtain ⟨n, hn⟩ : ∃ n, M.length = n := ⟨_, rfl⟩
          rw [← hml] at h64i h64 ⊢
          clear hki
          go_wp2_with fail
          obtain ⟨wo, hwo⟩ : ∃ x, x = wr := ⟨_, rfl⟩
          subst hwo
          go_loopw [10] (fun i wx => ∃ k : Nat, i = .int .i64 k ∧ k ≤ M.length ∧ Hid (∀ y ∈ M.take k, In.far M.length y = false) ∧ Only [] wo wx) (fun i _ => M.length - (intOf i).toNat)
          case atStart => exact ⟨0, rfl, by omega, Lib.hid (by simp), Only.refl _ _⟩
          case round =>
            obtain ⟨k, rfl, hk, HK, hOx⟩ := hrel
            by_cases hkl : k < M.length
            · have hki : (k : Int) < (M.length : Int) := by omega
              obtain ⟨b, off, c, hvv, h0, hlc, hb, hE⟩ := HR.out.ins.resolve_left (fun ⟨_, _, _, h⟩ => by rw [h] at hkl; simp at hkl)
              simp only [Value.slice.injEq] at hvv
              obtain ⟨rfl, -, rfl⟩ := hvv
              have hki2 : (k : Int) < (L.length : Int) := by omega
              have c5 : wr.cell? ⟨b, off + k * 18 + 5, none⟩ = some (.int .i64 M[k].to) := (rng_only (hE k M[k] (by simp)) hOx hb (by simp)) 5 _ rfl
              by_cases hf : (M.length : Int) < M[k].to
              · have hf2 : (L.length : Int) < M[k].to := by omega
                have HF := Lib.hid (HZ.out.1 k _ hkl HK.out (fun _ => by unfold In.far; simpa using hf) rfl)
                clear HZ HK hE
                generalize M[k] = x at *
                go_wp2_with fail
                go_returns
                exact rp_done ((hO1.trans hO).trans hOx) (InR.nil _ _) HF.out
              · have hf2 : ¬ (L.length : Int) < M[k].to := by omega
                have HK2 := Lib.hid (take_snoc (P := fun y => In.far M.length y = false) hkl HK.out (by unfold In.far; simpa using hf))
                clear HZ HK hE
                generalize M[k] = x at *
                go_wp2_with fail
                refine ⟨⟨k + 1, by go_num, by omega, HK2, hOx⟩, ?_⟩
                simp [intOf]
                omega
            · have hki : ¬ (k : Int) < (M.length : Int) := by omega
              have hki2 : ¬ (k : Int) < (L.length : Int) := by omega
              have hall := HK.out
              rw [List.take_of_length_le (by omega)] at hall
              have HF := Lib.hid (HZ.out.2 hall)
              clear HZ HK hall
              go_wp2_with fail
              go_returns
              exact rp_done ((hO1.trans hO).trans hOx) ((HR.out.only hOx (by simp)).base hO1.size) HF.out
end Go.Proofs.YtagmoehjcgjnjaaGreatDoor
