/- The law DmaMoves, walked: it answers true. Conditions: the numbers are of their kinds; the list of words reads as it stands. -/
import Derived.Test.YtnnlnffdbdpmbaaMovesB
import Derived.Test.YtnnlnffdbdpmbaaDmaH
import Derived.Test.YtnnlnffdbdpmbaaStops
import Derived.LoopTactic
namespace Go.Proofs.Ytnnlnffdbdpmbaa
open Go Go.RowKit

theorem stt_low (fr tt dn : Int) (words len : Nat) (f : Nat → Int) (k many : Nat) (hm : (0 ≤ dn ∧ dn < 2 * words ∧ (many : Int) = dn + 1) ∨ ((dn < 0 ∨ 2 * words ≤ dn) ∧ many = 2 * words)) (hk : k < many) :
    stt fr tt dn words len f k = mv fr tt words len f k := by
  unfold stt
  rw [if_neg (by omega)]

set_option maxRecDepth 100000 in
set_option maxHeartbeats 4000000 in
theorem moves_any (fr tt wd dn : Int) (words : Nat) (ao : Option Addr) (len cap : Nat) (f : Nat → Int) (w : World) (h1 : 1 ≤ words) (h2 : words ≤ 100) (hf0 : 0 ≤ fr ∧ fr < 4294967296) (ht0 : 0 ≤ tt ∧ tt < 4294967296)
    (hd0 : -9223372036854775808 ≤ dn) (hd1 : dn ≤ 9223372036854775807)
    (hv : ∀ k, k < len → k < 100 → ∃ bk off, ao = some ⟨bk, off, none⟩ ∧ bk < w.heap.size ∧ w.cell? ⟨bk, off + k, none⟩ = some (.int .u32 (f k))) :
    Calls Try.prog 6 #[.int .u32 fr, .int .u32 tt, .int .i64 words, .slice ao len cap, .int .i64 dn, .int .i64 wd] w fun e w' => e = .returned (.bool true) ∧ Only [] w w' := by
  have Hv := Lib.hid hv
  clear hv
  have g1 : ¬ ((words : Int) < 1) := by omega
  have g2 : ¬ ((100 : Int) < (words : Int)) := by omega
  have g3 : (words : Int) % 4294967296 = (words : Int) := by omega
  go_enter Try.func6, Try.ntmps6
  go_wp2_with fail
  refine (awake_any _).mono ?_
  rintro e w1 ⟨rfl, hO1⟩
  have bf : Blk w1 w.heap.size 22 #[.int .u32 fr] := hO1.blk (((((Blk.new' rfl rfl : Blk _ _ _ _).alloc _).alloc _).alloc _).alloc _) (by simp)
  have bt : Blk w1 (w.heap.size + 1) 22 #[.int .u32 tt] := hO1.blk ((((Blk.new' rfl (by simp) : Blk _ _ _ _).alloc _).alloc _).alloc _) (by simp)
  have bv : Blk w1 (w.heap.size + 1 + 1) 55 #[.slice ao len cap] := hO1.blk (((Blk.new' rfl (by simp) : Blk _ _ _ _).alloc _).alloc _) (by simp)
  have bd : Blk w1 (w.heap.size + 1 + 1 + 1) 3 #[.int .i64 dn] := hO1.blk ((Blk.new' rfl (by simp) : Blk _ _ _ _).alloc _) (by simp)
  have bw : Blk w1 (w.heap.size + 1 + 1 + 1 + 1) 3 #[.int .i64 wd] := hO1.blk (Blk.new' rfl (by simp) : Blk _ _ _ _) (by simp)
  have hO := ((((((Only.refl [] w).alloc (.cells #[.int .u32 fr] 22)).alloc (.cells #[.int .u32 tt] 22)).alloc (.cells #[.slice ao len cap] 55)).alloc (.cells #[.int .i64 dn] 3)).alloc (.cells #[.int .i64 wd] 3)).trans hO1
  clear hO1
  generalize hB : w.heap.size = B at *
  clear g1 g2
  have k0 : w1.cell? ⟨B, 0, none⟩ = some (.int .u32 fr) := bf.cell 0
  go_wp2_with fail
  refine (new_any _).mono ?_
  rintro e w2 ⟨b, rfl, hb0, hE2, hO2⟩
  have lw := bw.lt
  have hf2 := hO2.blk bf (by simp)
  have ht2 := hO2.blk bt (by simp)
  have hv2 := hO2.blk bv (by simp)
  have hd2 := hO2.blk bd (by simp)
  have hw2 := hO2.blk bw (by simp)
  have hOa := hO.trans hO2
  clear hO hO2 bf bt bv bd bw k0
  have k0 : w2.cell? ⟨B, 0, none⟩ = some (.int .u32 fr) := hf2.cell 0
  go_wp2_with fail
  refine (write_any b _ 0 fr _ hE2 hf0.1 hf0.2).mono ?_
  rintro e w3 ⟨rfl, hE3, hO3⟩
  have hb3 : ∀ x, x ∈ [b] → x < w.heap.size → x ∈ ([] : List Nat) := fun x hx hl => by simp at hx; omega
  have q1 : B ∉ [b] := by simp; omega
  have q2 : B + 1 ∉ [b] := by simp; omega
  have q3 : B + 1 + 1 ∉ [b] := by simp; omega
  have q4 : B + 1 + 1 + 1 ∉ [b] := by simp; omega
  have q5 : B + 1 + 1 + 1 + 1 ∉ [b] := by simp; omega
  have hf3 := hO3.blk hf2 q1
  have ht3 := hO3.blk ht2 q2
  have hv3 := hO3.blk hv2 q3
  have hd3 := hO3.blk hd2 q4
  have hw3 := hO3.blk hw2 q5
  have hOb := hOa.trans' hO3 hb3
  clear hE2 hO3 hOa hf2 ht2 hv2 hd2 hw2 k0
  have k0 : w3.cell? ⟨B + 1, 0, none⟩ = some (.int .u32 tt) := ht3.cell 0
  go_wp2_with fail
  refine (write_any b _ 1 tt _ hE3 ht0.1 ht0.2).mono ?_
  rintro e w4 ⟨rfl, hE4, hO4⟩
  clear k0
  go_wp2_with fail
  refine (write_any b _ 2 words _ hE4 (by omega) (by omega)).mono ?_
  rintro e w5 ⟨rfl, hE5, hO5⟩
  go_wp2_with fail
  refine (write_any b _ 3 257 _ hE5 (by omega) (by omega)).mono ?_
  rintro e w6 ⟨rfl, hE6, hO6⟩
  have hO36 := (hO4.trans hO5).trans hO6
  have hf6 := hO36.blk hf3 q1
  have ht6 := hO36.blk ht3 q2
  have hv6 := hO36.blk hv3 q3
  have hd6 := hO36.blk hd3 q4
  have hw6 := hO36.blk hw3 q5
  have hO7 := hOb.trans' hO36 hb3
  have hs6 : ((((ES.zero.write 0 fr).write 1 tt).write 2 words).write 3 257) = mv fr tt words len f 0 := by
    have nn : decide (0 < words) = true := by simp; omega
    simp [ES.write, ES.ctrl, ES.zero, mv, nn]
    omega
  rw [hs6] at hE6
  clear hE3 hE4 hE5 hO4 hO5 hO6 hO36 hf3 ht3 hv3 hd3 hw3 hOb hs6
  have hcase : (∃ d : Nat, dn = (d : Int) ∧ d < 2 * words) ∨ dn < 0 ∨ (0 ≤ dn ∧ 2 * (words : Int) ≤ dn) := by
    by_cases h : 0 ≤ dn ∧ dn < 2 * (words : Int)
    · exact .inl ⟨dn.toNat, by omega, by omega⟩
    · omega
  have lw := hw6.lt
  have le := hE6.lt
  have m0 : MvW (((w6.alloc (.cells #[.int .i64 0] 3)).alloc (.cells #[.bool true] 4)).alloc (.cells #[.int .u32 0] 22)) B b w6.heap.size (w6.heap.size + 1) (B + 1 + 1 + 1 + 1) B (w6.heap.size + 1 + 1) (B + 1 + 1) (B + 1) (B + 1 + 1 + 1) fr tt wd dn ao len cap f 0 (heldOf len f 0) (mv fr tt words len f 0) := by
    refine ⟨((hE6.alloc _).alloc _).alloc _, ((Blk.new' rfl rfl : Blk _ _ _ _).alloc _).alloc _, (Blk.new' rfl (by simp) : Blk _ _ _ _).alloc _, ((hw6.alloc _).alloc _).alloc _, ((hf6.alloc _).alloc _).alloc _, Blk.new' rfl (by simp), ((hv6.alloc _).alloc _).alloc _, ((ht6.alloc _).alloc _).alloc _, ((hd6.alloc _).alloc _).alloc _, by omega, by omega, by omega, by omega, by omega, by omega, by omega, by omega, ?_⟩
    intro k hk hk1
    obtain ⟨bk, off, e, h1, h2⟩ := Hv.out k hk hk1
    refine ⟨bk, off, e, by omega, ?_⟩
    have := ((hO7.alloc (.cells #[.int .i64 0] 3)).alloc (.cells #[.bool true] 4)).alloc (.cells #[.int .u32 0] 22)
    rw [this.cell (p := ⟨bk, off + k, none⟩) (by show bk < w.heap.size; omega) (by simp)]
    exact h2
  have hO8 := ((hO7.alloc (.cells #[.int .i64 0] 3)).alloc (.cells #[.bool true] 4)).alloc (.cells #[.int .u32 0] 22)
  clear hE6 hf6 ht6 hv6 hd6 hO7
  have dd := hw6
  clear hw6
  rcases hcase with ⟨d, rfl, hdw⟩ | hneg | hbig
  · have x1 : (0 : Int) ≤ (d : Int) := by omega
    have x2 : (d : Int) < 2 * (words : Int) := by omega
    have cd := m0.pd.cell 0
    simp only [List.getElem?_toArray, List.getElem?_cons_zero] at cd
    go_wp2_with fail
    go_loopw [19] (fun i wr => ∃ k : Nat, k ≤ d + 1 ∧ i = .int .i64 k ∧ MvW wr B b w6.heap.size (w6.heap.size + 1) (B + 1 + 1 + 1 + 1) B (w6.heap.size + 1 + 1) (B + 1 + 1) (B + 1) (B + 1 + 1 + 1) fr tt wd d ao len cap f k (heldOf len f k) (stt fr tt d words len f k) ∧ Only [] w wr) (fun i _ => d + 1 - (intOf i).toNat)
    case atStart => exact ⟨0, by omega, rfl, m0, hO8⟩
    case round =>
      clear m0 hO8 cd
      obtain ⟨k, hk, rfl, hM, hO⟩ := hrel
      by_cases hkn : k < d + 1
      · have hlow := stt_low fr tt d words len f k (d + 1) (.inl ⟨by omega, by omega, by omega⟩) hkn
        rw [hlow] at hM
        clear hlow
        have cw := hM.pw.cell 0
        simp only [List.getElem?_toArray, List.getElem?_cons_zero] at cw
        have hkt : (k : Int) < (d : Int) + 1 := by omega
        go_wp2_with fail
        refine (moves_step wr B b w6.heap.size (w6.heap.size + 1) (B + 1 + 1 + 1 + 1) B (w6.heap.size + 1 + 1) (B + 1 + 1) (B + 1) (B + 1 + 1 + 1) fr tt wd d ao words len cap f k hM (by omega) (by omega)).mono ?_
        rintro e w' ⟨rfl, hM', hO'⟩
        clear cw hM hkt
        go_wp2_with fail
        go_roundw
        case rel => exact ⟨k + 1, by omega, by go_num, hM', hO.thenB (by rw [hB]; exact hO')⟩
        case measure => simp [intOf]; omega
      · obtain rfl : k = d + 1 := by omega
        obtain ⟨q, hq0, hq1, hq2⟩ : ∃ q : Nat, (d : Int) / 2 = (q : Int) ∧ d / 2 = q ∧ q < words := ⟨d / 2, by omega, rfl, by omega⟩
        obtain ⟨p, hp0, hp1, hp2⟩ : ∃ p : Nat, ((d : Int) + 1) / 2 = (p : Int) ∧ (d + 1) / 2 = p ∧ p ≤ words := ⟨(d + 1) / 2, by omega, rfl, by omega⟩
        have hst : stt fr tt d words len f (d + 1) = ⟨(fr + 4 * (p : Int)) % 4294967296, (tt + 4 * (q : Int)) % 4294967296, (words : Int) - (q : Int), 0, false, false, true, false, true⟩ := by
          have hw : decide (q < words) = true := by simpa using hq2
          have hs : ((words - q : Nat) : Int) = (words : Int) - (q : Int) := by omega
          unfold stt
          rw [if_pos ⟨by omega, by omega⟩]
          simp [mv, ES.told, hq1, hp1, hw, hs]
        rw [hst] at hM
        clear hst
        have hE := hM.eng
        have cw := hM.pw.cell 0
        simp only [List.getElem?_toArray, List.getElem?_cons_zero] at cw
        go_wp2_with fail
        refine (step_idle b _ _ wd _ hE rfl).mono ?_
        rintro e w8 ⟨rfl, hO9⟩
        have hM9 := hM.only hO9
        have hOa := hO.trans hO9
        have cr := hM9.pr.cell 0
        have cn := hM9.pn.cell 0
        simp only [List.getElem?_toArray, List.getElem?_cons_zero] at cr cn
        clear cw hM hO hO9 hE
        have y1 : (p : Int) % 4294967296 = (p : Int) := by omega
        have y2 : (q : Int) % 4294967296 = (q : Int) := by omega
        have y3 : (4 * (p : Int)) % 4294967296 = 4 * (p : Int) := by omega
        have y4 : (4 * (q : Int)) % 4294967296 = 4 * (q : Int) := by omega
        have y5 : 0 ≤ (words : Int) - (q : Int) := by omega
        have y6 : (words : Int) - (q : Int) ≤ 100 := by omega
        go_wp2_with fail
        refine (line_any b _ _ hM9.eng).mono ?_
        rintro e w9 ⟨rfl, hO10⟩
        have hM10 := hM9.only hO10
        have hOb := hOa.trans hO10
        clear cr cn hM9 hO10 hOa
        go_wp2_with fail
        refine (state_any b _ _ hM10.eng).mono ?_
        rintro e w10 ⟨rfl, hO11⟩
        have hM11 := hM10.only hO11
        have hOc := hOb.trans hO11
        have cf := hM11.pf.cell 0
        have ct := hM11.pt.cell 0
        have cd := hM11.pd.cell 0
        simp only [List.getElem?_toArray, List.getElem?_cons_zero] at cf ct cd
        have lf := hM11.pf.lt
        have lt := hM11.pt.lt
        have ld := hM11.pd.lt
        clear hM10 hM11 hO11 hOb
        go_wp2_with fail
        go_returns
        exact ⟨rfl, hOc.alloc _⟩
  · have x1 : ¬ (0 : Int) ≤ dn := by omega
    have cd := m0.pd.cell 0
    simp only [List.getElem?_toArray, List.getElem?_cons_zero] at cd
    go_wp2_with fail
    go_loopw [19] (fun i wr => ∃ k : Nat, k ≤ 2 * words ∧ i = .int .i64 k ∧ MvW wr B b w6.heap.size (w6.heap.size + 1) (B + 1 + 1 + 1 + 1) B (w6.heap.size + 1 + 1) (B + 1 + 1) (B + 1) (B + 1 + 1 + 1) fr tt wd dn ao len cap f k (heldOf len f k) (stt fr tt dn words len f k) ∧ Only [] w wr) (fun i _ => 2 * words - (intOf i).toNat)
    case atStart => exact ⟨0, by omega, rfl, m0, hO8⟩
    case round =>
      clear m0 hO8 cd
      obtain ⟨k, hk, rfl, hM, hO⟩ := hrel
      by_cases hkn : k < 2 * words
      · have hlow := stt_low fr tt dn words len f k (2 * words) (.inr ⟨by omega, rfl⟩) hkn
        rw [hlow] at hM
        clear hlow
        have cw := hM.pw.cell 0
        simp only [List.getElem?_toArray, List.getElem?_cons_zero] at cw
        have hkt : (k : Int) < 2 * (words : Int) := by omega
        go_wp2_with fail
        refine (moves_step wr B b w6.heap.size (w6.heap.size + 1) (B + 1 + 1 + 1 + 1) B (w6.heap.size + 1 + 1) (B + 1 + 1) (B + 1) (B + 1 + 1 + 1) fr tt wd dn ao words len cap f k hM (by omega) (by omega)).mono ?_
        rintro e w' ⟨rfl, hM', hO'⟩
        clear cw hM hkt
        go_wp2_with fail
        go_roundw
        case rel => exact ⟨k + 1, by omega, by go_num, hM', hO.thenB (by rw [hB]; exact hO')⟩
        case measure => simp [intOf]; omega
      · obtain rfl : k = 2 * words := by omega
        have hst : stt fr tt dn words len f (2 * words) = ⟨(fr + 4 * (words : Int)) % 4294967296, (tt + 4 * (words : Int)) % 4294967296, 0, 0, false, false, false, true, true⟩ := by
          unfold stt
          rw [if_neg (by omega)]
          have a1 : (2 * words + 1) / 2 = words := by omega
          have a2 : 2 * words / 2 = words := by omega
          have a3 : 2 * words % 2 = 0 := by omega
          simp [mv, a1, a2, a3]
        rw [hst] at hM
        clear hst
        have hE := hM.eng
        have cw := hM.pw.cell 0
        simp only [List.getElem?_toArray, List.getElem?_cons_zero] at cw
        go_wp2_with fail
        refine (step_idle b _ _ wd _ hE rfl).mono ?_
        rintro e w8 ⟨rfl, hO9⟩
        have hM9 := hM.only hO9
        have hOa := hO.trans hO9
        have cr := hM9.pr.cell 0
        have cn := hM9.pn.cell 0
        simp only [List.getElem?_toArray, List.getElem?_cons_zero] at cr cn
        clear cw hM hO hO9 hE
        have y3 : (4 * (words : Int)) % 4294967296 = 4 * (words : Int) := by omega
        have y4 : (2 * (words : Int) - 1 == dn) = false := by simp; omega
        go_wp2_with fail
        refine (line_any b _ _ hM9.eng).mono ?_
        rintro e w9 ⟨rfl, hO10⟩
        have hM10 := hM9.only hO10
        have hOb := hOa.trans hO10
        clear cr cn hM9 hO10 hOa
        go_wp2_with fail
        refine (state_any b _ _ hM10.eng).mono ?_
        rintro e w10 ⟨rfl, hO11⟩
        have hM11 := hM10.only hO11
        have hOc := hOb.trans hO11
        have cf := hM11.pf.cell 0
        have ct := hM11.pt.cell 0
        have cd := hM11.pd.cell 0
        simp only [List.getElem?_toArray, List.getElem?_cons_zero] at cf ct cd
        have lf := hM11.pf.lt
        have lt := hM11.pt.lt
        have ld := hM11.pd.lt
        clear hM10 hM11 hO11 hOb
        go_wp2_with fail
        go_returns
        exact ⟨rfl, hOc.alloc _⟩
  · have x1 : (0 : Int) ≤ dn := by omega
    have x2 : ¬ dn < 2 * (words : Int) := by omega
    clear hbig
    have cd := m0.pd.cell 0
    simp only [List.getElem?_toArray, List.getElem?_cons_zero] at cd
    go_wp2_with fail
    go_loopw [19] (fun i wr => ∃ k : Nat, k ≤ 2 * words ∧ i = .int .i64 k ∧ MvW wr B b w6.heap.size (w6.heap.size + 1) (B + 1 + 1 + 1 + 1) B (w6.heap.size + 1 + 1) (B + 1 + 1) (B + 1) (B + 1 + 1 + 1) fr tt wd dn ao len cap f k (heldOf len f k) (stt fr tt dn words len f k) ∧ Only [] w wr) (fun i _ => 2 * words - (intOf i).toNat)
    case atStart => exact ⟨0, by omega, rfl, m0, hO8⟩
    case round =>
      clear m0 hO8 cd
      obtain ⟨k, hk, rfl, hM, hO⟩ := hrel
      by_cases hkn : k < 2 * words
      · have hlow := stt_low fr tt dn words len f k (2 * words) (.inr ⟨by omega, rfl⟩) hkn
        rw [hlow] at hM
        clear hlow
        have cw := hM.pw.cell 0
        simp only [List.getElem?_toArray, List.getElem?_cons_zero] at cw
        have hkt : (k : Int) < 2 * (words : Int) := by omega
        go_wp2_with fail
        refine (moves_step wr B b w6.heap.size (w6.heap.size + 1) (B + 1 + 1 + 1 + 1) B (w6.heap.size + 1 + 1) (B + 1 + 1) (B + 1) (B + 1 + 1 + 1) fr tt wd dn ao words len cap f k hM (by omega) (by omega)).mono ?_
        rintro e w' ⟨rfl, hM', hO'⟩
        clear cw hM hkt
        go_wp2_with fail
        go_roundw
        case rel => exact ⟨k + 1, by omega, by go_num, hM', hO.thenB (by rw [hB]; exact hO')⟩
        case measure => simp [intOf]; omega
      · obtain rfl : k = 2 * words := by omega
        have hst : stt fr tt dn words len f (2 * words) = ⟨(fr + 4 * (words : Int)) % 4294967296, (tt + 4 * (words : Int)) % 4294967296, 0, 0, false, false, false, true, true⟩ := by
          unfold stt
          rw [if_neg (by omega)]
          have a1 : (2 * words + 1) / 2 = words := by omega
          have a2 : 2 * words / 2 = words := by omega
          have a3 : 2 * words % 2 = 0 := by omega
          simp [mv, a1, a2, a3]
        rw [hst] at hM
        clear hst
        have hE := hM.eng
        have cw := hM.pw.cell 0
        simp only [List.getElem?_toArray, List.getElem?_cons_zero] at cw
        go_wp2_with fail
        refine (step_idle b _ _ wd _ hE rfl).mono ?_
        rintro e w8 ⟨rfl, hO9⟩
        have hM9 := hM.only hO9
        have hOa := hO.trans hO9
        have cr := hM9.pr.cell 0
        have cn := hM9.pn.cell 0
        simp only [List.getElem?_toArray, List.getElem?_cons_zero] at cr cn
        clear cw hM hO hO9 hE
        have y3 : (4 * (words : Int)) % 4294967296 = 4 * (words : Int) := by omega
        have y4 : (2 * (words : Int) - 1 == dn) = false := by simp; omega
        go_wp2_with fail
        refine (line_any b _ _ hM9.eng).mono ?_
        rintro e w9 ⟨rfl, hO10⟩
        have hM10 := hM9.only hO10
        have hOb := hOa.trans hO10
        clear cr cn hM9 hO10 hOa
        go_wp2_with fail
        refine (state_any b _ _ hM10.eng).mono ?_
        rintro e w10 ⟨rfl, hO11⟩
        have hM11 := hM10.only hO11
        have hOc := hOb.trans hO11
        have cf := hM11.pf.cell 0
        have ct := hM11.pt.cell 0
        have cd := hM11.pd.cell 0
        simp only [List.getElem?_toArray, List.getElem?_cons_zero] at cf ct cd
        have lf := hM11.pf.lt
        have lt := hM11.pt.lt
        have ld := hM11.pd.lt
        clear hM10 hM11 hO11 hOb
        go_wp2_with fail
        go_returns
        exact ⟨rfl, hOc.alloc _⟩
end Go.Proofs.Ytnnlnffdbdpmbaa
