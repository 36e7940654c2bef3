/- The law DmaDoes, walked. Conditions: the numbers are of their kinds; the list of deeds reads as it stands. -/
import Derived.Test.YtnnlnffdbdpmbaaSame
import Derived.Test.YtnnlnffdbdpmbaaSteps
import Derived.Test.YtnnlnffdbdpmbaaRefB
import Derived.Test.YtnnlnffdbdpmbaaStops
import Derived.Deep.RegionWith
import Derived.LoopTactic
namespace Go.Proofs.Ytnnlnffdbdpmbaa
open Go Go.RowKit

theorem ES.told_inv (s : ES) (v e : Int) (h : s.Inv) (hv : 0 ≤ v ∧ v < 4294967296) (hb : s.busy = true) : (s.told v e).Inv := by
  obtain ⟨f, t, l, h', has, busy, den, done, calls⟩ := s
  obtain ⟨h1, h2, h3, h4, h5, h6, h7⟩ := h
  simp only at *
  unfold ES.told
  by_cases he : e = 0
  · subst he
    cases has
    · constructor <;> simp_all <;> omega
    · by_cases hl : (l - 1) % 4294967296 > 0
      · have := decide_eq_true hl
        constructor <;> simp_all <;> omega
      · have := decide_eq_false hl
        constructor <;> simp_all <;> omega
  · constructor <;> simp_all

theorem ES.write_inv (s : ES) (reg v : Int) (h : s.Inv) (hv : 0 ≤ v ∧ v < 4294967296) : (s.write reg v).Inv := by
  obtain ⟨f, t, l, h', has, busy, den, done, calls⟩ := s
  obtain ⟨h1, h2, h3, h4, h5, h6, h7⟩ := h
  simp only at *
  unfold ES.write ES.ctrl
  by_cases hl : l > 0
  · have := decide_eq_true hl
    split
    · cases busy <;> cases has <;> constructor <;> simp_all
    split
    · cases busy <;> cases has <;> constructor <;> simp_all
    split
    · cases busy <;> cases has <;> constructor <;> simp_all
    split
    · cases busy <;> cases has <;> (repeat (first | split | (constructor <;> simp_all)))
    split <;> constructor <;> simp_all
  · have := decide_eq_false hl
    split
    · cases busy <;> cases has <;> constructor <;> simp_all
    split
    · cases busy <;> cases has <;> constructor <;> simp_all
    split
    · cases busy <;> cases has <;> constructor <;> simp_all
    split
    · cases busy <;> cases has <;> (repeat (first | split | (constructor <;> simp_all)))
    split <;> constructor <;> simp_all

/-- The list of deeds: where its elements lie, in blocks that were there. -/
def Deeds (w : World) (bk off n : Nat) : Prop := bk < w.heap.size ∧ ∀ k, k < n → ∃ a c v e : Int, w.cell? ⟨bk, off + k * 4, none⟩ = some (.int .i64 a) ∧ w.cell? ⟨bk, off + k * 4 + 1, none⟩ = some (.int .i64 c) ∧ w.cell? ⟨bk, off + k * 4 + 2, none⟩ = some (.int .u32 v) ∧ w.cell? ⟨bk, off + k * 4 + 3, none⟩ = some (.int .i64 e) ∧ 0 ≤ v ∧ v < 4294967296

theorem Deeds.only {w w' : World} {bk off n : Nat} (h : Deeds w bk off n) (hO : Only [] w w') : Deeds w' bk off n := by
  obtain ⟨h1, h2⟩ := h
  refine ⟨Nat.lt_of_lt_of_le h1 hO.size, fun k hk => ?_⟩
  obtain ⟨a, c, v, e, g1, g2, g3, g4, g5⟩ := h2 k hk
  refine ⟨a, c, v, e, ?_, ?_, ?_, ?_, g5⟩
  · rw [hO.cell (p := ⟨bk, off + k * 4, none⟩) h1 (by simp)]; exact g1
  · rw [hO.cell (p := ⟨bk, off + k * 4 + 1, none⟩) h1 (by simp)]; exact g2
  · rw [hO.cell (p := ⟨bk, off + k * 4 + 2, none⟩) h1 (by simp)]; exact g3
  · rw [hO.cell (p := ⟨bk, off + k * 4 + 3, none⟩) h1 (by simp)]; exact g4

set_option maxHeartbeats 8000000 in
theorem does_any (s0 : ES) (hs : s0.Fits) (ao : Option Addr) (n cap : Nat) (w : World) (hn : n ≤ 300 → n = 0 ∨ ∃ bk off, ao = some ⟨bk, off, none⟩ ∧ Deeds w bk off n) :
    Calls Try.prog 4 #[s0.agg, .slice ao n cap] w fun e w' => e = .returned (.bool true) ∧ Only [] w w' := by
  by_cases hbig : 300 < n
  · have hgt : ((n : Int) > 300) = True := by simp; omega
    go_enter Try.func4, Try.ntmps4
    go_wp2_with fail
    refine (awake_any _).mono ?_
    rintro e w1 ⟨rfl, hO1⟩
    go_wp2_with fail
    go_returns
    exact ⟨rfl, ((Only.refl _ _).alloc _).trans hO1⟩
  have hn' := hn (by omega)
  clear hn
  have hle : ¬ (300 : Int) < (n : Int) := by omega
  go_enter Try.func4, Try.ntmps4
  go_wp2_with fail
  have hS := (Blk.new' (w := w) (n := w.heap.size) (t := 24) (cs := #[.int .u32 s0.f, .int .u32 s0.t, .int .u32 s0.l, .int .u32 s0.h, .bool s0.has, .bool s0.busy, .bool s0.den, .bool s0.done, .bool s0.calls]) rfl rfl)
  go_region_with (first
    | (refine (of_any s0 _).mono ?_; rintro e w1 ⟨b, rfl, hb0, hE1, hO1⟩; obtain ⟨c0, c1, c2, c3, c4, c5, c6, c7, c8⟩ := (show StB w1 w.heap.size s0 from hO1.blk hS (by simp)).c; clear hS)
    | (refine (rof_any s0 _).mono ?_; rintro e w2 ⟨r, rfl, hr0, hR2, hO2⟩))
  all_goals
    have hE : EngB w2 b s0.of := hO2.blk hE1 (by simp)
    have hO : Only [] w w2 := ((((Only.refl _ _).alloc _).drew).trans hO1).trans hO2
    have hbw : w.heap.size ≤ b := by simp at hb0; omega
    have hrw : w.heap.size ≤ r := by have := hO1.size; simp at this; omega
    have hI := Lib.hid (s0.of_inv hs)
    clear c0 c1 c2 c3 c4 c5 c6 c7 c8 hE1 hO1 hO2 hb0 hr0
    generalize s0.of = s1 at *
    go_wp2_with fail
    go_loopw [7] (fun i wr => ∃ (k : Nat) (s : ES), k ≤ n ∧ i = .int .i64 k ∧ Hid s.Inv ∧ EngB wr b s ∧ RefB wr r s ∧ Only [] w wr) (fun i _ => n - (intOf i).toNat)
    case atStart => exact ⟨0, s1, by omega, rfl, hI, hE, hR2, hO⟩
    case round =>
      clear hE hR2 hO hI
      obtain ⟨k, s, hk, rfl, hI, hE, hR, hO⟩ := hrel
      by_cases hkn : k < n
      · obtain ⟨bk, off, rfl, hD⟩ := hn'.resolve_left (by omega)
        have hbk := hD.1
        go_wp2_with fail
        refine (same_any b r s _ hE hR).mono ?_
        rintro e w3 ⟨rfl, hO3⟩
        have hE3 := hO3.eng hE (by simp)
        have hR3 := hO3.ref hR (by simp)
        have hO' := hO.trans hO3
        clear hO hO3 hE hR
        obtain ⟨a, c, v, e, g0, g1, g2, g3, hv0, hv1⟩ := (hD.only hO').2 k hkn
        have hl3 : bk < w3.heap.size := (hD.only hO').1
        have H0 := Lib.hid hv0
        have H1 := Lib.hid hv1
        clear hv0 hv1
        go_wp2_with fail
        refine (pick_any a _).mono ?_
        rintro e0 w4 ⟨p, rfl, hp, hw4⟩
        subst hw4
        have hE4 := hE3.alloc (.cells #[.int .i64 a, .int .i64 c, .int .u32 v, .int .i64 e] 45)
        have hR4 := hR3.alloc (.cells #[.int .i64 a, .int .i64 c, .int .u32 v, .int .i64 e] 45)
        have hd4 : Blk (w3.alloc (.cells #[.int .i64 a, .int .i64 c, .int .u32 v, .int .i64 e] 45)) w3.heap.size 45 #[.int .i64 a, .int .i64 c, .int .u32 v, .int .i64 e] := Blk.new' rfl rfl
        have hO4 := hO'.alloc (.cells #[.int .i64 a, .int .i64 c, .int .u32 v, .int .i64 e] 45)
        have hb4 : b < w3.heap.size := hE3.lt
        have hr4 : r < w3.heap.size := hR3.lt
        have hbr : b ≠ r := Blk.ne_ hE3 hR3 (by decide)
        clear g0 g1 g2 g3 hE3 hR3 hO' hD
        generalize w3.alloc (.cells #[.int .i64 a, .int .i64 c, .int .u32 v, .int .i64 e] 45) = w4 at *
        generalize w3.heap.size = d at *
        have g1 : w4.cell? ⟨d, 1, none⟩ = some (.int .i64 c) := hd4.cell 1
        have g2 : w4.cell? ⟨d, 2, none⟩ = some (.int .u32 v) := hd4.cell 2
        have g3 : w4.cell? ⟨d, 3, none⟩ = some (.int .i64 e) := hd4.cell 3
        rcases hp with rfl | rfl | rfl
        · go_wp2_with fail
          refine wp_region_D (Only [] w4) (by kernel_rfl) (by kernel_rfl) ((Only.refl _ _).drew) ?_
          repeat (first
            | (refine wpT_step ?_ (stD rfl (fun w' hD => ?_)) ?_
               rotate_left
               · have g1' : w'.cell? ⟨d, 1, none⟩ = some (.int .i64 c) := (hD.blk hd4 (by simp)).cell 1
                 go_simp
                 first
                   | (refine ⟨?_, hD⟩; rfl)
                   | (refine (read_any b s c w' (hD.eng hE4 (by simp))).mono ?_; rintro e w'' ⟨rfl, h⟩; refine ⟨?_, hD.trans h⟩; rfl)
                   | (refine (rread_any r s c w' (hD.ref hR4 (by simp))).mono ?_; rintro e w'' ⟨rfl, h⟩; refine ⟨?_, hD.trans h⟩; rfl)
               simp only [Act.put, List.setIfInBounds_toArray, List.set_cons_succ, List.set_cons_zero, Nat.zero_add, Nat.reduceAdd])
            | (refine wpT_step _ (stD_skip rfl) ?_
               simp only [Act.put, List.setIfInBounds_toArray, List.set_cons_succ, List.set_cons_zero, Nat.zero_add, Nat.reduceAdd]))
          refine wpT_nil ?_
          intro w5 hD
          have hE5 := hD.eng hE4 (by simp)
          have hR5 := hD.ref hR4 (by simp)
          have hO5 := hO4.trans hD
          clear hE4 hR4 hO4 hD hd4 g1 g2 g3
          go_wp2_with fail
          go_roundw
          case rel => exact ⟨k + 1, s, by omega, by go_num, hI, hE5, hR5, hO5⟩
          case measure => simp [intOf]; omega
        · go_wp2_with fail
          refine (write_any b s c v _ hE4 H0.out H1.out).mono ?_
          rintro e5 w5 ⟨rfl, hE5, hO5⟩
          have hR5 := hO5.ref hR4 (by simpa using hbr.symm)
          have hd5 := hO5.blk hd4 (by simp; omega)
          have g1 : w5.cell? ⟨d, 1, none⟩ = some (.int .i64 c) := hd5.cell 1
          have g2 : w5.cell? ⟨d, 2, none⟩ = some (.int .u32 v) := hd5.cell 2
          have hO6 := hO4.trans' hO5 (by simp; omega)
          clear hE4 hR4 hd4 hO4 hO5
          go_wp2_with fail
          refine (rwrite_any r s c v _ hR5 H0.out H1.out).mono ?_
          rintro e6 w6 ⟨rfl, hR6, hO7⟩
          have hE6 := hO7.eng hE5 (by simpa using hbr)
          have hO8 := hO6.trans' hO7 (by simp; omega)
          have hI' := Lib.hid (s.write_inv c v hI.out ⟨H0.out, H1.out⟩)
          clear hE5 hR5 hO6 hO7 hd5 g1 g2 hI
          generalize s.write c v = s' at *
          go_wp2_with fail
          go_roundw
          case rel => exact ⟨k + 1, s', by omega, by go_num, hI', hE6, hR6, hO8⟩
          case measure => simp [intOf]; omega
        · go_wp2_with fail
          refine (steps_any b r s c v e _ hE4 hR4 hI.out.holds).mono ?_
          rintro e5 w5 ⟨rfl, hE5, hR5, hO5⟩
          have hO6 := hO4.trans' hO5 (by simp; omega)
          have hI' : Hid (if s.busy then s.told v e else s).Inv := Lib.hid (by
            by_cases h : s.busy = true
            · rw [if_pos h]; exact s.told_inv v e hI.out ⟨H0.out, H1.out⟩ h
            · rw [if_neg h]; exact hI.out)
          clear hE4 hR4 hd4 hO4 hO5 hI
          generalize (if s.busy then s.told v e else s) = s' at *
          go_wp2_with fail
          go_roundw
          case rel => exact ⟨k + 1, s', by omega, by go_num, hI', hE5, hR5, hO6⟩
          case measure => simp [intOf]; omega
      · go_wp2_with fail
        refine (same_any b r s _ hE hR).mono ?_
        rintro e w3 ⟨rfl, hO3⟩
        go_wp2_with fail
        refine (awake_any _).mono ?_
        rintro e w4 ⟨rfl, hO4⟩
        go_wp2_with fail
        go_returns
        exact ⟨rfl, (hO.trans hO3).trans hO4⟩
end Go.Proofs.Ytnnlnffdbdpmbaa
