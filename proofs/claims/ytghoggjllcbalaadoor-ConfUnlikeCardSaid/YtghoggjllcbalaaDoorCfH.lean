/- strconv.FormatUint at base 16, and hex of package conf, walked. Conditions: the number is a uint32; the table of bits is laid. -/
import Derived.Test.YtghoggjllcbalaaDoorCfG
import Derived.Test.YtghoggjllcbalaaDoorCfN
import Derived.Test.YtghoggjllcbalaaDoorCfA
import Derived.Laws.IdiomStrings
import Derived.Laws.BitsAllLaws
import Derived.Lib.ItoaMem
import Derived.Outline
namespace Go.Proofs.YtghoggjllcbalaaDoor
open Go Go.RowKit

set_option maxHeartbeats 400000 in
theorem pow2_any (w : World) : Calls Tryd.prog 77 #[.int .i64 16] w fun e w' => e = .returned (.bool true) ∧ w' = w := by
  have h : bits .and .i64 16 15 = 0 := by decide
  go_enter Tryd.func77, Tryd.ntmps77
  go_wp2
  go_ret
  exact ⟨rfl, rfl⟩

set_option maxHeartbeats 400000 in
theorem tz_any (w : World) (hd : w.cell? ⟨7, 15, none⟩ = some (.int .u8 4)) : Calls Tryd.prog 78 #[.int .u64 16] w fun e w' => e = .returned (.int .i64 4) ∧ w' = w := by
  have h : (IntKind.u64.wrap (bits .and .u64 16 (IntKind.u64.wrap (-16)) * 285870213051353865) / 288230376151711744).toNat = 15 := by decide
  go_enter Tryd.func78, Tryd.ntmps78
  go_wp2
  go_ret
  exact ⟨rfl, rfl⟩

/-- The digits' text of the library. -/
theorem dig_get {d : Nat} (h : d < 16) (h' : d < ByteArray.size ⟨#[48, 49, 50, 51, 52, 53, 54, 55, 56, 57, 97, 98, 99, 100, 101, 102, 103, 104, 105, 106, 107, 108, 109, 110, 111, 112, 113, 114, 115, 116, 117, 118, 119, 120, 121, 122]⟩) : (ByteArray.mk #[48, 49, 50, 51, 52, 53, 54, 55, 56, 57, 97, 98, 99, 100, 101, 102, 103, 104, 105, 106, 107, 108, 109, 110, 111, 112, 113, 114, 115, 116, 117, 118, 119, 120, 121, 122])[d]'h' = hx d := by
  have : d = 0 ∨ d = 1 ∨ d = 2 ∨ d = 3 ∨ d = 4 ∨ d = 5 ∨ d = 6 ∨ d = 7 ∨ d = 8 ∨ d = 9 ∨ d = 10 ∨ d = 11 ∨ d = 12 ∨ d = 13 ∨ d = 14 ∨ d = 15 := by omega
  rcases this with rfl | rfl | rfl | rfl | rfl | rfl | rfl | rfl | rfl | rfl | rfl | rfl | rfl | rfl | rfl | rfl <;> rfl

theorem and15 (v : Nat) (h : v < 4294967296) : bits .and .u64 (v : Int) 15 = ((v % 16 : Nat) : Int) := by
  rw [show (15 : Int) = ((15 : Nat) : Int) from rfl, u64_and_nat v 15 (by omega) (by omega)]
  rw [show 15 = 2 ^ 4 - 1 from rfl, Nat.and_two_pow_sub_one_eq_mod]

theorem pow_step {v k : Nat} (h : v < 16 ^ (k + 1)) : v / 16 < 16 ^ k := by
  rw [Nat.pow_succ] at h
  exact Nat.div_lt_of_lt_mul (by rw [Nat.mul_comm]; exact h)

/-- What holds at each round's head: k digits more may come. -/
def HexR (u : Nat) (w : World) (A : Nat) (x i : Value) (wr : World) : Prop :=
  ∃ (v j k : Nat) (ds : List UInt8) (cs : Array Value), x = .int .u64 v ∧ i = .int .i64 ((j + 1 : Nat) : Int) ∧ j + 1 + ds.length = 65 ∧ k + ds.length = 7 ∧ v < 16 ^ (k + 1) ∧ v < 4294967296 ∧ numL 16 u = numL 16 v ++ ds ∧
    Blk wr A 110 cs ∧ cs.size = 65 ∧ (∀ n (h : n < ds.length), cs[j + 1 + n]? = some (.int .u8 (ds[n].toNat : Int))) ∧ Only [] w wr

theorem HexR.next {u : Nat} {w : World} {A v j k : Nat} {ds : List UInt8} {cs : Array Value} {wr : World} (hA : w.heap.size ≤ A) (h1 : j + 1 + ds.length = 65) (h2 : k + ds.length = 7) (h3 : v < 16 ^ (k + 1)) (h4 : v < 4294967296) (hv : 16 ≤ v)
    (h5 : numL 16 u = numL 16 v ++ ds) (hb : Blk wr A 110 cs) (hs : cs.size = 65) (hc : ∀ n (h : n < ds.length), cs[j + 1 + n]? = some (.int .u8 (ds[n].toNat : Int))) (hO : Only [] w wr) :
    HexR u w A (.int .u64 ((v / 16 : Nat) : Int)) (.int .i64 (j : Int)) (wr.setCell ⟨A, j, none⟩ (.int .u8 ((hx (v % 16)).toNat : Int))) := by
  obtain ⟨k', rfl⟩ : ∃ k', k = k' + 1 := by
    rcases k with _ | k'
    · omega
    · exact ⟨k', rfl⟩
  obtain ⟨j', rfl⟩ : ∃ j', j = j' + 1 := ⟨j - 1, by omega⟩
  refine ⟨v / 16, j', k', hx (v % 16) :: ds, _, rfl, rfl, by simp; omega, by simp; omega, pow_step h3, by omega, by rw [h5, numL_ge (by omega) hv]; simp, hb.set_ (j' + 1) _, by simpa using hs, ?_, hO.setCell (.inr hA) _⟩
  intro n hn
  rcases n with _ | n
  · have hlt : j' + 1 < cs.size := by omega
    rw [Nat.add_zero, Array.getElem?_setIfInBounds_self_of_lt hlt]
    rfl
  · rw [Array.getElem?_setIfInBounds_ne (by omega)]
    have := hc n (by simpa using hn)
    rw [show j' + 1 + (n + 1) = j' + 1 + 1 + n by omega]
    simpa using this

set_option maxRecDepth 100000 in
set_option maxHeartbeats 4000000 in
theorem fbits_any (u : Nat) (hu : u < 4294967296) (w : World) (hd : w.cell? ⟨7, 15, none⟩ = some (.int .u8 4)) (h8 : 8 ≤ w.heap.size) :
    Calls Tryd.prog 61 #[.slice none 0 0, .int .u64 u, .int .i64 16, .bool false, .bool false] w fun e w' => e = .returned (.tuple #[.slice none 0 0, .string ⟨(numL 16 u).toArray⟩]) ∧ Only [] w w' := by
  have h7 : 7 < w.heap.size := by omega
  go_enter Tryd.func61, Tryd.ntmps61
  go_wp2_with (first
    | (go_at_call 77; refine (pow2_any _).mono ?_; rintro e w' ⟨rfl, rfl⟩)
    | (go_at_call 78; refine (tz_any _ (by rw [World.cell?_alloc_lt _ _ _ (by simpa using h7)]; exact hd)).mono ?_; rintro e w' ⟨rfl, rfl⟩))
  have hR0 : HexR u w w.heap.size (.int .u64 u) (.int .i64 65) (w.alloc (.cells Tryd.zeroCells110 110)) :=
    ⟨u, 64, 7, [], _, rfl, rfl, rfl, rfl, by omega, hu, by simp, Blk.new' rfl rfl, by decide +kernel, fun n h => absurd h (by simp), (Only.refl _ _).alloc _⟩
  have hA : w.heap.size ≤ w.heap.size := Nat.le_refl _
  have hal : Tryd.prog.arrayLen 110 = 65 := by kernel_rfl
  go_loopw [1, 13] (fun x i wr => HexR u w w.heap.size x i wr) (fun x _ _ => (intOf x).toNat)
  case atStart => exact hR0
  case round =>
    clear hR0
    obtain ⟨v, j, k, ds, cs, rfl, rfl, h1, h2, h3, h4, h5, hb, hs, hc, hO⟩ := hrel
    have hx1 := and15 v h4
    have hj0 : (0 : Int) ≤ (j : Int) := by omega
    have hj1 : (j : Int) < 65 := by omega
    have hbl := hb.lt
    obtain ⟨y, hcell⟩ : ∃ y, wr.cell? ⟨w.heap.size, j, none⟩ = some y := ⟨_, by rw [hb.cell]; exact Array.getElem?_eq_getElem (by omega)⟩
    have hfr := hb.frozen j
    have H2 := Lib.hid h2
    have H3 := Lib.hid h3
    have H5 := Lib.hid h5
    have HS := Lib.hid hs
    have HC := Lib.hid hc
    have H1 := Lib.hid h1
    clear h2 h3 h5 hs hc h1
    by_cases hv : 16 ≤ v
    · have hv' : (16 : Int) ≤ (v : Int) := by omega
      have Hv := Lib.hid hv
      clear hv
      go_wp2
      go_roundw
      case rel =>
        rw [dig_get (by omega)]
        exact HexR.next hA H1.out H2.out H3.out h4 Hv.out H5.out hb HS.out HC.out hO
      case measure => have := Hv.out; simp [intOf]; omega
    · have hv' : (v : Int) < 16 := by omega
      have hv0 : v < 16 := by omega
      clear hv hx1
      have hsl : ∀ W, (Instr.sliceAt 110 (.pointer (some ⟨w.heap.size, 0, none⟩)) (some (.int .i64 (j : Int))) none none).run Tryd.prog W = .ok (.slice (some ⟨w.heap.size, j, none⟩) (65 - j) (65 - j)) W := fun W => by
        rw [run_sliceAt_array_l W 110 ⟨w.heap.size, 0, none⟩ (by simp [Program.arrayLen, Program.elem, Tryd.underlying110]) .i64 (j : Int) (by omega) (by rw [hal]; omega)]
        rw [hal]
        go_simp
        omega
      have hl : (hx v :: ds).length = 65 - j := by have := H1.out; simp; omega
      have hcv : (convert 81 9 (.slice (some ⟨w.heap.size, j, none⟩) (65 - j) (65 - j))).run Tryd.prog (wr.setCell ⟨w.heap.size, j, none⟩ (.int .u8 ((hx v).toNat : Int))) = .ok (.string ⟨(hx v :: ds).toArray⟩) (wr.setCell ⟨w.heap.size, j, none⟩ (.int .u8 ((hx v).toNat : Int))) := by
        have h := run_convert_bytes_back (P := Tryd.prog) (wr.setCell ⟨w.heap.size, j, none⟩ (.int .u8 ((hx v).toNat : Int))) 81 9 5 ⟨w.heap.size, j, none⟩ (65 - j) (hx v :: ds) Tryd.underlying81 Tryd.underlying5 Tryd.underlying9 (fun i hi => by
          rw [Lib.add_plain]
          cases i with
          | zero => exact World.cell?_setCell_same _ _ _ hcell
          | succ i =>
            rw [World.cell?_setCell_other _ _ _ _ (by simp), List.getElem_cons_succ, hb.cell, show j + (i + 1) = j + 1 + i by omega]
            exact HC.out i (by simpa using hi))
        rw [hl] at h
        exact h
      have Hl := Lib.hid hl
      clear hl
      go_wp2
      rw [dig_get hv0, hcv]
      go_simp
      go_wp2
      go_ret2
      refine ⟨?_, hO.setCell (.inr hA) _⟩
      rw [H5.out, numL_lt hv0]
      rfl
set_option maxHeartbeats 400000 in
theorem fmt16_any (u : Nat) (hu : u < 4294967296) (w : World) (hg : Gl w) :
    Calls Tryd.prog 34 #[.int .u64 u, .int .i64 16] w fun e w' => e = .returned (.string ⟨(numL 16 u).toArray⟩) ∧ Only [] w w' := by
  go_enter Tryd.func34, Tryd.ntmps34
  go_wp2_with (first
    | (go_at_call 61; refine (fbits_any u hu _ hg.db hg.lt).mono ?_; rintro e w' ⟨rfl, hO⟩)
    | go_in)
  go_ret
  exact ⟨rfl, hO⟩
set_option maxHeartbeats 400000 in
theorem hex_any (u : Nat) (hu : u < 4294967296) (w : World) (hg : Gl w) :
    Calls Tryd.prog 16 #[.int .u32 u] w fun e w' => e = .returned (.string ⟨(numL 16 u).toArray⟩) ∧ Only [] w w' := by
  have h64 : (u : Int) % 18446744073709551616 = (u : Int) := by omega
  go_enter Tryd.func16, Tryd.ntmps16
  go_wp2_with (go_at_call 34; refine (fmt16_any u hu _ hg).mono ?_; rintro e w' ⟨rfl, hO⟩)
  go_ret
  exact ⟨rfl, hO⟩
end Go.Proofs.YtghoggjllcbalaaDoor
