/- What the listed variables hold, carried over worlds in which nothing old has turned. No condition. Numbers as texts, in a base: plain words and laws. No condition. strconv.FormatUint at base 16, and hex of package conf, walked. Conditions: the number is a uint32; the table of bits is laid. The words of a command's text, walked: numbers, rights, lines, first words, and the joining of words. Conditions: the listed variables are laid. -/
import Derived.Test.YtagmoehjcgjnjaaGreatDoorCfGa
import Derived.Test.YtagmoehjcgjnjaaGreatDoorProg
import Derived.Lib.LaidTab
import Derived.Lib.ItoaNum
import Derived.Lib.ItoaMem
import Derived.KernelRfl
import Derived.Test.YtagmoehjcgjnjaaGreatDoorCfGb
import Derived.Laws.IdiomStrings
import Derived.Laws.BitsAllLaws
import Derived.Outline
import Derived.Test.YtagmoehjcgjnjaaGreatDoorShelfP
import Derived.OwnWalk
import Derived.Laws.AppendOwn
import Derived.Laws.OwnMore
import Derived.Laws.Concat
namespace Go.Proofs.YtagmoehjcgjnjaaGreatDoor
open Go Go.RowKit

theorem var_only {P : Program} {w w' : World} {n : String} {g : Nat} (hO : Only [] w w') (hg : P.globalNamed n = some g) (hgB : g < w.heap.size) : w'.var? P n = w.var? P n := by
  unfold World.var?
  simp only [hg, Option.bind_some]
  rw [hO.block g hgB (by simp)]

/-- What the library's variables hold. -/
structure Gl (w : World) : Prop where
  tab : Lib.TabIs Tryz.prog w "internal/strconv.uint64pow10" .u64 Lib.pow10Tab
  ml : ∃ m, w.cell? ⟨0, 0, none⟩ = some (.int .i64 m)
  es : ∃ tp p, w.var? Tryz.prog "strconv.ErrSyntax" = some #[.iface tp p]
  er : ∃ tp p, w.var? Tryz.prog "strconv.ErrRange" = some #[.iface tp p]
  db : w.cell? ⟨7, 15, none⟩ = some (.int .u8 4)
  lt : 8 ≤ w.heap.size

theorem Gl.only {w w' : World} (h : Gl w) (hO : Only [] w w') : Gl w' := by
  have hl := h.lt
  refine ⟨?_, ?_, ?_, ?_, ?_, Nat.le_trans hl hO.size⟩
  · have := h.tab
    unfold Lib.TabIs at this ⊢
    rw [var_only hO (g := 1) (by kernel_rfl) (by omega)]
    exact this
  · obtain ⟨m, hm⟩ := h.ml
    exact ⟨m, by rw [hO.cell (by show 0 < _; omega) (by simp)]; exact hm⟩
  · obtain ⟨tp, p, hm⟩ := h.es
    exact ⟨tp, p, by rw [var_only hO (g := 4) (by kernel_rfl) (by omega)]; exact hm⟩
  · obtain ⟨tp, p, hm⟩ := h.er
    exact ⟨tp, p, by rw [var_only hO (g := 5) (by kernel_rfl) (by omega)]; exact hm⟩
  · rw [hO.cell (by show 7 < _; omega) (by simp)]
    exact h.db
/-- A variable of one cell. -/
theorem var_cell {P : Program} {w : World} {n : String} {g : Nat} {v : Value} (hg : P.globalNamed n = some g) (h : w.var? P n = some #[v]) : w.cell? ⟨g, 0, none⟩ = some v := by
  unfold World.var? at h
  simp only [hg, Option.bind_some] at h
  unfold World.cell?
  split at h
  · rename_i cs t f hb
    rw [hb]
    injection h with h
    subst h
    rfl
  · cases h
end Go.Proofs.YtagmoehjcgjnjaaGreatDoor

namespace Go.Proofs.YtagmoehjcgjnjaaGreatDoor
open Go

/-- A digit, to 35. -/
def hx (d : Nat) : UInt8 := UInt8.ofNat (if d < 10 then 48 + d else 87 + d)
/-- A number's digits in a base of two or more, without noughts ahead. -/
def numL (b n : Nat) : List UInt8 := if _h : n < b ∨ b < 2 then [hx n] else numL b (n / b) ++ [hx (n % b)]
termination_by n
decreasing_by exact Nat.div_lt_self (by omega) (by omega)

theorem numL_lt {b n : Nat} (h : n < b) : numL b n = [hx n] := by rw [numL, dif_pos (.inl h)]
theorem numL_ge {b n : Nat} (hb : 2 ≤ b) (h : b ≤ n) : numL b n = numL b (n / b) ++ [hx (n % b)] := by rw [numL, dif_neg (by omega)]
theorem hx_dec {d : Nat} (h : d < 10) : hx d = UInt8.ofNat (48 + d) := by unfold hx; rw [if_pos h]
theorem dec_numL (n : Nat) : Lib.decDigits n = numL 10 n := by
  induction n using Nat.strongRecOn with
  | ind n ih =>
    rw [Lib.decDigits]
    by_cases h : n < 10
    · rw [dif_pos h, numL_lt h, hx_dec h]
    · rw [dif_neg h, numL_ge (by omega) (by omega), ih (n / 10) (by omega), hx_dec (by omega)]
theorem itoa_numL {n : Int} (h : 0 ≤ n) : Lib.itoa n = numL 10 n.toNat := by
  unfold Lib.itoa
  rw [if_neg (by omega), dec_numL]
theorem hx_toNat {d : Nat} (h : d < 16) : (hx d).toNat = if d < 10 then 48 + d else 87 + d := by
  unfold hx
  rw [UInt8.toNat_ofNat']
  split <;> omega
end Go.Proofs.YtagmoehjcgjnjaaGreatDoor

namespace Go.Proofs.YtagmoehjcgjnjaaGreatDoor
open Go Go.RowKit

set_option maxHeartbeats 400000 in
theorem pow2_any (w : World) : Calls Tryz.prog 145 #[.int .i64 16] w fun e w' => e = .returned (.bool true) ∧ w' = w := by
  have h : bits .and .i64 16 15 = 0 := by decide
  go_enter Tryz.func145, Tryz.ntmps145
  go_wp2
  go_ret
  exact ⟨rfl, rfl⟩

set_option maxHeartbeats 400000 in
theorem tz_any (w : World) (hd : w.cell? ⟨7, 15, none⟩ = some (.int .u8 4)) : Calls Tryz.prog 146 #[.int .u64 16] w fun e w' => e = .returned (.int .i64 4) ∧ w' = w := by
  have h : (IntKind.u64.wrap (bits .and .u64 16 (IntKind.u64.wrap (-16)) * 285870213051353865) / 288230376151711744).toNat = 15 := by decide
  go_enter Tryz.func146, Tryz.ntmps146
  go_wp2
  go_ret
  exact ⟨rfl, rfl⟩

/-- The digits' text of the library. -/
theorem dig_get {d : Nat} (h : d < 16) (h' : d < ByteArray.size ⟨#[48, 49, 50, 51, 52, 53, 54, 55, 56, 57, 97, 98, 99, 100, 101, 102, 103, 104, 105, 106, 107, 108, 109, 110, 111, 112, 113, 114, 115, 116, 117, 118, 119, 120, 121, 122]⟩) : (ByteArray.mk #[48, 49, 50, 51, 52, 53, 54, 55, 56, 57, 97, 98, 99, 100, 101, 102, 103, 104, 105, 106, 107, 108, 109, 110, 111, 112, 113, 114, 115, 116, 117, 118, 119, 120, 121, 122])[d]'h' = hx d := by
  have : d = 0 ∨ d = 1 ∨ d = 2 ∨ d = 3 ∨ d = 4 ∨ d = 5 ∨ d = 6 ∨ d = 7 ∨ d = 8 ∨ d = 9 ∨ d = 10 ∨ d = 11 ∨ d = 12 ∨ d = 13 ∨ d = 14 ∨ d = 15 := by omega
  rcases this with rfl | rfl | rfl | rfl | rfl | rfl | rfl | rfl | rfl | rfl | rfl | rfl | rfl | rfl | rfl | rfl <;> rfl

theorem and15 (v : Nat) (h : v < 4294967296) : bits .and .u64 (v : Int) 15 = ((v % 16 : Nat) : Int) := by
  rw [show (15 : Int) = ((15 : Nat) : Int) from rfl, u64_and_nat v 15 (by omega) (by omega)]
  rw [show 15 = 2 ^ 4 - 1 from rfl, Nat.and_two_pow_sub_one_eq_mod]

theorem pow_step {v k : Nat} (h : v < 16 ^ (k + 1)) : v / 16 < 16 ^ k := by
  rw [Nat.pow_succ] at h
  exact Nat.div_lt_of_lt_mul (by rw [Nat.mul_comm]; exact h)

/-- What holds at each round's head: k digits more may come. -/
def HexR (u : Nat) (w : World) (A : Nat) (x i : Value) (wr : World) : Prop :=
  ∃ (v j k : Nat) (ds : List UInt8) (cs : Array Value), x = .int .u64 v ∧ i = .int .i64 ((j + 1 : Nat) : Int) ∧ j + 1 + ds.length = 65 ∧ k + ds.length = 7 ∧ v < 16 ^ (k + 1) ∧ v < 4294967296 ∧ numL 16 u = numL 16 v ++ ds ∧
    Blk wr A 216 cs ∧ cs.size = 65 ∧ (∀ n (h : n < ds.length), cs[j + 1 + n]? = some (.int .u8 (ds[n].toNat : Int))) ∧ Only [] w wr

theorem HexR.next {u : Nat} {w : World} {A v j k : Nat} {ds : List UInt8} {cs : Array Value} {wr : World} (hA : w.heap.size ≤ A) (h1 : j + 1 + ds.length = 65) (h2 : k + ds.length = 7) (h3 : v < 16 ^ (k + 1)) (h4 : v < 4294967296) (hv : 16 ≤ v)
    (h5 : numL 16 u = numL 16 v ++ ds) (hb : Blk wr A 216 cs) (hs : cs.size = 65) (hc : ∀ n (h : n < ds.length), cs[j + 1 + n]? = some (.int .u8 (ds[n].toNat : Int))) (hO : Only [] w wr) :
    HexR u w A (.int .u64 ((v / 16 : Nat) : Int)) (.int .i64 (j : Int)) (wr.setCell ⟨A, j, none⟩ (.int .u8 ((hx (v % 16)).toNat : Int))) := by
  obtain ⟨k', rfl⟩ : ∃ k', k = k' + 1 := by
    rcases k with _ | k'
    · omega
    · exact ⟨k', rfl⟩
  obtain ⟨j', rfl⟩ : ∃ j', j = j' + 1 := ⟨j - 1, by omega⟩
  refine ⟨v / 16, j', k', hx (v % 16) :: ds, _, rfl, rfl, by simp; omega, by simp; omega, pow_step h3, by omega, by rw [h5, numL_ge (by omega) hv]; simp, hb.set_ (j' + 1) _, by simpa using hs, ?_, hO.setCell (.inr hA) _⟩
  intro n hn
  rcases n with _ | n
  · have hlt : j' + 1 < cs.size := by omega
    rw [Nat.add_zero, Array.getElem?_setIfInBounds_self_of_lt hlt]
    rfl
  · rw [Array.getElem?_setIfInBounds_ne (by omega)]
    have := hc n (by simpa using hn)
    rw [show j' + 1 + (n + 1) = j' + 1 + 1 + n by omega]
    simpa using this

set_option maxRecDepth 100000 in
set_option maxHeartbeats 4000000 in
theorem fbits_any (u : Nat) (hu : u < 4294967296) (w : World) (hd : w.cell? ⟨7, 15, none⟩ = some (.int .u8 4)) (h8 : 8 ≤ w.heap.size) :
    Calls Tryz.prog 130 #[.slice none 0 0, .int .u64 u, .int .i64 16, .bool false, .bool false] w fun e w' => e = .returned (.tuple #[.slice none 0 0, .string ⟨(numL 16 u).toArray⟩]) ∧ Only [] w w' := by
  have h7 : 7 < w.heap.size := by omega
  go_enter Tryz.func130, Tryz.ntmps130
  go_wp2_with (first
    | (go_at_call 145; refine (pow2_any _).mono ?_; rintro e w' ⟨rfl, rfl⟩)
    | (go_at_call 146; refine (tz_any _ (by rw [World.cell?_alloc_lt _ _ _ (by simpa using h7)]; exact hd)).mono ?_; rintro e w' ⟨rfl, rfl⟩))
  have hR0 : HexR u w w.heap.size (.int .u64 u) (.int .i64 65) (w.alloc (.cells Tryz.zeroCells216 216)) :=
    ⟨u, 64, 7, [], _, rfl, rfl, rfl, rfl, by omega, hu, by simp, Blk.new' rfl rfl, by decide +kernel, fun n h => absurd h (by simp), (Only.refl _ _).alloc _⟩
  have hA : w.heap.size ≤ w.heap.size := Nat.le_refl _
  have hal : Tryz.prog.arrayLen 216 = 65 := by kernel_rfl
  go_loopw [1, 13] (fun x i wr => HexR u w w.heap.size x i wr) (fun x _ _ => (intOf x).toNat)
  case atStart => exact hR0
  case round =>
    clear hR0
    obtain ⟨v, j, k, ds, cs, rfl, rfl, h1, h2, h3, h4, h5, hb, hs, hc, hO⟩ := hrel
    have hx1 := and15 v h4
    have hj0 : (0 : Int) ≤ (j : Int) := by omega
    have hj1 : (j : Int) < 65 := by omega
    have hbl := hb.lt
    obtain ⟨y, hcell⟩ : ∃ y, wr.cell? ⟨w.heap.size, j, none⟩ = some y := ⟨_, by rw [hb.cell]; exact Array.getElem?_eq_getElem (by omega)⟩
    have hfr := hb.frozen j
    have H2 := Lib.hid h2
    have H3 := Lib.hid h3
    have H5 := Lib.hid h5
    have HS := Lib.hid hs
    have HC := Lib.hid hc
    have H1 := Lib.hid h1
    clear h2 h3 h5 hs hc h1
    by_cases hv : 16 ≤ v
    · have hv' : (16 : Int) ≤ (v : Int) := by omega
      have Hv := Lib.hid hv
      clear hv
      go_wp2
      go_roundw
      case rel =>
        rw [dig_get (by omega)]
        exact HexR.next hA H1.out H2.out H3.out h4 Hv.out H5.out hb HS.out HC.out hO
      case measure => have := Hv.out; simp [intOf]; omega
    · have hv' : (v : Int) < 16 := by omega
      have hv0 : v < 16 := by omega
      clear hv hx1
      have hsl : ∀ W, (Instr.sliceAt 216 (.pointer (some ⟨w.heap.size, 0, none⟩)) (some (.int .i64 (j : Int))) none none).run Tryz.prog W = .ok (.slice (some ⟨w.heap.size, j, none⟩) (65 - j) (65 - j)) W := fun W => by
        rw [run_sliceAt_array_l W 216 ⟨w.heap.size, 0, none⟩ (by simp [Program.arrayLen, Program.elem, Tryz.underlying216]) .i64 (j : Int) (by omega) (by rw [hal]; omega)]
        rw [hal]
        go_simp
        omega
      have hl : (hx v :: ds).length = 65 - j := by have := H1.out; simp; omega
      have hcv : (convert 105 9 (.slice (some ⟨w.heap.size, j, none⟩) (65 - j) (65 - j))).run Tryz.prog (wr.setCell ⟨w.heap.size, j, none⟩ (.int .u8 ((hx v).toNat : Int))) = .ok (.string ⟨(hx v :: ds).toArray⟩) (wr.setCell ⟨w.heap.size, j, none⟩ (.int .u8 ((hx v).toNat : Int))) := by
        have h := run_convert_bytes_back (P := Tryz.prog) (wr.setCell ⟨w.heap.size, j, none⟩ (.int .u8 ((hx v).toNat : Int))) 105 9 5 ⟨w.heap.size, j, none⟩ (65 - j) (hx v :: ds) Tryz.underlying105 Tryz.underlying5 Tryz.underlying9 (fun i hi => by
          rw [Lib.add_plain]
          cases i with
          | zero => exact World.cell?_setCell_same _ _ _ hcell
          | succ i =>
            rw [World.cell?_setCell_other _ _ _ _ (by simp), List.getElem_cons_succ, hb.cell, show j + (i + 1) = j + 1 + i by omega]
            exact HC.out i (by simpa using hi))
        rw [hl] at h
        exact h
      have Hl := Lib.hid hl
      clear hl
      go_wp2
      rw [dig_get hv0, hcv]
      go_simp
      go_wp2
      go_ret2
      refine ⟨?_, hO.setCell (.inr hA) _⟩
      rw [H5.out, numL_lt hv0]
      rfl
set_option maxHeartbeats 400000 in
theorem fmt16_any (u : Nat) (hu : u < 4294967296) (w : World) (hg : Gl w) :
    Calls Tryz.prog 62 #[.int .u64 u, .int .i64 16] w fun e w' => e = .returned (.string ⟨(numL 16 u).toArray⟩) ∧ Only [] w w' := by
  go_enter Tryz.func62, Tryz.ntmps62
  go_wp2_with (first
    | (go_at_call 130; refine (fbits_any u hu _ hg.db hg.lt).mono ?_; rintro e w' ⟨rfl, hO⟩)
    | go_in)
  go_ret
  exact ⟨rfl, hO⟩
set_option maxHeartbeats 400000 in
theorem hex_any (u : Nat) (hu : u < 4294967296) (w : World) (hg : Gl w) :
    Calls Tryz.prog 65 #[.int .u32 u] w fun e w' => e = .returned (.string ⟨(numL 16 u).toArray⟩) ∧ Only [] w w' := by
  have h64 : (u : Int) % 18446744073709551616 = (u : Int) := by omega
  go_enter Tryz.func65, Tryz.ntmps65
  go_wp2_with (go_at_call 62; refine (fmt16_any u hu _ hg).mono ?_; rintro e w' ⟨rfl, hO⟩)
  go_ret
  exact ⟨rfl, hO⟩
end Go.Proofs.YtagmoehjcgjnjaaGreatDoor

namespace Go.Proofs.YtagmoehjcgjnjaaGreatDoor
open Go Go.RowKit Go.Sort

/-- A text as a value. -/
abbrev str (l : List UInt8) : Value := .string ⟨l.toArray⟩

theorem only_grow (w : World) (k : Nat) (os : Array Obj) : Only [] w (grow (w.drewN k) os) :=
  ⟨rfl, rfl, rfl, by simp [grow, World.drewN], fun i hi _ => by simp only [grow, World.drewN]; rw [Array.getElem?_append_left hi]⟩

theorem itoa_any (n : Nat) (h : n < 9223372036854775808) (w : World) (hg : Gl w) :
    Calls Tryz.prog 35 #[.int .i64 n] w fun e w' => e = .returned (str (numL 10 n)) ∧ Only [] w w' := by
  refine (Tryz.strconv_Itoa n (by omega) (by omega) w hg.tab).mono ?_
  rintro e w' ⟨rfl, k, os, rfl⟩
  exact ⟨by rw [itoa_numL (by omega)]; rfl, only_grow w k os⟩

/-- A region's rights. -/
def rightsL (rd wt : Bool) : List UInt8 := if rd then (if wt then [114, 119] else [114]) else if wt then [119] else [45]

set_option maxHeartbeats 1000000 in
theorem rights_any (on rd wt lk : Bool) (rw fr tt rk : Int) (w : World) :
    Calls Tryz.prog 66 #[.agg #[.bool on, .int .i64 rw, .int .u32 fr, .int .u32 tt, .bool rd, .bool wt, .int .i64 rk, .bool lk]] w fun e w' => e = .returned (str (rightsL rd wt)) ∧ Only [] w w' := by
  have e1 : (ByteArray.mk #[] ++ ByteArray.mk #[114]) = ByteArray.mk #[114] := rfl
  have e2 : (ByteArray.mk #[] ++ ByteArray.mk #[119]) = ByteArray.mk #[119] := rfl
  have e3 : (ByteArray.mk #[114] ++ ByteArray.mk #[119]) = ByteArray.mk #[114, 119] := rfl
  cases rd <;> cases wt <;>
  · go_enter Tryz.func66, Tryz.ntmps66
    go_wp2
    go_ret
    exact ⟨rfl, (Only.refl _ _).alloc _⟩

/-- A line's word. -/
def lineL (n : Int) : List UInt8 := if n < 0 then [45] else numL 10 n.toNat

theorem linew_any (n : Int) (h : n < 9223372036854775808) (w : World) (hg : Gl w) :
    Calls Tryz.prog 67 #[.int .i64 n] w fun e w' => e = .returned (str (lineL n)) ∧ Only [] w w' := by
  by_cases hn : n < 0
  · go_enter Tryz.func67, Tryz.ntmps67
    go_wp2_with fail
    go_ret
    exact ⟨by unfold lineL; rw [if_pos hn]; rfl, Only.refl _ _⟩
  · obtain ⟨m, rfl⟩ : ∃ m : Nat, n = (m : Int) := ⟨n.toNat, by omega⟩
    go_enter Tryz.func67, Tryz.ntmps67
    go_wp2_with (go_at_call 35; refine (itoa_any m (by omega) _ hg).mono ?_; rintro e w' ⟨rfl, hO⟩)
    go_ret
    exact ⟨by unfold lineL; rw [if_neg (by omega)]; rfl, hO⟩

/-- The first words. -/
def kindsV : Array Value := #[.string ⟨#[]⟩, .string ⟨#[114, 101, 103, 105, 111, 110]⟩, .string ⟨#[99, 108, 101, 97, 114]⟩, .string ⟨#[103, 105, 118, 101]⟩, .string ⟨#[116, 97, 107, 101]⟩, .string ⟨#[109, 111, 118, 101]⟩, .string ⟨#[114, 111, 117, 116, 101]⟩, .string ⟨#[108, 111, 99, 107]⟩]

theorem kinds_any (w : World) :
    Calls Tryz.prog 64 #[] w fun e w' => e = .returned (.slice (some ⟨w.heap.size, 0, none⟩) 8 8) ∧ w' = w.alloc (.cells kindsV 9) := by
  unfold kindsV
  go_enter Tryz.func64, Tryz.ntmps64
  go_wp2
  go_ret
  exact ⟨rfl, rfl⟩

/-- The row of a list of words. -/
def Words (w : World) (base : Nat) (v : Value) (xs : List (List UInt8)) : Prop := w.ownsRow base 9 1 v xs.length (xs.map str)

theorem Words.at_ {w : World} {base : Nat} {v : Value} {xs : List (List UInt8)} (h : Words w base v xs) (h0 : 0 < xs.length) :
    ∃ g cap, v = .slice (some ⟨g, 0, none⟩) xs.length cap ∧ base ≤ g ∧ g < w.heap.size ∧ xs.length ≤ cap ∧ cap ≤ maxLen ∧ ∀ (j : Nat) l, xs[j]? = some l → w.cell? ⟨g, j, none⟩ = some (str l) := by
  obtain ⟨h1, ⟨-, h2⟩ | ⟨g, cap, cur, rfl, hb, hh, hl, hm, hs, htk⟩⟩ := h
  · omega
  · refine ⟨g, cap, rfl, hb, Blk.lt hh, hl, hm, fun j l hj => ?_⟩
    have hjl : j < xs.length := by
      rcases Nat.lt_or_ge j xs.length with h | h
      · exact h
      · rw [List.getElem?_eq_none h] at hj; cases hj
    rw [Blk.cell hh j, ← Array.getElem?_toList, ← List.getElem?_take_of_lt (j := xs.length) hjl]
    rw [Nat.mul_one] at htk
    rw [htk, List.getElem?_map, hj]
    rfl

theorem join_any (g cap : Nat) (xs : List (List UInt8)) (w : World) (hc : ∀ (j : Nat) l, xs[j]? = some l → w.cell? ⟨g, j, none⟩ = some (str l)) (hg : g < w.heap.size) (hcap : xs.length ≤ cap) (hlen : (Lib.join xs [32]).length ≤ 140737488355328) (hn : xs.length ≤ 1000) :
    Calls Tryz.prog 68 #[.slice (some ⟨g, 0, none⟩) xs.length cap] w fun e w' => e = .returned (str (Lib.join xs [32])) ∧ Only [] w w' := by
  have hx : (xs.map fun l => (⟨l.toArray⟩ : ByteArray)).map (·.data.toList) = xs := by
    rw [List.map_map]
    exact (List.map_congr_left (g := id) (fun l _ => by simp)).trans (List.map_id xs)
  have hsh := Tryz.strings_Join g 0 cap (xs.map fun l => ⟨l.toArray⟩) ⟨#[32]⟩ w (fun j x hj => by
    rw [List.getElem?_map] at hj
    obtain ⟨l, hl, rfl⟩ := Option.map_eq_some_iff.1 hj
    rw [Nat.zero_add]
    exact hc j l hl) hg (by simp; omega) (by simpa using hcap) (by rw [hx]; exact hlen)
  rw [hx, List.length_map] at hsh
  have Hsh := Lib.hid hsh
  clear hsh hx hc
  go_enter Tryz.func68, Tryz.ntmps68
  go_wp2_with (go_at_call 31; refine (Hsh.out).mono ?_; rintro e w' ⟨rfl, hO⟩)
  go_ret
  exact ⟨rfl, Only.of_below hO⟩
end Go.Proofs.YtagmoehjcgjnjaaGreatDoor
