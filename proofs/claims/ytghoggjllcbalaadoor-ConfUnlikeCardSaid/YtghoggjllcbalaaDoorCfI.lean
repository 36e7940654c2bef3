/- The words of a command's text, walked: numbers, rights, lines, first words, and the joining of words. Conditions: the listed variables are laid. -/
import Derived.Test.YtghoggjllcbalaaDoorCfH
import Derived.Test.YtghoggjllcbalaaDoorShelfP
import Derived.OwnWalk
import Derived.Laws.AppendOwn
import Derived.Laws.OwnMore
import Derived.Laws.Concat
namespace Go.Proofs.YtghoggjllcbalaaDoor
open Go Go.RowKit Go.Sort

/-- A text as a value. -/
abbrev str (l : List UInt8) : Value := .string ⟨l.toArray⟩

theorem only_grow (w : World) (k : Nat) (os : Array Obj) : Only [] w (grow (w.drewN k) os) :=
  ⟨rfl, rfl, rfl, by simp [grow, World.drewN], fun i hi _ => by simp only [grow, World.drewN]; rw [Array.getElem?_append_left hi]⟩

theorem itoa_any (n : Nat) (h : n < 9223372036854775808) (w : World) (hg : Gl w) :
    Calls Tryd.prog 15 #[.int .i64 n] w fun e w' => e = .returned (str (numL 10 n)) ∧ Only [] w w' := by
  refine (Tryd.strconv_Itoa n (by omega) (by omega) w hg.tab).mono ?_
  rintro e w' ⟨rfl, k, os, rfl⟩
  exact ⟨by rw [itoa_numL (by omega)]; rfl, only_grow w k os⟩

/-- A region's rights. -/
def rightsL (rd wt : Bool) : List UInt8 := if rd then (if wt then [114, 119] else [114]) else if wt then [119] else [45]

set_option maxHeartbeats 1000000 in
theorem rights_any (on rd wt lk : Bool) (rw fr tt rk : Int) (w : World) :
    Calls Tryd.prog 17 #[.agg #[.bool on, .int .i64 rw, .int .u32 fr, .int .u32 tt, .bool rd, .bool wt, .int .i64 rk, .bool lk]] w fun e w' => e = .returned (str (rightsL rd wt)) ∧ Only [] w w' := by
  have e1 : (ByteArray.mk #[] ++ ByteArray.mk #[114]) = ByteArray.mk #[114] := rfl
  have e2 : (ByteArray.mk #[] ++ ByteArray.mk #[119]) = ByteArray.mk #[119] := rfl
  have e3 : (ByteArray.mk #[114] ++ ByteArray.mk #[119]) = ByteArray.mk #[114, 119] := rfl
  cases rd <;> cases wt <;>
  · go_enter Tryd.func17, Tryd.ntmps17
    go_wp2
    go_ret
    exact ⟨rfl, (Only.refl _ _).alloc _⟩

/-- A line's word. -/
def lineL (n : Int) : List UInt8 := if n < 0 then [45] else numL 10 n.toNat

theorem linew_any (n : Int) (h : n < 9223372036854775808) (w : World) (hg : Gl w) :
    Calls Tryd.prog 18 #[.int .i64 n] w fun e w' => e = .returned (str (lineL n)) ∧ Only [] w w' := by
  by_cases hn : n < 0
  · go_enter Tryd.func18, Tryd.ntmps18
    go_wp2_with fail
    go_ret
    exact ⟨by unfold lineL; rw [if_pos hn]; rfl, Only.refl _ _⟩
  · obtain ⟨m, rfl⟩ : ∃ m : Nat, n = (m : Int) := ⟨n.toNat, by omega⟩
    go_enter Tryd.func18, Tryd.ntmps18
    go_wp2_with (go_at_call 15; refine (itoa_any m (by omega) _ hg).mono ?_; rintro e w' ⟨rfl, hO⟩)
    go_ret
    exact ⟨by unfold lineL; rw [if_neg (by omega)]; rfl, hO⟩

/-- The first words. -/
def kindsV : Array Value := #[.string ⟨#[]⟩, .string ⟨#[114, 101, 103, 105, 111, 110]⟩, .string ⟨#[99, 108, 101, 97, 114]⟩, .string ⟨#[103, 105, 118, 101]⟩, .string ⟨#[116, 97, 107, 101]⟩, .string ⟨#[109, 111, 118, 101]⟩, .string ⟨#[114, 111, 117, 116, 101]⟩, .string ⟨#[108, 111, 99, 107]⟩]

theorem kinds_any (w : World) :
    Calls Tryd.prog 14 #[] w fun e w' => e = .returned (.slice (some ⟨w.heap.size, 0, none⟩) 8 8) ∧ w' = w.alloc (.cells kindsV 9) := by
  unfold kindsV
  go_enter Tryd.func14, Tryd.ntmps14
  go_wp2
  go_ret
  exact ⟨rfl, rfl⟩

/-- The row of a list of words. -/
def Words (w : World) (base : Nat) (v : Value) (xs : List (List UInt8)) : Prop := w.ownsRow base 9 1 v xs.length (xs.map str)

theorem Words.at_ {w : World} {base : Nat} {v : Value} {xs : List (List UInt8)} (h : Words w base v xs) (h0 : 0 < xs.length) :
    ∃ g cap, v = .slice (some ⟨g, 0, none⟩) xs.length cap ∧ base ≤ g ∧ g < w.heap.size ∧ xs.length ≤ cap ∧ cap ≤ maxLen ∧ ∀ (j : Nat) l, xs[j]? = some l → w.cell? ⟨g, j, none⟩ = some (str l) := by
  obtain ⟨h1, ⟨-, h2⟩ | ⟨g, cap, cur, rfl, hb, hh, hl, hm, hs, htk⟩⟩ := h
  · omega
  · refine ⟨g, cap, rfl, hb, Blk.lt hh, hl, hm, fun j l hj => ?_⟩
    have hjl : j < xs.length := by
      rcases Nat.lt_or_ge j xs.length with h | h
      · exact h
      · rw [List.getElem?_eq_none h] at hj; cases hj
    rw [Blk.cell hh j, ← Array.getElem?_toList, ← List.getElem?_take_of_lt (j := xs.length) hjl]
    rw [Nat.mul_one] at htk
    rw [htk, List.getElem?_map, hj]
    rfl

theorem join_any (g cap : Nat) (xs : List (List UInt8)) (w : World) (hc : ∀ (j : Nat) l, xs[j]? = some l → w.cell? ⟨g, j, none⟩ = some (str l)) (hg : g < w.heap.size) (hcap : xs.length ≤ cap) (hlen : (Lib.join xs [32]).length ≤ 140737488355328) (hn : xs.length ≤ 1000) :
    Calls Tryd.prog 19 #[.slice (some ⟨g, 0, none⟩) xs.length cap] w fun e w' => e = .returned (str (Lib.join xs [32])) ∧ Only [] w w' := by
  have hx : (xs.map fun l => (⟨l.toArray⟩ : ByteArray)).map (·.data.toList) = xs := by
    rw [List.map_map]
    exact (List.map_congr_left (g := id) (fun l _ => by simp)).trans (List.map_id xs)
  have hsh := Tryd.strings_Join g 0 cap (xs.map fun l => ⟨l.toArray⟩) ⟨#[32]⟩ w (fun j x hj => by
    rw [List.getElem?_map] at hj
    obtain ⟨l, hl, rfl⟩ := Option.map_eq_some_iff.1 hj
    rw [Nat.zero_add]
    exact hc j l hl) hg (by simp; omega) (by simpa using hcap) (by rw [hx]; exact hlen)
  rw [hx, List.length_map] at hsh
  have Hsh := Lib.hid hsh
  clear hsh hx hc
  go_enter Tryd.func19, Tryd.ntmps19
  go_wp2_with (go_at_call 35; refine (Hsh.out).mono ?_; rintro e w' ⟨rfl, hO⟩)
  go_ret
  exact ⟨rfl, Only.of_below hO⟩
end Go.Proofs.YtghoggjllcbalaaDoor
