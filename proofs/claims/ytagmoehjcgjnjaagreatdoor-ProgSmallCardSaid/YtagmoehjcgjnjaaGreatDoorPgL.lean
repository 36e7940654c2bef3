/- An instruction's text: its words, rows of words beside an instruction. Conditions: the listed variables are laid; words fit. -/
import Derived.Test.YtagmoehjcgjnjaaGreatDoorPgR
import Derived.OwnWalk
import Derived.Laws.AppendOwn
import Derived.Laws.OwnMore
namespace Go.Proofs.YtagmoehjcgjnjaaGreatDoor
open Go Go.RowKit

set_option maxHeartbeats 400000 in
theorem hexp_any (u : Nat) (hu : u < 4294967296) (w : World) (hg : Gl w) :
    Calls Tryz.prog 36 #[.int .u32 u] w fun e w' => e = .returned (str (numL 16 u)) ∧ Only [] w w' := by
  have h64 : (u : Int) % 18446744073709551616 = (u : Int) := by omega
  go_enter Tryz.func36, Tryz.ntmps36
  go_wp2_with (go_at_call 62; refine (fmt16_any u hu _ hg).mono ?_; rintro e w' ⟨rfl, hO⟩)
  go_ret
  exact ⟨rfl, hO⟩

/-- Words that are short. -/
def Bnd (xs : List (List UInt8)) : Prop := xs.length ≤ 20 ∧ ∀ y ∈ xs, y.length ≤ 100
theorem numL_sh {b n : Nat} (hb : 2 ≤ b) (h : n < 4294967296) : (numL b n).length ≤ 100 := by
  have : 2 ^ (31 + 1) ≤ b ^ (31 + 1) := Nat.pow_le_pow_left hb _
  have := numL_len b hb 31 n (by omega)
  omega
theorem join_bnd : ∀ (xs : List (List UInt8)), (∀ y ∈ xs, y.length ≤ 100) → ∀ c : UInt8, (Lib.join xs [c]).length ≤ xs.length * 101
  | [], _, c => by simp [Lib.join, List.intercalate]
  | [x], h, c => by rw [Lib.join_one]; have := h x (by simp); simp; omega
  | x :: y :: r, h, c => by
    have ih := join_bnd (y :: r) (fun z hz => h z (by simp at hz ⊢; exact .inr hz)) c
    have hx := h x (by simp)
    have e : Lib.join (x :: y :: r) [c] = x ++ c :: Lib.join (y :: r) [c] := by
      rw [Lib.join_cons, Lib.join_cons]
      simp [Lib.joinTail]
    rw [e]
    simp only [List.length_append, List.length_cons] at ih ⊢
    omega

/-- An instruction in the call's own block, a row of words behind it. -/
def LnS (w0 w : World) (x : In) (xs : List (List UInt8)) (v : Value) : Prop :=
  Blk w w0.heap.size 33 x.cs ∧ w.ownsRow (w0.heap.size + 1) 9 1 v xs.length (xs.map str) ∧ Only [] w0 w ∧ Bnd xs
theorem LnS.only {w0 w w' : World} {x : In} {xs : List (List UInt8)} {v : Value} (h : LnS w0 w x xs v) (hO : Only [] w w') : LnS w0 w' x xs v := by
  obtain ⟨hB, hR, hO0, hb⟩ := h
  refine ⟨hO.blk hB (by simp), ⟨hR.1, hR.2.imp id ?_⟩, hO0.trans hO, hb⟩
  rintro ⟨g, cap, cur, rfl, hg, hh, r⟩
  exact ⟨g, cap, cur, rfl, hg, (hO.block g (Blk.lt hh) (by simp)).trans hh, r⟩
theorem LnS.alloc {w0 w : World} {x : In} {xs : List (List UInt8)} {v : Value} (h : LnS w0 w x xs v) (o : Obj) : LnS w0 (w.alloc o) x xs v := h.only ((Only.refl _ _).alloc o)
theorem LnS.first {w0 w : World} {x : In} {l : List UInt8} (hB : Blk w w0.heap.size 33 x.cs) (hO : Only [] w0 w) (hl : l.length ≤ 100) {W : World} {g : Nat} (hW : Only [] w W) (hg : Blk W g 9 #[str l]) (hgb : w.heap.size ≤ g) : LnS w0 W x [l] (.slice (some ⟨g, 0, none⟩) 1 1) := by
  have := hB.lt
  exact ⟨hW.blk hB (by simp), ⟨rfl, .inr ⟨g, 1, _, rfl, by omega, hg, Nat.le_refl _, by decide, rfl, rfl⟩⟩, hO.trans hW, by simp, by simpa using hl⟩

theorem wpList_append_ln {w : World} {ops : Array Oper} {rest : List Oper} {o : Oper} {a : Act} {Q : Exit → Act → World → Prop} (hgd : o.guard = none) (s y : Operand)
    (ho : o.op = .call { callee := .builtin .append, args := #[s, y], argTypes := #[43, 43] }) (w0 : World) (x : In) (xs ys : List (List UInt8)) (v : Value) (hs : a.eval s = v) (hL : LnS w0 w x xs v)
    (g n : Nat) (hy : a.eval y = .slice (some ⟨g, 0, none⟩) n n) (hn : n = ys.length) (hB : Blk w g 9 (ys.map str).toArray) (h2 : Bnd ys) (h3 : xs.length + ys.length ≤ 20)
    (h : ∀ v' w', LnS w0 w' x (xs ++ ys) v' → wpList Tryz.prog ops Q rest (a.put o.dst v') w') : wpList Tryz.prog ops Q (o :: rest) a w := by
  subst hn
  obtain ⟨hX, hR, hO, hb⟩ := hL
  obtain ⟨i0, hi0, hz0, hz1, hz2⟩ := info_parts infoString
  refine wpList_append_own _ hgd s y 43 ho (w0.heap.size + 1) 9 i0 (.string ⟨#[]⟩) 1 16 Tryz.underlying43 hi0 hz0 hz1 hz2 rfl (by decide) v xs.length _ hs hR ⟨g, 0, none⟩ ys.length ys.length (ys.map str) hy (by simp) (news_blk hB (by simp)) ?_ (by unfold maxLen; omega) (by omega) (by have := hX.lt; omega) ?_
  · intro u hu
    obtain ⟨l, -, rfl⟩ := List.mem_map.1 hu
    rfl
  · intro v' w' hown hgrow _
    refine h v' w' ⟨?_, ?_, ?_, by simpa using h3, ?_⟩
    · refine (hgrow.block w0.heap.size hX.lt ?_).trans hX
      intro e
      rcases hR.2 with ⟨rfl, -⟩ | ⟨g', cap, cur, rfl, hgb, -⟩
      · simp [Value.ownBlock] at e
      · simp [Value.ownBlock] at e
        omega
    · rw [List.map_append, List.length_append]
      exact hown
    · refine hO.trans' (S' := v.ownBlock.toList) ⟨hgrow.os, hgrow.tape, hgrow.output, hgrow.size, fun k hk hn => hgrow.block k hk (fun e => hn (by simp [e]))⟩ ?_
      intro q hq hlt
      rcases hR.2 with ⟨rfl, -⟩ | ⟨g', cap, cur, rfl, hgb, -⟩
      · simp [Value.ownBlock] at hq
      · simp [Value.ownBlock] at hq
        omega
    · intro z hz
      rcases List.mem_append.1 hz with hz | hz
      · exact hb.2 z hz
      · exact h2.2 z hz

theorem sjoin_any (c : UInt8) (g cap : Nat) (xs : List (List UInt8)) (w : World) (hc : ∀ (j : Nat) l, xs[j]? = some l → w.cell? ⟨g, j, none⟩ = some (str l)) (hg : g < w.heap.size) (hcap : xs.length ≤ cap) (hlen : (Lib.join xs [c]).length ≤ 140737488355328) (hn : xs.length ≤ 1000000) :
    Calls Tryz.prog 31 #[.slice (some ⟨g, 0, none⟩) xs.length cap, .string ⟨#[c]⟩] w fun e w' => e = .returned (str (Lib.join xs [c])) ∧ Only [] w w' := by
  have hx : (xs.map fun l => (⟨l.toArray⟩ : ByteArray)).map (·.data.toList) = xs := by
    rw [List.map_map]
    exact (List.map_congr_left (g := id) (fun l _ => by simp)).trans (List.map_id xs)
  have hsh := Tryz.strings_Join g 0 cap (xs.map fun l => ⟨l.toArray⟩) ⟨#[c]⟩ w (fun j x hj => by
    rw [List.getElem?_map] at hj
    obtain ⟨l, hl, rfl⟩ := Option.map_eq_some_iff.1 hj
    rw [Nat.zero_add]
    exact hc j l hl) hg (by simp; omega) (by simpa using hcap) (by rw [hx]; exact hlen)
  rw [hx, List.length_map] at hsh
  refine hsh.mono ?_
  rintro e w' ⟨rfl, hO⟩
  exact ⟨rfl, Only.of_below hO⟩
theorem ln_join {w0 w : World} {x : In} {xs : List (List UInt8)} {v : Value} (h : LnS w0 w x xs v) (h0 : 0 < xs.length) :
    Calls Tryz.prog 31 #[v, .string ⟨#[32]⟩] w fun e w' => e = .returned (str (Lib.join xs [32])) ∧ Only [] w w' := by
  obtain ⟨hX, hR, hO, hb⟩ := h
  obtain ⟨g, cap, rfl, hgb, hgl, hcap⟩ := row_form hR h0
  obtain ⟨-, -, -, hc⟩ := row_cells hR
  have := join_bnd xs hb.2 32
  have := hb.1
  exact sjoin_any 32 g cap xs w hc hgl hcap (by omega) (by omega)

/-- What the table holds, the word alone asked. -/
def LookW (n : Int) (v : Value) : Prop := ∀ W b, W.heap[b]? = some (.map kindsE 10) → (Instr.lookup 58 (.map (some b)) (.int .i64 n) false).run Tryz.prog W = .ok v W
theorem Look.word (n : Int) (h : 1 ≤ n ∧ n ≤ 10) (v : Value) (hv : kindV n = v) : LookW n v := fun W b hb => by
  obtain ⟨j, hj⟩ := look_in n h
  have := look_any W b n v true hb false (.inl ⟨rfl, j, by rw [← hv]; exact hj⟩)
  simpa using this

set_option maxHeartbeats 1000000 in
theorem line_no (x : In) (hx : x.dt ≤ 4294967295) (hok : x.ok = false) (w : World) :
    Calls Tryz.prog 17 #[x.agg] w fun e w' => e = .returned (.tuple #[str [], .int .i64 4]) ∧ Only [] w w' := by
  have HI := Lib.hid (fun W => instr_any x hx W)
  rw [hok] at HI
  have HR := Lib.hid (Blk.new w 33 x.cs).rng
  clear hok
  go_enter Tryz.func17, Tryz.ntmps17
  go_wp2_with (first
    | (refine wpList_ld 33 x w.heap.size 0 _ rfl (.inl rfl) rfl rfl HR.out ?_)
    | (go_at_call 10; refine (HI.out _).mono ?_; rintro e w1 ⟨rfl, hO1⟩))
  go_ret2
  exact ⟨rfl, ((Only.refl [] w).alloc _).trans hO1⟩
end Go.Proofs.YtagmoehjcgjnjaaGreatDoor
