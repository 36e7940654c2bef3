/- Rows that a call makes; rows of events. No condition. -/
import Derived.Test.YtojleleohhaigaaDoorTrS
import Derived.OwnWalk
import Derived.Laws.AppendOwn
import Derived.Laws.OwnMore
import Derived.Laws.Rows
namespace Go.Proofs.YtojleleohhaigaaDoor
open Go Go.RowKit

theorem own_only {S : List Nat} {w w' : World} {base : Nat} {e : TypeId} {size : Nat} {v : Value} {n : Nat} {xs : List Value} (h : w.ownsRow base e size v n xs) (hO : Only S w w') (hS : ∀ g, v.ownBlock = some g → g ∉ S) : w'.ownsRow base e size v n xs := by
  refine ⟨h.1, h.2.imp id ?_⟩
  rintro ⟨g, cap, cur, rfl, hb, hg, r⟩
  exact ⟨g, cap, cur, rfl, hb, (hO.block g (Blk.lt hg) (hS g rfl)).trans hg, r⟩
theorem own_only0 {w w' : World} {base : Nat} {e : TypeId} {size : Nat} {v : Value} {n : Nat} {xs : List Value} (h : w.ownsRow base e size v n xs) (hO : Only [] w w') : w'.ownsRow base e size v n xs := own_only h hO (fun _ _ => by simp)
/-- An append onto an own row turns nothing old. -/
theorem own_step {w w1 w2 : World} {e : TypeId} {size : Nat} {v : Value} {n : Nat} {xs : List Value} (hO : Only [] w w1) (h : w1.ownsRow w.heap.size e size v n xs) (hg : w1.grownBy w2 v.ownBlock) : Only [] w w2 := by
  refine hO.trans' (S' := v.ownBlock.toList) ⟨hg.os, hg.tape, hg.output, hg.size, fun k hk hn => hg.block k hk (fun e => hn (by simp [e]))⟩ ?_
  intro g hgm hlt
  rcases h.2 with ⟨rfl, -⟩ | ⟨g', cap, cur, rfl, hb, -⟩
  · simp [Value.ownBlock] at hgm
  · simp [Value.ownBlock] at hgm
    omega

abbrev Ev.list (x : Ev) : List Value := [.int .i64 x.cy, .int .i64 x.kd, .int .u32 x.va, .int .i64 x.er, .int .i64 x.ln]
def flat (l : List Ev) : List Value := l.flatMap Ev.list
theorem flat_snoc (l : List Ev) (x : Ev) : flat (l ++ [x]) = flat l ++ x.list := by simp [flat]
theorem flat_len (l : List Ev) : (flat l).length = l.length * 5 := by
  induction l with
  | nil => rfl
  | cons x r ih => simp only [flat, List.flatMap_cons, List.length_append, List.length_cons, List.length_nil] at ih ⊢; omega
theorem flat_at : ∀ (l : List Ev) (j : Nat) (x : Ev) (i : Nat) (u : Value), l[j]? = some x → x.list[i]? = some u → (flat l)[j * 5 + i]? = some u
  | [], j, x, i, u, h, _ => by simp at h
  | y :: r, 0, x, i, u, h, hu => by
    simp at h
    subst h
    have hi : i < 5 := by
      rcases Nat.lt_or_ge i 5 with h | h
      · exact h
      · rw [List.getElem?_eq_none (by simpa using h)] at hu; cases hu
    show (y.list ++ flat r)[0 * 5 + i]? = some u
    rw [List.getElem?_append_left (by simp; omega)]
    simpa using hu
  | y :: r, j + 1, x, i, u, h, hu => by
    have ih := flat_at r j x i u (by simpa using h) hu
    show (y.list ++ flat r)[(j + 1) * 5 + i]? = some u
    rw [List.getElem?_append_right (by simp; omega), ← ih]
    congr 1
    simp
    omega
/-- A row of events of the call's own. -/
def EvR (w : World) (base : Nat) (v : Value) (l : List Ev) : Prop := w.ownsRow base 44 5 v l.length (flat l)
theorem EvR.nil (w : World) (base : Nat) : EvR w base (.slice none 0 0) [] := ⟨rfl, .inl ⟨rfl, rfl⟩⟩
theorem EvR.evs {w : World} {base : Nat} {v : Value} {l : List Ev} (h : EvR w base v l) : EvS w v l := by
  obtain ⟨-, ⟨rfl, h0⟩ | ⟨g, cap, cur, rfl, hb, hg, hn, hm, hs, ht⟩⟩ := h
  · exact .inl ⟨none, 0, rfl, List.eq_nil_of_length_eq_zero h0⟩
  · by_cases h0 : l = []
    · subst h0; exact .inl ⟨_, cap, rfl, rfl⟩
    · refine .inr ⟨g, 0, cap, rfl, List.length_pos_iff.2 h0, hn, Blk.lt hg, fun j x hj => ?_⟩
      have key : ∀ (i : Nat) u, x.list[i]? = some u → w.cell? ⟨g, 0 + j * 5 + i, none⟩ = some u := by
        intro i u hu
        have hf := flat_at l j x i u hj hu
        have hlt : j * 5 + i < l.length * 5 := by
          rcases Nat.lt_or_ge (j * 5 + i) (l.length * 5) with h | h
          · exact h
          · rw [List.getElem?_eq_none (by rw [flat_len]; exact h)] at hf; cases hf
        rw [Nat.zero_add, Blk.cell hg, ← Array.getElem?_toList, ← List.getElem?_take_of_lt hlt, ht, hf]
      exact ⟨key 0 _ rfl, key 1 _ rfl, key 2 _ rfl, key 3 _ rfl, key 4 _ rfl⟩
theorem infoEvent : (Tryd.prog.info? 44).map (fun i => (i.zero, i.size, i.bytes)) = some (some (.agg #[.int .i64 0, .int .i64 0, .int .u32 0, .int .i64 0, .int .i64 0]), 5, 40) := by kernel_rfl
theorem infoReply : (Tryd.prog.info? 46).map (fun i => (i.zero, i.size, i.bytes)) = some (some (.agg #[.int .u32 0, .int .i64 0]), 2, 16) := by kernel_rfl
theorem infoInt : (Tryd.prog.info? 3).map (fun i => (i.zero, i.size, i.bytes)) = some (some (.int .i64 0), 1, 8) := by kernel_rfl
theorem plus_at (b o i : Nat) : (⟨b, o, none⟩ : Addr).add i = ⟨b, o + i, none⟩ := by unfold Addr.add; split <;> simp_all
theorem new_cells {W : World} {g : Nat} {t : TypeId} {cs : Array Value} {news : List Value} (h : Blk W g t cs) (hl : cs.toList = news) : ∀ (j : Nat) (u : Value), news[j]? = some u → W.cell? ((⟨g, 0, none⟩ : Addr).add j) = some u := by
  intro j u hu
  rw [plus_at, Nat.zero_add, h.cell j, ← Array.getElem?_toList, hl]
  exact hu
end Go.Proofs.YtojleleohhaigaaDoor
