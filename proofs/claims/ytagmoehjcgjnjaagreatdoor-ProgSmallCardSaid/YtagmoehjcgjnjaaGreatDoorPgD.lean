/- Read of package prog, walked. Conditions: the listed variables are laid; the text is short. -/
import Derived.Test.YtagmoehjcgjnjaaGreatDoorPgO
import Derived.OwnWalk
import Derived.Laws.AppendOwn
import Derived.Laws.OwnMore
namespace Go.Proofs.YtagmoehjcgjnjaaGreatDoor
open Go Go.RowKit

/-- A text's lines. -/
def linesB (s : List UInt8) : List ByteArray := Lib.splitB ⟨#[10]⟩ 0 (Lib.countB ⟨s.toArray⟩ ⟨#[10]⟩) ⟨s.toArray⟩
def linesOf (s : List UInt8) : List (List UInt8) := (linesB s).map (·.data.toList)
theorem linesOf_length (s : List UInt8) : (linesOf s).length = Lib.countB ⟨s.toArray⟩ ⟨#[10]⟩ + 1 := by
  unfold linesOf linesB
  rw [List.length_map, Lib.splitB_all _ (by decide) 0 _ _ rfl]
theorem linesB_str (s : List UInt8) : (linesB s).map Value.string = (linesOf s).map str := by
  unfold linesOf
  rw [List.map_map]
  refine List.map_congr_left fun b _ => ?_
  simp
theorem linesOf_eq (s : List UInt8) : linesOf s = Lib.splitK [10] 0 (s.count 10) s := by
  unfold linesOf linesB
  rw [Lib.splitB_data]
  have : Lib.countB ⟨s.toArray⟩ ⟨#[10]⟩ = s.count 10 := by
    unfold Lib.countB
    rw [show (ByteArray.mk #[10]).data.toList = [10] from rfl, Lib.count_one]
  rw [this]
theorem splitK_sh (c : UInt8) : ∀ (k : Nat) (s : List UInt8), (Lib.splitK [c] 0 k s).length ≤ k + 1 ∧ ∀ l ∈ Lib.splitK [c] 0 k s, l.length ≤ s.length
  | 0, s => by simp [Lib.splitK]
  | k + 1, s => by
    unfold Lib.splitK
    split
    · simp
    · have ih := splitK_sh c k (s.drop ((Lib.index s [c]).toNat + ([c] : List UInt8).length))
      refine ⟨by rw [List.length_cons]; exact Nat.succ_le_succ ih.1, fun l hl => ?_⟩
      rcases List.mem_cons.1 hl with rfl | hl
      · simp only [List.length_take]; omega
      · have h1 := ih.2 l hl
        have h2 : (s.drop ((Lib.index s [c]).toNat + ([c] : List UInt8).length)).length ≤ s.length := by rw [List.length_drop]; omega
        omega
theorem lines_sh (s : List UInt8) : (linesOf s).length ≤ s.length + 1 ∧ ∀ l ∈ linesOf s, l.length ≤ s.length := by
  rw [linesOf_eq]
  have h1 := splitK_sh 10 (s.count 10) s
  have h2 := List.count_le_length (a := (10 : UInt8)) (l := s)
  exact ⟨by omega, h1.2⟩
theorem lsplit_any (y : List UInt8) (h : y.length ≤ 1000000) (w : World) (hg : Gl w) : Calls Tryz.prog 32 #[str y, .string ⟨#[10]⟩] w fun e w' => ∃ g, e = .returned (.slice (some ⟨g, 0, none⟩) (linesOf y).length (linesOf y).length) ∧ w.heap.size ≤ g ∧ Blk w' g 9 ((linesOf y).map str).toArray ∧ Only [] w w' := by
  obtain ⟨m, hm⟩ := hg.ml
  refine (Tryz.strings_Split ⟨y.toArray⟩ ⟨#[10]⟩ m w (by simp [ByteArray.size]; omega) hm (by decide)).mono ?_
  rintro e w' ⟨rfl, rfl⟩
  rw [linesOf_length, ← linesB_str]
  exact ⟨_, rfl, Nat.le_refl _, Blk.new _ _ _, (Only.refl _ _).alloc _⟩

/-- Rows of instructions. -/
def flatI (l : List In) : List Value := l.flatMap fun x => x.cs.toList
theorem flatI_snoc (l : List In) (x : In) : flatI (l ++ [x]) = flatI l ++ x.cs.toList := by simp [flatI]
theorem flatI_len (l : List In) : (flatI l).length = l.length * 18 := by
  induction l with
  | nil => rfl
  | cons x r ih => simp only [flatI, List.flatMap_cons, List.length_append, List.length_cons, List.length_nil] at ih ⊢; omega
theorem flatI_at : ∀ (l : List In) (j : Nat) (x : In) (i : Nat) (u : Value), l[j]? = some x → x.cs.toList[i]? = some u → (flatI l)[j * 18 + i]? = some u
  | [], j, x, i, u, h, _ => by simp at h
  | y :: r, 0, x, i, u, h, hu => by
    simp at h
    subst h
    have hi : i < 18 := by
      rcases Nat.lt_or_ge i 18 with h | h
      · exact h
      · rw [List.getElem?_eq_none (by simpa using h)] at hu; cases hu
    show (y.cs.toList ++ flatI r)[0 * 18 + i]? = some u
    rw [List.getElem?_append_left (by simp; omega)]
    simpa using hu
  | y :: r, j + 1, x, i, u, h, hu => by
    have ih := flatI_at r j x i u (by simpa using h) hu
    show (y.cs.toList ++ flatI r)[(j + 1) * 18 + i]? = some u
    rw [List.getElem?_append_right (by simp; omega), ← ih]
    congr 1
    simp
    omega
/-- A row of instructions of the call's own. -/
def InR (w : World) (base : Nat) (v : Value) (l : List In) : Prop := w.ownsRow base 33 18 v l.length (flatI l)
theorem InR.nil (w : World) (base : Nat) : InR w base (.slice none 0 0) [] := ⟨rfl, .inl ⟨rfl, rfl⟩⟩
theorem InR.ins {w : World} {base : Nat} {v : Value} {l : List In} (h : InR w base v l) : InS w v l := by
  obtain ⟨-, ⟨rfl, h0⟩ | ⟨g, cap, cur, rfl, hb, hg, hn, hm, hs, ht⟩⟩ := h
  · exact .inl ⟨none, 0, rfl, List.eq_nil_of_length_eq_zero h0⟩
  · by_cases h0 : l = []
    · subst h0; exact .inl ⟨_, cap, rfl, rfl⟩
    · refine .inr ⟨g, 0, cap, rfl, List.length_pos_iff.2 h0, hn, Blk.lt hg, fun j x hj i u hu => ?_⟩
      have hf := flatI_at l j x i u hj hu
      have hlt : j * 18 + i < l.length * 18 := by
        rcases Nat.lt_or_ge (j * 18 + i) (l.length * 18) with h | h
        · exact h
        · rw [List.getElem?_eq_none (by rw [flatI_len]; exact h)] at hf; cases hf
      rw [Nat.zero_add, Blk.cell hg, ← Array.getElem?_toList, ← List.getElem?_take_of_lt hlt, ht, hf]
theorem InR.only {S : List Nat} {w w' : World} {base : Nat} {v : Value} {l : List In} (h : InR w base v l) (hO : Only S w w') (hS : ∀ z ∈ S, z < base) : InR w' base v l := by
  refine ⟨h.1, h.2.imp id ?_⟩
  rintro ⟨g, cap, cur, rfl, hb, hg, r⟩
  exact ⟨g, cap, cur, rfl, hb, (hO.block g (Blk.lt hg) (fun hm => by have := hS g hm; omega)).trans hg, r⟩
theorem InR.base {w : World} {base base' : Nat} {v : Value} {l : List In} (h : InR w base v l) (hb : base' ≤ base) : InR w base' v l := by
  refine ⟨h.1, h.2.imp id ?_⟩
  rintro ⟨g, cap, cur, rfl, hb2, hg, r⟩
  exact ⟨g, cap, cur, rfl, by omega, hg, r⟩
theorem infoInstr : (Tryz.prog.info? 33).map (fun i => (i.zero, i.size, i.bytes)) = some (some (In.only 0).agg, 18, 120) := by kernel_rfl

theorem wpList_append_in {w : World} {ops : Array Oper} {rest : List Oper} {o : Oper} {a : Act} {Q : Exit → Act → World → Prop} (hgd : o.guard = none) (s y : Operand)
    (ho : o.op = .call { callee := .builtin .append, args := #[s, y], argTypes := #[22, 22] }) (base : Nat) (l : List In) (x : In) (v : Value) (hs : a.eval s = v) (hR : InR w base v l)
    (g c : Nat) (hy : a.eval y = .slice (some ⟨g, 0, none⟩) 1 c) (hB : Blk w g 33 x.cs) (hl : l.length ≤ 1000000) (hbase : base ≤ w.heap.size)
    (h : ∀ v' w', InR w' base v' (l ++ [x]) → (∀ B, B ≤ base → OnlyB B [] w w') → Only v.ownBlock.toList w w' → wpList Tryz.prog ops Q rest (a.put o.dst v') w') : wpList Tryz.prog ops Q (o :: rest) a w := by
  obtain ⟨i0, hi0, hz0, hz1, hz2⟩ := info_parts infoInstr
  have hown : ∀ z, v.ownBlock = some z → base ≤ z := by
    intro z hz
    rcases hR.2 with ⟨rfl, -⟩ | ⟨g', cap, cur, rfl, hgb, -⟩
    · simp [Value.ownBlock] at hz
    · simp [Value.ownBlock] at hz
      omega
  refine wpList_append_own _ hgd s y 22 ho base 33 i0 _ 18 120 Tryz.underlying22 hi0 hz0 hz1 hz2 rfl (by decide) v l.length _ hs hR ⟨g, 0, none⟩ 1 c x.cs.toList hy rfl ?_ ?_ (by unfold maxLen; omega) (by omega) hbase ?_
  · intro j u hu
    rw [Addr.add_mid, Nat.zero_add, hB.cell j, ← Array.getElem?_toList]
    exact hu
  · intro u hu
    simp only [List.mem_cons, List.not_mem_nil, or_false] at hu
    rcases hu with rfl | rfl | rfl | rfl | rfl | rfl | rfl | rfl | rfl | rfl | rfl | rfl | rfl | rfl | rfl | rfl | rfl | rfl <;> rfl
  · intro v' w' ho hg _
    refine h v' w' ?_ (fun B hB => ⟨hg.os, hg.tape, hg.output, hg.size, fun k hk _ => ?_⟩) ⟨hg.os, hg.tape, hg.output, hg.size, fun k hk hn => hg.block k hk (fun e => hn (by simp [e]))⟩
    · unfold InR
      rw [flatI_snoc, List.length_append]
      exact ho
    · exact hg.block k (by omega) (fun e => by have := hown k e.symm; omega)

/-- The place of the first of a kind, or -1. -/
def idxG {α : Type} (p : α → Bool) : List α → Int → Int
  | [], _ => -1
  | x :: r, k => if p x then k else idxG p r (k + 1)
/-- Does a To lie behind so many instructions? -/
def In.far (n : Nat) (x : In) : Bool := decide ((n : Int) < x.to)
def badL (l : List UInt8) : Bool := !oneOk l
/-- What Read answers. -/
def rdA (s : List UInt8) : List In × Int × Int :=
  if s = [] then ([], 0, 0) else if idxG badL (linesOf s) 0 ≠ -1 then ([], idxG badL (linesOf s) 0 + 1, 8) else if 64 < (linesOf s).length then ([], 65, 3)
  else if 0 ≤ idxF (In.far (linesOf s).length) ((linesOf s).map oneX) 0 then ([], idxF (In.far (linesOf s).length) ((linesOf s).map oneX) 0 + 1, 6) else ((linesOf s).map oneX, 0, 0)

set_option maxHeartbeats 1000000 in
theorem far_any (x : In) (n vb : Nat) (p : Option Addr) (c : Nat) (w : World) (hB : Blk w vb 22 #[.slice p n c]) :
    Calls Tryz.prog 34 #[x.agg, .pointer (some ⟨vb, 0, none⟩)] w fun e w' => e = .returned (.bool (x.far n)) ∧ Only [] w w' := by
  have cv : (w.alloc (.cells x.cs 33)).cell? ⟨vb, 0, none⟩ = some (.slice p n c) := (hB.alloc _).cell 0
  clear hB
  go_enter Tryz.func34, Tryz.ntmps34
  go_wp2_with fail
  go_returns
  exact ⟨rfl, (Only.refl _ _).alloc _⟩
end Go.Proofs.YtagmoehjcgjnjaaGreatDoor
