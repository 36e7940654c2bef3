/- Words for memory: a block known whole, worlds that differ in some blocks alone. No condition. A cell that is written: how it reads, without a side condition. No condition. A region that draws its order, walked once in the order of the text, where its operations may also write: the class of worlds hangs on what has come up. No condition. A region that draws its order, its operations one by one, over a class of worlds. No condition. A region that draws its order and ends in operations in one forced order: the first ones walked over a class of worlds, the last ones in their order, over whatever world of that class. No condition. A scope in which the run jumps to labels a bounded number of times. No condition. A region that draws its order, by a statement that every operation keeps; and 'a, b, .. := x, x, ..' where the variables lie in memory. No condition. -/
import Derived.WalkKit
import Derived.Deep.Draws
import Derived.Laws.Rows
import Derived.RegionTactic
import Derived.Still
import Derived.KernelRfl
import Derived.StillTail
import Derived.WalkMore
import Derived.ScopeJumps
namespace Go.Proofs.YtagmoehjcgjnjaaGreatDoor
open Go Go.RowKit

/-- Block g is just these cells, none frozen. -/
def Blk (w : World) (g : Nat) (t : TypeId) (cs : Array Value) : Prop := w.heap[g]? = some (.cells cs t (0, 0))

section
variable {w w' : World} {g : Nat} {t : TypeId} {cs : Array Value}
theorem Blk.lt (h : Blk w g t cs) : g < w.heap.size := by
  rcases Nat.lt_or_ge g w.heap.size with hlt | hge
  · exact hlt
  · unfold Blk at h; rw [Array.getElem?_eq_none hge] at h; cases h
theorem Blk.cell (h : Blk w g t cs) (i : Nat) : w.cell? ⟨g, i, none⟩ = cs[i]? := cell_of_row w g i cs t (0, 0) h
theorem Blk.frozen (h : Blk w g t cs) (i : Nat) : w.frozen? ⟨g, i, none⟩ = false := by
  unfold Blk at h
  simp [World.frozen?, h]
theorem Blk.new (w : World) (t : TypeId) (cs : Array Value) : Blk (w.alloc (.cells cs t)) w.heap.size t cs := heap_alloc_new w _
theorem Blk.new' {n : Nat} {t : TypeId} {cs : Array Value} {fr : Nat × Nat} (hf : fr = (0, 0)) (h : n = w.heap.size) : Blk (w.alloc (.cells cs t fr)) n t cs := by subst hf; subst h; exact Blk.new w t cs
theorem Blk.drew (h : Blk w g t cs) : Blk w.drew g t cs := h
theorem Blk.drewN (h : Blk w g t cs) (n : Nat) : Blk (w.drewN n) g t cs := h
theorem Blk.alloc (h : Blk w g t cs) (o : Obj) : Blk (w.alloc o) g t cs := (Below.heap_alloc w o g h.lt).trans h
theorem Blk.set_ (h : Blk w g t cs) (i : Nat) (u : Value) : Blk (w.setCell ⟨g, i, none⟩ u) g t (cs.setIfInBounds i u) := by
  unfold Blk at h ⊢
  simp [World.setCell, Array.getElem?_modify, h]
theorem Blk.far (h : Blk w g t cs) {p : Addr} (hp : g ≠ p.block) (u : Value) : Blk (w.setCell p u) g t cs := (Below.heap_setCell w p u g hp).trans h
theorem Blk.ne_ {g' : Nat} {t' : TypeId} {cs' : Array Value} (h : Blk w g t cs) (h' : Blk w g' t' cs') (hne : t ≠ t') : g ≠ g' := by
  rintro rfl
  unfold Blk at h h'
  rw [h] at h'
  injection h' with h'
  injection h' with _ ht
  exact hne ht
end

/-- Of what was there in w, the blocks of S alone may have turned in w'; new blocks may lie behind. -/
structure Only (S : List Nat) (w w' : World) : Prop where
  os : w'.os = w.os
  tape : w'.tape = w.tape
  output : w'.output = w.output
  size : w.heap.size ≤ w'.heap.size
  block : ∀ k, k < w.heap.size → k ∉ S → w'.heap[k]? = w.heap[k]?

section
variable {S : List Nat} {a w w' w'' : World}
theorem Only.refl (S : List Nat) (w : World) : Only S w w := ⟨rfl, rfl, rfl, Nat.le_refl _, fun _ _ _ => rfl⟩
theorem Only.trans (h : Only S a w) (k : Only S w w') : Only S a w' :=
  ⟨k.os.trans h.os, k.tape.trans h.tape, k.output.trans h.output, Nat.le_trans h.size k.size, fun i hi hn => (k.block i (Nat.lt_of_lt_of_le hi h.size) hn).trans (h.block i hi hn)⟩
/-- The second step may turn, besides, blocks that the first world had not. -/
theorem Only.trans' {S' : List Nat} (h : Only S a w) (k : Only S' w w') (hs : ∀ x, x ∈ S' → x < a.heap.size → x ∈ S) : Only S a w' :=
  ⟨k.os.trans h.os, k.tape.trans h.tape, k.output.trans h.output, Nat.le_trans h.size k.size, fun i hi hn => (k.block i (Nat.lt_of_lt_of_le hi h.size) fun hm => hn (hs i hm hi)).trans (h.block i hi hn)⟩
theorem Only.mono {S' : List Nat} (h : Only S w w') (hs : ∀ x, x ∈ S → x < w.heap.size → x ∈ S') : Only S' w w' :=
  ⟨h.os, h.tape, h.output, h.size, fun i hi hn => h.block i hi fun hm => hn (hs i hm hi)⟩
theorem Only.drew (h : Only S a w) : Only S a w.drew := ⟨h.os, h.tape, h.output, h.size, h.block⟩
theorem Only.drewN (h : Only S a w) (n : Nat) : Only S a (w.drewN n) := ⟨h.os, h.tape, h.output, h.size, h.block⟩
theorem Only.alloc (h : Only S a w) (o : Obj) : Only S a (w.alloc o) :=
  h.trans ⟨rfl, rfl, rfl, by simp, fun k hk _ => Below.heap_alloc _ _ _ hk⟩
theorem Only.setCell (h : Only S a w) {p : Addr} (hp : p.block ∈ S ∨ a.heap.size ≤ p.block) (u : Value) : Only S a (w.setCell p u) :=
  ⟨h.os, h.tape, h.output, by simpa [World.setCell] using h.size, fun k hk hn => by
    rw [Below.heap_setCell _ _ _ _ (by rintro rfl; rcases hp with h1 | h1; exact hn h1; omega)]; exact h.block k hk hn⟩
theorem Only.set1 (h : Only S a w) {b : Nat} (hb : b ∈ S) (i : Nat) (u : Value) : Only S a (w.setCell ⟨b, i, none⟩ u) := h.setCell (.inl hb) u
theorem Only.below (h : Only [] w w') : Below w.heap.size w w' := ⟨h.os, h.tape, h.output, h.size, fun k hk => h.block k hk (by simp)⟩
theorem Only.of_below (h : Below w.heap.size w w') : Only S w w' := ⟨h.os, h.tape, h.output, h.size, fun k hk _ => h.block k hk⟩
theorem Only.blk {g : Nat} {t : TypeId} {cs : Array Value} (h : Only S w w') (hb : Blk w g t cs) (hg : g ∉ S) : Blk w' g t cs :=
  (h.block g hb.lt hg).trans hb
/-- An old cell reads as it did. -/
theorem Only.cell (h : Only S w w') {p : Addr} (hp : p.block < w.heap.size) (hg : p.block ∉ S) : w'.cell? p = w.cell? p := World.cell?_of_block (w := w) (h.block p.block hp hg)
theorem Only.frozen (h : Only S w w') {p : Addr} (hp : p.block < w.heap.size) (hg : p.block ∉ S) : w'.frozen? p = w.frozen? p := World.frozen?_of_block (w := w) (h.block p.block hp hg)
end

/-- Of the blocks below B, those of S alone may have turned. -/
structure OnlyB (B : Nat) (S : List Nat) (w w' : World) : Prop where
  os : w'.os = w.os
  tape : w'.tape = w.tape
  output : w'.output = w.output
  size : w.heap.size ≤ w'.heap.size
  block : ∀ k, k < B → k ∉ S → w'.heap[k]? = w.heap[k]?

section
variable {B : Nat} {S : List Nat} {a w w' w'' : World}
theorem OnlyB.refl (B : Nat) (S : List Nat) (w : World) : OnlyB B S w w := ⟨rfl, rfl, rfl, Nat.le_refl _, fun _ _ _ => rfl⟩
theorem OnlyB.drew (h : OnlyB B S a w) : OnlyB B S a w.drew := ⟨h.os, h.tape, h.output, h.size, h.block⟩
theorem OnlyB.drewN (h : OnlyB B S a w) (n : Nat) : OnlyB B S a (w.drewN n) := ⟨h.os, h.tape, h.output, h.size, h.block⟩
theorem OnlyB.alloc (h : OnlyB B S a w) (hB : B ≤ w.heap.size) (o : Obj) : OnlyB B S a (w.alloc o) :=
  ⟨h.os, h.tape, h.output, by have := h.size; simp; omega, fun k hk hn => (Below.heap_alloc _ _ _ (by omega)).trans (h.block k hk hn)⟩
theorem OnlyB.setCell (h : OnlyB B S a w) {p : Addr} (hp : p.block ∈ S ∨ B ≤ p.block) (u : Value) : OnlyB B S a (w.setCell p u) :=
  ⟨h.os, h.tape, h.output, by simpa [World.setCell] using h.size, fun k hk hn => by
    rw [Below.heap_setCell _ _ _ _ (by rintro rfl; rcases hp with h1 | h1; exact hn h1; omega)]; exact h.block k hk hn⟩
theorem OnlyB.set1 (h : OnlyB B S a w) {b : Nat} (hb : b ∈ S ∨ B ≤ b) (i : Nat) (u : Value) : OnlyB B S a (w.setCell ⟨b, i, none⟩ u) := h.setCell hb u
theorem OnlyB.trans (h : OnlyB B S a w) (k : OnlyB B S w w') : OnlyB B S a w' :=
  ⟨k.os.trans h.os, k.tape.trans h.tape, k.output.trans h.output, Nat.le_trans h.size k.size, fun i hi hn => (k.block i hi hn).trans (h.block i hi hn)⟩
theorem OnlyB.mono {B' : Nat} {S' : List Nat} (h : OnlyB B S w w') (hB : B' ≤ B) (hs : ∀ x, x ∈ S → x < B' → x ∈ S') : OnlyB B' S' w w' :=
  ⟨h.os, h.tape, h.output, h.size, fun k hk hn => h.block k (by omega) fun hm => hn (hs k hm hk)⟩
theorem Only.b (h : Only S w w') (hB : B ≤ w.heap.size) : OnlyB B S w w' := ⟨h.os, h.tape, h.output, h.size, fun k hk hn => h.block k (by omega) hn⟩
theorem OnlyB.o (h : OnlyB w.heap.size S w w') : Only S w w' := ⟨h.os, h.tape, h.output, h.size, h.block⟩
theorem Only.thenB (h : Only S a w) (k : OnlyB a.heap.size S w w') : Only S a w' :=
  ((h.b (Nat.le_refl _)).trans k).o
theorem OnlyB.blk {g : Nat} {t : TypeId} {cs : Array Value} (h : OnlyB B S w w') (hb : Blk w g t cs) (hB : g < B) (hg : g ∉ S) : Blk w' g t cs :=
  (h.block g hB hg).trans hb
end
end Go.Proofs.YtagmoehjcgjnjaaGreatDoor

namespace Go.Proofs.YtagmoehjcgjnjaaGreatDoor
open Go Go.RowKit

theorem cell_set_map (w : World) (a : Addr) (v : Value) : (w.setCell a v).cell? a = (w.cell? a).map fun _ => v := by
  cases h : w.cell? a with
  | some u => rw [World.cell?_setCell_same w a v h]; rfl
  | none =>
    unfold World.cell? at h ⊢
    simp only [World.setCell, Array.getElem?_modify, if_true]
    cases hb : w.heap[a.block]? with
    | none => rfl
    | some o =>
      rw [hb] at h
      cases o with
      | cells c t f =>
        simp only [Option.map_some] at h ⊢
        cases hs : a.spot.isSome with
        | true => simp
        | false =>
          simp only [hs, Bool.false_eq_true, if_false] at h ⊢
          rw [Array.getElem?_eq_none_iff] at h
          simp [h]
      | _ => rfl
end Go.Proofs.YtagmoehjcgjnjaaGreatDoor

namespace Go.Proofs.YtagmoehjcgjnjaaGreatDoor
open Go

section
variable {P : Program} {ops : Array Oper} {C : Array Bool → World → Prop} {md : Region.Mode}

/-- What one operation's run must come to: the value 'v' and a world that meets 'D'. -/
def StUpon (P : Program) (v : Value) (D : World → Prop) : Result Next → Prop
  | .ok (.value u) w' => u = v ∧ D w'
  | .ok .skip w' => v = undef ∧ D w'
  | .ok (.enter f args) w' => Calls P f args w' fun e w'' => e = .returned v ∧ D w''
  | _ => False

theorem StUpon.imp {v : Value} {D D' : World → Prop} (h : ∀ w, D w → D' w) {r : Result Next} (hh : StUpon P v D r) : StUpon P v D' r := by
  cases r with
  | halt x w => exact hh.elim
  | ok n w =>
    cases n <;> simp only [StUpon] at hh ⊢
    case value u => exact ⟨hh.1, h _ hh.2⟩
    case skip => exact ⟨hh.1, h _ hh.2⟩
    case enter f args => exact Calls.mono hh fun _ _ ⟨he, hw⟩ => ⟨he, h _ hw⟩

/-- The state of the region when operation 'i' comes up: the class, the operations that it waits for have come up, it has not. -/
structure StAt (C : Array Bool → World → Prop) (ops : Array Oper) (i : Nat) (o : Oper) (L : Array Bool) (w : World) : Prop where
  cls : C L w
  size : L.size = ops.size
  own : L.getD i true = false
  deps : ∀ e ∈ o.after, Region.binds .any e = true → L.getD e.on false = true
  closed : ∀ j oj, ops[j]? = some oj → L.getD j false = true → ∀ e ∈ oj.after, Region.binds .any e = true → L.getD e.on false = true

/-- Operation 'i' waits for 'j', by at most so many steps. -/
def waits (ops : Array Oper) : Nat → Nat → Nat → Bool
  | 0, _, _ => false
  | n + 1, i, j => match ops[i]? with
    | none => false
    | some o => o.after.any fun e => Region.binds .any e && (e.on == j || waits ops n e.on j)

theorem waits_closed {L : Array Bool} (hc : ∀ j oj, ops[j]? = some oj → L.getD j false = true → ∀ e ∈ oj.after, Region.binds .any e = true → L.getD e.on false = true) :
    ∀ (n i j : Nat) (o : Oper), ops[i]? = some o → (∀ e ∈ o.after, Region.binds .any e = true → L.getD e.on false = true) → waits ops n i j = true → L.getD j false = true
  | 0, _, _, _, _, _, h => by simp [waits] at h
  | n + 1, i, j, o, ho, hd, h => by
    simp only [waits, ho, Array.any_eq_true] at h
    obtain ⟨x, hx, h⟩ := h
    simp only [Bool.and_eq_true, Bool.or_eq_true, beq_iff_eq] at h
    obtain ⟨hb, h⟩ := h
    have hLe := hd _ (Array.getElem_mem hx) hb
    rcases h with h | h
    · rw [← h]; exact hLe
    · cases hoe : ops[o.after[x].on]? with
      | none => cases n <;> simp [waits, hoe] at h
      | some oe => exact waits_closed hc n _ j oe hoe (fun e he hb' => hc _ oe hoe hLe e he hb') h

theorem StAt.waits {i j n : Nat} {o : Oper} {L : Array Bool} {w : World} (h : StAt C ops i o L w) (ho : ops[i]? = some o) (hw : waits ops n i j = true) : L.getD j false = true :=
  waits_closed h.closed n i j o ho h.deps hw

theorem closed_set {L : Array Bool} {i : Nat} {o : Oper} (hc : ∀ j oj, ops[j]? = some oj → L.getD j false = true → ∀ e ∈ oj.after, Region.binds .any e = true → L.getD e.on false = true)
    (ho : ops[i]? = some o) (hd : ∀ e ∈ o.after, Region.binds .any e = true → L.getD e.on false = true) :
    ∀ j oj, ops[j]? = some oj → (L.setIfInBounds i true).getD j false = true → ∀ e ∈ oj.after, Region.binds .any e = true → (L.setIfInBounds i true).getD e.on false = true := by
  have mono : ∀ j, L.getD j false = true → (L.setIfInBounds i true).getD j false = true := by
    intro j h
    simp only [Array.getD_eq_getD_getElem?, Array.getElem?_setIfInBounds] at h ⊢
    split
    · rename_i e
      subst e
      split
      · rfl
      · rename_i h'
        simp [Array.getElem?_eq_none (Nat.ge_of_not_lt h')] at h
    · exact h
  intro j oj hj hL e he hb
  refine mono _ ?_
  by_cases hji : i = j
  · subst hji
    rw [ho] at hj
    injection hj with hj
    subst hj
    exact hd e he hb
  · refine hc j oj hj ?_ e he hb
    simp only [Array.getD_eq_getD_getElem?, Array.getElem?_setIfInBounds] at hL ⊢
    rwa [if_neg hji] at hL

/-- Operation 'i' yields 'v', whatever has come up, and the class goes on. -/
def StYields (P : Program) (C : Array Bool → World → Prop) (ops : Array Oper) (i : Nat) (o : Oper) (v : Value) (a : Act) : Prop :=
  ∀ L w, StAt C ops i o L w → if Region.wanted o (yielded ops a.tmps) then StUpon P v (C (L.setIfInBounds i true)) ((execOp a.eval o).run P w) else v = undef ∧ C (L.setIfInBounds i true) w

theorem StYields.of_same {i : Nat} {o : Oper} {v : Value} {a a' : Act} (hy : StYields P C ops i o v a) (he : execOp a'.eval o = execOp a.eval o)
    (hw : Region.wanted o (yielded ops a'.tmps) = Region.wanted o (yielded ops a.tmps)) : StYields P C ops i o v a' := by
  unfold StYields at *
  rw [he, hw]
  exact hy

/-- Whatever order is picked from here on. -/
def wpAnyT (P : Program) (C : Array Bool → World → Prop) (ops : Array Oper) (Q : Act → Prop) : Nat → Array Bool → Act → Prop
  | 0, L, a => Region.ready .any ops L = [] ∧ Q a
  | fuel + 1, L, a =>
    (Region.ready .any ops L = [] → Q a) ∧
    ∀ i ∈ Region.ready .any ops L, ∃ o v, ops[i]? = some o ∧ StYields P C ops i o v a ∧ wpAnyT P C ops Q fuel (L.setIfInBounds i true) (a.put o.dst v)

theorem wpAny_of_T {Q : Act → Prop} {Q' : Exit → Act → World → Prop} (hQ : ∀ a L w, C L w → Region.ready .any ops L = [] → L.size = ops.size → Q a → Q' .normal a w) :
    ∀ (fuel : Nat) (L : Array Bool) (a : Act) (w : World), C L w → L.size = ops.size →
      (∀ j oj, ops[j]? = some oj → L.getD j false = true → ∀ e ∈ oj.after, Region.binds .any e = true → L.getD e.on false = true) → wpAnyT P C ops Q fuel L a → wpAny P .any ops Q' fuel L a w
  | 0, L, a, w, hC, hs, _, h => ⟨h.1, hQ a L w hC h.1 hs h.2⟩
  | fuel + 1, L, a, w, hC, hs, hcl, h => by
    refine ⟨fun h0 => hQ a L w hC h0 hs (h.1 h0), fun i hi => ?_⟩
    obtain ⟨o, v, ho, hy, hn⟩ := h.2 i hi
    obtain ⟨hun, o', ho', hall⟩ := mem_ready.1 hi
    have heq : o' = o := by rw [ho] at ho'; injection ho' with h1; exact h1.symm
    subst heq
    have hcl' := closed_set hcl ho (fun e he hb => hall e he hb)
    have hst := hy L w ⟨hC, hs, hun, fun e he hb => hall e he hb, hcl⟩
    unfold wpOp
    simp only [ho]
    split
    · rename_i hw
      rw [if_pos hw] at hst
      refine .inl ?_
      unfold Oper.wp
      generalize (execOp a.eval o').run P w = r at *
      cases r with
      | halt x w' => exact hst.elim
      | ok n w' =>
        cases n <;> simp only [StUpon] at hst <;> simp only [Oper.upon]
        case value u =>
          obtain ⟨rfl, hD⟩ := hst
          exact wpAny_of_T hQ fuel _ _ _ hD (by simpa using hs) hcl' hn
        case skip =>
          obtain ⟨rfl, hD⟩ := hst
          exact wpAny_of_T hQ fuel _ _ _ hD (by simpa using hs) hcl' hn
        case enter f args =>
          refine Calls.mono hst fun e w'' ⟨he, hD⟩ => ?_
          subst he
          exact wpAny_of_T hQ fuel _ _ _ hD (by simpa using hs) hcl' hn
    · rename_i hw
      rw [if_neg hw] at hst
      obtain ⟨rfl, hD⟩ := hst
      exact wpAny_of_T hQ fuel _ _ _ hD (by simpa using hs) hcl' hn

theorem wpAnyT_first {Q : Act → Prop} {i : Nat} {oi : Oper} {v : Value} (hi : ops[i]? = some oi) (hsel : ∀ (j : Nat) (o : Oper) cs b, ops[j]? = some o → o.op ≠ .select cs b) :
    ∀ (fuel : Nat) (L : Array Bool) (a : Act),
      (∀ j oj, ops[j]? = some oj → j ≠ i → L.getD j true = false → (∀ e ∈ oj.after, Region.binds .any e = true → e.on ≠ i) → oi.apart ops oj = true) →
      i ∈ Region.ready .any ops L → StYields P C ops i oi v a →
      wpAnyT P C ops Q fuel (L.setIfInBounds i true) (a.put oi.dst v) → wpAnyT P C ops Q (fuel + 1) L a := by
  intro fuel
  induction fuel with
  | zero =>
    intro L a _ hr hy H
    refine ⟨fun h => (by rw [h] at hr; cases hr), fun j hj => ?_⟩
    by_cases hji : j = i
    · subst hji; exact ⟨oi, v, hi, hy, H⟩
    · have := ready_mono hj hji
      rw [H.1] at this
      cases this
  | succ fuel ih =>
    intro L a hfree hr hy H
    refine ⟨fun h => (by rw [h] at hr; cases hr), fun j hj => ?_⟩
    by_cases hji : j = i
    · subst hji; exact ⟨oi, v, hi, hy, H⟩
    · obtain ⟨oj, u, hoj, hyj, hn⟩ := H.2 j (ready_mono hj hji)
      obtain ⟨hjun, oj', hoj', hall⟩ := mem_ready.1 hj
      have heq : oj' = oj := by rw [hoj] at hoj'; injection hoj' with h1; exact h1.symm
      subst heq
      have hnot : ∀ e ∈ oj'.after, Region.binds .any e = true → e.on ≠ i := fun e he hb heq => by
        have h1 := hall e he hb
        have h0 := (mem_ready.1 hr).1
        rw [heq] at h1
        rcases Nat.lt_or_ge i L.size with h' | h'
        · simp [h'] at h0 h1; rw [h0] at h1; cases h1
        · simp [Array.getElem?_eq_none h'] at h1
      have hap := hfree j oj' hoj hji hjun hnot
      obtain ⟨h1, h2, h3⟩ := Oper.apart_spec hap
      have hsi : ∀ cs b, oi.op ≠ .select cs b := fun cs b => hsel i oi cs b hi
      have hsj : ∀ cs b, oj'.op ≠ .select cs b := fun cs b => hsel j oj' cs b hoj
      refine ⟨oj', u, hoj, hyj.of_same (execOp_put oj' hsj a oi.dst v h1).symm (wanted_put oj' a oi.dst v h1).symm, ?_⟩
      have hfree' : ∀ k ok, ops[k]? = some ok → k ≠ i → (L.setIfInBounds j true).getD k true = false →
          (∀ e ∈ ok.after, Region.binds .any e = true → e.on ≠ i) → oi.apart ops ok = true := fun k ok hk hki hun hno => by
        refine hfree k ok hk hki ?_ hno
        by_cases hjk : j = k
        · subst hjk; exact hjun
        · rw [getD_set_ne true hjk] at hun; exact hun
      refine ih (L.setIfInBounds j true) (a.put oj'.dst u) hfree' (ready_mono hr (Ne.symm hji))
        (hy.of_same (execOp_put oi hsi a oj'.dst u h3) (wanted_put oi a oj'.dst u h3)) ?_
      rw [Array.setIfInBounds_comm _ _ hji, ← Act.put_comm a v u h2]
      exact hn

/-- The walk in the order of the text. -/
def wpT (P : Program) (C : Array Bool → World → Prop) (ops : Array Oper) (Q : Act → Prop) : List Oper → Nat → Act → Prop
  | [], _, a => Q a
  | o :: rest, k, a => ∃ v, StYields P C ops k o v a ∧ wpT P C ops Q rest (k + 1) (a.put o.dst v)

theorem wpAnyT_lex {Q : Act → Prop} (hs : Region.noSelect ops = true) : ∀ (l : List Oper) (k : Nat) (L : Array Bool) (a : Act), (∀ j, l[j]? = ops[k + j]?) →
    Region.lexFrom .any ops l.length k L = true → wpT P C ops Q l k a → wpAnyT P C ops Q l.length L a
  | [], _, _, _, _, hB, h => ⟨by simpa [Region.lexFrom] using hB, h⟩
  | o :: l, k, L, a, hl, hB, h => by
    have h0 : ops[k]? = some o := by simpa using (hl 0).symm
    simp only [List.length_cons, Region.lexFrom, Bool.and_eq_true] at hB
    obtain ⟨⟨hr, hf⟩, hB'⟩ := hB
    obtain ⟨v, hy, hK⟩ := h
    exact wpAnyT_first h0 (Region.noSelect_spec hs) l.length L a (Region.free_spec h0 hf) (by simpa using hr) hy
      (wpAnyT_lex hs l (k + 1) _ _ (fun j => by have := hl (j + 1); simpa [Nat.add_assoc, Nat.add_comm 1 j] using this) hB' hK)

/-- The region, its operations written out. -/
theorem wp_region_T {id : Nat} {Q : Exit → Act → World → Prop} {a : Act} {w : World} {l : List Oper} (C : Array Bool → World → Prop) (hm : P.follows .mixedOrders = true) (hB : Region.lexB .any l.toArray = true)
    (hC : C (Array.replicate l.length false) w.drew)
    (h : wpT P C l.toArray (fun a' => ∀ L w', C L w' → Region.ready .any l.toArray L = [] → L.size = l.length → Q .normal a' w') l 0 a) : (Code.region id l.toArray true).wp P Q a w := by
  simp only [Region.lexB, Bool.and_eq_true] at hB
  refine wp_region_any hm (wpAny_of_T (C := C) (Q := fun a' => ∀ L w', C L w' → Region.ready .any l.toArray L = [] → L.size = l.length → Q .normal a' w')
    (fun a' L w' hc hr hs hq => hq L w' hc hr (by simpa using hs)) _ _ _ _ (by simpa using hC) (by simp) (fun j oj _ h => by simp [Array.getD_eq_getD_getElem?, Array.getElem?_replicate] at h; split at h <;> simp at h) ?_)
  have := wpAnyT_lex (C := C) hB.1 l 0 (Array.replicate l.toArray.size false) a (by simp) (by simpa using hB.2) h
  simpa using this

/-- A class that does not look at what has come up. -/
theorem wp_region_D {id : Nat} {Q : Exit → Act → World → Prop} {a : Act} {w : World} {l : List Oper} (D : World → Prop) (hm : P.follows .mixedOrders = true) (hB : Region.lexB .any l.toArray = true)
    (hC : D w.drew)
    (h : wpT P (fun _ => D) l.toArray (fun a' => ∀ w', D w' → Q .normal a' w') l 0 a) : (Code.region id l.toArray true).wp P Q a w := by
  refine wp_region_T (fun _ => D) hm hB hC ?_
  have mono : ∀ (l' : List Oper) (k : Nat) (a : Act), wpT P (fun _ => D) l.toArray (fun a' => ∀ w', D w' → Q .normal a' w') l' k a →
      wpT P (fun _ => D) l.toArray (fun a' => ∀ (L : Array Bool) w', D w' → Region.ready .any l.toArray L = [] → L.size = l.length → Q .normal a' w') l' k a := by
    intro l'
    induction l' with
    | nil => exact fun _ _ hh _ w' hw _ _ => hh w' hw
    | cons o l' ih => exact fun k a ⟨v, hy, hn⟩ => ⟨v, hy, ih _ _ hn⟩
  exact mono l 0 a h

theorem wpT_nil {Q : Act → Prop} {a : Act} {k : Nat} (h : Q a) : wpT P C ops Q [] k a := h
/-- One operation at a time, what follows behind a variable. -/
theorem wpT_step {Q : Act → Prop} {a : Act} {o : Oper} {k : Nat} {rest : List Oper} (v : Value) (hy : StYields P C ops k o v a)
    (h : wpT P C ops Q rest (k + 1) (a.put o.dst v)) : wpT P C ops Q (o :: rest) k a := ⟨v, hy, h⟩

end
end Go.Proofs.YtagmoehjcgjnjaaGreatDoor

namespace Go.Proofs.YtagmoehjcgjnjaaGreatDoor
open Go

section
variable {P : Program} {ops : Array Oper}
theorem stD {D : World → Prop} {i : Nat} {o : Oper} {v : Value} {a : Act} (hw : Region.wanted o (yielded ops a.tmps) = true) (h : ∀ w, D w → StUpon P v D ((execOp a.eval o).run P w)) : StYields P (fun _ => D) ops i o v a := by
  intro L w hs
  rw [if_pos hw]
  exact h w hs.cls
theorem stD_pure {D : World → Prop} {i : Nat} {o : Oper} {v : Value} {a : Act} (hw : Region.wanted o (yielded ops a.tmps) = true) (h : ∀ w, D w → (execOp a.eval o).run P w = .ok (.value v) w) : StYields P (fun _ => D) ops i o v a := by
  intro L w hs
  rw [if_pos hw, h w hs.cls]
  exact ⟨rfl, hs.cls⟩
theorem stD_skip {D : World → Prop} {i : Nat} {o : Oper} {a : Act} (hw : Region.wanted o (yielded ops a.tmps) = false) : StYields P (fun _ => D) ops i o undef a := by
  intro L w hs
  rw [if_neg (by rw [hw]; simp)]
  exact ⟨rfl, hs.cls⟩
theorem stD_call {D : World → Prop} {i : Nat} {o : Oper} {v : Value} {a : Act} {f : FuncId} {args : Array Value} (hw : Region.wanted o (yielded ops a.tmps) = true) (h : ∀ w, D w → (execOp a.eval o).run P w = .ok (.enter f args) w)
    (hc : ∀ w, D w → Calls P f args w fun e w' => e = .returned v ∧ D w') : StYields P (fun _ => D) ops i o v a := by
  intro L w hs
  rw [if_pos hw, h w hs.cls]
  exact hc w hs.cls
end
end Go.Proofs.YtagmoehjcgjnjaaGreatDoor

namespace Go.Proofs.YtagmoehjcgjnjaaGreatDoor
open Go

section
variable {P : Program} {ops : Array Oper} {C : Array Bool → World → Prop}

def wpAnyTL (P : Program) (C : Array Bool → World → Prop) (ops : Array Oper) (n : Nat) (T : Array Bool → Act → Prop) : Nat → Array Bool → Act → Prop
  | 0, L, a => T L a
  | f + 1, L, a => Region.ready .any ops L ≠ [] ∧ ∀ i ∈ Region.ready .any ops L, i < n ∧ ∃ o v, ops[i]? = some o ∧ StYields P C ops i o v a ∧ wpAnyTL P C ops n T f (L.setIfInBounds i true) (a.put o.dst v)

theorem wpAny_of_TL {n g : Nat} {T : Array Bool → Act → Prop} {Q' : Exit → Act → World → Prop} (hT : ∀ L a w, T L a → C L w → wpAny P .any ops Q' g L a w) :
    ∀ (f : Nat) (L : Array Bool) (a : Act) (w : World), C L w → L.size = ops.size →
      (∀ j oj, ops[j]? = some oj → L.getD j false = true → ∀ e ∈ oj.after, Region.binds .any e = true → L.getD e.on false = true) → wpAnyTL P C ops n T f L a → wpAny P .any ops Q' (f + g) L a w
  | 0, L, a, w, hC, _, _, h => by rw [Nat.zero_add]; exact hT _ _ _ h hC
  | f + 1, L, a, w, hC, hs, hcl, h => by
    rw [show f + 1 + g = (f + g) + 1 by omega]
    refine ⟨fun h0 => absurd h0 h.1, fun i hi => ?_⟩
    obtain ⟨-, o, v, ho, hy, hn⟩ := h.2 i hi
    obtain ⟨hun, o', ho', hall⟩ := mem_ready.1 hi
    have heq : o' = o := by rw [ho] at ho'; injection ho' with h1; exact h1.symm
    subst heq
    have hcl' := closed_set hcl ho (fun e he hb => hall e he hb)
    have hst := hy L w ⟨hC, hs, hun, fun e he hb => hall e he hb, hcl⟩
    unfold wpOp
    simp only [ho]
    split
    · rename_i hw
      rw [if_pos hw] at hst
      refine .inl ?_
      unfold Oper.wp
      generalize (execOp a.eval o').run P w = r at *
      cases r with
      | halt x w' => exact hst.elim
      | ok n w' =>
        cases n <;> simp only [StUpon] at hst <;> simp only [Oper.upon]
        case value u =>
          obtain ⟨rfl, hD⟩ := hst
          exact wpAny_of_TL hT f _ _ _ hD (by simpa using hs) hcl' hn
        case skip =>
          obtain ⟨rfl, hD⟩ := hst
          exact wpAny_of_TL hT f _ _ _ hD (by simpa using hs) hcl' hn
        case enter f' args =>
          refine Calls.mono hst fun e w'' ⟨he, hD⟩ => ?_
          subst he
          exact wpAny_of_TL hT f _ _ _ hD (by simpa using hs) hcl' hn
    · rename_i hw
      rw [if_neg hw] at hst
      obtain ⟨rfl, hD⟩ := hst
      exact wpAny_of_TL hT f _ _ _ hD (by simpa using hs) hcl' hn

theorem wpAnyTL_first {n i : Nat} {oi : Oper} {v : Value} {T : Array Bool → Act → Prop} (hi : ops[i]? = some oi) (hsel : ∀ (j : Nat) (o : Oper) cs b, ops[j]? = some o → o.op ≠ .select cs b)
    {I : Array Bool → Prop} (hset : ∀ L i, I L → i ∈ Region.ready .any ops L → i < n → I (L.setIfInBounds i true)) (hwait : ∀ L i, I L → i < n → L.getD i true = false → ∀ t, n ≤ t → t ∉ Region.ready .any ops L) (hin : i < n)
    (hdone : ∀ L a, T L a → ∀ j ∈ Region.ready .any ops L, n ≤ j) :
    ∀ (f : Nat) (L : Array Bool) (a : Act), I L →
      (∀ j oj, ops[j]? = some oj → j ≠ i → L.getD j true = false → (∀ e ∈ oj.after, Region.binds .any e = true → e.on ≠ i) → oi.apart ops oj = true) →
      i ∈ Region.ready .any ops L → StYields P C ops i oi v a →
      wpAnyTL P C ops n T f (L.setIfInBounds i true) (a.put oi.dst v) → wpAnyTL P C ops n T (f + 1) L a := by
  intro f
  induction f with
  | zero =>
    intro L a inv _ hr hy H
    have hun := (mem_ready.1 hr).1
    refine ⟨fun h => (by rw [h] at hr; cases hr), fun j hj => ?_⟩
    have hjn : j < n := by
      rcases Nat.lt_or_ge j n with h | h
      · exact h
      · exact absurd hj (hwait L i inv hin hun j h)
    refine ⟨hjn, ?_⟩
    by_cases hji : j = i
    · subst hji; exact ⟨oi, v, hi, hy, H⟩
    · have := hdone _ _ H j (ready_mono hj hji)
      omega
  | succ f ih =>
    intro L a inv hfree hr hy H
    have hun := (mem_ready.1 hr).1
    refine ⟨fun h => (by rw [h] at hr; cases hr), fun j hj => ?_⟩
    have hjn : j < n := by
      rcases Nat.lt_or_ge j n with h | h
      · exact h
      · exact absurd hj (hwait L i inv hin hun j h)
    refine ⟨hjn, ?_⟩
    by_cases hji : j = i
    · subst hji; exact ⟨oi, v, hi, hy, H⟩
    · obtain ⟨-, oj, u, hoj, hyj, hn'⟩ := H.2 j (ready_mono hj hji)
      obtain ⟨hjun, oj', hoj', hall⟩ := mem_ready.1 hj
      have heq : oj' = oj := by rw [hoj] at hoj'; injection hoj' with h1; exact h1.symm
      subst heq
      have hnot : ∀ e ∈ oj'.after, Region.binds .any e = true → e.on ≠ i := fun e he hb heq => by
        have h1 := hall e he hb
        rw [heq, getD_both hun] at h1
        cases h1
      have hap := hfree j oj' hoj hji hjun hnot
      obtain ⟨h1, h2, h3⟩ := Oper.apart_spec hap
      have hsi : ∀ cs b, oi.op ≠ .select cs b := fun cs b => hsel i oi cs b hi
      have hsj : ∀ cs b, oj'.op ≠ .select cs b := fun cs b => hsel j oj' cs b hoj
      refine ⟨oj', u, hoj, hyj.of_same (execOp_put oj' hsj a oi.dst v h1).symm (wanted_put oj' a oi.dst v h1).symm, ?_⟩
      have hfree' : ∀ k ok, ops[k]? = some ok → k ≠ i → (L.setIfInBounds j true).getD k true = false →
          (∀ e ∈ ok.after, Region.binds .any e = true → e.on ≠ i) → oi.apart ops ok = true := fun k ok hk hki hun hno => by
        refine hfree k ok hk hki ?_ hno
        by_cases hjk : j = k
        · subst hjk; exact hjun
        · rw [getD_set_ne true hjk] at hun; exact hun
      refine ih (L.setIfInBounds j true) (a.put oj'.dst u) (hset _ _ inv hj hjn) hfree' (ready_mono hr (Ne.symm hji))
        (hy.of_same (execOp_put oi hsi a oj'.dst u h3) (wanted_put oi a oj'.dst u h3)) ?_
      rw [Array.setIfInBounds_comm _ _ hji, ← Act.put_comm a v u h2]
      exact hn'

theorem wpAnyTL_lex {n g : Nat} {Lq : Act → Prop} (hsel : Region.noSelect ops = true) {I : Array Bool → Prop} (hset : ∀ L i, I L → i ∈ Region.ready .any ops L → i < n → I (L.setIfInBounds i true)) (hwait : ∀ L i, I L → i < n → L.getD i true = false → ∀ t, n ≤ t → t ∉ Region.ready .any ops L) :
    ∀ (l : List Oper) (k : Nat) (L : Array Bool) (a : Act), (∀ j, j < l.length → l[j]? = ops[k + j]?) → k + l.length = n → I L →
    Region.lexHead .any ops g l.length k L = true → wpT P C ops Lq l k a →
    wpAnyTL P C ops n (fun L' a' => Region.seqB .any ops g n L' = true ∧ Lq a') l.length L a
  | [], k, L, a, _, hk, _, hB, h => by
    have : k = n := by simpa using hk
    subst this
    exact ⟨by simpa [Region.lexHead] using hB, h⟩
  | o :: l, k, L, a, hl, hk, inv, hB, h => by
    have h0 : ops[k]? = some o := by simpa using (hl 0 (by simp)).symm
    simp only [List.length_cons, Region.lexHead, Bool.and_eq_true] at hB
    obtain ⟨⟨hr, hf⟩, hB'⟩ := hB
    have hkn : k < n := by simp only [List.length_cons] at hk; omega
    have hr' : k ∈ Region.ready .any ops L := by simpa using hr
    obtain ⟨v, hy, hK⟩ := h
    exact wpAnyTL_first h0 (Region.noSelect_spec hsel) hset hwait hkn (fun L' a' hL => seqB_ready hL.1) l.length L a inv (Region.free_spec h0 hf) hr' hy
      (wpAnyTL_lex hsel hset hwait l (k + 1) _ _ (fun j hj => by have := hl (j + 1) (by simp; omega); simpa [Nat.add_assoc, Nat.add_comm 1 j] using this) (by simp only [List.length_cons] at hk; omega) (hset _ _ inv hr' hkn) hB' hK)

theorem wp_region_TT {id : Nat} {Q : Exit → Act → World → Prop} {a : Act} {w : World} {l : List Oper} (n : Nat) (D : World → Prop) (hm : P.follows .mixedOrders = true) (hB : Region.lexTailB .any l.toArray n = true)
    (hC : D w.drew) (h : wpT P (fun _ => D) l.toArray (fun a' => ∀ w', D w' → wpList P l.toArray Q (l.drop n) a' w') (l.take n) 0 a) : (Code.region id l.toArray true).wp P Q a w := by
  simp only [Region.lexTailB, Bool.and_eq_true, decide_eq_true_eq] at hB
  obtain ⟨⟨⟨⟨hsel, hn⟩, hs⟩, hc⟩, hlex⟩ := hB
  have hn' : n < l.length := by simpa using hn
  have htl : (l.take n).length = n := by simp; omega
  have hdl : (l.drop n).length = l.toArray.size - n := by simp
  have inv0 : HeadInv .any l.toArray n (Array.replicate l.toArray.size false) :=
    ⟨by simp, fun j oj _ hl => (by rw [getD_replicate_false] at hl; cases hl), fun t _ ht => getD_in (by simpa using ht) (getD_replicate_false _ _)⟩
  have H := wpAnyTL_lex (C := fun _ => D) (g := l.toArray.size - n) hsel (I := HeadInv .any l.toArray n) (fun _ _ inv hi hin => inv.set hi hin) (fun _ i inv hin hun t ht => tail_waits hs hc hn inv _ i rfl hin hun t ht) (l.take n) 0 _ a (fun j hj => by
    have hj' : j < n := by rw [htl] at hj; exact hj
    simp [hj']) (by simpa using htl) inv0 (by rw [htl]; exact hlex) h
  refine wp_region_any hm ?_
  have := wpAny_of_TL (Q' := Q) (g := l.toArray.size - n) (fun L a' w' hL hD => by
    have := wpAny_of_seq (md := .any) (Q' := Q) (l.drop n) n L a' w' (fun j => by simp [List.getElem?_drop]) (by rw [hdl]; exact hL.1) (hL.2 w' hD)
    rwa [hdl] at this) _ _ _ w.drew hC (by simp) (fun j oj _ h => by rw [getD_replicate_false] at h; cases h) H
  rw [htl, show n + (l.toArray.size - n) = l.toArray.size by omega] at this
  exact this

/-- The head's operations from 'm' on are waited for. -/
def sinkM (ops : Array Oper) (m n : Nat) : Bool :=
  (List.range n).all fun i => decide (i < m) || (List.range (n + 1)).any fun j => decide (i < j) && Region.waitsFor .any ops j i

structure PreInv (ops : Array Oper) (m n : Nat) (L : Array Bool) : Prop extends HeadInv .any ops n L where
  pre : ∀ i, i < m → L.getD i true = true

theorem PreInv.set {m n i : Nat} {L : Array Bool} (inv : PreInv ops m n L) (hi : i ∈ Region.ready .any ops L) (hin : i < n) : PreInv ops m n (L.setIfInBounds i true) :=
  ⟨inv.toHeadInv.set hi hin, fun k hk => by
    by_cases h : i = k
    · subst h
      have h1 := inv.pre i hk
      have h0 := (mem_ready.1 hi).1
      rw [h1] at h0
      cases h0
    · rw [getD_set_ne true h]; exact inv.pre k hk⟩

theorem pre_waits {m n : Nat} {L : Array Bool} (hs : sinkM ops m n = true) (hc : Region.chainB .any ops n = true) (hn : n < ops.size) (inv : PreInv ops m n L) :
    ∀ (d i : Nat), n - i = d → i < n → L.getD i true = false → ∀ t, n ≤ t → t ∉ Region.ready .any ops L := by
  intro d
  induction d using Nat.strongRecOn with
  | _ d ih =>
    intro i hd hi hun t ht hr
    obtain ⟨_, ot, hot, hall⟩ := mem_ready.1 hr
    have htlt : t < ops.size := (Array.getElem?_eq_some_iff.1 hot).1
    by_cases htn : t = n
    · subst htn
      have h1 := List.all_eq_true.1 hs i (List.mem_range.2 hi)
      have him : ¬ i < m := fun h => by rw [inv.pre i h] at hun; cases hun
      simp only [him, decide_false, Bool.false_or] at h1
      obtain ⟨j, hj, hj2⟩ := List.any_eq_true.1 h1
      simp only [Bool.and_eq_true, decide_eq_true_eq] at hj2
      obtain ⟨oj, hoj, e, he, hb, hon⟩ := Region.waitsFor_spec hj2.2
      have hjle : j ≤ t := by have := List.mem_range.1 hj; omega
      by_cases hjt : j = t
      · subst hjt
        have : oj = ot := Option.some.inj (hoj.symm.trans hot)
        subst this
        have h2 := hall e he hb
        rw [hon, getD_both hun] at h2
        cases h2
      · cases hl : L.getD j false with
        | true =>
          have h2 := inv.closed j oj hoj hl e he hb
          rw [hon, getD_both hun] at h2
          cases h2
        | false =>
          have hjs : j < L.size := by rw [inv.size]; omega
          exact ih (t - j) (by omega) j rfl (by omega) (getD_in hjs hl) t (Nat.le_refl _) hr
    · have h1 := List.all_eq_true.1 hc t (List.mem_range.2 htlt)
      simp only [Bool.or_eq_true, decide_eq_true_eq] at h1
      rcases h1 with h1 | h1
      · omega
      · obtain ⟨o', ho', e, he, hb, hon⟩ := Region.waitsFor_spec h1
        have : o' = ot := Option.some.inj (ho'.symm.trans hot)
        subst this
        have h2 := hall e he hb
        rw [hon, getD_both (inv.tail (t - 1) (by omega) (by omega))] at h2
        cases h2

/-- As before; operation 0 may come up at any time, changes nothing, and is taken first. -/
def preTailB (ops : Array Oper) (n : Nat) : Bool :=
  Region.noSelect ops && decide (1 < n) && decide (n < ops.size) && sinkM ops 1 n && Region.chainB .any ops n && (Region.ready .any ops (Array.replicate ops.size false)).contains 0 && Region.free .any ops (Array.replicate ops.size false) 0 &&
    Region.lexHead .any ops (ops.size - n) (n - 1) 1 ((Array.replicate ops.size false).setIfInBounds 0 true)

theorem wp_region_PT {id : Nat} {Q : Exit → Act → World → Prop} {a : Act} {w : World} {o0 : Oper} {l : List Oper} (n : Nat) (v0 : Value) (D : World → Prop) (hm : P.follows .mixedOrders = true) (hB : preTailB (o0 :: l).toArray (n + 1) = true)
    (hQ : ∀ c a w, Q (.panic c) (a.put o0.dst v0) w → Q (.panic c) a w) (h0 : Yields P (o0 :: l).toArray o0 v0 a)
    (hC : D w.drew) (h : wpT P (fun _ => D) (o0 :: l).toArray (fun a' => ∀ w', D w' → wpList P (o0 :: l).toArray Q (l.drop n) a' w') (l.take n) 1 (a.put o0.dst v0)) : (Code.region id (o0 :: l).toArray true).wp P Q a w := by
  simp only [preTailB, Bool.and_eq_true, decide_eq_true_eq] at hB
  obtain ⟨⟨⟨⟨⟨⟨⟨hsel, -⟩, hn⟩, hs⟩, hc⟩, hr0⟩, hf0⟩, hlex⟩ := hB
  have hsz : (o0 :: l).toArray.size = l.length + 1 := by simp
  have hn' : n < l.length := by rw [hsz] at hn; omega
  have htl : (l.take n).length = n := by simp; omega
  have hdl : (l.drop n).length = (o0 :: l).toArray.size - (n + 1) := by simp
  have hr0' : 0 ∈ Region.ready .any (o0 :: l).toArray (Array.replicate (o0 :: l).toArray.size false) := by simpa using hr0
  have inv0 : HeadInv .any (o0 :: l).toArray (n + 1) (Array.replicate (o0 :: l).toArray.size false) :=
    ⟨by simp, fun j oj _ hl => (by rw [getD_replicate_false] at hl; cases hl), fun t _ ht => getD_in (by simpa using ht) (getD_replicate_false _ _)⟩
  have inv1 : PreInv (o0 :: l).toArray 1 (n + 1) ((Array.replicate (o0 :: l).toArray.size false).setIfInBounds 0 true) :=
    ⟨inv0.set hr0' (by omega), fun i hi => by
      obtain rfl : i = 0 := by omega
      simp [Array.getD_eq_getD_getElem?]⟩
  have H := wpAnyTL_lex (P := P) (C := fun _ => D) (g := (o0 :: l).toArray.size - (n + 1)) hsel (I := PreInv (o0 :: l).toArray 1 (n + 1)) (fun _ _ inv hi hin => inv.set hi hin) (fun _ i inv hin hun t ht => pre_waits hs hc hn inv _ i rfl hin hun t ht) (l.take n) 1 _ (a.put o0.dst v0) (fun j hj => by
    have hj' : j < n := by rw [htl] at hj; exact hj
    simp [hj', Nat.add_comm 1 j]) (by rw [htl]; omega) inv1 (by rw [htl]; exact hlex) h
  refine wp_region_any hm ?_
  have key := wpAny_of_TL (Q' := Q) (g := (o0 :: l).toArray.size - (n + 1)) (fun L a' w' hL hD => by
    have := wpAny_of_seq (md := .any) (Q' := Q) (l.drop n) (n + 1) L a' w' (fun j => by simp [List.getElem?_drop, Nat.add_right_comm n 1 j]) (by rw [hdl]; exact hL.1) (hL.2 w' hD)
    rwa [hdl] at this) _ _ _ w.drew hC (by simp) inv1.closed H
  rw [htl] at key
  have hfin := wpAny_first (P := P) (md := .any) (Q := Q) (i := 0) (oi := o0) (v := v0) (ops := (o0 :: l).toArray) rfl (Region.noSelect_spec hsel) hQ _ (Array.replicate (o0 :: l).toArray.size false) a w.drew (Region.free_spec rfl hf0) hr0' h0 key
  rw [show n + ((o0 :: l).toArray.size - (n + 1)) + 1 = (o0 :: l).toArray.size by omega] at hfin
  exact hfin
end
end Go.Proofs.YtagmoehjcgjnjaaGreatDoor

namespace Go.Proofs.YtagmoehjcgjnjaaGreatDoor
open Go

/-- As Q; by a goto to a label: K of it. -/
def gotos (K : Nat → Act → World → Prop) (Q : Exit → Act → World → Prop) : Exit → Act → World → Prop
  | .goto l, a, w => K l a w
  | e, a, w => Q e a w

section
variable {P : Program} {Q : Exit → Act → World → Prop}
@[go_sem] theorem gotos_normal {K : Nat → Act → World → Prop} {a : Act} {w : World} : gotos K Q .normal a w = Q .normal a w := rfl
@[go_sem] theorem gotos_exit {K : Nat → Act → World → Prop} {a : Act} {w : World} (id : Nat) : gotos K Q (.exit id) a w = Q (.exit id) a w := rfl
@[go_sem] theorem gotos_ret {K : Nat → Act → World → Prop} {a : Act} {w : World} : gotos K Q .ret a w = Q .ret a w := rfl
@[go_sem] theorem gotos_panic {K : Nat → Act → World → Prop} {a : Act} {w : World} (ch : List PanicEntry) : gotos K Q (.panic ch) a w = Q (.panic ch) a w := rfl
theorem gotos_goto {K : Nat → Act → World → Prop} {a : Act} {w : World} (l : Nat) : gotos K Q (.goto l) a w = K l a w := rfl

/-- What is left of a scope's code 'c', with at most so many jumps more. -/
def wpScope (P : Program) (c : Code) (Q : Exit → Act → World → Prop) : Nat → Code → Act → World → Prop
  | 0, d, a, w => d.wp P (Exit.noGoto Q) a w
  | n + 1, d, a, w => d.wp P (gotos (fun l a w => ∃ rest, findLabel c l = some rest ∧ wpScope P c Q n rest a w) Q) a w

theorem wp_scope_n {c : Code} {a : Act} {w : World} (n : Nat) (h : wpScope P c Q n c a w) : (Code.scope c).wp P Q a w := by
  intro b k cs
  have key : ∀ n d a w, wpScope P c Q n d a w → ∃ e a' w', Q e a' w' ∧ Arrives P (lone (b.at a (.code d :: .inScope c :: k)) cs w) b k cs e a' w' := by
    intro n
    induction n with
    | zero =>
      intro d a w hn
      obtain ⟨e, a₁, w₁, hq, harr⟩ := hn b (.inScope c :: k) cs
      cases e with
      | normal => exact ⟨.normal, a₁, w₁, hq, Steps.trans harr (.one step_inScope)⟩
      | exit id => exact ⟨.exit id, a₁, w₁, hq, fun k' hk => harr k' (by simp [exitTo, hk])⟩
      | goto l' => exact hq.elim
      | ret => exact ⟨_, a₁, w₁, hq, harr⟩
      | panic ch => exact ⟨_, a₁, w₁, hq, harr⟩
      | outgrown => exact ⟨_, a₁, w₁, hq, harr⟩
    | succ n ih =>
      intro d a w hn
      obtain ⟨e, a₁, w₁, hq, harr⟩ := hn b (.inScope c :: k) cs
      cases e with
      | normal => exact ⟨.normal, a₁, w₁, hq, Steps.trans harr (.one step_inScope)⟩
      | exit id => exact ⟨.exit id, a₁, w₁, hq, fun k' hk => harr k' (by simp [exitTo, hk])⟩
      | goto l' =>
        obtain ⟨rest, hf, hr⟩ := hq
        obtain ⟨e₂, a₂, w₂, hq₂, harr₂⟩ := ih rest a₁ w₁ hr
        have hg : gotoIn l' (.inScope c :: k) = some (.code rest :: .inScope c :: k) := by simp [gotoIn, hf]
        exact ⟨e₂, a₂, w₂, hq₂, .of_steps (harr _ hg) harr₂⟩
      | ret => exact ⟨_, a₁, w₁, hq, harr⟩
      | panic ch => exact ⟨_, a₁, w₁, hq, harr⟩
      | outgrown => exact ⟨_, a₁, w₁, hq, harr⟩
  obtain ⟨e, a₁, w₁, hq, harr⟩ := key n c a w h
  exact ⟨e, a₁, w₁, hq, .of_steps (.one step_scope) harr⟩
end
end Go.Proofs.YtagmoehjcgjnjaaGreatDoor

namespace Go.Proofs.YtagmoehjcgjnjaaGreatDoor
open Go Go.RowKit

section
variable {P : Program} {ops : Array Oper} {I : Array Bool → Act → World → Prop} {Q : Exit → Act → World → Prop}

/-- An operation that comes up keeps the statement. -/
def Keeps (P : Program) (ops : Array Oper) (I : Array Bool → Act → World → Prop) : Prop :=
  ∀ i o L a w, ops[i]? = some o → L.getD i true = false → L.size = ops.size → (∀ e ∈ o.after, Region.binds .any e = true → L.getD e.on false = true) → I L a w →
    Region.wanted o (yielded ops a.tmps) = true ∧ ∃ v w', ((execOp a.eval o).run P w = .ok (.value v) w' ∨ ((execOp a.eval o).run P w = .ok .skip w' ∧ v = undef)) ∧ I (L.setIfInBounds i true) (a.put o.dst v) w'

theorem all_of_ready (hlex : ∀ i o, ops[i]? = some o → ∀ e ∈ o.after, Region.binds .any e = true → e.on < i) {L : Array Bool} (hs : L.size = ops.size) (hr : Region.ready .any ops L = []) :
    ∀ i, i < ops.size → L.getD i false = true := by
  intro i
  induction i using Nat.strongRecOn with
  | ind i ih =>
    intro hi
    cases hL : L.getD i false with
    | true => rfl
    | false =>
      exfalso
      have hi2 : i < L.size := by omega
      have hT : L.getD i true = false := by
        simp only [Array.getD_eq_getD_getElem?, Array.getElem?_eq_getElem hi2, Option.getD_some] at hL ⊢
        exact hL
      have ho : ops[i]? = some ops[i] := Array.getElem?_eq_getElem hi
      have : i ∈ Region.ready .any ops L := mem_ready.2 ⟨hT, _, ho, fun e he hb => ih _ (hlex i _ ho e he hb) (by have := hlex i _ ho e he hb; omega)⟩
      rw [hr] at this
      cases this

theorem wpAny_of_inv (hlex : ∀ i o, ops[i]? = some o → ∀ e ∈ o.after, Region.binds .any e = true → e.on < i) (hK : Keeps P ops I)
    (hend : ∀ L a w, I L a w → (∀ i, i < ops.size → L.getD i false = true) → Q .normal a w) :
    ∀ (fuel : Nat) (L : Array Bool) (a : Act) (w : World), I L a w → L.size = ops.size → L.toList.count false ≤ fuel → wpAny P .any ops Q fuel L a w
  | 0, L, a, w, hI, hs, hc => by
    have h0 : ∀ i, i < ops.size → L.getD i false = true := fun i hi => by
      have hi2 : i < L.size := by omega
      have hm : false ∉ L.toList := by
        intro h
        have := List.count_pos_iff.2 h
        omega
      simp only [Array.getD_eq_getD_getElem?, Array.getElem?_eq_getElem hi2, Option.getD_some]
      cases hv : L[i] with
      | true => rfl
      | false => exact absurd (by rw [← hv]; simp) hm
    refine ⟨?_, hend L a w hI h0⟩
    refine List.eq_nil_iff_forall_not_mem.2 fun i hi => ?_
    obtain ⟨h1, o, ho, -⟩ := mem_ready.1 hi
    have hi2 : i < ops.size := by
      rcases Nat.lt_or_ge i ops.size with h | h
      · exact h
      · rw [Array.getElem?_eq_none h] at ho; cases ho
    have := h0 i hi2
    have hi3 : i < L.size := by omega
    simp only [Array.getD_eq_getD_getElem?, Array.getElem?_eq_getElem hi3, Option.getD_some] at h1 this
    rw [this] at h1
    cases h1
  | fuel + 1, L, a, w, hI, hs, hc => by
    refine ⟨fun h0 => hend L a w hI (all_of_ready hlex hs h0), fun i hi => ?_⟩
    obtain ⟨hun, o, ho, hall⟩ := mem_ready.1 hi
    obtain ⟨hw, v, w', hr, hI'⟩ := hK i o L a w ho hun hs hall hI
    have hi2 : i < L.size := by
      rcases Nat.lt_or_ge i L.size with h | h
      · exact h
      · simp [Array.getD_eq_getD_getElem?, Array.getElem?_eq_none h] at hun
    have hv : L[i] = false := by simpa [Array.getD_eq_getD_getElem?, Array.getElem?_eq_getElem hi2] using hun
    unfold wpOp
    simp only [ho]
    rw [if_pos hw]
    refine .inl ?_
    unfold Oper.wp
    have hgo : wpAny P .any ops Q fuel (L.setIfInBounds i true) (a.put o.dst v) w' := by
      refine wpAny_of_inv hlex hK hend fuel _ _ _ hI' (by simpa using hs) ?_
      have hl : i < L.toList.length := by simpa using hi2
      rw [Array.toList_setIfInBounds, List.count_set hl]
      have hp : 0 < L.toList.count false := List.count_pos_iff.2 (by rw [← hv]; simp)
      have e1 : (L.toList[i] == false) = true := by simpa using hv
      have e2 : ((true : Bool) == false) = false := rfl
      rw [e1, e2, if_pos rfl, if_neg (by simp)]
      omega
    rcases hr with hr | ⟨hr, rfl⟩
    · rw [hr]
      exact hgo
    · rw [hr]
      exact hgo

theorem wp_region_inv {id : Nat} {a : Act} {w : World} {l : List Oper} (I : Array Bool → Act → World → Prop) (hm : P.follows .mixedOrders = true)
    (hlex : ∀ i o, l.toArray[i]? = some o → ∀ e ∈ o.after, Region.binds .any e = true → e.on < i) (hK : Keeps P l.toArray I)
    (h0 : I (Array.replicate l.length false) a w.drew) (hend : ∀ L a w, I L a w → (∀ i, i < l.length → L.getD i false = true) → Q .normal a w) : (Code.region id l.toArray true).wp P Q a w :=
  wp_region_any hm (wpAny_of_inv hlex hK (fun L a w hI h => hend L a w hI (by simpa using h)) _ _ _ _ (by simpa using h0) (by simp) (by simp))
end

section
variable {P : Program} {Q : Exit → Act → World → Prop}
/-- n copies of one value, each in a block of its own. -/
structure Copies (n : Nat) (T : TypeId) (cs zero : Array Value) (w0 : World) (V : Value) (f : Nat → Value) (L : Nat → Bool) (w : World) : Prop where
  loads : ∀ i, i < n → L i = true → f i = V
  cells : ∀ i, i < n → L (n + i) = true → ∃ b, f (n + i) = .pointer (some ⟨b, 0, none⟩) ∧ w0.heap.size ≤ b ∧ Blk w b T (if L (2 * n + i) then cs else zero)
  apart : ∀ i j, i < n → j < n → i ≠ j → L (n + i) = true → L (n + j) = true → f (n + i) ≠ f (n + j)
  closed : ∀ i, i < n → L (2 * n + i) = true → L i = true ∧ L (n + i) = true
  only : Only [] w0 w

/-- The law: loads first in the text, then memory, then stores; all in whatever order is left open. -/
theorem wp_copies {id : Nat} {a : Act} {w : World} {l : List Oper} (n : Nat) (T : TypeId) (p : Nat) (V : Value) (cs zero : Array Value) (mk : (Nat → Value) → Act) (u : Nat → Value)
    (hm : P.follows .mixedOrders = true) (hlen : l.length = 3 * n)
    (hlex : ∀ i o, l.toArray[i]? = some o → ∀ e ∈ o.after, Region.binds .any e = true → e.on < i)
    (ha : a = mk u) (hp : Blk w p T cs)
    (hwant : ∀ o ∈ l, o.guard = none)
    (hput : ∀ i o, i < 2 * n → l[i]? = some o → ∀ f v, (mk f).put o.dst v = mk (fun j => if j = i then v else f j))
    (hput3 : ∀ i o, i < n → l[2 * n + i]? = some o → o.dst = none)
    (hd1 : ∀ i o, i < n → l[2 * n + i]? = some o → (∃ e ∈ o.after, Region.binds .any e = true ∧ e.on = i) ∧ (∃ e ∈ o.after, Region.binds .any e = true ∧ e.on = n + i))
    (hload : ∀ i o, i < n → l[i]? = some o → ∀ f w', Blk w' p T cs → (execOp (mk f).eval o).run P w' = .ok (.value V) w')
    (halloc : ∀ i o, i < n → l[n + i]? = some o → ∀ f w', (execOp (mk f).eval o).run P w' = .ok (.value (.pointer (some ⟨w'.heap.size, 0, none⟩))) (w'.alloc (.cells zero T)))
    (hstore : ∀ i o, i < n → l[2 * n + i]? = some o → ∀ f b w', f i = V → f (n + i) = .pointer (some ⟨b, 0, none⟩) → Blk w' b T zero →
      ∃ w'', (execOp (mk f).eval o).run P w' = .ok .skip w'' ∧ Blk w'' b T cs ∧ Only [b] w' w'')
    (hend : ∀ f w', Copies n T cs zero w V f (fun _ => true) w' → Q .normal (mk f) w') : (Code.region id l.toArray true).wp P Q a w := by
  have hplt := hp.lt
  refine wp_region_inv (fun L a w' => ∃ f, a = mk f ∧ Copies n T cs zero w V f (fun i => L.getD i false) w') hm hlex ?_ ⟨u, ha, ?_⟩ ?_
  · rintro i o L a w' ho hun hs hdep ⟨f, rfl, hC⟩
    rw [List.getElem?_toArray] at ho
    have hi : i < l.length := by
      rcases Nat.lt_or_ge i l.length with h | h
      · exact h
      · rw [List.getElem?_eq_none h] at ho; cases ho
    have hs' : L.size = l.length := by simpa using hs
    have hset : ∀ j, (L.setIfInBounds i true).getD j false = if j = i then true else L.getD j false := by
      intro j
      simp only [Array.getD_eq_getD_getElem?, Array.getElem?_setIfInBounds]
      by_cases hij : i = j
      · subst hij; simp [hs', hi]
      · rw [if_neg hij, if_neg (Ne.symm hij)]
    have hfalse : L.getD i false = false := by
      have h2 : i < L.size := by omega
      simpa [Array.getD_eq_getD_getElem?, Array.getElem?_eq_getElem h2] using hun
    refine ⟨by unfold Region.wanted; rw [hwant o (List.mem_of_getElem? ho)], ?_⟩
    by_cases h1 : i < n
    · refine ⟨V, w', .inl (hload i o h1 ho f w' (hC.only.blk hp (by simp))), _, hput i o (by omega) ho f V, ?_⟩
      refine ⟨?_, ?_, ?_, ?_, hC.only⟩
      · intro j hj hL
        by_cases hji : j = i
        · simp [hji]
        · simp only [hset, if_neg hji] at hL ⊢
          exact hC.loads j hj hL
      · intro j hj hL
        simp only [hset, if_neg (show ¬ n + j = i by omega), if_neg (show ¬ 2 * n + j = i by omega)] at hL ⊢
        exact hC.cells j hj hL
      · intro j k hj hk hjk hL1 hL2
        simp only [hset, if_neg (show ¬ n + j = i by omega), if_neg (show ¬ n + k = i by omega)] at hL1 hL2 ⊢
        exact hC.apart j k hj hk hjk hL1 hL2
      · intro j hj hL
        simp only [hset, if_neg (show ¬ n + j = i by omega), if_neg (show ¬ 2 * n + j = i by omega)] at hL ⊢
        have h3 := hC.closed j hj hL
        refine ⟨?_, h3.2⟩
        split
        · rfl
        · exact h3.1
    by_cases h2 : i < 2 * n
    · obtain ⟨k, rfl⟩ : ∃ k, i = n + k := ⟨i - n, by omega⟩
      refine ⟨_, _, .inl (halloc k o (by omega) ho f w'), _, hput _ o h2 ho f _, ?_⟩
      refine ⟨?_, ?_, ?_, ?_, hC.only.alloc _⟩
      · intro j hj hL
        simp only [hset, if_neg (show ¬ j = n + k by omega)] at hL ⊢
        exact hC.loads j hj hL
      · intro j hj hL
        by_cases hjk : j = k
        · subst hjk
          refine ⟨w'.heap.size, by simp, hC.only.size, ?_⟩
          have h3 : L.getD (2 * n + j) false = false := by
            cases hv : L.getD (2 * n + j) false with
            | false => rfl
            | true =>
              have := (hC.closed j hj hv).2
              rw [hfalse] at this
              cases this
          simp only [hset, if_neg (show ¬ 2 * n + j = n + j by omega), h3]
          exact Blk.new' rfl rfl
        · simp only [hset, if_neg (show ¬ n + j = n + k by omega), if_neg (show ¬ 2 * n + j = n + k by omega)] at hL ⊢
          obtain ⟨b, hb1, hb2, hb3⟩ := hC.cells j hj hL
          exact ⟨b, hb1, hb2, hb3.alloc _⟩
      · intro j m hj hm hjm hL1 hL2
        have hold : ∀ q, q < n → L.getD (n + q) false = true → f (n + q) ≠ .pointer (some ⟨w'.heap.size, 0, none⟩) := by
          intro q hq hL hf
          obtain ⟨b, hb1, hb2, hb3⟩ := hC.cells q hq hL
          rw [hf] at hb1
          injection hb1 with hb1
          injection hb1 with hb1
          injection hb1 with hb1
          have := hb3.lt
          omega
        by_cases hjk : j = k
        · subst hjk
          simp only [hset, if_neg (show ¬ n + m = n + j by omega)] at hL2 ⊢
          simp only [if_true]
          exact (hold m hm hL2).symm
        · simp only [hset, if_neg (show ¬ n + j = n + k by omega)] at hL1 ⊢
          by_cases hmk : m = k
          · subst hmk
            simp only [if_true]
            exact hold j hj hL1
          · simp only [hset, if_neg (show ¬ n + m = n + k by omega)] at hL2 ⊢
            exact hC.apart j m hj hm hjm hL1 hL2
      · intro j hj hL
        simp only [hset, if_neg (show ¬ 2 * n + j = n + k by omega), if_neg (show ¬ j = n + k by omega)] at hL ⊢
        have h3 := hC.closed j hj hL
        refine ⟨h3.1, ?_⟩
        split
        · rfl
        · exact h3.2
    · obtain ⟨k, rfl⟩ : ∃ k, i = 2 * n + k := ⟨i - 2 * n, by omega⟩
      have hk : k < n := by omega
      obtain ⟨⟨e1, he1, hb1, ho1⟩, ⟨e2, he2, hb2, ho2⟩⟩ := hd1 k o hk ho
      have hL1 : L.getD k false = true := by have := hdep e1 he1 hb1; rwa [ho1] at this
      have hL2 : L.getD (n + k) false = true := by have := hdep e2 he2 hb2; rwa [ho2] at this
      obtain ⟨b, hfb, hbl, hbB⟩ := hC.cells k hk hL2
      rw [hfalse] at hbB
      simp only [Bool.false_eq_true, if_false] at hbB
      obtain ⟨w'', hr, hB, hO⟩ := hstore k o hk ho f b w' (hC.loads k hk hL1) hfb hbB
      have hO2 : Only [] w w'' := hC.only.trans' hO (by intro x hx; simp only [List.mem_cons, List.not_mem_nil, or_false] at hx; intro h; omega)
      refine ⟨undef, w'', .inr ⟨hr, rfl⟩, f, by rw [hput3 k o hk ho]; rfl, ?_⟩
      refine ⟨?_, ?_, ?_, ?_, hO2⟩
      · intro j hj hL
        simp only [hset, if_neg (show ¬ j = 2 * n + k by omega)] at hL
        exact hC.loads j hj hL
      · intro j hj hL
        simp only [hset, if_neg (show ¬ n + j = 2 * n + k by omega)] at hL ⊢
        by_cases hjk : j = k
        · subst hjk
          simp only [if_true]
          exact ⟨b, hfb, hbl, hB⟩
        · obtain ⟨b', hf', hl', hB'⟩ := hC.cells j hj hL
          simp only [if_neg (show ¬ 2 * n + j = 2 * n + k by omega)]
          refine ⟨b', hf', hl', hO.blk hB' ?_⟩
          intro hm
          simp only [List.mem_cons, List.not_mem_nil, or_false] at hm
          subst hm
          exact hC.apart j k hj hk hjk hL hL2 (by rw [hf', hfb])
      · intro j m hj hm hjm hL1 hL2
        simp only [hset, if_neg (show ¬ n + j = 2 * n + k by omega), if_neg (show ¬ n + m = 2 * n + k by omega)] at hL1 hL2
        exact hC.apart j m hj hm hjm hL1 hL2
      · intro j hj hL
        simp only [hset, if_neg (show ¬ n + j = 2 * n + k by omega), if_neg (show ¬ j = 2 * n + k by omega)] at hL ⊢
        by_cases hjk : j = k
        · subst hjk
          exact ⟨hL1, hL2⟩
        · rw [if_neg (by omega)] at hL
          exact hC.closed j hj hL
  · refine ⟨?_, ?_, ?_, ?_, (Only.refl [] w).drew⟩
    all_goals
      intros
      rename_i hL
      simp only [Array.getD_eq_getD_getElem?, Array.getElem?_replicate] at hL
      split at hL <;> simp at hL
  · rintro L a w' ⟨f, rfl, hC⟩ hall
    refine hend f w' ⟨fun i hi _ => hC.loads i hi (hall i (by omega)), fun i hi _ => ?_, fun i j hi hj hij _ _ => hC.apart i j hi hj hij (hall _ (by omega)) (hall _ (by omega)), fun _ _ _ => ⟨rfl, rfl⟩, hC.only⟩
    obtain ⟨b, h1, h2, h3⟩ := hC.cells i hi (hall _ (by omega))
    rw [hall _ (by omega)] at h3
    exact ⟨b, h1, h2, h3⟩

/-- A frame in which the operations' slots hold what a function says. -/
def mkF : Act → List Oper → Nat → (Nat → Value) → Act
  | a, [], _, _ => a
  | a, o :: r, k, f => mkF (a.put o.dst (f k)) r (k + 1) f

/-- Does every operation wait for earlier ones alone? -/
def lexOk (l : List Oper) : Bool := (List.range l.length).all fun i => match l[i]? with
  | none => true
  | some o => o.after.all fun e => !Region.binds .any e || decide (e.on < i)
theorem lex_of {l : List Oper} (h : lexOk l = true) : ∀ i o, l.toArray[i]? = some o → ∀ e ∈ o.after, Region.binds .any e = true → e.on < i := by
  intro i o ho e he hb
  rw [List.getElem?_toArray] at ho
  have hi : i < l.length := by
    rcases Nat.lt_or_ge i l.length with h' | h'
    · exact h'
    · rw [List.getElem?_eq_none h'] at ho; cases ho
  have h1 := List.all_eq_true.1 h i (List.mem_range.2 hi)
  rw [ho] at h1
  simp only [Array.all_eq_true] at h1
  obtain ⟨k, hk, rfl⟩ := Array.mem_iff_getElem.1 he
  have h2 := h1 k hk
  rw [hb] at h2
  simpa using h2

theorem Copies.four {T : TypeId} {cs zero : Array Value} {w w' : World} {V : Value} {f : Nat → Value} (h : Copies 4 T cs zero w V f (fun _ => true) w') :
    ∃ b0 b1 b2 b3 : Nat, (f 0 = V ∧ f 1 = V ∧ f 2 = V ∧ f 3 = V) ∧ (f 4 = .pointer (some ⟨b0, 0, none⟩) ∧ f 5 = .pointer (some ⟨b1, 0, none⟩) ∧ f 6 = .pointer (some ⟨b2, 0, none⟩) ∧ f 7 = .pointer (some ⟨b3, 0, none⟩)) ∧
      (Blk w' b0 T cs ∧ Blk w' b1 T cs ∧ Blk w' b2 T cs ∧ Blk w' b3 T cs) ∧ (b0 ≠ b1 ∧ b0 ≠ b2 ∧ b0 ≠ b3 ∧ b1 ≠ b2 ∧ b1 ≠ b3 ∧ b2 ≠ b3) ∧ (w.heap.size ≤ b0 ∧ w.heap.size ≤ b1 ∧ w.heap.size ≤ b2 ∧ w.heap.size ≤ b3) ∧ Only [] w w' := by
  obtain ⟨b0, e0, l0, B0⟩ := h.cells 0 (by omega) rfl
  obtain ⟨b1, e1, l1, B1⟩ := h.cells 1 (by omega) rfl
  obtain ⟨b2, e2, l2, B2⟩ := h.cells 2 (by omega) rfl
  obtain ⟨b3, e3, l3, B3⟩ := h.cells 3 (by omega) rfl
  have hne : ∀ i j bi bj, i < 4 → j < 4 → i ≠ j → f (4 + i) = .pointer (some ⟨bi, 0, none⟩) → f (4 + j) = .pointer (some ⟨bj, 0, none⟩) → bi ≠ bj := by
    rintro i j bi bj hi hj hij h1 h2 rfl
    exact h.apart i j hi hj hij rfl rfl (by rw [h1, h2])
  exact ⟨b0, b1, b2, b3, ⟨h.loads 0 (by omega) rfl, h.loads 1 (by omega) rfl, h.loads 2 (by omega) rfl, h.loads 3 (by omega) rfl⟩, ⟨e0, e1, e2, e3⟩, ⟨B0, B1, B2, B3⟩,
    ⟨hne 0 1 _ _ (by omega) (by omega) (by omega) e0 e1, hne 0 2 _ _ (by omega) (by omega) (by omega) e0 e2, hne 0 3 _ _ (by omega) (by omega) (by omega) e0 e3, hne 1 2 _ _ (by omega) (by omega) (by omega) e1 e2, hne 1 3 _ _ (by omega) (by omega) (by omega) e1 e3, hne 2 3 _ _ (by omega) (by omega) (by omega) e2 e3⟩,
    ⟨l0, l1, l2, l3⟩, h.only⟩

/-- The same, the frame read off the operations. -/
theorem wp_copiesF {id : Nat} {a : Act} {w : World} {l : List Oper} (n : Nat) (T : TypeId) (p : Nat) (V : Value) (cs zero : Array Value)
    (hm : P.follows .mixedOrders = true) (hlen : l.length = 3 * n) (hlex : lexOk l = true)
    (ha : a = mkF a (l.take (2 * n)) 0 fun _ => undef) (hp : Blk w p T cs)
    (hwant : ∀ o ∈ l, o.guard = none)
    (hput : ∀ i o, i < 2 * n → l[i]? = some o → ∀ f v, (mkF a (l.take (2 * n)) 0 f).put o.dst v = mkF a (l.take (2 * n)) 0 (fun j => if j = i then v else f j))
    (hput3 : ∀ i o, i < n → l[2 * n + i]? = some o → o.dst = none)
    (hd1 : ∀ i o, i < n → l[2 * n + i]? = some o → (∃ e ∈ o.after, Region.binds .any e = true ∧ e.on = i) ∧ (∃ e ∈ o.after, Region.binds .any e = true ∧ e.on = n + i))
    (hload : ∀ i o, i < n → l[i]? = some o → ∀ f w', Blk w' p T cs → (execOp (mkF a (l.take (2 * n)) 0 f).eval o).run P w' = .ok (.value V) w')
    (halloc : ∀ i o, i < n → l[n + i]? = some o → ∀ f w', (execOp (mkF a (l.take (2 * n)) 0 f).eval o).run P w' = .ok (.value (.pointer (some ⟨w'.heap.size, 0, none⟩))) (w'.alloc (.cells zero T)))
    (hstore : ∀ i o, i < n → l[2 * n + i]? = some o → ∀ f b w', f i = V → f (n + i) = .pointer (some ⟨b, 0, none⟩) → Blk w' b T zero →
      ∃ w'', (execOp (mkF a (l.take (2 * n)) 0 f).eval o).run P w' = .ok .skip w'' ∧ Blk w'' b T cs ∧ Only [b] w' w'')
    (hend : ∀ f w', Copies n T cs zero w V f (fun _ => true) w' → Q .normal (mkF a (l.take (2 * n)) 0 f) w') : (Code.region id l.toArray true).wp P Q a w :=
  wp_copies n T p V cs zero (fun f => mkF a (l.take (2 * n)) 0 f) (fun _ => undef) hm hlen (lex_of hlex) ha hp hwant hput hput3 hd1 hload halloc hstore hend
end
end Go.Proofs.YtagmoehjcgjnjaaGreatDoor
