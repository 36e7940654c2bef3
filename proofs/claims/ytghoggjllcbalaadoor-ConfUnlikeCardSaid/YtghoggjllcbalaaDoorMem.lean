/- Words for memory: a block known whole, worlds that differ in some blocks alone. No condition. -/
import Derived.WalkKit
import Derived.Deep.Draws
import Derived.Laws.Rows
namespace Go.Proofs.YtghoggjllcbalaaDoor
open Go Go.RowKit

/-- Block g is just these cells, none frozen. -/
def Blk (w : World) (g : Nat) (t : TypeId) (cs : Array Value) : Prop := w.heap[g]? = some (.cells cs t (0, 0))

section
variable {w w' : World} {g : Nat} {t : TypeId} {cs : Array Value}
theorem Blk.lt (h : Blk w g t cs) : g < w.heap.size := by
  rcases Nat.lt_or_ge g w.heap.size with hlt | hge
  · exact hlt
  · unfold Blk at h; rw [Array.getElem?_eq_none hge] at h; cases h
theorem Blk.cell (h : Blk w g t cs) (i : Nat) : w.cell? ⟨g, i, none⟩ = cs[i]? := cell_of_row w g i cs t (0, 0) h
theorem Blk.frozen (h : Blk w g t cs) (i : Nat) : w.frozen? ⟨g, i, none⟩ = false := by
  unfold Blk at h
  simp [World.frozen?, h]
theorem Blk.new (w : World) (t : TypeId) (cs : Array Value) : Blk (w.alloc (.cells cs t)) w.heap.size t cs := heap_alloc_new w _
theorem Blk.new' {n : Nat} {t : TypeId} {cs : Array Value} {fr : Nat × Nat} (hf : fr = (0, 0)) (h : n = w.heap.size) : Blk (w.alloc (.cells cs t fr)) n t cs := by subst hf; subst h; exact Blk.new w t cs
theorem Blk.drew (h : Blk w g t cs) : Blk w.drew g t cs := h
theorem Blk.drewN (h : Blk w g t cs) (n : Nat) : Blk (w.drewN n) g t cs := h
theorem Blk.alloc (h : Blk w g t cs) (o : Obj) : Blk (w.alloc o) g t cs := (Below.heap_alloc w o g h.lt).trans h
theorem Blk.set_ (h : Blk w g t cs) (i : Nat) (u : Value) : Blk (w.setCell ⟨g, i, none⟩ u) g t (cs.setIfInBounds i u) := by
  unfold Blk at h ⊢
  simp [World.setCell, Array.getElem?_modify, h]
theorem Blk.far (h : Blk w g t cs) {p : Addr} (hp : g ≠ p.block) (u : Value) : Blk (w.setCell p u) g t cs := (Below.heap_setCell w p u g hp).trans h
theorem Blk.ne_ {g' : Nat} {t' : TypeId} {cs' : Array Value} (h : Blk w g t cs) (h' : Blk w g' t' cs') (hne : t ≠ t') : g ≠ g' := by
  rintro rfl
  unfold Blk at h h'
  rw [h] at h'
  injection h' with h'
  injection h' with _ ht
  exact hne ht
end

/-- Of what was there in w, the blocks of S alone may have turned in w'; new blocks may lie behind. -/
structure Only (S : List Nat) (w w' : World) : Prop where
  os : w'.os = w.os
  tape : w'.tape = w.tape
  output : w'.output = w.output
  size : w.heap.size ≤ w'.heap.size
  block : ∀ k, k < w.heap.size → k ∉ S → w'.heap[k]? = w.heap[k]?

section
variable {S : List Nat} {a w w' w'' : World}
theorem Only.refl (S : List Nat) (w : World) : Only S w w := ⟨rfl, rfl, rfl, Nat.le_refl _, fun _ _ _ => rfl⟩
theorem Only.trans (h : Only S a w) (k : Only S w w') : Only S a w' :=
  ⟨k.os.trans h.os, k.tape.trans h.tape, k.output.trans h.output, Nat.le_trans h.size k.size, fun i hi hn => (k.block i (Nat.lt_of_lt_of_le hi h.size) hn).trans (h.block i hi hn)⟩
/-- The second step may turn, besides, blocks that the first world had not. -/
theorem Only.trans' {S' : List Nat} (h : Only S a w) (k : Only S' w w') (hs : ∀ x, x ∈ S' → x < a.heap.size → x ∈ S) : Only S a w' :=
  ⟨k.os.trans h.os, k.tape.trans h.tape, k.output.trans h.output, Nat.le_trans h.size k.size, fun i hi hn => (k.block i (Nat.lt_of_lt_of_le hi h.size) fun hm => hn (hs i hm hi)).trans (h.block i hi hn)⟩
theorem Only.mono {S' : List Nat} (h : Only S w w') (hs : ∀ x, x ∈ S → x < w.heap.size → x ∈ S') : Only S' w w' :=
  ⟨h.os, h.tape, h.output, h.size, fun i hi hn => h.block i hi fun hm => hn (hs i hm hi)⟩
theorem Only.drew (h : Only S a w) : Only S a w.drew := ⟨h.os, h.tape, h.output, h.size, h.block⟩
theorem Only.drewN (h : Only S a w) (n : Nat) : Only S a (w.drewN n) := ⟨h.os, h.tape, h.output, h.size, h.block⟩
theorem Only.alloc (h : Only S a w) (o : Obj) : Only S a (w.alloc o) :=
  h.trans ⟨rfl, rfl, rfl, by simp, fun k hk _ => Below.heap_alloc _ _ _ hk⟩
theorem Only.setCell (h : Only S a w) {p : Addr} (hp : p.block ∈ S ∨ a.heap.size ≤ p.block) (u : Value) : Only S a (w.setCell p u) :=
  ⟨h.os, h.tape, h.output, by simpa [World.setCell] using h.size, fun k hk hn => by
    rw [Below.heap_setCell _ _ _ _ (by rintro rfl; rcases hp with h1 | h1; exact hn h1; omega)]; exact h.block k hk hn⟩
theorem Only.set1 (h : Only S a w) {b : Nat} (hb : b ∈ S) (i : Nat) (u : Value) : Only S a (w.setCell ⟨b, i, none⟩ u) := h.setCell (.inl hb) u
theorem Only.below (h : Only [] w w') : Below w.heap.size w w' := ⟨h.os, h.tape, h.output, h.size, fun k hk => h.block k hk (by simp)⟩
theorem Only.of_below (h : Below w.heap.size w w') : Only S w w' := ⟨h.os, h.tape, h.output, h.size, fun k hk _ => h.block k hk⟩
theorem Only.blk {g : Nat} {t : TypeId} {cs : Array Value} (h : Only S w w') (hb : Blk w g t cs) (hg : g ∉ S) : Blk w' g t cs :=
  (h.block g hb.lt hg).trans hb
/-- An old cell reads as it did. -/
theorem Only.cell (h : Only S w w') {p : Addr} (hp : p.block < w.heap.size) (hg : p.block ∉ S) : w'.cell? p = w.cell? p := World.cell?_of_block (w := w) (h.block p.block hp hg)
theorem Only.frozen (h : Only S w w') {p : Addr} (hp : p.block < w.heap.size) (hg : p.block ∉ S) : w'.frozen? p = w.frozen? p := World.frozen?_of_block (w := w) (h.block p.block hp hg)
end

/-- Of the blocks below B, those of S alone may have turned. -/
structure OnlyB (B : Nat) (S : List Nat) (w w' : World) : Prop where
  os : w'.os = w.os
  tape : w'.tape = w.tape
  output : w'.output = w.output
  size : w.heap.size ≤ w'.heap.size
  block : ∀ k, k < B → k ∉ S → w'.heap[k]? = w.heap[k]?

section
variable {B : Nat} {S : List Nat} {a w w' w'' : World}
theorem OnlyB.refl (B : Nat) (S : List Nat) (w : World) : OnlyB B S w w := ⟨rfl, rfl, rfl, Nat.le_refl _, fun _ _ _ => rfl⟩
theorem OnlyB.drew (h : OnlyB B S a w) : OnlyB B S a w.drew := ⟨h.os, h.tape, h.output, h.size, h.block⟩
theorem OnlyB.drewN (h : OnlyB B S a w) (n : Nat) : OnlyB B S a (w.drewN n) := ⟨h.os, h.tape, h.output, h.size, h.block⟩
theorem OnlyB.alloc (h : OnlyB B S a w) (hB : B ≤ w.heap.size) (o : Obj) : OnlyB B S a (w.alloc o) :=
  ⟨h.os, h.tape, h.output, by have := h.size; simp; omega, fun k hk hn => (Below.heap_alloc _ _ _ (by omega)).trans (h.block k hk hn)⟩
theorem OnlyB.setCell (h : OnlyB B S a w) {p : Addr} (hp : p.block ∈ S ∨ B ≤ p.block) (u : Value) : OnlyB B S a (w.setCell p u) :=
  ⟨h.os, h.tape, h.output, by simpa [World.setCell] using h.size, fun k hk hn => by
    rw [Below.heap_setCell _ _ _ _ (by rintro rfl; rcases hp with h1 | h1; exact hn h1; omega)]; exact h.block k hk hn⟩
theorem OnlyB.set1 (h : OnlyB B S a w) {b : Nat} (hb : b ∈ S ∨ B ≤ b) (i : Nat) (u : Value) : OnlyB B S a (w.setCell ⟨b, i, none⟩ u) := h.setCell hb u
theorem OnlyB.trans (h : OnlyB B S a w) (k : OnlyB B S w w') : OnlyB B S a w' :=
  ⟨k.os.trans h.os, k.tape.trans h.tape, k.output.trans h.output, Nat.le_trans h.size k.size, fun i hi hn => (k.block i hi hn).trans (h.block i hi hn)⟩
theorem OnlyB.mono {B' : Nat} {S' : List Nat} (h : OnlyB B S w w') (hB : B' ≤ B) (hs : ∀ x, x ∈ S → x < B' → x ∈ S') : OnlyB B' S' w w' :=
  ⟨h.os, h.tape, h.output, h.size, fun k hk hn => h.block k (by omega) fun hm => hn (hs k hm hk)⟩
theorem Only.b (h : Only S w w') (hB : B ≤ w.heap.size) : OnlyB B S w w' := ⟨h.os, h.tape, h.output, h.size, fun k hk hn => h.block k (by omega) hn⟩
theorem OnlyB.o (h : OnlyB w.heap.size S w w') : Only S w w' := ⟨h.os, h.tape, h.output, h.size, h.block⟩
theorem Only.thenB (h : Only S a w) (k : OnlyB a.heap.size S w w') : Only S a w' :=
  ((h.b (Nat.le_refl _)).trans k).o
theorem OnlyB.blk {g : Nat} {t : TypeId} {cs : Array Value} (h : OnlyB B S w w') (hb : Blk w g t cs) (hB : g < B) (hg : g ∉ S) : Blk w' g t cs :=
  (h.block g hB hg).trans hb
end
end Go.Proofs.YtghoggjllcbalaaDoor
