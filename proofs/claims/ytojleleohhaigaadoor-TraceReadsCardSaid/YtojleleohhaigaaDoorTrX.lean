/- Read of package trace, walked. Conditions: the listed variables are laid; the text is short. -/
import Derived.Test.YtojleleohhaigaaDoorTrU
import Derived.Test.YtojleleohhaigaaDoorTrV
import Derived.Test.YtojleleohhaigaaDoorTrL2
import Derived.Shelf.RegionOpen
namespace Go.Proofs.YtojleleohhaigaaDoor
open Go Go.RowKit
attribute [local go_sem] Oper.semAt_some

/-- The words of a line. -/
def lineW (x : List UInt8) : List (List UInt8) := wordsOf (Lib.trimSuffix x [10])
/-- The events that a text says. -/
def evsOf (s : List UInt8) : List Ev := (linesP s).map fun x => evOf (lineW x)

theorem cutN_len (s : List UInt8) : (cutN s).1.length ≤ s.length := by
  induction s with
  | nil => simp [cutN]
  | cons c r ih =>
    unfold cutN
    split
    · simp
    · simp only [List.length_cons]; omega
theorem linesP_short : ∀ (n : Nat) (s : List UInt8), s.length ≤ n → (linesP s).length ≤ s.length ∧ ∀ x ∈ linesP s, x.length ≤ s.length
  | 0, s, h => by
    obtain rfl : s = [] := List.eq_nil_of_length_eq_zero (by omega)
    rw [linesP_nil]
    simp
  | n + 1, s, h => by
    by_cases hs : s = []
    · subst hs
      rw [linesP_nil]
      simp
    · rw [linesP_cons hs]
      have hlt : (cutN s).2.length < s.length := by
        cases s with
        | nil => exact absurd rfl hs
        | cons c r => exact cutN_lt
      have ih := linesP_short n (cutN s).2 (by omega)
      have h1 := cutN_len s
      refine ⟨by simp only [List.length_cons]; omega, fun x hx => ?_⟩
      rcases List.mem_cons.1 hx with rfl | hx
      · exact h1
      · have := ih.2 x hx; omega
theorem trim_len (x : List UInt8) : (Lib.trimSuffix x [10]).length ≤ x.length := by
  unfold Lib.trimSuffix
  split
  · simp
  · exact Nat.le_refl _
theorem lineW_short {x : List UInt8} (h : x.length ≤ 900000) : (lineW x).length ≤ 1000000 ∧ ∀ l ∈ lineW x, l.length ≤ 1000000 := by
  unfold lineW
  have h0 := trim_len x
  rw [wordsOf_eq]
  have h1 := splitK_short ((Lib.trimSuffix x [10]).count 32) (Lib.trimSuffix x [10])
  have h2 := List.count_le_length (a := (32 : UInt8)) (l := Lib.trimSuffix x [10])
  exact ⟨by omega, fun l hl => by have := h1.2 l hl; omega⟩
theorem evOf_fits (ws : List (List UInt8)) : (evOf ws).Fits := by
  unfold evOf
  split
  · have := numW_lt 16 ws.tail.tail
    exact ⟨by simp, by simp only; omega⟩
  · exact ⟨by simp, by simp⟩
theorem evsOf_fits (s : List UInt8) : ∀ x ∈ evsOf s, x.Fits := by
  intro x hx
  obtain ⟨y, -, rfl⟩ := List.mem_map.1 hx
  exact evOf_fits _

/-- What turns cells alone keeps all else. -/
theorem keeps_of_only {S : List Nat} {W W' : World} (hO : Only S W W') (hS : ∀ x ∈ S, ∀ o, W.heap[x]? = some o → o.isCells = true) : KeepsOthers W W' :=
  ⟨hO.size, fun k o hk hc => by
    have hlt := (Array.getElem?_eq_some_iff.1 hk).1
    rw [hO.block k hlt (fun hm => by have := hS k hm o hk; rw [this] at hc; cases hc)]
    exact hk⟩
theorem only_put {w0 W : World} {r : Nat} {o' : Obj} (hO : Only [] w0 W) (hr : w0.heap.size ≤ r) : Only [] w0 (W.putObj r o') :=
  ⟨hO.os, hO.tape, hO.output, by simpa using hO.size, fun k hk hn => (World.putObj_heap_other (by omega)).trans (hO.block k hk hn)⟩

/-- Between two rounds: what has been read. -/
def ReadI (w0 : World) (B : Nat) (pre : List (List UInt8)) (W : World) : Prop :=
  ∃ v, Blk W w0.heap.size 24 #[v] ∧ W.ownsRow w0.heap.size 44 5 v pre.length (flat (pre.map fun x => evOf (lineW x))) ∧ Only [] w0 W ∧ ∃ u, Blk W B 9 #[u]
theorem ReadI.row_ne {W : World} {base n g : Nat} {v : Value} {xs : List Value} {t : TypeId} {cs : Array Value} (h : W.ownsRow base 44 5 v n xs) (hb : Blk W g t cs) (ht : t ≠ 44) : ∀ r, v.ownBlock = some r → r ≠ g := by
  rintro r hr rfl
  rcases h.2 with ⟨rfl, -⟩ | ⟨g', cap, cur, rfl, hbb, hg, -⟩
  · simp [Value.ownBlock] at hr
  · simp [Value.ownBlock] at hr
    subst hr
    exact Blk.ne_ hb hg ht rfl
theorem readI_only {w0 : World} {B : Nat} {pre : List (List UInt8)} {S : List Nat} {W W' : World} (h : ReadI w0 B pre W) (hO : Only S W W') (hS : ∀ x ∈ S, W.heap.size ≤ x) : ReadI w0 B pre W' := by
  obtain ⟨v, hb, hr, ho, u, hu⟩ := h
  have ns : ∀ g, g < W.heap.size → g ∉ S := fun g hg hm => by have := hS g hm; omega
  refine ⟨v, hO.blk hb (ns _ hb.lt), own_only hr hO ?_, ho.trans' hO (fun x hx hlt => by have := hS x hx; have := ho.size; omega), u, hO.blk hu (ns _ hu.lt)⟩
  intro g hg
  rcases hr.2 with ⟨rfl, -⟩ | ⟨g', cap, cur, rfl, -, hgg, -⟩
  · simp [Value.ownBlock] at hg
  · simp [Value.ownBlock] at hg
    subst hg
    exact ns _ (Blk.lt hgg)
end Go.Proofs.YtojleleohhaigaaDoor
