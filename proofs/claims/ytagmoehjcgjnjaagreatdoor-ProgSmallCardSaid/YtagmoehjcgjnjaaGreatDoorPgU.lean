/- 'append(append([]T{}, l...), x)' for instructions, its steps in any order. Conditions: the lists are short. -/
import Derived.Test.YtagmoehjcgjnjaaGreatDoorPgE
namespace Go.Proofs.YtagmoehjcgjnjaaGreatDoor
open Go Go.RowKit

theorem run_bs0 (w : World) : (Instr.buildSlice 22 0 #[]).run Tryz.prog w = .ok (.slice (some ⟨w.heap.size, 0, none⟩) 0 0) (w.alloc (.cells #[] 33)) := by kernel_rfl
theorem run_bs1 (x : In) (w : World) : (Instr.buildSlice 22 1 #[(0, x.agg)]).run Tryz.prog w = .ok (.slice (some ⟨w.heap.size, 0, none⟩) 1 1) (w.alloc (.cells x.cs 33)) := by kernel_rfl
theorem run_ap0 (w : World) (g : Nat) (c : Nat) : (Builtin.append_ #[22, 22] 22 #[.slice (some ⟨g, 0, none⟩) 0 0, .slice none 0 c]).run Tryz.prog w = .ok (.slice (some ⟨g, 0, none⟩) 0 0) w := by kernel_rfl
theorem one_cells {l : List In} : ∀ u ∈ flatI l, u.oneCell' = true := by
  intro u hu
  unfold flatI at hu
  obtain ⟨x, -, hx⟩ := List.mem_flatMap.1 hu
  simp only [List.mem_cons, List.not_mem_nil, or_false] at hx
  rcases hx with rfl | rfl | rfl | rfl | rfl | rfl | rfl | rfl | rfl | rfl | rfl | rfl | rfl | rfl | rfl | rfl | rfl | rfl <;> rfl
/-- A slice's cells, in a row. -/
theorem flatI_row {w : World} {b off : Nat} : ∀ (l : List In) (o : Nat), (∀ (j : Nat) x, l[j]? = some x → w.rangeAt b (off + (o + j) * 18) x.cs.toList) → ∀ (j : Nat) u, (flatI l)[j]? = some u → w.cell? ⟨b, off + o * 18 + j, none⟩ = some u
  | [], _, _, j, u, h => by simp [flatI] at h
  | x :: r, o, hE, j, u, h => by
    have e : flatI (x :: r) = x.cs.toList ++ flatI r := rfl
    rw [e] at h
    rcases Nat.lt_or_ge j 18 with hj | hj
    · rw [List.getElem?_append_left (by simpa using hj)] at h
      have := hE 0 x rfl j u h
      rwa [Nat.add_zero] at this
    · rw [List.getElem?_append_right (by simpa using hj)] at h
      have h2 : (flatI r)[j - 18]? = some u := h
      have := flatI_row r (o + 1) (fun k y hk => by
        have := hE (k + 1) y (by simpa using hk)
        rwa [show o + (k + 1) = o + 1 + k by omega] at this) (j - 18) u h2
      rwa [show off + (o + 1) * 18 + (j - 18) = off + o * 18 + j by omega] at this

/-- What stands when some of the steps are done. -/
structure Adds (w0 : World) (V : Value) (l : List In) (x : In) (f : Nat → Value) (L : Nat → Bool) (W : World) : Prop where
  on : Only [] w0 W
  p0 : L 0 = true → L 2 = false → ∃ g, f 0 = .slice (some ⟨g, 0, none⟩) 0 0 ∧ Blk W g 33 #[] ∧ w0.heap.size ≤ g
  p1 : L 1 = true → f 1 = V
  p2 : L 2 = true → L 5 = false → InR W w0.heap.size (f 2) l
  p3 : L 3 = true → f 3 = x.agg
  p4 : L 4 = true → L 5 = false → ∃ g, f 4 = .slice (some ⟨g, 0, none⟩) 1 1 ∧ Blk W g 33 x.cs ∧ w0.heap.size ≤ g
  p5 : L 5 = true → InR W w0.heap.size (f 5) (l ++ [x])
  p6 : L 6 = true → f 6 = f 5
  q2 : L 2 = true → L 0 = true
  q5 : L 5 = true → L 2 = true
  q6 : L 6 = true → L 5 = true

theorem ownsE (w : World) (base g : Nat) (hb : base ≤ g) (h : Blk w g 33 #[]) : InR w base (.slice (some ⟨g, 0, none⟩) 0 0) [] :=
  ⟨rfl, .inr ⟨g, 0, #[], rfl, hb, h, Nat.le_refl _, by decide, rfl, rfl⟩⟩
theorem InR.grown {w w' : World} {base : Nat} {v : Value} {l : List In} (h : InR w base v l) {r : Option Nat} (hg : w.grownBy w' r) (hr : ∀ k, r = some k → v.ownBlock ≠ some k) : InR w' base v l := by
  refine ⟨h.1, h.2.imp id ?_⟩
  rintro ⟨g, cap, cur, rfl, hb, hc, rest⟩
  exact ⟨g, cap, cur, rfl, hb, (hg.block g (Blk.lt hc) (fun e => hr g e.symm rfl)).trans hc, rest⟩

/-- A slice onto an empty one of the call's own. -/
theorem run_ap_l (w : World) (base : Nat) (hbase : base ≤ w.heap.size) (g : Nat) (hb : base ≤ g) (hB : Blk w g 33 #[]) (V : Value) (l : List In) (hV : InS w V l) (hl : l.length ≤ 1000000) :
    ∃ v' w', (Builtin.append_ #[22, 22] 22 #[.slice (some ⟨g, 0, none⟩) 0 0, V]).run Tryz.prog w = .ok v' w' ∧ InR w' base v' l ∧ w.grownBy w' (some g) := by
  obtain ⟨i0, hi0, hz0, hz1, hz2⟩ := info_parts infoInstr
  have hR := ownsE w base g hb hB
  have key : ∀ (ad : Addr) (c : Nat), V = .slice (some ad) l.length c → (∀ (j : Nat) u, (flatI l)[j]? = some u → w.cell? (ad.add j) = some u) → _ := fun ad c hVe hn =>
    run_append_own (P := Tryz.prog) w base 22 22 33 i0 _ 18 120 Tryz.underlying22 hi0 hz0 hz1 hz2 rfl (by decide) _ 0 [] hR ad l.length c (flatI l) (flatI_len l) hn one_cells (by unfold maxLen; omega) (by omega) hbase
  rcases hV with ⟨p, c, rfl, rfl⟩ | ⟨b, off, c, rfl, h0, hc, hbl, hE⟩
  · cases p with
    | none => exact ⟨_, w, run_ap0 w g c, hR, ⟨rfl, rfl, rfl, Nat.le_refl _, fun _ _ _ => rfl⟩⟩
    | some ad =>
      obtain ⟨v', w', h1, h2, h3, -⟩ := key ad c rfl (fun j u h => by simp [flatI] at h)
      exact ⟨v', w', h1, h2, h3⟩
  · obtain ⟨v', w', h1, h2, h3, -⟩ := key ⟨b, off, none⟩ c rfl (fun j u h => by
      have h2 := flatI_row (w := w) (b := b) (off := off) l 0 (fun j x hx => by rw [Nat.zero_add]; exact hE j x hx) j u h
      have e : off + 0 * 18 + j = off + j := by omega
      rw [e] at h2
      have e2 : (⟨b, off, none⟩ : Addr).add j = ⟨b, off + j, none⟩ := Addr.add_mid _ _ _
      rw [e2]
      exact h2)
    refine ⟨v', w', h1, ?_, h3⟩
    unfold InR
    rw [List.nil_append, Nat.zero_add] at h2
    exact h2
/-- One instruction onto a row of the call's own. -/
theorem run_ap_x (w : World) (base : Nat) (hbase : base ≤ w.heap.size) (v : Value) (l : List In) (hR : InR w base v l) (hl : l.length ≤ 1000000) (g : Nat) (x : In) (hB : Blk w g 33 x.cs) :
    ∃ v' w', (Builtin.append_ #[22, 22] 22 #[v, .slice (some ⟨g, 0, none⟩) 1 1]).run Tryz.prog w = .ok v' w' ∧ InR w' base v' (l ++ [x]) ∧ w.grownBy w' v.ownBlock := by
  obtain ⟨i0, hi0, hz0, hz1, hz2⟩ := info_parts infoInstr
  obtain ⟨v', w', h1, h2, h3, -⟩ := run_append_own (P := Tryz.prog) w base 22 22 33 i0 _ 18 120 Tryz.underlying22 hi0 hz0 hz1 hz2 rfl (by decide) v l.length _ hR ⟨g, 0, none⟩ 1 1 x.cs.toList rfl
    (fun j u hu => by rw [Addr.add_mid, Nat.zero_add, hB.cell j, ← Array.getElem?_toList]; exact hu) (fun u hu => one_cells (l := [x]) u (by unfold flatI; simpa using hu)) (by unfold maxLen; omega) (by omega) hbase
  refine ⟨v', w', h1, ?_, h3⟩
  unfold InR
  rw [flatI_snoc, List.length_append]
  exact h2
end Go.Proofs.YtagmoehjcgjnjaaGreatDoor
