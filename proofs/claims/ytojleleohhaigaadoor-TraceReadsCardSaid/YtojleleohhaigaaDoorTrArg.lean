/- The events that came in, as the form hands them. No condition. -/
import Derived.Test.YtojleleohhaigaaDoorTrQ
import Derived.Test.YtojleleohhaigaaDoorLaw
import Derived.WideShapes
import Derived.ChangeArms
namespace Go.Proofs.YtojleleohhaigaaDoor
open Go Go.RowKit Go.ChangeShapes Go.WideShapes Go.ChangeAt

theorem spot_of {w : World} {a : Addr} {v : Value} (h : w.cell? a = some v) : a.spot = none ∧ a.block < w.heap.size := by
  unfold World.cell? at h
  split at h
  · rename_i c t f hg
    refine ⟨?_, ?_⟩
    · cases hs : a.spot with
      | none => rfl
      | some x => simp [hs] at h
    · rcases Nat.lt_or_ge a.block w.heap.size with hl | hl
      · exact hl
      · rw [Array.getElem?_eq_none hl] at hg; cases hg
  · cases h
theorem add_plain0 (b o n : Nat) : Addr.add ⟨b, o, none⟩ n = ⟨b, o + n, none⟩ := by
  unfold Addr.add
  split
  · rename_i h; subst h; rfl
  · rfl

/-- One gets a list out of a property of each place. -/
theorem list_of_each {α : Type} {Q : Nat → α → Prop} : ∀ n : Nat, (∀ k, k < n → ∃ x, Q k x) → ∃ l : List α, l.length = n ∧ ∀ (j : Nat) x, l[j]? = some x → Q j x
  | 0, _ => ⟨[], rfl, fun j x h => by simp at h⟩
  | n + 1, h => by
    obtain ⟨l, hl, hq⟩ := list_of_each n (fun k hk => h k (Nat.lt_succ_of_lt hk))
    obtain ⟨x, hx⟩ := h n (Nat.lt_succ_self n)
    refine ⟨l ++ [x], by simp [hl], fun j y hj => ?_⟩
    rcases Nat.lt_or_ge j n with hj' | hj'
    · rw [List.getElem?_append_left (by omega)] at hj
      exact hq j y hj
    · have : j = n := by
        rcases Nat.lt_or_ge n j with h' | h'
        · rw [List.getElem?_eq_none (by simp; omega)] at hj; cases hj
        · omega
      subst this
      rw [List.getElem?_append_right (by omega), hl] at hj
      simp at hj
      subst hj
      exact hx

set_option maxRecDepth 100000 in
/-- The events' list, off the form. -/
theorem events_of {H : Type} {enc : TypeId × Value → H} {W : World} {sp : Nat → Bool} {held : Bool} {v : Value} {d : DataW H} {p : List MemPlace} {r : Reach} {base : Nat} (hv : Value.okWide Tryd.prog W r base 24 v) (h : DataW.Trod enc Tryd.prog W 0 sp held 24 v d p) :
    ∃ l : List Ev, EvS W v l ∧ (∀ x ∈ l, x.Fits) ∧ l.length < 9223372036854775808 := by
  obtain ⟨ao, len, cap, rfl⟩ := okWide_slice Tryd.underlying24 hv
  obtain ⟨fuel, hf⟩ := h
  have hC : Tryd.prog.cellsOf 44 = 5 := by kernel_rfl
  rcases DataW.trod_slice Tryd.underlying24 hf with ⟨h0, -⟩ | ⟨a, len', cap', elems, rest, n, -, hcs, -, hb, hlc, hcm, hlen, hel, -, -⟩
  · simp [Value.cells] at h0
    obtain ⟨rfl, rfl, rfl⟩ := h0
    exact ⟨[], .inl ⟨_, _, rfl, rfl⟩, (fun x hx => by cases hx), (by simp)⟩
  · simp only [Value.cells, List.cons.injEq, Value.slice.injEq, and_true] at hcs
    obtain ⟨rfl, rfl, rfl⟩ := hcs
    have hmx : maxLen = 9223372036854775807 := by decide
    rw [hmx] at hcm
    rcases Nat.eq_zero_or_pos len with h0 | hpos
    · subst h0
      exact ⟨[], .inl ⟨_, _, rfl, rfl⟩, (fun x hx => by cases hx), (by simp)⟩
    · have one : ∀ k, k < len → ∃ x : Ev, W.cell? (a.add (k * 5)) = some (.int .i64 x.cy) ∧ W.cell? ((a.add (k * 5)).add 1) = some (.int .i64 x.kd) ∧ W.cell? ((a.add (k * 5)).add 2) = some (.int .u32 x.va) ∧ W.cell? ((a.add (k * 5)).add 3) = some (.int .i64 x.er) ∧ W.cell? ((a.add (k * 5)).add 4) = some (.int .i64 x.ln) ∧ x.Fits := by
        intro k hk
        have hk' := hel k hk
        rw [hC] at hk'
        obtain ⟨x, hx⟩ : ∃ x, elems[k]? = some x := ⟨elems[k]'(by omega), List.getElem?_eq_getElem (by omega)⟩
        rw [hx] at hk'
        obtain ⟨cs, h1, h2⟩ := Option.bind_eq_some_iff.1 hk'
        obtain ⟨-, hcl, hat⟩ := World.cells?_some h1
        obtain ⟨ys, n', -, -, -, hyl, hfs⟩ := DataW.trod_struct Tryd.underlying44 h2
        match cs, hcl with
        | [u0, u1, u2, u3, u4], _ =>
          match ys, hyl with
          | [y0, y1, y2, y3, y4], _ =>
            obtain ⟨x0, e0, -, -⟩ := DataW.trod_int (k := .i64) (t := 3) (by kernel_rfl) (hfs 0 _ rfl)
            obtain ⟨x1, e1, -, -⟩ := DataW.trod_int (k := .i64) (t := 41) (by kernel_rfl) (hfs 1 _ rfl)
            obtain ⟨x2, e2, -, h5⟩ := DataW.trod_int (k := .u32) (t := 42) (by kernel_rfl) (hfs 2 _ rfl)
            obtain ⟨x3, e3, -, -⟩ := DataW.trod_int (k := .i64) (t := 25) (by kernel_rfl) (hfs 3 _ rfl)
            obtain ⟨x4, e4, -, -⟩ := DataW.trod_int (k := .i64) (t := 3) (by kernel_rfl) (hfs 4 _ rfl)
            have g0 := hat 0 (by omega)
            have g1 := hat 1 (by omega)
            have g2 := hat 2 (by omega)
            have g3 := hat 3 (by omega)
            have g4 := hat 4 (by omega)
            have c1 : Tryd.prog.cellsOf 3 = 1 := by kernel_rfl
            have c2 : Tryd.prog.cellsOf 42 = 1 := by kernel_rfl
            have c3 : Tryd.prog.cellsOf 41 = 1 := by kernel_rfl
            have c4 : Tryd.prog.cellsOf 25 = 1 := by kernel_rfl
            have e0' : List.take (Tryd.prog.cellsOf 3) [u0, u1, u2, u3, u4] = [.int .i64 x0] := e0
            have e1' : List.take (Tryd.prog.cellsOf 41) [u1, u2, u3, u4] = [.int .i64 x1] := e1
            have e2' : List.take (Tryd.prog.cellsOf 42) [u2, u3, u4] = [.int .u32 x2] := e2
            have e3' : List.take (Tryd.prog.cellsOf 25) [u3, u4] = [.int .i64 x3] := e3
            have e4' : List.take (Tryd.prog.cellsOf 3) [u4] = [.int .i64 x4] := e4
            rw [c1] at e0' e4'
            rw [c2] at e2'
            rw [c3] at e1'
            rw [c4] at e3'
            simp only [List.take_succ_cons, List.take_zero, List.cons.injEq, and_true] at e0' e1' e2' e3' e4'
            subst e0' e1' e2' e3' e4'
            refine ⟨⟨x0, x1, x2, x3, x4⟩, by simpa [Addr.add] using g0, g1, g2, g3, g4, ?_⟩
            have h6 : 0 ≤ x2 ∧ x2 ≤ 4294967295 := by simpa [Lit.wf, IntKind.min, IntKind.max, IntKind.signed, IntKind.bits] using h5
            exact ⟨h6.1, by show x2 < 4294967296; omega⟩
      obtain ⟨_, q0, -⟩ := one 0 hpos
      have hsp : a.spot = none ∧ a.block < W.heap.size := spot_of (a := a) (by simpa [Addr.add] using q0)
      obtain ⟨bk, off, sp'⟩ := a
      obtain ⟨rfl, hbk⟩ := hsp
      obtain ⟨l, hl, hq⟩ := list_of_each len one
      subst hl
      refine ⟨l, .inr ⟨bk, off, cap, rfl, hpos, hlc, hbk, fun j x hj => ?_⟩, fun x hx => ?_, by omega⟩
      · obtain ⟨q0, q1, q2, q3, q4, -⟩ := hq j x hj
        rw [add_plain0] at q0 q1 q2 q3 q4
        rw [add_plain0] at q1 q2 q3 q4
        exact ⟨q0, q1, q2, q3, q4⟩
      · obtain ⟨j, hj⟩ := List.getElem?_of_mem hx
        exact (hq j x hj).2.2.2.2.2
end Go.Proofs.YtojleleohhaigaaDoor
