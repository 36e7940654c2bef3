/- The instructions that came in, as the form hands them. No condition. -/
import Derived.Test.YtagmoehjcgjnjaaGreatDoorPgR
import Derived.Test.YtagmoehjcgjnjaaGreatDoorLaw
import Derived.WideShapes
import Derived.ChangeArms
namespace Go.Proofs.YtagmoehjcgjnjaaGreatDoor
open Go Go.RowKit Go.ChangeShapes Go.WideShapes Go.ChangeAt

theorem spot_of {w : World} {a : Addr} {v : Value} (h : w.cell? a = some v) : a.spot = none ∧ a.block < w.heap.size := by
  unfold World.cell? at h
  split at h
  · rename_i c t f hg
    refine ⟨?_, ?_⟩
    · cases hs : a.spot with
      | none => rfl
      | some x => simp [hs] at h
    · rcases Nat.lt_or_ge a.block w.heap.size with hl | hl
      · exact hl
      · rw [Array.getElem?_eq_none hl] at hg; cases hg
  · cases h
theorem add_plain0 (b o n : Nat) : Addr.add ⟨b, o, none⟩ n = ⟨b, o + n, none⟩ := by
  unfold Addr.add
  split
  · rename_i h; subst h; rfl
  · rfl
/-- One gets a list out of a property of each place. -/
theorem list_of_each {α : Type} {Q : Nat → α → Prop} : ∀ n : Nat, (∀ k, k < n → ∃ x, Q k x) → ∃ l : List α, l.length = n ∧ ∀ (j : Nat) x, l[j]? = some x → Q j x
  | 0, _ => ⟨[], rfl, fun j x h => by simp at h⟩
  | n + 1, h => by
    obtain ⟨l, hl, hq⟩ := list_of_each n (fun k hk => h k (Nat.lt_succ_of_lt hk))
    obtain ⟨x, hx⟩ := h n (Nat.lt_succ_self n)
    refine ⟨l ++ [x], by simp [hl], fun j y hj => ?_⟩
    rcases Nat.lt_or_ge j n with hj' | hj'
    · rw [List.getElem?_append_left (by omega)] at hj
      exact hq j y hj
    · have : j = n := by
        rcases Nat.lt_or_ge n j with h' | h'
        · rw [List.getElem?_eq_none (by simp; omega)] at hj; cases hj
        · omega
      subst this
      rw [List.getElem?_append_right (by omega), hl] at hj
      simp at hj
      subst hj
      exact hx
section
variable {H : Type} {enc : TypeId × Value → H} {P : Program} {w : World} {base : Nat} {spare : Nat → Bool} {held : Bool} {fuel : Nat} {t : TypeId} {u : Value} {r : List Value} {y : DataW H × List MemPlace}
theorem head_int {k : IntKind} (ht : P.underlying t = some (.int k)) (hc : P.cellsOf t = 1) (h : DataW.trod enc P w base spare held fuel t (List.take (P.cellsOf t) (u :: r)) = some y) : ∃ n, u = .int k n ∧ (Lit.int k n).wf = true := by
  obtain ⟨n, e, -, hw⟩ := DataW.trod_int ht h
  rw [hc] at e
  simp only [List.take_succ_cons, List.take_zero, List.cons.injEq, and_true] at e
  exact ⟨n, e, hw⟩
theorem head_bool (ht : P.underlying t = some .bool) (hc : P.cellsOf t = 1) (h : DataW.trod enc P w base spare held fuel t (List.take (P.cellsOf t) (u :: r)) = some y) : ∃ b, u = .bool b := by
  obtain ⟨n, e, -⟩ := DataW.trod_bool ht h
  rw [hc] at e
  simp only [List.take_succ_cons, List.take_zero, List.cons.injEq, and_true] at e
  exact ⟨n, e⟩
end
theorem u32_wf {x : Int} (h : (Lit.int .u32 x).wf = true) : 0 ≤ x ∧ x < 4294967296 := by
  have h6 : 0 ≤ x ∧ x ≤ 4294967295 := by simpa [Lit.wf, IntKind.min, IntKind.max, IntKind.signed, IntKind.bits] using h
  exact ⟨h6.1, by omega⟩

set_option maxRecDepth 100000 in
/-- The instructions' list, off the form. -/
theorem instrs_of {H : Type} {enc : TypeId × Value → H} {W : World} {sp : Nat → Bool} {held : Bool} {v : Value} {d : DataW H} {p : List MemPlace} {r : Reach} {base : Nat} (hv : Value.okWide Tryz.prog W r base 22 v) (h : DataW.Trod enc Tryz.prog W 0 sp held 22 v d p) :
    ∃ l : List In, InS W v l ∧ (∀ x ∈ l, x.Fits) ∧ l.length < 9223372036854775808 := by
  obtain ⟨ao, len, cap, rfl⟩ := okWide_slice Tryz.underlying22 hv
  obtain ⟨fuel, hf⟩ := h
  have hC : Tryz.prog.cellsOf 33 = 18 := by kernel_rfl
  rcases DataW.trod_slice Tryz.underlying22 hf with ⟨h0, -⟩ | ⟨a, len', cap', elems, rest, n, -, hcs, -, hb, hlc, hcm, hlen, hel, -, -⟩
  · simp [Value.cells] at h0
    obtain ⟨rfl, rfl, rfl⟩ := h0
    exact ⟨[], .inl ⟨_, _, rfl, rfl⟩, (fun x hx => by cases hx), (by simp)⟩
  · simp only [Value.cells, List.cons.injEq, Value.slice.injEq, and_true] at hcs
    obtain ⟨rfl, rfl, rfl⟩ := hcs
    have hmx : maxLen = 9223372036854775807 := by decide
    rw [hmx] at hcm
    rcases Nat.eq_zero_or_pos len with h0 | hpos
    · subst h0
      exact ⟨[], .inl ⟨_, _, rfl, rfl⟩, (fun x hx => by cases hx), (by simp)⟩
    · have one : ∀ k, k < len → ∃ x : In, (∀ (j : Nat) u, x.cs.toList[j]? = some u → W.cell? ((a.add (k * 18)).add j) = some u) ∧ x.Fits := by
        intro k hk
        have hk' := hel k hk
        rw [hC] at hk'
        obtain ⟨x, hx⟩ : ∃ x, elems[k]? = some x := ⟨elems[k]'(by omega), List.getElem?_eq_getElem (by omega)⟩
        rw [hx] at hk'
        obtain ⟨cs, h1, h2⟩ := Option.bind_eq_some_iff.1 hk'
        obtain ⟨-, hcl, hat⟩ := World.cells?_some h1
        obtain ⟨ys, n', -, -, -, hyl, hfs⟩ := DataW.trod_struct Tryz.underlying33 h2
        match cs, hcl with
        | [u0, u1, u2, u3, u4, u5, u6, u7, u8, u9, u10, u11, u12, u13, u14, u15, u16, u17], _ =>
          match ys, hyl with
          | [y0, y1, y2, y3, y4, y5, y6], _ =>
            have hC6 : Tryz.prog.cellsOf 31 = 12 := by kernel_rfl
            have h6 : DataW.trod enc Tryz.prog W 0 sp held n' 31 (List.take (Tryz.prog.cellsOf 31) [u6, u7, u8, u9, u10, u11, u12, u13, u14, u15, u16, u17]) = some y6 := hfs 6 _ rfl
            obtain ⟨x0, rfl, -⟩ := head_int (k := .i64) (t := 23) (by kernel_rfl) (by kernel_rfl) (hfs 0 _ rfl)
            obtain ⟨x1, rfl, -⟩ := head_int (k := .i64) (t := 3) (by kernel_rfl) (by kernel_rfl) (hfs 1 _ rfl)
            obtain ⟨x2, rfl, k2⟩ := head_int (k := .u32) (t := 24) (by kernel_rfl) (by kernel_rfl) (hfs 2 _ rfl)
            obtain ⟨x3, rfl⟩ := head_bool (t := 4) (by kernel_rfl) (by kernel_rfl) (hfs 3 _ rfl)
            obtain ⟨x4, rfl, k4⟩ := head_int (k := .u32) (t := 24) (by kernel_rfl) (by kernel_rfl) (hfs 4 _ rfl)
            obtain ⟨x5, rfl, -⟩ := head_int (k := .i64) (t := 3) (by kernel_rfl) (by kernel_rfl) (hfs 5 _ rfl)
            clear hfs
            rw [hC6] at h6
            simp only [List.take_succ_cons, List.take_zero] at h6
            obtain ⟨zs, n'', -, -, -, hzl, hfz⟩ := DataW.trod_struct Tryz.underlying31 h6
            match zs, hzl with
            | [z0, z1, z2, z3, z4], _ =>
              have hC4 : Tryz.prog.cellsOf 29 = 8 := by kernel_rfl
              have h4' : DataW.trod enc Tryz.prog W 0 sp held n'' 29 (List.take (Tryz.prog.cellsOf 29) [u10, u11, u12, u13, u14, u15, u16, u17]) = some z4 := hfz 4 _ rfl
              obtain ⟨x6, rfl, -⟩ := head_int (k := .i64) (t := 25) (by kernel_rfl) (by kernel_rfl) (hfz 0 _ rfl)
              obtain ⟨x7, rfl, -⟩ := head_int (k := .i64) (t := 3) (by kernel_rfl) (by kernel_rfl) (hfz 1 _ rfl)
              obtain ⟨x8, rfl, -⟩ := head_int (k := .i64) (t := 3) (by kernel_rfl) (by kernel_rfl) (hfz 2 _ rfl)
              obtain ⟨x9, rfl, -⟩ := head_int (k := .i64) (t := 3) (by kernel_rfl) (by kernel_rfl) (hfz 3 _ rfl)
              clear hfz
              rw [hC4] at h4'
              simp only [List.take_succ_cons, List.take_zero] at h4'
              obtain ⟨zs', n3, -, -, -, hzl', hfr⟩ := DataW.trod_struct Tryz.underlying29 h4'
              match zs', hzl' with
              | [r0, r1, r2, r3, r4, r5, r6], _ =>
                have hC2 : Tryz.prog.cellsOf 27 = 2 := by kernel_rfl
                have h2' : DataW.trod enc Tryz.prog W 0 sp held n3 27 (List.take (Tryz.prog.cellsOf 27) [u12, u13, u14, u15, u16, u17]) = some r2 := hfr 2 _ rfl
                obtain ⟨x10, rfl⟩ := head_bool (t := 4) (by kernel_rfl) (by kernel_rfl) (hfr 0 _ rfl)
                obtain ⟨x11, rfl, -⟩ := head_int (k := .i64) (t := 3) (by kernel_rfl) (by kernel_rfl) (hfr 1 _ rfl)
                obtain ⟨x14, rfl⟩ := head_bool (t := 4) (by kernel_rfl) (by kernel_rfl) (hfr 3 _ rfl)
                obtain ⟨x15, rfl⟩ := head_bool (t := 4) (by kernel_rfl) (by kernel_rfl) (hfr 4 _ rfl)
                obtain ⟨x16, rfl, -⟩ := head_int (k := .i64) (t := 3) (by kernel_rfl) (by kernel_rfl) (hfr 5 _ rfl)
                obtain ⟨x17, rfl⟩ := head_bool (t := 4) (by kernel_rfl) (by kernel_rfl) (hfr 6 _ rfl)
                clear hfr
                rw [hC2] at h2'
                simp only [List.take_succ_cons, List.take_zero] at h2'
                obtain ⟨ws, n4, -, -, -, hwl, hfw⟩ := DataW.trod_struct Tryz.underlying27 h2'
                match ws, hwl with
                | [p0, p1], _ =>
                  obtain ⟨x12, rfl, k12⟩ := head_int (k := .u32) (t := 24) (by kernel_rfl) (by kernel_rfl) (hfw 0 _ rfl)
                  obtain ⟨x13, rfl, k13⟩ := head_int (k := .u32) (t := 24) (by kernel_rfl) (by kernel_rfl) (hfw 1 _ rfl)
                  refine ⟨⟨x0, x1, x2, x3, x4, x5, ⟨x6, x7, x8, x9, x10, x11, x12, x13, x14, x15, x16, x17⟩⟩, fun j u hj => ?_, u32_wf k2, u32_wf k4, u32_wf k12, u32_wf k13⟩
                  have hlt : j < 18 := by
                    rcases Nat.lt_or_ge j 18 with hl | hl
                    · exact hl
                    · rw [List.getElem?_eq_none (by simpa using hl)] at hj; cases hj
                  exact (hat j hlt).trans hj
      obtain ⟨x0, q0, -⟩ := one 0 hpos
      have hsp : a.spot = none ∧ a.block < W.heap.size := spot_of (a := a) (by simpa [Addr.add] using q0 0 _ rfl)
      obtain ⟨bk, off, sp'⟩ := a
      obtain ⟨rfl, hbk⟩ := hsp
      obtain ⟨l, hl, hq⟩ := list_of_each len one
      subst hl
      refine ⟨l, .inr ⟨bk, off, cap, rfl, hpos, hlc, hbk, fun j x hj i u hu => ?_⟩, fun x hx => ?_, by omega⟩
      · have := (hq j x hj).1 i u hu
        rwa [add_plain0, add_plain0] at this
      · obtain ⟨j, hj⟩ := List.getElem?_of_mem hx
        exact (hq j x hj).2
end Go.Proofs.YtagmoehjcgjnjaaGreatDoor
