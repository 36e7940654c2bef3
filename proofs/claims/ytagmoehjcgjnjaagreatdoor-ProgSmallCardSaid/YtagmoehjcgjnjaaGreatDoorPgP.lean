/- Right instructions: their shapes, their words; Line of package prog. Conditions: the listed variables are laid; words fit. -/
import Derived.Test.YtagmoehjcgjnjaaGreatDoorPgL1
import Derived.Test.YtagmoehjcgjnjaaGreatDoorPgL2
import Derived.Test.YtagmoehjcgjnjaaGreatDoorCfGi
import Derived.Test.YtagmoehjcgjnjaaGreatDoorPgX
namespace Go.Proofs.YtagmoehjcgjnjaaGreatDoor
open Go Go.RowKit

/-- The words of an instruction's text. -/
def In.words (x : In) : List (List UInt8) :=
  opW x.op :: ((if 0 < x.sz then [dec x.sz, hexa x.ad] else []) ++ (if x.ix then [[43]] else []) ++
    (if x.op = 2 ∨ x.op = 5 ∨ x.op = 8 then [hexa x.dt] else if x.op = 7 then [dec x.dt] else if x.op = 9 then [x.cf.shown] else []) ++
    (if x.op = 5 ∨ x.op = 6 then [dec x.to] else []))
def In.line (x : In) : List UInt8 := Lib.join x.words [32]

/-- What a right instruction is made of. -/
inductive ShI : In → Prop
  | ld (k : Int) (sz ad : Nat) (ix : Bool) : k = 1 ∨ k = 3 → sz = 1 ∨ sz = 2 ∨ sz = 4 → ad < 4294967296 → ShI ⟨k, sz, ad, ix, 0, 0, Cf.zero⟩
  | st (sz ad dt : Nat) (ix : Bool) : sz = 1 ∨ sz = 2 ∨ sz = 4 → ad < 4294967296 → dt < 4294967296 → ShI ⟨2, sz, ad, ix, dt, 0, Cf.zero⟩
  | no (k : Int) : k = 4 ∨ k = 10 → ShI ⟨k, 0, 0, false, 0, 0, Cf.zero⟩
  | br (dt tg : Nat) : dt < 4294967296 → tg ≤ 64 → ShI ⟨5, 0, 0, false, dt, tg, Cf.zero⟩
  | jp (tg : Nat) : tg ≤ 64 → ShI ⟨6, 0, 0, false, 0, tg, Cf.zero⟩
  | id (dt : Nat) : dt ≤ 9999 → ShI ⟨7, 0, 0, false, dt, 0, Cf.zero⟩
  | ms (dt : Nat) : dt ≤ 255 → ShI ⟨8, 0, 0, false, dt, 0, Cf.zero⟩
  | cf (c : Cf) : c.Fits → c.right = true → ShI ⟨9, 0, 0, false, 0, 0, c⟩

theorem at_iff {x : In} (h : x.at_ = true) : x.sz = 1 ∨ x.sz = 2 ∨ x.sz = 4 := by
  simp only [In.at_, Bool.or_eq_true, beq_iff_eq] at h
  omega
theorem none_iff {x : In} (h : x.none_ = true) : x = In.only x.op := (In.same_iff _ _).1 h

theorem ShI.of (x : In) (hf : x.Fits) (hok : x.ok = true) : ShI x := by
  obtain ⟨had, hdt, hcf⟩ := hf
  have hr : x.op = 1 ∨ x.op = 2 ∨ x.op = 3 ∨ x.op = 4 ∨ x.op = 5 ∨ x.op = 6 ∨ x.op = 7 ∨ x.op = 8 ∨ x.op = 9 ∨ x.op = 10 := by
    rcases Classical.em (x.op = 1 ∨ x.op = 2 ∨ x.op = 3 ∨ x.op = 4 ∨ x.op = 5 ∨ x.op = 6 ∨ x.op = 7 ∨ x.op = 8 ∨ x.op = 9 ∨ x.op = 10) with h | h
    · exact h
    · unfold In.ok at hok
      rw [if_neg (by omega), if_neg (by omega), if_neg (by omega), if_neg (by omega), if_neg (by omega), if_neg (by omega), if_neg (by omega), if_neg (by omega)] at hok
      cases hok
  obtain ⟨op, sz, ad, ix, dt, tg, cf⟩ := x
  obtain ⟨ad, rfl⟩ : ∃ n : Nat, ad = n := ⟨ad.toNat, by simp only at had; omega⟩
  obtain ⟨dt, rfl⟩ : ∃ n : Nat, dt = n := ⟨dt.toNat, by simp only at hdt; omega⟩
  simp only at had hdt hcf hr
  have ld : ∀ k : Int, k = 1 ∨ k = 3 → In.load ⟨k, sz, ad, ix, dt, tg, cf⟩ = true → ShI ⟨k, sz, ad, ix, dt, tg, cf⟩ := fun k hk h => by
    simp only [In.load, Bool.and_eq_true] at h
    have h1 := at_iff h.1
    have h2 := none_iff h.2
    simp only [In.noAt, In.only, In.mk.injEq, true_and] at h2
    obtain ⟨h3, rfl, rfl⟩ := h2
    simp only at h1
    obtain ⟨sz, rfl⟩ : ∃ n : Nat, sz = n := ⟨sz.toNat, by omega⟩
    obtain rfl : dt = 0 := by omega
    exact .ld k sz ad ix hk (by omega) (by omega)
  rcases hr with rfl | rfl | rfl | rfl | rfl | rfl | rfl | rfl | rfl | rfl
  · exact ld 1 (.inl rfl) hok
  · have h : In.store ⟨2, sz, ad, ix, dt, tg, cf⟩ = true := hok
    simp only [In.store, Bool.and_eq_true] at h
    have h1 := at_iff h.1
    have h2 := none_iff h.2
    simp only [In.noAt, In.noDt, In.only, In.mk.injEq, true_and] at h2
    obtain ⟨rfl, rfl⟩ := h2
    simp only at h1
    obtain ⟨sz, rfl⟩ : ∃ n : Nat, sz = n := ⟨sz.toNat, by omega⟩
    exact .st sz ad dt ix (by omega) (by omega) (by omega)
  · exact ld 3 (.inr rfl) hok
  · have h : In.none_ ⟨4, sz, ad, ix, dt, tg, cf⟩ = true := hok
    have h2 := none_iff h
    simp only [In.only] at h2
    rw [h2]
    exact .no 4 (.inl rfl)
  · have h : In.branch ⟨5, sz, ad, ix, dt, tg, cf⟩ = true := hok
    simp only [In.branch, In.goes, Bool.and_eq_true, decide_eq_true_eq] at h
    have h2 := none_iff h.2
    simp only [In.noTo, In.noDt, In.only, In.mk.injEq, true_and] at h2
    obtain ⟨rfl, h3, rfl, rfl⟩ := h2
    obtain rfl : ad = 0 := by omega
    obtain ⟨tg, rfl⟩ : ∃ n : Nat, tg = n := ⟨tg.toNat, by omega⟩
    exact .br dt tg (by omega) (by omega)
  · have h : In.jump ⟨6, sz, ad, ix, dt, tg, cf⟩ = true := hok
    simp only [In.jump, In.goes, Bool.and_eq_true, decide_eq_true_eq] at h
    have h2 := none_iff h.2
    simp only [In.noTo, In.only, In.mk.injEq, true_and] at h2
    obtain ⟨rfl, h3, rfl, h4, rfl⟩ := h2
    obtain rfl : ad = 0 := by omega
    obtain rfl : dt = 0 := by omega
    obtain ⟨tg, rfl⟩ : ∃ n : Nat, tg = n := ⟨tg.toNat, by omega⟩
    exact .jp tg (by omega)
  · have h : In.idle ⟨7, sz, ad, ix, dt, tg, cf⟩ = true := hok
    simp only [In.idle, Bool.and_eq_true, decide_eq_true_eq] at h
    have h2 := none_iff h.2
    simp only [In.noDt, In.only, In.mk.injEq, true_and] at h2
    obtain ⟨rfl, h3, rfl, rfl, rfl⟩ := h2
    obtain rfl : ad = 0 := by omega
    exact .id dt (by omega)
  · have h : In.mask ⟨8, sz, ad, ix, dt, tg, cf⟩ = true := hok
    simp only [In.mask, Bool.and_eq_true, decide_eq_true_eq] at h
    have h2 := none_iff h.2
    simp only [In.noDt, In.only, In.mk.injEq, true_and] at h2
    obtain ⟨rfl, h3, rfl, rfl, rfl⟩ := h2
    obtain rfl : ad = 0 := by omega
    exact .ms dt (by omega)
  · have h : In.conf ⟨9, sz, ad, ix, dt, tg, cf⟩ = true := hok
    simp only [In.conf, Bool.and_eq_true] at h
    have h2 := none_iff h.2
    simp only [In.noCf, In.only, In.mk.injEq, true_and, and_true] at h2
    obtain ⟨rfl, h3, rfl, h4, rfl⟩ := h2
    obtain rfl : ad = 0 := by omega
    obtain rfl : dt = 0 := by omega
    exact .cf cf hcf h.1
  · have h : In.none_ ⟨10, sz, ad, ix, dt, tg, cf⟩ = true := hok
    have h2 := none_iff h
    simp only [In.only] at h2
    rw [h2]
    exact .no 10 (.inr rfl)

theorem shown_len {c : Cf} (hf : c.Fits) : c.shown.length ≤ 100 := by
  unfold Cf.shown
  split
  · have := text_len (Shape.of c hf ‹_›); omega
  · simp

/-- What Line answers. -/
def In.shown (x : In) : List UInt8 := if x.ok then x.line else []
def In.err (x : In) : Int := if x.ok then 0 else 4

theorem line_any (x : In) (hf : x.Fits) (w : World) (hg : Gl w) :
    Calls Tryz.prog 17 #[x.agg] w fun e w' => e = .returned (.tuple #[str x.shown, .int .i64 x.err]) ∧ Only [] w w' := by
  unfold In.shown In.err
  cases hok : x.ok with
  | false => exact line_no x (by have := hf.dt; omega) hok w
  | true =>
    simp only [if_true]
    cases ShI.of x hf hok with
    | ld k sz ad ix hk h1 h2 =>
      have h0 : 0 < sz := by omega
      rcases hk with rfl | rfl <;> cases ix
      · have := line_1 sz ad h0 (by omega) h2 _ rfl hok w hg
        simpa [In.line, In.words, opW, dec, hexa, h0] using this
      · have := line_1x sz ad h0 (by omega) h2 _ rfl hok w hg
        simpa [In.line, In.words, opW, dec, hexa, h0] using this
      · have := line_3 sz ad h0 (by omega) h2 _ rfl hok w hg
        simpa [In.line, In.words, opW, dec, hexa, h0] using this
      · have := line_3x sz ad h0 (by omega) h2 _ rfl hok w hg
        simpa [In.line, In.words, opW, dec, hexa, h0] using this
    | st sz ad dt ix h1 h2 h3 =>
      have h0 : 0 < sz := by omega
      cases ix
      · have := line_2 sz ad dt h0 (by omega) h2 h3 _ rfl hok w hg
        simpa [In.line, In.words, opW, dec, hexa, h0] using this
      · have := line_2x sz ad dt h0 (by omega) h2 h3 _ rfl hok w hg
        simpa [In.line, In.words, opW, dec, hexa, h0] using this
    | no k hk =>
      rcases hk with rfl | rfl
      · exact line_4 _ rfl hok w hg
      · exact line_10 _ rfl hok w hg
    | br dt tg h1 h2 => exact line_5 dt tg h1 (by omega) _ rfl hok w hg
    | jp tg h1 => exact line_6 tg (by omega) _ rfl hok w hg
    | id dt h1 => exact line_7 dt (by omega) _ rfl hok w hg
    | ms dt h1 => exact line_8 dt (by omega) _ rfl hok w hg
    | cf c h1 h2 => exact line_9 c h1 h2 (shown_len h1) _ rfl hok w hg
end Go.Proofs.YtagmoehjcgjnjaaGreatDoor
